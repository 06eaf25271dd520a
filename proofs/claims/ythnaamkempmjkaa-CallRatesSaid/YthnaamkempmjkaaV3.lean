/- CallRates, the walk of the statement. -/
import Derived.Test.YthnaamkempmjkaaOg
import Derived.Test.YthnaamkempmjkaaKt
import Derived.Test.YthnaamkempmjkaaKfL3
set_option linter.unusedSimpArgs false
set_option linter.unusedVariables false
open Go Go.TV
namespace Go.Proofs.Ythnaamkempmjkaa

theorem missed_len {s : Soc} (h : fault s = 0) : (missedR s).1.length ≤ 10 := by
  have hl5 := (fault_len h).1
  rw [missedR_ok h]
  cases hf : (allC s.members.length).find? (goodM s) with
  | none => simp
  | some t =>
    obtain ⟨_, h2, _⟩ := find_first (allC_sorted s.members.length) hf
    obtain ⟨o, ho, rfl⟩ := bits_of_list (allC_mem.1 h2).1 (allC_mem.1 h2).2
    have := bitsN_len o s.members.length
    dsimp only; omega
set_option maxHeartbeats 8000000 in
set_option maxRecDepth 100000 in
theorem c3 (s : Soc) : PF Try.prog 3 [encSoc s] (· = .bool true) := by
  refine PF.of (TF.ev fn_3 (Ev.at ?_))
  (repeat' (first | (refine Ev.go ?_; conv => whnf) | refine And.intro ?_ ?_ | exact True.intro | exact rfl | (intro rx hrx; rw [IntWalk.i64_in _ (by omega)] at hrx) | (intro hcx; exfalso; omega) | intro _))
  refine TSq.pureBC (c18 s) cl rfl (And.intro rfl rfl) ?_ ?_ <;> intro hth
  · simp only [decide_eq_true_eq] at hth
    have b1 := c21 s (by omega) (by omega)
    have d20 := c20 s (by omega) (by omega)
    have d22 := c22 s (by omega) (by omega)
    have d23 := c23 s
    have hi0 : (ints []).length = 0 := rfl
    (repeat' (first | (refine Ev.go ?_; conv => whnf) | refine And.intro ?_ ?_ | exact True.intro | exact rfl | (intro rx hrx; rw [IntWalk.i64_in _ (by omega)] at hrx) | (intro hcx; exfalso; omega) | intro _))
    refine TSq.pureC b1 cl rfl (And.intro rfl rfl) ?_
    (repeat' (first | (refine Ev.go ?_; conv => whnf) | refine And.intro ?_ ?_ | exact True.intro | exact rfl | (intro rx hrx; rw [IntWalk.i64_in _ (by omega)] at hrx) | (intro hcx; exfalso; omega) | intro _))
    refine TSq.pureQ rfl d20 cl rfl (And.intro rfl rfl) ?_
    rintro _ ⟨r, e, rfl, hr⟩ _
    by_cases hf : fault s = 0
    · have d24 := c24 s hf
      have d25 := c25 s hf
      have hml := missed_len hf
      have d26 := c26s (missedR s).1 (by omega)
      rw [hf] at d23
      rcases refM_missed hf with ⟨h1, h2⟩ | ⟨h1, h2⟩
      · rw [h1] at d25
        rw [h2] at d22
        generalize (missedR s).1 = M at *
        dsimp only at d25
        (repeat' (first | (refine Ev.go ?_; conv => whnf) | refine And.intro ?_ ?_ | exact True.intro | exact rfl | (intro rx hrx; rw [IntWalk.i64_in _ (by omega)] at hrx) | (intro hcx; exfalso; omega) | intro _))
        refine TSq.pureC b1 cl rfl (And.intro rfl rfl) ?_
        (repeat' (first | (refine Ev.go ?_; conv => whnf) | refine And.intro ?_ ?_ | exact True.intro | exact rfl | (intro rx hrx; rw [IntWalk.i64_in _ (by omega)] at hrx) | (intro hcx; exfalso; omega) | intro _))
        refine TSq.pureC d22 cl rfl (And.intro rfl rfl) ?_
        (repeat' (first | (refine Ev.go ?_; conv => whnf) | refine And.intro ?_ ?_ | exact True.intro | exact rfl | (intro rx hrx; rw [IntWalk.i64_in _ (by omega)] at hrx) | (intro hcx; exfalso; omega) | intro _))
        refine TSq.pureC d23 cl rfl (And.intro rfl rfl) ?_
        (repeat' (first | (refine Ev.go ?_; conv => whnf) | refine And.intro ?_ ?_ | exact True.intro | exact rfl | (intro rx hrx; rw [IntWalk.i64_in _ (by omega)] at hrx) | (intro hcx; exfalso; omega) | intro _))
        all_goals (try (exfalso; omega))
        refine TSq.pureQ rfl d24 cl rfl (And.intro rfl rfl) ?_
        rintro _ ⟨r', rfl, hr'⟩ _
        have hrr : (r' = r ∧ e = 0 ∧ 0 ≤ r') ∨ (r' = -1 ∧ r = 0 ∧ e = 10) := by
          rcases hr with ⟨h3, _⟩ | ⟨_, h3, k, h4, h5, h6, h7⟩ | ⟨_, h3, h4, h5⟩
          · exact absurd hf h3
          · rcases hr' with ⟨k', h8, h9, h10, h11⟩ | ⟨_, h8⟩
            · have : k = k' := by
                rcases Nat.lt_trichotomy k k' with h | h | h
                · have := h11 k h; omega
                · exact h
                · have := h7 k' h; omega
              subst this
              exact .inl ⟨by omega, h3, by omega⟩
            · have := h8 k h5; omega
          · rcases hr' with ⟨k', h8, h9, h10, h11⟩ | ⟨h8, _⟩
            · have := h5 k' h9; omega
            · exact .inr ⟨h8, h3, h4⟩
        rcases hrr with ⟨rfl, rfl, hp⟩ | ⟨rfl, rfl, rfl⟩
        all_goals
          (repeat' (first | (refine Ev.go ?_; conv => whnf) | refine And.intro ?_ ?_ | exact True.intro | exact rfl | (intro rx hrx; rw [IntWalk.i64_in _ (by omega)] at hrx) | (intro hcx; exfalso; omega) | intro _))
          all_goals (try (exfalso; omega))
          refine TSq.pureC d25 cl rfl (And.intro rfl rfl) ?_
          (repeat' (first | (refine Ev.go ?_; conv => whnf) | refine And.intro ?_ ?_ | exact True.intro | exact rfl | (intro rx hrx; rw [IntWalk.i64_in _ (by omega)] at hrx) | (intro hcx; exfalso; omega) | intro _))
          all_goals (try (exfalso; omega))
          refine TSq.pureC d26 cl rfl (And.intro rfl rfl) ?_
          (repeat' (first | (refine Ev.go ?_; conv => whnf) | refine And.intro ?_ ?_ | exact True.intro | exact rfl | (intro rx hrx; rw [IntWalk.i64_in _ (by omega)] at hrx) | (intro hcx; exfalso; omega) | intro _))
          refine TSq.pureC c19 cl rfl (And.intro rfl rfl) ?_
          (repeat' (first | (refine Ev.go ?_; conv => whnf) | refine And.intro ?_ ?_ | exact True.intro | exact rfl | (intro rx hrx; rw [IntWalk.i64_in _ (by omega)] at hrx) | (intro hcx; exfalso; omega) | intro _))
          try rfl
      · have h1' : refM s (2 ^ s.members.length) = ((refM s (2 ^ s.members.length)).1, false) := by rw [← h1]
        rw [h1'] at d25
        rw [h2] at d22
        dsimp only at d25 d22
        generalize (refM s (2 ^ s.members.length)).1 = M at *
        (repeat' (first | (refine Ev.go ?_; conv => whnf) | refine And.intro ?_ ?_ | exact True.intro | exact rfl | (intro rx hrx; rw [IntWalk.i64_in _ (by omega)] at hrx) | (intro hcx; exfalso; omega) | intro _))
        refine TSq.pureC b1 cl rfl (And.intro rfl rfl) ?_
        (repeat' (first | (refine Ev.go ?_; conv => whnf) | refine And.intro ?_ ?_ | exact True.intro | exact rfl | (intro rx hrx; rw [IntWalk.i64_in _ (by omega)] at hrx) | (intro hcx; exfalso; omega) | intro _))
        refine TSq.pureC d22 cl rfl (And.intro rfl rfl) ?_
        (repeat' (first | (refine Ev.go ?_; conv => whnf) | refine And.intro ?_ ?_ | exact True.intro | exact rfl | (intro rx hrx; rw [IntWalk.i64_in _ (by omega)] at hrx) | (intro hcx; exfalso; omega) | intro _))
        refine TSq.pureC d23 cl rfl (And.intro rfl rfl) ?_
        (repeat' (first | (refine Ev.go ?_; conv => whnf) | refine And.intro ?_ ?_ | exact True.intro | exact rfl | (intro rx hrx; rw [IntWalk.i64_in _ (by omega)] at hrx) | (intro hcx; exfalso; omega) | intro _))
        all_goals (try (exfalso; omega))
        refine TSq.pureQ rfl d24 cl rfl (And.intro rfl rfl) ?_
        rintro _ ⟨r', rfl, hr'⟩ _
        have hrr : (r' = r ∧ e = 0 ∧ 0 ≤ r') ∨ (r' = -1 ∧ r = 0 ∧ e = 10) := by
          rcases hr with ⟨h3, _⟩ | ⟨_, h3, k, h4, h5, h6, h7⟩ | ⟨_, h3, h4, h5⟩
          · exact absurd hf h3
          · rcases hr' with ⟨k', h8, h9, h10, h11⟩ | ⟨_, h8⟩
            · have : k = k' := by
                rcases Nat.lt_trichotomy k k' with h | h | h
                · have := h11 k h; omega
                · exact h
                · have := h7 k' h; omega
              subst this
              exact .inl ⟨by omega, h3, by omega⟩
            · have := h8 k h5; omega
          · rcases hr' with ⟨k', h8, h9, h10, h11⟩ | ⟨h8, _⟩
            · have := h5 k' h9; omega
            · exact .inr ⟨h8, h3, h4⟩
        rcases hrr with ⟨rfl, rfl, hp⟩ | ⟨rfl, rfl, rfl⟩
        all_goals
          (repeat' (first | (refine Ev.go ?_; conv => whnf) | refine And.intro ?_ ?_ | exact True.intro | exact rfl | (intro rx hrx; rw [IntWalk.i64_in _ (by omega)] at hrx) | (intro hcx; exfalso; omega) | intro _))
          all_goals (try (exfalso; omega))
          refine TSq.pureC d25 cl rfl (And.intro rfl rfl) ?_
          (repeat' (first | (refine Ev.go ?_; conv => whnf) | refine And.intro ?_ ?_ | exact True.intro | exact rfl | (intro rx hrx; rw [IntWalk.i64_in _ (by omega)] at hrx) | (intro hcx; exfalso; omega) | intro _))
          all_goals (try (exfalso; omega))
          refine TSq.pureC c19 cl rfl (And.intro rfl rfl) ?_
          (repeat' (first | (refine Ev.go ?_; conv => whnf) | refine And.intro ?_ ?_ | exact True.intro | exact rfl | (intro rx hrx; rw [IntWalk.i64_in _ (by omega)] at hrx) | (intro hcx; exfalso; omega) | intro _))
          try rfl
    · rw [show missedR s = ([], fault s) by simp only [missedR, if_pos hf]] at d22
      rcases hr with ⟨_, rfl, rfl⟩ | ⟨h, _⟩ | ⟨h, _⟩
      · dsimp only at d22
        generalize fault s = ft at *
        (repeat' (first | (refine Ev.go ?_; conv => whnf) | refine And.intro ?_ ?_ | exact True.intro | exact rfl | (intro rx hrx; rw [IntWalk.i64_in _ (by omega)] at hrx) | (intro hcx; exfalso; omega) | intro _))
        refine TSq.pureC b1 cl rfl (And.intro rfl rfl) ?_
        (repeat' (first | (refine Ev.go ?_; conv => whnf) | refine And.intro ?_ ?_ | exact True.intro | exact rfl | (intro rx hrx; rw [IntWalk.i64_in _ (by omega)] at hrx) | (intro hcx; exfalso; omega) | intro _))
        refine TSq.pureC d22 cl rfl (And.intro rfl rfl) ?_
        (repeat' (first | (refine Ev.go ?_; conv => whnf) | refine And.intro ?_ ?_ | exact True.intro | exact rfl | (intro rx hrx; rw [IntWalk.i64_in _ (by omega)] at hrx) | (intro hcx; exfalso; omega) | intro _))
        refine TSq.pureC d23 cl rfl (And.intro rfl rfl) ?_
        (repeat' (first | (refine Ev.go ?_; conv => whnf) | refine And.intro ?_ ?_ | exact True.intro | exact rfl | (intro rx hrx; rw [IntWalk.i64_in _ (by omega)] at hrx) | (intro hcx; exfalso; omega) | intro _))
        all_goals (try (exfalso; omega))
        refine TSq.pureC c19 cl rfl (And.intro rfl rfl) ?_
        (repeat' (first | (refine Ev.go ?_; conv => whnf) | refine And.intro ?_ ?_ | exact True.intro | exact rfl | (intro rx hrx; rw [IntWalk.i64_in _ (by omega)] at hrx) | (intro hcx; exfalso; omega) | intro _))
        try rfl
      · exact absurd h hf
      · exact absurd h hf
  · (repeat' (first | (refine Ev.go ?_; conv => whnf) | refine And.intro ?_ ?_ | exact True.intro | exact rfl | (intro rx hrx; rw [IntWalk.i64_in _ (by omega)] at hrx) | (intro hcx; exfalso; omega) | intro _))
    refine TSq.pureC c19 cl rfl (And.intro rfl rfl) ?_
    (repeat' (first | (refine Ev.go ?_; conv => whnf) | refine And.intro ?_ ?_ | exact True.intro | exact rfl | (intro rx hrx; rw [IntWalk.i64_in _ (by omega)] at hrx) | (intro hcx; exfalso; omega) | intro _))
    try rfl
end Go.Proofs.Ythnaamkempmjkaa
