/- The document's first examples. -/
import Derived.Test.YthnaamkempmjkaaKr
set_option linter.unusedSimpArgs false
set_option linter.unusedVariables false
open Go Go.TV
namespace Go.Proofs.Ythnaamkempmjkaa

theorem rate_three {r e : Int} (h : RateIs (threeX 500) r e) : r = 64 ∧ e = 0 := by
  have hf : fault (threeX 500) = 0 := by kernel_rfl
  have hhi : (needsOf (threeX 500)).hi = 250 := by kernel_rfl
  have hno : ((List.range 64).all fun j => decide (brF (threeX 500).members (j : Nat) (threeX 500).members.length < 250)) = true := by kernel_rfl
  have hyes : brF (threeX 500).members (64 : Nat) (threeX 500).members.length = 252 := by kernel_rfl
  rw [List.all_eq_true] at hno
  have hno' : ∀ j : Nat, j < 64 → brF (threeX 500).members (j : Nat) (threeX 500).members.length < 250 := fun j hj => by simpa using hno j (List.mem_range.2 hj)
  rcases h with ⟨h1, _⟩ | ⟨_, h2, k, h3, h4, h5, h6⟩ | ⟨_, _, _, h3⟩
  · exact absurd hf h1
  · rw [hhi] at h5 h6
    have : k = 64 := by
      rcases Nat.lt_trichotomy k 64 with h | h | h
      · have := hno' k h; omega
      · exact h
      · have := h6 64 h; omega
    exact ⟨by omega, h2⟩
  · have := h3 64 (by omega); omega
theorem c26l (a : List Int) (l : List SV) (e : l = ints a) (h : a.length ≤ 1000000) : PF Try.prog 26 [.sl 1 l, .sl 1 l] (· = .bool true) := by
  subst e; exact c26s a h
set_option maxHeartbeats 4000000 in
set_option maxRecDepth 100000 in
theorem c19 : PF Try.prog 19 [] (· = .bool true) := by
  have e1 : needsR (threeX 500) = (⟨235, 250⟩, 0) := by kernel_rfl
  have e2 : callsR (threeX 500) 250 = ([127, 60, 63], 0, 0) := by kernel_rfl
  have e3 : withoutR (threeX 500) [] = ([⟨117, 127⟩, ⟨59, 60⟩, ⟨59, 63⟩], 0) := by kernel_rfl
  have e4 : missedR (threeX 500) = ([0, 2], 0) := by kernel_rfl
  have e5 : missedR (threeX 150) = ([0], 0) := by kernel_rfl
  have hl : (threeX 500).members.length ≤ 1000000 ∧ (threeX 500).losses.length ≤ 1000000 := by simp [threeX]
  have hl' : (threeX 150).members.length ≤ 1000000 ∧ (threeX 150).losses.length ≤ 1000000 := by simp [threeX]
  have d1 := c28 (threeX 500) hl.1 hl.2
  have d2 := c35 (threeX 500) 250 hl.1 hl.2
  have d3 := c29 (threeX 500) hl.1 hl.2
  have d4 := c22 (threeX 500) hl.1 hl.2
  have d5 := c22 (threeX 150) hl'.1 hl'.2
  have d6 := c20 (threeX 500) hl.1 hl.2
  rw [e1] at d1; rw [e2] at d2; rw [e3] at d3; rw [e4] at d4; rw [e5] at d5
  dsimp only at d1 d2 d3 d4 d5
  obtain ⟨B, hB⟩ : ∃ B : List Rng, B = [⟨117, 127⟩, ⟨59, 60⟩, ⟨59, 63⟩] := ⟨_, rfl⟩
  have hl1 : (encRs B).length = 3 := by rw [hB]; rfl
  have hg1 : ∀ {n : Nat} {e : SV}, n = 0 → (encRs B)[n]? = some e → e = encR ⟨117, 127⟩ := by
    rintro n e rfl he; subst hB; exact (Option.some.inj he).symm
  have hg2 : ∀ {n : Nat} {e : SV}, n = 1 → (encRs B)[n]? = some e → e = encR ⟨59, 60⟩ := by
    rintro n e rfl he; subst hB; exact (Option.some.inj he).symm
  have hg3 : ∀ {n : Nat} {e : SV}, n = 2 → (encRs B)[n]? = some e → e = encR ⟨59, 63⟩ := by
    rintro n e rfl he; subst hB; exact (Option.some.inj he).symm
  rw [← hB] at d3
  clear hB e1 e2 e3 e4 e5
  have s1 := c26s [127, 60, 63] (by simp)
  have s2 := c26s [0, 2] (by simp)
  have s3 := c26s [0] (by simp)
  have b1 := c56 500
  have b2 := c56 150
  generalize hX : threeX 500 = X at *
  generalize hY : threeX 150 = Y at *
  refine PF.of (TF.ev fn_19 (Ev.at ?_))
  (repeat' (first | (intro ex hex; have hq := hg1 (by omega) hex; subst hq; clear hex) | (intro ex hex; have hq := hg2 (by omega) hex; subst hq; clear hex) | (intro ex hex; have hq := hg3 (by omega) hex; subst hq; clear hex) | (refine Ev.go ?_; conv => whnf) | refine And.intro ?_ ?_ | exact True.intro | exact rfl | (intro rx hrx; rw [IntWalk.i64_in _ (by omega)] at hrx) | (intro hcx; exfalso; omega) | intro _))
  refine TSq.pureC b1 cl rfl (And.intro rfl rfl) ?_
  (repeat' (first | (intro ex hex; have hq := hg1 (by omega) hex; subst hq; clear hex) | (intro ex hex; have hq := hg2 (by omega) hex; subst hq; clear hex) | (intro ex hex; have hq := hg3 (by omega) hex; subst hq; clear hex) | (refine Ev.go ?_; conv => whnf) | refine And.intro ?_ ?_ | exact True.intro | exact rfl | (intro rx hrx; rw [IntWalk.i64_in _ (by omega)] at hrx) | (intro hcx; exfalso; omega) | intro _))
  refine TSq.pureC d1 cl rfl (And.intro rfl rfl) ?_
  (repeat' (first | (intro ex hex; have hq := hg1 (by omega) hex; subst hq; clear hex) | (intro ex hex; have hq := hg2 (by omega) hex; subst hq; clear hex) | (intro ex hex; have hq := hg3 (by omega) hex; subst hq; clear hex) | (refine Ev.go ?_; conv => whnf) | refine And.intro ?_ ?_ | exact True.intro | exact rfl | (intro rx hrx; rw [IntWalk.i64_in _ (by omega)] at hrx) | (intro hcx; exfalso; omega) | intro _))
  refine TSq.pureC b1 cl rfl (And.intro rfl rfl) ?_
  (repeat' (first | (intro ex hex; have hq := hg1 (by omega) hex; subst hq; clear hex) | (intro ex hex; have hq := hg2 (by omega) hex; subst hq; clear hex) | (intro ex hex; have hq := hg3 (by omega) hex; subst hq; clear hex) | (refine Ev.go ?_; conv => whnf) | refine And.intro ?_ ?_ | exact True.intro | exact rfl | (intro rx hrx; rw [IntWalk.i64_in _ (by omega)] at hrx) | (intro hcx; exfalso; omega) | intro _))
  refine TSq.pureC d2 cl rfl (And.intro rfl rfl) ?_
  (repeat' (first | (intro ex hex; have hq := hg1 (by omega) hex; subst hq; clear hex) | (intro ex hex; have hq := hg2 (by omega) hex; subst hq; clear hex) | (intro ex hex; have hq := hg3 (by omega) hex; subst hq; clear hex) | (refine Ev.go ?_; conv => whnf) | refine And.intro ?_ ?_ | exact True.intro | exact rfl | (intro rx hrx; rw [IntWalk.i64_in _ (by omega)] at hrx) | (intro hcx; exfalso; omega) | intro _))
  refine TSq.pureC b1 cl rfl (And.intro rfl rfl) ?_
  (repeat' (first | (intro ex hex; have hq := hg1 (by omega) hex; subst hq; clear hex) | (intro ex hex; have hq := hg2 (by omega) hex; subst hq; clear hex) | (intro ex hex; have hq := hg3 (by omega) hex; subst hq; clear hex) | (refine Ev.go ?_; conv => whnf) | refine And.intro ?_ ?_ | exact True.intro | exact rfl | (intro rx hrx; rw [IntWalk.i64_in _ (by omega)] at hrx) | (intro hcx; exfalso; omega) | intro _))
  refine TSq.pureC d3 cl rfl (And.intro rfl rfl) ?_
  (repeat' (first | (intro ex hex; have hq := hg1 (by omega) hex; subst hq; clear hex) | (intro ex hex; have hq := hg2 (by omega) hex; subst hq; clear hex) | (intro ex hex; have hq := hg3 (by omega) hex; subst hq; clear hex) | (refine Ev.go ?_; conv => whnf) | refine And.intro ?_ ?_ | exact True.intro | exact rfl | (intro rx hrx; rw [IntWalk.i64_in _ (by omega)] at hrx) | (intro hcx; exfalso; omega) | intro _))
  refine TSq.pureC b1 cl rfl (And.intro rfl rfl) ?_
  (repeat' (first | (intro ex hex; have hq := hg1 (by omega) hex; subst hq; clear hex) | (intro ex hex; have hq := hg2 (by omega) hex; subst hq; clear hex) | (intro ex hex; have hq := hg3 (by omega) hex; subst hq; clear hex) | (refine Ev.go ?_; conv => whnf) | refine And.intro ?_ ?_ | exact True.intro | exact rfl | (intro rx hrx; rw [IntWalk.i64_in _ (by omega)] at hrx) | (intro hcx; exfalso; omega) | intro _))
  refine TSq.pureQ rfl d6 cl rfl (And.intro rfl rfl) ?_
  rintro _ ⟨r, e, rfl, hr⟩ _
  rw [← hX] at hr
  obtain ⟨rfl, rfl⟩ := rate_three hr
  (repeat' (first | (intro ex hex; have hq := hg1 (by omega) hex; subst hq; clear hex) | (intro ex hex; have hq := hg2 (by omega) hex; subst hq; clear hex) | (intro ex hex; have hq := hg3 (by omega) hex; subst hq; clear hex) | (refine Ev.go ?_; conv => whnf) | refine And.intro ?_ ?_ | exact True.intro | exact rfl | (intro rx hrx; rw [IntWalk.i64_in _ (by omega)] at hrx) | (intro hcx; exfalso; omega) | intro _))
  refine TSq.pureC b1 cl rfl (And.intro rfl rfl) ?_
  (repeat' (first | (intro ex hex; have hq := hg1 (by omega) hex; subst hq; clear hex) | (intro ex hex; have hq := hg2 (by omega) hex; subst hq; clear hex) | (intro ex hex; have hq := hg3 (by omega) hex; subst hq; clear hex) | (refine Ev.go ?_; conv => whnf) | refine And.intro ?_ ?_ | exact True.intro | exact rfl | (intro rx hrx; rw [IntWalk.i64_in _ (by omega)] at hrx) | (intro hcx; exfalso; omega) | intro _))
  refine TSq.pureC d4 cl rfl (And.intro rfl rfl) ?_
  (repeat' (first | (intro ex hex; have hq := hg1 (by omega) hex; subst hq; clear hex) | (intro ex hex; have hq := hg2 (by omega) hex; subst hq; clear hex) | (intro ex hex; have hq := hg3 (by omega) hex; subst hq; clear hex) | (refine Ev.go ?_; conv => whnf) | refine And.intro ?_ ?_ | exact True.intro | exact rfl | (intro rx hrx; rw [IntWalk.i64_in _ (by omega)] at hrx) | (intro hcx; exfalso; omega) | intro _))
  refine TSq.pureC b2 cl rfl (And.intro rfl rfl) ?_
  (repeat' (first | (intro ex hex; have hq := hg1 (by omega) hex; subst hq; clear hex) | (intro ex hex; have hq := hg2 (by omega) hex; subst hq; clear hex) | (intro ex hex; have hq := hg3 (by omega) hex; subst hq; clear hex) | (refine Ev.go ?_; conv => whnf) | refine And.intro ?_ ?_ | exact True.intro | exact rfl | (intro rx hrx; rw [IntWalk.i64_in _ (by omega)] at hrx) | (intro hcx; exfalso; omega) | intro _))
  refine TSq.pureC d5 cl rfl (And.intro rfl rfl) ?_
  (repeat' (first | (intro ex hex; have hq := hg1 (by omega) hex; subst hq; clear hex) | (intro ex hex; have hq := hg2 (by omega) hex; subst hq; clear hex) | (intro ex hex; have hq := hg3 (by omega) hex; subst hq; clear hex) | (refine Ev.go ?_; conv => whnf) | refine And.intro ?_ ?_ | exact True.intro | exact rfl | (intro rx hrx; rw [IntWalk.i64_in _ (by omega)] at hrx) | (intro hcx; exfalso; omega) | intro _))
  refine TDq.pureC (c57 235 250) cl rfl (And.intro rfl rfl) ?_
  (repeat' (first | (intro ex hex; have hq := hg1 (by omega) hex; subst hq; clear hex) | (intro ex hex; have hq := hg2 (by omega) hex; subst hq; clear hex) | (intro ex hex; have hq := hg3 (by omega) hex; subst hq; clear hex) | (refine Ev.go ?_; conv => whnf) | refine And.intro ?_ ?_ | exact True.intro | exact rfl | (intro rx hrx; rw [IntWalk.i64_in _ (by omega)] at hrx) | (intro hcx; exfalso; omega) | intro _))
  all_goals (first | (refine ⟨?_⟩; exact vk) | exact cl | skip)
  refine TDq.lendC s1 (by simp [scal]) rfl (And.intro rfl ?_)
  (repeat' (first | (intro ex hex; have hq := hg1 (by omega) hex; subst hq; clear hex) | (intro ex hex; have hq := hg2 (by omega) hex; subst hq; clear hex) | (intro ex hex; have hq := hg3 (by omega) hex; subst hq; clear hex) | (refine Ev.go ?_; conv => whnf) | refine And.intro ?_ ?_ | exact True.intro | exact rfl | (intro rx hrx; rw [IntWalk.i64_in _ (by omega)] at hrx) | (intro hcx; exfalso; omega) | intro _))
  all_goals (first | (refine ⟨?_⟩; exact vk) | exact cl | skip)
  refine TDq.pureC (c57 117 127) cl rfl (And.intro rfl rfl) ?_
  (repeat' (first | (intro ex hex; have hq := hg1 (by omega) hex; subst hq; clear hex) | (intro ex hex; have hq := hg2 (by omega) hex; subst hq; clear hex) | (intro ex hex; have hq := hg3 (by omega) hex; subst hq; clear hex) | (refine Ev.go ?_; conv => whnf) | refine And.intro ?_ ?_ | exact True.intro | exact rfl | (intro rx hrx; rw [IntWalk.i64_in _ (by omega)] at hrx) | (intro hcx; exfalso; omega) | intro _))
  all_goals (first | (refine ⟨?_⟩; exact vk) | exact cl | skip)
  refine TDq.pureC (c57 59 60) cl rfl (And.intro rfl rfl) ?_
  (repeat' (first | (intro ex hex; have hq := hg1 (by omega) hex; subst hq; clear hex) | (intro ex hex; have hq := hg2 (by omega) hex; subst hq; clear hex) | (intro ex hex; have hq := hg3 (by omega) hex; subst hq; clear hex) | (refine Ev.go ?_; conv => whnf) | refine And.intro ?_ ?_ | exact True.intro | exact rfl | (intro rx hrx; rw [IntWalk.i64_in _ (by omega)] at hrx) | (intro hcx; exfalso; omega) | intro _))
  all_goals (first | (refine ⟨?_⟩; exact vk) | exact cl | skip)
  refine TDq.pureC (c57 59 63) cl rfl (And.intro rfl rfl) ?_
  (repeat' (first | (intro ex hex; have hq := hg1 (by omega) hex; subst hq; clear hex) | (intro ex hex; have hq := hg2 (by omega) hex; subst hq; clear hex) | (intro ex hex; have hq := hg3 (by omega) hex; subst hq; clear hex) | (refine Ev.go ?_; conv => whnf) | refine And.intro ?_ ?_ | exact True.intro | exact rfl | (intro rx hrx; rw [IntWalk.i64_in _ (by omega)] at hrx) | (intro hcx; exfalso; omega) | intro _))
  all_goals (first | (refine ⟨?_⟩; exact vk) | exact cl | skip)
  refine TDq.lendC s2 (by simp [scal]) rfl (And.intro rfl ?_)
  (repeat' (first | (intro ex hex; have hq := hg1 (by omega) hex; subst hq; clear hex) | (intro ex hex; have hq := hg2 (by omega) hex; subst hq; clear hex) | (intro ex hex; have hq := hg3 (by omega) hex; subst hq; clear hex) | (refine Ev.go ?_; conv => whnf) | refine And.intro ?_ ?_ | exact True.intro | exact rfl | (intro rx hrx; rw [IntWalk.i64_in _ (by omega)] at hrx) | (intro hcx; exfalso; omega) | intro _))
  all_goals (first | (refine ⟨?_⟩; exact vk) | exact cl | skip)
  refine TDq.lendC s3 (by simp [scal]) rfl (And.intro rfl ?_)
  (repeat' (first | (intro ex hex; have hq := hg1 (by omega) hex; subst hq; clear hex) | (intro ex hex; have hq := hg2 (by omega) hex; subst hq; clear hex) | (intro ex hex; have hq := hg3 (by omega) hex; subst hq; clear hex) | (refine Ev.go ?_; conv => whnf) | refine And.intro ?_ ?_ | exact True.intro | exact rfl | (intro rx hrx; rw [IntWalk.i64_in _ (by omega)] at hrx) | (intro hcx; exfalso; omega) | intro _))
  all_goals (first | (refine ⟨?_⟩; exact vk) | exact cl | skip)
  all_goals (rename_i h; exact absurd rfl h)
end Go.Proofs.Ythnaamkempmjkaa
