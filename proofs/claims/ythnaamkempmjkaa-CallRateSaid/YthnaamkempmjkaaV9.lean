/- CallRate, the walk of the statement. -/
import Derived.Test.YthnaamkempmjkaaKz
import Derived.Test.YthnaamkempmjkaaKfL9
set_option linter.unusedSimpArgs false
set_option linter.unusedVariables false
open Go Go.TV
namespace Go.Proofs.Ythnaamkempmjkaa

set_option maxHeartbeats 4000000 in
set_option maxRecDepth 100000 in
theorem c9 (s : Soc) : PF Try.prog 9 [encSoc s] (· = .bool true) := by
  have hz := encYs_len s.members
  refine PF.of (TF.ev fn_9 (Ev.at ?_))
  (repeat' (first | (refine Ev.go ?_; conv => whnf) | refine And.intro ?_ ?_ | exact True.intro | exact rfl | (intro rx hrx; rw [IntWalk.i64_in _ (by omega)] at hrx) | (intro hcx; exfalso; omega) | (intro hcx; exfalso; simp only [lz] at hcx; omega) | (intro ex hex; (first | obtain ⟨xx, hxx, rfl⟩ := ints_at hex | obtain ⟨xx, hxx, rfl⟩ := encYs_at hex | obtain ⟨xx, hxx, rfl⟩ := encRs_at hex); clear hex; try simp only [Int.toNat_natCast] at hxx) | intro _))
  refine TSq.pureBC (c27 s) (by simp [cloL, clo, encR, encY, encSoc, encT, encS, cz]) rfl (And.intro rfl rfl) ?_ ?_
  · intro hr
    have h0 : fault s = 0 := by simpa [ready] using hr
    have hl := fault_len h0
    obtain ⟨hm, _⟩ := fault_ok h0
    have b1 := c21 s (by omega) (by omega)
    have d1 := c20 s (by omega) (by omega)
    have d2 := c28 s (by omega) (by omega)
    simp only [needsR, if_neg (show ¬ fault s ≠ 0 by simpa using h0)] at d2
    (repeat' (first | (intro rx hrx; have hq := hsub1 hrx (by omega); subst hq; clear hrx) | (refine Ev.go ?_; conv => whnf) | refine And.intro ?_ ?_ | exact True.intro | exact rfl | (intro rx hrx; rw [IntWalk.i64_in _ (by omega)] at hrx) | (intro hcx; exfalso; omega) | intro _))
    refine TSq.pureC b1 (by simp [cloL, clo, encR, encY, encSoc, encT, encS, cz]) rfl (And.intro rfl rfl) ?_
    (repeat' (first | (intro rx hrx; have hq := hsub1 hrx (by omega); subst hq; clear hrx) | (refine Ev.go ?_; conv => whnf) | refine And.intro ?_ ?_ | exact True.intro | exact rfl | (intro rx hrx; rw [IntWalk.i64_in _ (by omega)] at hrx) | (intro hcx; exfalso; omega) | intro _))
    refine TSq.pureQ rfl d1 (by simp [cloL, clo, encR, encY, encSoc, encT, encS, cz]) rfl (And.intro rfl rfl) ?_
    rintro _ ⟨r, e, rfl, hR⟩ _
    rcases hR with ⟨h1, _⟩ | ⟨_, rfl, k, rfl, h4, h5, h6⟩ | ⟨_, rfl, rfl, h6⟩
    · exact absurd h0 h1
    · have e1 := c39 s k hm hl.1 (by omega)
      have f40 := c40 (k : Int) 0 10000
      rw [show within (k : Int) 0 10000 = true from decide_eq_true (by omega)] at f40
      have hk0 : (k : Int) = 0 ∨ ∃ j : Nat, k = j + 1 := by
        cases k with
        | zero => exact .inl rfl
        | succ j => exact .inr ⟨j, rfl⟩
      generalize hN : needsOf s = N at *
      rcases hk0 with hk0 | ⟨j, rfl⟩
      · generalize brF s.members (k : Int) s.members.length = B at *
        (repeat' (first | (intro rx hrx; have hq := hsub1 hrx (by omega); subst hq; clear hrx) | (refine Ev.go ?_; conv => whnf) | refine And.intro ?_ ?_ | exact True.intro | exact rfl | (intro rx hrx; rw [IntWalk.i64_in _ (by omega)] at hrx) | (intro hcx; exfalso; omega) | intro _))
        refine TSq.pureC b1 (by simp [cloL, clo, encR, encY, encSoc, encT, encS, cz]) rfl (And.intro rfl rfl) ?_
        (repeat' (first | (intro rx hrx; have hq := hsub1 hrx (by omega); subst hq; clear hrx) | (refine Ev.go ?_; conv => whnf) | refine And.intro ?_ ?_ | exact True.intro | exact rfl | (intro rx hrx; rw [IntWalk.i64_in _ (by omega)] at hrx) | (intro hcx; exfalso; omega) | intro _))
        refine TSq.pureC d2 (by simp [cloL, clo, encR, encY, encSoc, encT, encS, cz]) rfl (And.intro rfl rfl) ?_
        (repeat' (first | (intro rx hrx; have hq := hsub1 hrx (by omega); subst hq; clear hrx) | (refine Ev.go ?_; conv => whnf) | refine And.intro ?_ ?_ | exact True.intro | exact rfl | (intro rx hrx; rw [IntWalk.i64_in _ (by omega)] at hrx) | (intro hcx; exfalso; omega) | intro _))
        all_goals (first | (refine ⟨?_⟩; first | rfl | exact List.cons_ne_nil _ _ | (show (_ : Nat) * _ ≤ _; simp [catS, repl, chunks, lz] <;> omega) | exact shS _ _ | exact shM _ | exact shN | exact encM_clo _ | exact ⟨rfl, rfl⟩ | exact ⟨rfl, rfl, rfl⟩ | omega | (simp only [lz]; omega) | (simp; omega) | (simp [cloL, clo, catS, repl, cz, encR, encY, encS]; done) | (show chkGo _ _ _ _ _ = true; kernel_rfl)) | (simp [cloL, clo, catS, repl, cz, encR, encY, encS]; done) | skip)
        refine TDq.pureC f40 (by simp [cloL, clo, encR, encY, encSoc, encT, encS, cz]) rfl (And.intro rfl rfl) ?_
        (repeat' (first | (intro rx hrx; have hq := hsub1 hrx (by omega); subst hq; clear hrx) | (refine Ev.go ?_; conv => whnf) | refine And.intro ?_ ?_ | exact True.intro | exact rfl | (intro rx hrx; rw [IntWalk.i64_in _ (by omega)] at hrx) | (intro hcx; exfalso; omega) | intro _))
        all_goals (first | (refine ⟨?_⟩; first | rfl | exact List.cons_ne_nil _ _ | (show (_ : Nat) * _ ≤ _; simp [catS, repl, chunks, lz] <;> omega) | exact shS _ _ | exact shM _ | exact shN | exact encM_clo _ | exact ⟨rfl, rfl⟩ | exact ⟨rfl, rfl, rfl⟩ | omega | (simp only [lz]; omega) | (simp; omega) | (simp [cloL, clo, catS, repl, cz, encR, encY, encS]; done) | (show chkGo _ _ _ _ _ = true; kernel_rfl)) | (simp [cloL, clo, catS, repl, cz, encR, encY, encS]; done) | skip)
        refine TDq.pureC e1 (by simp [cloL, clo, encR, encY, encSoc, encT, encS, cz]) rfl (And.intro rfl rfl) ?_
        (repeat' (first | (intro rx hrx; have hq := hsub1 hrx (by omega); subst hq; clear hrx) | (refine Ev.go ?_; conv => whnf) | refine And.intro ?_ ?_ | exact True.intro | exact rfl | (intro rx hrx; rw [IntWalk.i64_in _ (by omega)] at hrx) | (intro hcx; exfalso; omega) | intro _))
        all_goals (first | (refine ⟨?_⟩; show chkGo _ _ _ _ _ = true; kernel_rfl) | (refine ⟨?_⟩; first | rfl | exact List.cons_ne_nil _ _ | (show (_ : Nat) * _ ≤ _; simp [catS, repl, chunks, lz] <;> omega) | exact shS _ _ | exact shM _ | exact shN | exact encM_clo _ | exact ⟨rfl, rfl⟩ | exact ⟨rfl, rfl, rfl⟩ | omega | (simp only [lz]; omega) | (simp; omega) | (simp [cloL, clo, catS, repl, cz, encR, encY, encS]; done) | (show chkGo _ _ _ _ _ = true; kernel_rfl)) | (simp [cloL, clo, catS, repl, cz, encR, encY, encS]; done) | skip)
        all_goals (try (exfalso; omega))
        refine TDq.pureC c19 (by simp [cloL, clo, encR, encY, encSoc, encT, encS, cz]) rfl (And.intro rfl rfl) ?_
        (repeat' (first | (intro rx hrx; have hq := hsub1 hrx (by omega); subst hq; clear hrx) | (refine Ev.go ?_; conv => whnf) | refine And.intro ?_ ?_ | exact True.intro | exact rfl | (intro rx hrx; rw [IntWalk.i64_in _ (by omega)] at hrx) | (intro hcx; exfalso; omega) | intro _))
        all_goals (first | (refine ⟨?_⟩; show chkGo _ _ _ _ _ = true; kernel_rfl) | (refine ⟨?_⟩; first | rfl | exact List.cons_ne_nil _ _ | (show (_ : Nat) * _ ≤ _; simp [catS, repl, chunks, lz] <;> omega) | exact shS _ _ | exact shM _ | exact shN | exact encM_clo _ | exact ⟨rfl, rfl⟩ | exact ⟨rfl, rfl, rfl⟩ | omega | (simp only [lz]; omega) | (simp; omega) | (simp [cloL, clo, catS, repl, cz, encR, encY, encS]; done) | (show chkGo _ _ _ _ _ = true; kernel_rfl)) | (simp [cloL, clo, catS, repl, cz, encR, encY, encS]; done) | skip)
      · have e2 := c39 s (j : Int) hm hl.1 (by omega)
        have h7 := h6 j (by omega)
        have hsub1 : ∀ {x : Int}, x = ((j + 1 : Nat) : Int) - 1 → True → x = (j : Int) := fun h _ => by omega
        generalize brF s.members (j : Int) s.members.length = C at *
        generalize brF s.members ((j + 1 : Nat) : Int) s.members.length = B at *
        (repeat' (first | (intro rx hrx; have hq := hsub1 hrx (by omega); subst hq; clear hrx) | (refine Ev.go ?_; conv => whnf) | refine And.intro ?_ ?_ | exact True.intro | exact rfl | (intro rx hrx; rw [IntWalk.i64_in _ (by omega)] at hrx) | (intro hcx; exfalso; omega) | intro _))
        refine TSq.pureC b1 (by simp [cloL, clo, encR, encY, encSoc, encT, encS, cz]) rfl (And.intro rfl rfl) ?_
        (repeat' (first | (intro rx hrx; have hq := hsub1 hrx (by omega); subst hq; clear hrx) | (refine Ev.go ?_; conv => whnf) | refine And.intro ?_ ?_ | exact True.intro | exact rfl | (intro rx hrx; rw [IntWalk.i64_in _ (by omega)] at hrx) | (intro hcx; exfalso; omega) | intro _))
        refine TSq.pureC d2 (by simp [cloL, clo, encR, encY, encSoc, encT, encS, cz]) rfl (And.intro rfl rfl) ?_
        (repeat' (first | (intro rx hrx; have hq := hsub1 hrx (by omega); subst hq; clear hrx) | (refine Ev.go ?_; conv => whnf) | refine And.intro ?_ ?_ | exact True.intro | exact rfl | (intro rx hrx; rw [IntWalk.i64_in _ (by omega)] at hrx) | (intro hcx; exfalso; omega) | intro _))
        all_goals (first | (refine ⟨?_⟩; first | rfl | exact List.cons_ne_nil _ _ | (show (_ : Nat) * _ ≤ _; simp [catS, repl, chunks, lz] <;> omega) | exact shS _ _ | exact shM _ | exact shN | exact encM_clo _ | exact ⟨rfl, rfl⟩ | exact ⟨rfl, rfl, rfl⟩ | omega | (simp only [lz]; omega) | (simp; omega) | (simp [cloL, clo, catS, repl, cz, encR, encY, encS]; done) | (show chkGo _ _ _ _ _ = true; kernel_rfl)) | (simp [cloL, clo, catS, repl, cz, encR, encY, encS]; done) | skip)
        refine TDq.pureC f40 (by simp [cloL, clo, encR, encY, encSoc, encT, encS, cz]) rfl (And.intro rfl rfl) ?_
        (repeat' (first | (intro rx hrx; have hq := hsub1 hrx (by omega); subst hq; clear hrx) | (refine Ev.go ?_; conv => whnf) | refine And.intro ?_ ?_ | exact True.intro | exact rfl | (intro rx hrx; rw [IntWalk.i64_in _ (by omega)] at hrx) | (intro hcx; exfalso; omega) | intro _))
        all_goals (first | (refine ⟨?_⟩; first | rfl | exact List.cons_ne_nil _ _ | (show (_ : Nat) * _ ≤ _; simp [catS, repl, chunks, lz] <;> omega) | exact shS _ _ | exact shM _ | exact shN | exact encM_clo _ | exact ⟨rfl, rfl⟩ | exact ⟨rfl, rfl, rfl⟩ | omega | (simp only [lz]; omega) | (simp; omega) | (simp [cloL, clo, catS, repl, cz, encR, encY, encS]; done) | (show chkGo _ _ _ _ _ = true; kernel_rfl)) | (simp [cloL, clo, catS, repl, cz, encR, encY, encS]; done) | skip)
        refine TDq.pureC e1 (by simp [cloL, clo, encR, encY, encSoc, encT, encS, cz]) rfl (And.intro rfl rfl) ?_
        (repeat' (first | (intro rx hrx; have hq := hsub1 hrx (by omega); subst hq; clear hrx) | (refine Ev.go ?_; conv => whnf) | refine And.intro ?_ ?_ | exact True.intro | exact rfl | (intro rx hrx; rw [IntWalk.i64_in _ (by omega)] at hrx) | (intro hcx; exfalso; omega) | intro _))
        all_goals (first | (refine ⟨?_⟩; show chkGo _ _ _ _ _ = true; kernel_rfl) | (refine ⟨?_⟩; first | rfl | exact List.cons_ne_nil _ _ | (show (_ : Nat) * _ ≤ _; simp [catS, repl, chunks, lz] <;> omega) | exact shS _ _ | exact shM _ | exact shN | exact encM_clo _ | exact ⟨rfl, rfl⟩ | exact ⟨rfl, rfl, rfl⟩ | omega | (simp only [lz]; omega) | (simp; omega) | (simp [cloL, clo, catS, repl, cz, encR, encY, encS]; done) | (show chkGo _ _ _ _ _ = true; kernel_rfl)) | (simp [cloL, clo, catS, repl, cz, encR, encY, encS]; done) | skip)
        all_goals (try (exfalso; omega))
        obtain rfl : rx = (j : Int) := by omega
        refine TDq.pureC e2 (by simp [cloL, clo, encR, encY, encSoc, encT, encS, cz]) rfl (And.intro rfl rfl) ?_
        (repeat' (first | (intro rx hrx; have hq := hsub1 hrx (by omega); subst hq; clear hrx) | (refine Ev.go ?_; conv => whnf) | refine And.intro ?_ ?_ | exact True.intro | exact rfl | (intro rx hrx; rw [IntWalk.i64_in _ (by omega)] at hrx) | (intro hcx; exfalso; omega) | intro _))
        all_goals (first | (refine ⟨?_⟩; show chkGo _ _ _ _ _ = true; kernel_rfl) | (refine ⟨?_⟩; first | rfl | exact List.cons_ne_nil _ _ | (show (_ : Nat) * _ ≤ _; simp [catS, repl, chunks, lz] <;> omega) | exact shS _ _ | exact shM _ | exact shN | exact encM_clo _ | exact ⟨rfl, rfl⟩ | exact ⟨rfl, rfl, rfl⟩ | omega | (simp only [lz]; omega) | (simp; omega) | (simp [cloL, clo, catS, repl, cz, encR, encY, encS]; done) | (show chkGo _ _ _ _ _ = true; kernel_rfl)) | (simp [cloL, clo, catS, repl, cz, encR, encY, encS]; done) | skip)
        refine TDq.pureC c19 (by simp [cloL, clo, encR, encY, encSoc, encT, encS, cz]) rfl (And.intro rfl rfl) ?_
        (repeat' (first | (intro rx hrx; have hq := hsub1 hrx (by omega); subst hq; clear hrx) | (refine Ev.go ?_; conv => whnf) | refine And.intro ?_ ?_ | exact True.intro | exact rfl | (intro rx hrx; rw [IntWalk.i64_in _ (by omega)] at hrx) | (intro hcx; exfalso; omega) | intro _))
        all_goals (first | (refine ⟨?_⟩; show chkGo _ _ _ _ _ = true; kernel_rfl) | (refine ⟨?_⟩; first | rfl | exact List.cons_ne_nil _ _ | (show (_ : Nat) * _ ≤ _; simp [catS, repl, chunks, lz] <;> omega) | exact shS _ _ | exact shM _ | exact shN | exact encM_clo _ | exact ⟨rfl, rfl⟩ | exact ⟨rfl, rfl, rfl⟩ | omega | (simp only [lz]; omega) | (simp; omega) | (simp [cloL, clo, catS, repl, cz, encR, encY, encS]; done) | (show chkGo _ _ _ _ _ = true; kernel_rfl)) | (simp [cloL, clo, catS, repl, cz, encR, encY, encS]; done) | skip)
    · have e1 := c39 s 10000 hm hl.1 (by omega)
      have h7 := h6 10000 (by omega)
      rw [show (((10000 : Nat) : Int)) = 10000 from rfl] at h7
      generalize hN : needsOf s = N at *
      generalize brF s.members 10000 s.members.length = B at *
      (repeat' (first | (intro rx hrx; have hq := hsub1 hrx (by omega); subst hq; clear hrx) | (refine Ev.go ?_; conv => whnf) | refine And.intro ?_ ?_ | exact True.intro | exact rfl | (intro rx hrx; rw [IntWalk.i64_in _ (by omega)] at hrx) | (intro hcx; exfalso; omega) | intro _))
      refine TSq.pureC b1 (by simp [cloL, clo, encR, encY, encSoc, encT, encS, cz]) rfl (And.intro rfl rfl) ?_
      (repeat' (first | (intro rx hrx; have hq := hsub1 hrx (by omega); subst hq; clear hrx) | (refine Ev.go ?_; conv => whnf) | refine And.intro ?_ ?_ | exact True.intro | exact rfl | (intro rx hrx; rw [IntWalk.i64_in _ (by omega)] at hrx) | (intro hcx; exfalso; omega) | intro _))
      refine TSq.pureC d2 (by simp [cloL, clo, encR, encY, encSoc, encT, encS, cz]) rfl (And.intro rfl rfl) ?_
      (repeat' (first | (intro rx hrx; have hq := hsub1 hrx (by omega); subst hq; clear hrx) | (refine Ev.go ?_; conv => whnf) | refine And.intro ?_ ?_ | exact True.intro | exact rfl | (intro rx hrx; rw [IntWalk.i64_in _ (by omega)] at hrx) | (intro hcx; exfalso; omega) | intro _))
      all_goals (first | (refine ⟨?_⟩; first | rfl | exact List.cons_ne_nil _ _ | (show (_ : Nat) * _ ≤ _; simp [catS, repl, chunks, lz] <;> omega) | exact shS _ _ | exact shM _ | exact shN | exact encM_clo _ | exact ⟨rfl, rfl⟩ | exact ⟨rfl, rfl, rfl⟩ | omega | (simp only [lz]; omega) | (simp; omega) | (simp [cloL, clo, catS, repl, cz, encR, encY, encS]; done) | (show chkGo _ _ _ _ _ = true; kernel_rfl)) | (simp [cloL, clo, catS, repl, cz, encR, encY, encS]; done) | skip)
      refine TDq.pureC e1 (by simp [cloL, clo, encR, encY, encSoc, encT, encS, cz]) rfl (And.intro rfl rfl) ?_
      (repeat' (first | (intro rx hrx; have hq := hsub1 hrx (by omega); subst hq; clear hrx) | (refine Ev.go ?_; conv => whnf) | refine And.intro ?_ ?_ | exact True.intro | exact rfl | (intro rx hrx; rw [IntWalk.i64_in _ (by omega)] at hrx) | (intro hcx; exfalso; omega) | intro _))
      all_goals (first | (refine ⟨?_⟩; show chkGo _ _ _ _ _ = true; kernel_rfl) | (refine ⟨?_⟩; first | rfl | exact List.cons_ne_nil _ _ | (show (_ : Nat) * _ ≤ _; simp [catS, repl, chunks, lz] <;> omega) | exact shS _ _ | exact shM _ | exact shN | exact encM_clo _ | exact ⟨rfl, rfl⟩ | exact ⟨rfl, rfl, rfl⟩ | omega | (simp only [lz]; omega) | (simp; omega) | (simp [cloL, clo, catS, repl, cz, encR, encY, encS]; done) | (show chkGo _ _ _ _ _ = true; kernel_rfl)) | (simp [cloL, clo, catS, repl, cz, encR, encY, encS]; done) | skip)
      refine TDq.pureC c19 (by simp [cloL, clo, encR, encY, encSoc, encT, encS, cz]) rfl (And.intro rfl rfl) ?_
      (repeat' (first | (intro rx hrx; have hq := hsub1 hrx (by omega); subst hq; clear hrx) | (refine Ev.go ?_; conv => whnf) | refine And.intro ?_ ?_ | exact True.intro | exact rfl | (intro rx hrx; rw [IntWalk.i64_in _ (by omega)] at hrx) | (intro hcx; exfalso; omega) | intro _))
      all_goals (first | (refine ⟨?_⟩; show chkGo _ _ _ _ _ = true; kernel_rfl) | (refine ⟨?_⟩; first | rfl | exact List.cons_ne_nil _ _ | (show (_ : Nat) * _ ≤ _; simp [catS, repl, chunks, lz] <;> omega) | exact shS _ _ | exact shM _ | exact shN | exact encM_clo _ | exact ⟨rfl, rfl⟩ | exact ⟨rfl, rfl, rfl⟩ | omega | (simp only [lz]; omega) | (simp; omega) | (simp [cloL, clo, catS, repl, cz, encR, encY, encS]; done) | (show chkGo _ _ _ _ _ = true; kernel_rfl)) | (simp [cloL, clo, catS, repl, cz, encR, encY, encS]; done) | skip)
  · intro hr
    (repeat' (first | (refine Ev.go ?_; conv => whnf) | refine And.intro ?_ ?_ | exact True.intro | exact rfl | (intro rx hrx; rw [IntWalk.i64_in _ (by omega)] at hrx) | (intro hcx; exfalso; omega) | (intro hcx; exfalso; simp only [lz] at hcx; omega) | (intro ex hex; (first | obtain ⟨xx, hxx, rfl⟩ := ints_at hex | obtain ⟨xx, hxx, rfl⟩ := encYs_at hex | obtain ⟨xx, hxx, rfl⟩ := encRs_at hex); clear hex; try simp only [Int.toNat_natCast] at hxx) | intro _))
    refine TSq.pureC c19 (by simp [cloL, clo, encR, encY, encSoc, encT, encS, cz]) rfl (And.intro rfl rfl) ?_
    (repeat' (first | (refine Ev.go ?_; conv => whnf) | refine And.intro ?_ ?_ | exact True.intro | exact rfl | (intro rx hrx; rw [IntWalk.i64_in _ (by omega)] at hrx) | (intro hcx; exfalso; omega) | (intro hcx; exfalso; simp only [lz] at hcx; omega) | (intro ex hex; (first | obtain ⟨xx, hxx, rfl⟩ := ints_at hex | obtain ⟨xx, hxx, rfl⟩ := encYs_at hex | obtain ⟨xx, hxx, rfl⟩ := encRs_at hex); clear hex; try simp only [Int.toNat_natCast] at hxx) | intro _))
    try rfl
end Go.Proofs.Ythnaamkempmjkaa
