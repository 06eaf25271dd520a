/- CallCalls, the walk of the statement. -/
import Derived.Test.YthnaamkempmjkaaOc
import Derived.Test.YthnaamkempmjkaaNb
import Derived.Test.YthnaamkempmjkaaKfL14
set_option linter.unusedSimpArgs false
set_option linter.unusedVariables false
open Go Go.TV
namespace Go.Proofs.Ythnaamkempmjkaa

set_option maxHeartbeats 8000000 in
set_option maxRecDepth 100000 in
theorem c14 (s : Soc) (need : Int) (l : List Int) (hll : l.length ≤ maxLen) : PF Try.prog 14 [encSoc s, .int .i64 need, .sl 1 (ints l)] (· = .bool true) := by
  have hil := ints_len l
  refine PF.of (TF.ev fn_14 (Ev.at ?_))
  (repeat' (first | (refine Ev.go ?_; conv => whnf) | refine And.intro ?_ ?_ | exact True.intro | exact rfl | (intro rx hrx; rw [IntWalk.i64_in _ (by omega)] at hrx) | (intro hcx; exfalso; omega) | intro _))
  all_goals (try (exfalso; omega))
  refine TSq.pureBC (c18 s) cl rfl (And.intro rfl rfl) ?_ ?_ <;> intro hth
  · simp only [decide_eq_true_eq] at hth
    have b1 := c21 s (by omega) (by omega)
    have d35 := c35 s need (by omega) (by omega)
    have d23 := c23 s
    have d40 := c40 need 0 300000
    by_cases hl9 : l.length ≤ 9
    · have d41 := c41 l (by omega)
      have d49 := c49 s need l (by omega) (by omega) (by omega)
      by_cases hf : fault s = 0
      · rw [hf] at d23
        by_cases hw : within need 0 300000 = true
        · have hn : 0 ≤ need ∧ need ≤ 300000 := by simpa only [within, decide_eq_true_eq] using hw
          rw [hw] at d40
          rw [show proveR s need l = decide (l = (callsOf s [] need).1) by
            simp only [proveR, callsR_good hf hn, decide_true, Bool.true_and]
            rw [Bool.eq_iff_iff, decide_eq_true_eq, decide_eq_true_eq]; exact eq_comm] at d49
          rw [callsR_good hf hn] at d35
          have d32 := c32 s (by omega)
          have hp1 : 1 ≤ 2 ^ s.members.length := Nat.one_le_two_pow
          have d50 := c50 s (2 ^ s.members.length - 1) need (fault_ok hf).1 (fault_len hf).1 (by omega) hn
          rw [bitN_all _ _ rfl] at d50
          change PF Try.prog 50 _ (· = .tup [.sl 1 (ints (callsOf s [] need).1), .int .i64 (callsOf s [] need).2]) at d50
          have hcl := callsOf_len s [] need
          have d26 := c26 l (callsOf s [] need).1 (by omega) (by rw [hcl]; omega)
          have d26' := c26s (callsOf s [] need).1 (by rw [hcl]; omega)
          generalize (callsOf s [] need).1 = A at *
          generalize (callsOf s [] need).2 = p at *
          dsimp only at d35
          generalize decide (l = A) = bb at *
          generalize (2 ^ s.members.length - 1 : Nat) = who at *
          (repeat' (first | (refine Ev.go ?_; conv => whnf) | refine And.intro ?_ ?_ | exact True.intro | exact rfl | (intro rx hrx; rw [IntWalk.i64_in _ (by omega)] at hrx) | (intro hcx; exfalso; omega) | intro _))
          all_goals (try (exfalso; omega))
          refine TSq.pureC b1 cl rfl (And.intro rfl rfl) ?_
          (repeat' (first | (refine Ev.go ?_; conv => whnf) | refine And.intro ?_ ?_ | exact True.intro | exact rfl | (intro rx hrx; rw [IntWalk.i64_in _ (by omega)] at hrx) | (intro hcx; exfalso; omega) | intro _))
          all_goals (try (exfalso; omega))
          refine TSq.pureC d35 cl rfl (And.intro rfl rfl) ?_
          (repeat' (first | (refine Ev.go ?_; conv => whnf) | refine And.intro ?_ ?_ | exact True.intro | exact rfl | (intro rx hrx; rw [IntWalk.i64_in _ (by omega)] at hrx) | (intro hcx; exfalso; omega) | intro _))
          all_goals (try (exfalso; omega))
          refine TSq.pureC b1 cl rfl (And.intro rfl rfl) ?_
          (repeat' (first | (refine Ev.go ?_; conv => whnf) | refine And.intro ?_ ?_ | exact True.intro | exact rfl | (intro rx hrx; rw [IntWalk.i64_in _ (by omega)] at hrx) | (intro hcx; exfalso; omega) | intro _))
          all_goals (try (exfalso; omega))
          refine TSq.pureC d41 cl rfl (And.intro rfl rfl) ?_
          (repeat' (first | (refine Ev.go ?_; conv => whnf) | refine And.intro ?_ ?_ | exact True.intro | exact rfl | (intro rx hrx; rw [IntWalk.i64_in _ (by omega)] at hrx) | (intro hcx; exfalso; omega) | intro _))
          all_goals (try (exfalso; omega))
          refine TSq.pureC d49 cl rfl (And.intro rfl rfl) ?_
          (repeat' (first | (refine Ev.go ?_; conv => whnf) | refine And.intro ?_ ?_ | exact True.intro | exact rfl | (intro rx hrx; rw [IntWalk.i64_in _ (by omega)] at hrx) | (intro hcx; exfalso; omega) | intro _))
          all_goals (try (exfalso; omega))
          refine TSq.pureC d23 cl rfl (And.intro rfl rfl) ?_
          (repeat' (first | (refine Ev.go ?_; conv => whnf) | refine And.intro ?_ ?_ | exact True.intro | exact rfl | (intro rx hrx; rw [IntWalk.i64_in _ (by omega)] at hrx) | (intro hcx; exfalso; omega) | intro _))
          all_goals (try (exfalso; omega))
          refine TSq.pureC d40 cl rfl (And.intro rfl rfl) ?_
          (repeat' (first | (refine Ev.go ?_; conv => whnf) | refine And.intro ?_ ?_ | exact True.intro | exact rfl | (intro rx hrx; rw [IntWalk.i64_in _ (by omega)] at hrx) | (intro hcx; exfalso; omega) | intro _))
          refine TDq.pureC d32 cl rfl (And.intro rfl rfl) ?_
          (repeat' (first | (refine Ev.go ?_; conv => whnf) | refine And.intro ?_ ?_ | exact True.intro | exact rfl | (intro rx hrx; rw [IntWalk.i64_in _ (by omega)] at hrx) | (intro hcx; exfalso; omega) | intro _))
          refine TDq.pureC d50 cl rfl (And.intro rfl rfl) ?_
          (repeat' (first | (refine Ev.go ?_; conv => whnf) | refine And.intro ?_ ?_ | exact True.intro | exact rfl | (intro rx hrx; rw [IntWalk.i64_in _ (by omega)] at hrx) | (intro hcx; exfalso; omega) | intro _))
          all_goals (first | (refine ⟨?_⟩; exact vk) | exact cl | skip)
          refine TSq.pureC d26' cl rfl (And.intro rfl rfl) ?_
          (repeat' (first | (refine Ev.go ?_; conv => whnf) | refine And.intro ?_ ?_ | exact True.intro | exact rfl | (intro rx hrx; rw [IntWalk.i64_in _ (by omega)] at hrx) | (intro hcx; exfalso; omega) | intro _))
          all_goals (try (exfalso; omega))
          refine TSq.pureC d26 cl rfl (And.intro rfl rfl) ?_
          (repeat' (first | (refine Ev.go ?_; conv => whnf) | refine And.intro ?_ ?_ | exact True.intro | exact rfl | (intro rx hrx; rw [IntWalk.i64_in _ (by omega)] at hrx) | (intro hcx; exfalso; omega) | intro _))
          all_goals (first | (refine ⟨?_⟩; exact vc) | exact cl | skip)
          all_goals (try (rename_i h; exact absurd rfl h))
          all_goals (try exact ⟨True.intro⟩)
          refine TSq.pureC c19 cl rfl (And.intro rfl rfl) ?_
          (repeat' (first | (refine Ev.go ?_; conv => whnf) | refine And.intro ?_ ?_ | exact True.intro | exact rfl | (intro rx hrx; rw [IntWalk.i64_in _ (by omega)] at hrx) | (intro hcx; exfalso; omega) | intro _))
          try rfl
        · have hwf : within need 0 300000 = false := by simpa using hw
          rw [hwf] at d40
          have hR : callsR s need = ([], 0, 2) := by simp only [callsR, if_neg (show ¬ fault s ≠ 0 by simpa using hf), if_neg hw]
          rw [show proveR s need l = false by simp [proveR, hR]] at d49
          rw [hR] at d35
          dsimp only at d35
          have hi0 : (ints []).length = 0 := rfl
          (repeat' (first | (refine Ev.go ?_; conv => whnf) | refine And.intro ?_ ?_ | exact True.intro | exact rfl | (intro rx hrx; rw [IntWalk.i64_in _ (by omega)] at hrx) | (intro hcx; exfalso; omega) | intro _))
          all_goals (try (exfalso; omega))
          refine TSq.pureC b1 cl rfl (And.intro rfl rfl) ?_
          (repeat' (first | (refine Ev.go ?_; conv => whnf) | refine And.intro ?_ ?_ | exact True.intro | exact rfl | (intro rx hrx; rw [IntWalk.i64_in _ (by omega)] at hrx) | (intro hcx; exfalso; omega) | intro _))
          all_goals (try (exfalso; omega))
          refine TSq.pureC d35 cl rfl (And.intro rfl rfl) ?_
          (repeat' (first | (refine Ev.go ?_; conv => whnf) | refine And.intro ?_ ?_ | exact True.intro | exact rfl | (intro rx hrx; rw [IntWalk.i64_in _ (by omega)] at hrx) | (intro hcx; exfalso; omega) | intro _))
          all_goals (try (exfalso; omega))
          refine TSq.pureC b1 cl rfl (And.intro rfl rfl) ?_
          (repeat' (first | (refine Ev.go ?_; conv => whnf) | refine And.intro ?_ ?_ | exact True.intro | exact rfl | (intro rx hrx; rw [IntWalk.i64_in _ (by omega)] at hrx) | (intro hcx; exfalso; omega) | intro _))
          all_goals (try (exfalso; omega))
          refine TSq.pureC d41 cl rfl (And.intro rfl rfl) ?_
          (repeat' (first | (refine Ev.go ?_; conv => whnf) | refine And.intro ?_ ?_ | exact True.intro | exact rfl | (intro rx hrx; rw [IntWalk.i64_in _ (by omega)] at hrx) | (intro hcx; exfalso; omega) | intro _))
          all_goals (try (exfalso; omega))
          refine TSq.pureC d49 cl rfl (And.intro rfl rfl) ?_
          (repeat' (first | (refine Ev.go ?_; conv => whnf) | refine And.intro ?_ ?_ | exact True.intro | exact rfl | (intro rx hrx; rw [IntWalk.i64_in _ (by omega)] at hrx) | (intro hcx; exfalso; omega) | intro _))
          all_goals (try (exfalso; omega))
          refine TSq.pureC d23 cl rfl (And.intro rfl rfl) ?_
          (repeat' (first | (refine Ev.go ?_; conv => whnf) | refine And.intro ?_ ?_ | exact True.intro | exact rfl | (intro rx hrx; rw [IntWalk.i64_in _ (by omega)] at hrx) | (intro hcx; exfalso; omega) | intro _))
          all_goals (try (exfalso; omega))
          refine TSq.pureC d40 cl rfl (And.intro rfl rfl) ?_
          (repeat' (first | (refine Ev.go ?_; conv => whnf) | refine And.intro ?_ ?_ | exact True.intro | exact rfl | (intro rx hrx; rw [IntWalk.i64_in _ (by omega)] at hrx) | (intro hcx; exfalso; omega) | intro _))
          all_goals (try (exfalso; omega))
          refine TSq.pureC c19 cl rfl (And.intro rfl rfl) ?_
          (repeat' (first | (refine Ev.go ?_; conv => whnf) | refine And.intro ?_ ?_ | exact True.intro | exact rfl | (intro rx hrx; rw [IntWalk.i64_in _ (by omega)] at hrx) | (intro hcx; exfalso; omega) | intro _))
          all_goals (first | rfl | (exfalso; omega))
      · have hR : callsR s need = ([], 0, fault s) := by simp only [callsR, if_pos hf]
        rw [show proveR s need l = false by simp [proveR, hR, hf]] at d49
        rw [hR] at d35
        dsimp only at d35
        have hi0 : (ints []).length = 0 := rfl
        generalize fault s = ft at *
        (repeat' (first | (refine Ev.go ?_; conv => whnf) | refine And.intro ?_ ?_ | exact True.intro | exact rfl | (intro rx hrx; rw [IntWalk.i64_in _ (by omega)] at hrx) | (intro hcx; exfalso; omega) | intro _))
        all_goals (try (exfalso; omega))
        refine TSq.pureC b1 cl rfl (And.intro rfl rfl) ?_
        (repeat' (first | (refine Ev.go ?_; conv => whnf) | refine And.intro ?_ ?_ | exact True.intro | exact rfl | (intro rx hrx; rw [IntWalk.i64_in _ (by omega)] at hrx) | (intro hcx; exfalso; omega) | intro _))
        all_goals (try (exfalso; omega))
        refine TSq.pureC d35 cl rfl (And.intro rfl rfl) ?_
        (repeat' (first | (refine Ev.go ?_; conv => whnf) | refine And.intro ?_ ?_ | exact True.intro | exact rfl | (intro rx hrx; rw [IntWalk.i64_in _ (by omega)] at hrx) | (intro hcx; exfalso; omega) | intro _))
        all_goals (try (exfalso; omega))
        refine TSq.pureC b1 cl rfl (And.intro rfl rfl) ?_
        (repeat' (first | (refine Ev.go ?_; conv => whnf) | refine And.intro ?_ ?_ | exact True.intro | exact rfl | (intro rx hrx; rw [IntWalk.i64_in _ (by omega)] at hrx) | (intro hcx; exfalso; omega) | intro _))
        all_goals (try (exfalso; omega))
        refine TSq.pureC d41 cl rfl (And.intro rfl rfl) ?_
        (repeat' (first | (refine Ev.go ?_; conv => whnf) | refine And.intro ?_ ?_ | exact True.intro | exact rfl | (intro rx hrx; rw [IntWalk.i64_in _ (by omega)] at hrx) | (intro hcx; exfalso; omega) | intro _))
        all_goals (try (exfalso; omega))
        refine TSq.pureC d49 cl rfl (And.intro rfl rfl) ?_
        (repeat' (first | (refine Ev.go ?_; conv => whnf) | refine And.intro ?_ ?_ | exact True.intro | exact rfl | (intro rx hrx; rw [IntWalk.i64_in _ (by omega)] at hrx) | (intro hcx; exfalso; omega) | intro _))
        all_goals (try (exfalso; omega))
        refine TSq.pureC d23 cl rfl (And.intro rfl rfl) ?_
        (repeat' (first | (refine Ev.go ?_; conv => whnf) | refine And.intro ?_ ?_ | exact True.intro | exact rfl | (intro rx hrx; rw [IntWalk.i64_in _ (by omega)] at hrx) | (intro hcx; exfalso; omega) | intro _))
        all_goals (try (exfalso; omega))
        refine TSq.pureC c19 cl rfl (And.intro rfl rfl) ?_
        (repeat' (first | (refine Ev.go ?_; conv => whnf) | refine And.intro ?_ ?_ | exact True.intro | exact rfl | (intro rx hrx; rw [IntWalk.i64_in _ (by omega)] at hrx) | (intro hcx; exfalso; omega) | intro _))
        all_goals (first | rfl | (exfalso; omega))
    · (repeat' (first | (refine Ev.go ?_; conv => whnf) | refine And.intro ?_ ?_ | exact True.intro | exact rfl | (intro rx hrx; rw [IntWalk.i64_in _ (by omega)] at hrx) | (intro hcx; exfalso; omega) | intro _))
      all_goals (try (exfalso; omega))
      refine TSq.pureC c19 cl rfl (And.intro rfl rfl) ?_
      (repeat' (first | (refine Ev.go ?_; conv => whnf) | refine And.intro ?_ ?_ | exact True.intro | exact rfl | (intro rx hrx; rw [IntWalk.i64_in _ (by omega)] at hrx) | (intro hcx; exfalso; omega) | intro _))
      try rfl
  · (repeat' (first | (refine Ev.go ?_; conv => whnf) | refine And.intro ?_ ?_ | exact True.intro | exact rfl | (intro rx hrx; rw [IntWalk.i64_in _ (by omega)] at hrx) | (intro hcx; exfalso; omega) | intro _))
    refine TSq.pureC c19 cl rfl (And.intro rfl rfl) ?_
    (repeat' (first | (refine Ev.go ?_; conv => whnf) | refine And.intro ?_ ?_ | exact True.intro | exact rfl | (intro rx hrx; rw [IntWalk.i64_in _ (by omega)] at hrx) | (intro hcx; exfalso; omega) | intro _))
    try rfl
end Go.Proofs.Ythnaamkempmjkaa
