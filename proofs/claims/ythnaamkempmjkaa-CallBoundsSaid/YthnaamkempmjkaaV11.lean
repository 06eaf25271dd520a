/- CallBounds, the walk of the statement. -/
import Derived.Test.YthnaamkempmjkaaOf
import Derived.Test.YthnaamkempmjkaaKt
import Derived.Test.YthnaamkempmjkaaKfL11
set_option linter.unusedSimpArgs false
set_option linter.unusedVariables false
open Go Go.TV
namespace Go.Proofs.Ythnaamkempmjkaa

set_option maxHeartbeats 8000000 in
set_option maxRecDepth 100000 in
theorem c11 (s : Soc) (l : List Int) (hll : l.length ≤ maxLen) : PF Try.prog 11 [encSoc s, .sl 1 (ints l)] (· = .bool true) := by
  have hil := ints_len l
  refine PF.of (TF.ev fn_11 (Ev.at ?_))
  (repeat' (first | (refine Ev.go ?_; conv => whnf) | refine And.intro ?_ ?_ | exact True.intro | exact rfl | (intro rx hrx; rw [IntWalk.i64_in _ (by omega)] at hrx) | (intro hcx; exfalso; omega) | intro _))
  refine TSq.pureBC (c18 s) cl rfl (And.intro rfl rfl) ?_ ?_ <;> intro hth
  · simp only [decide_eq_true_eq] at hth
    by_cases hl9 : l.length ≤ 9
    · have b1 := c21 s (by omega) (by omega)
      have d29 := c29 s (by omega) (by omega)
      have d42 := c42 s (by omega) (by omega)
      have d30 := c30 s l (by omega) (by omega) (by omega)
      have d41 := c41 l (by omega)
      have d23 := c23 s
      have d45 := c45 s l (by omega) (by omega)
      by_cases hf : fault s = 0
      · have h1 := (fault_ok hf).2.2.2.2
        have hl5 := (fault_len hf).1
        simp only [withoutR, if_neg (show ¬ fault s ≠ 0 by simpa using hf), if_pos (listed_nil s)] at d29
        simp only [shortR, if_neg (show ¬ fault s ≠ 0 by simpa using hf)] at d42
        have d43 := c43 s [] hf
        have hbl := boundsOf_len (out := []) hf
        have d44 := c44 (boundsOf s []) (by omega)
        have d33 := c33 (shortOf s [])
        have d32 := c32 s (by omega)
        rw [← bitN_all _ _ rfl, valB_bitN (by have : 1 ≤ 2 ^ s.members.length := Nat.one_le_two_pow
                                              omega)] at d43
        rw [hf] at d23
        generalize 2 ^ s.members.length - 1 = who at *
        cases hls : s.listed l
        · rw [hls] at d45
          have hi0 : (encRs []).length = 0 := rfl
          simp only [withoutR, if_neg (show ¬ fault s ≠ 0 by simpa using hf), hls, Bool.false_eq_true, if_false] at d30
          generalize boundsOf s [] = B at *
          generalize shortOf s [] = C at *
          (repeat' (first | (refine Ev.go ?_; conv => whnf) | refine And.intro ?_ ?_ | exact True.intro | exact rfl | (intro rx hrx; rw [IntWalk.i64_in _ (by omega)] at hrx) | (intro hcx; exfalso; omega) | intro _))
          all_goals (try (exfalso; omega))
          refine TSq.pureC b1 cl rfl (And.intro rfl rfl) ?_
          (repeat' (first | (refine Ev.go ?_; conv => whnf) | refine And.intro ?_ ?_ | exact True.intro | exact rfl | (intro rx hrx; rw [IntWalk.i64_in _ (by omega)] at hrx) | (intro hcx; exfalso; omega) | intro _))
          refine TSq.pureC d29 cl rfl (And.intro rfl rfl) ?_
          (repeat' (first | (refine Ev.go ?_; conv => whnf) | refine And.intro ?_ ?_ | exact True.intro | exact rfl | (intro rx hrx; rw [IntWalk.i64_in _ (by omega)] at hrx) | (intro hcx; exfalso; omega) | intro _))
          refine TSq.pureC b1 cl rfl (And.intro rfl rfl) ?_
          (repeat' (first | (refine Ev.go ?_; conv => whnf) | refine And.intro ?_ ?_ | exact True.intro | exact rfl | (intro rx hrx; rw [IntWalk.i64_in _ (by omega)] at hrx) | (intro hcx; exfalso; omega) | intro _))
          refine TSq.pureC d42 cl rfl (And.intro rfl rfl) ?_
          (repeat' (first | (refine Ev.go ?_; conv => whnf) | refine And.intro ?_ ?_ | exact True.intro | exact rfl | (intro rx hrx; rw [IntWalk.i64_in _ (by omega)] at hrx) | (intro hcx; exfalso; omega) | intro _))
          refine TSq.pureC b1 cl rfl (And.intro rfl rfl) ?_
          (repeat' (first | (refine Ev.go ?_; conv => whnf) | refine And.intro ?_ ?_ | exact True.intro | exact rfl | (intro rx hrx; rw [IntWalk.i64_in _ (by omega)] at hrx) | (intro hcx; exfalso; omega) | intro _))
          refine TSq.pureC d41 cl rfl (And.intro rfl rfl) ?_
          (repeat' (first | (refine Ev.go ?_; conv => whnf) | refine And.intro ?_ ?_ | exact True.intro | exact rfl | (intro rx hrx; rw [IntWalk.i64_in _ (by omega)] at hrx) | (intro hcx; exfalso; omega) | intro _))
          refine TSq.pureC d30 cl rfl (And.intro rfl rfl) ?_
          (repeat' (first | (refine Ev.go ?_; conv => whnf) | refine And.intro ?_ ?_ | exact True.intro | exact rfl | (intro rx hrx; rw [IntWalk.i64_in _ (by omega)] at hrx) | (intro hcx; exfalso; omega) | intro _))
          refine TSq.pureC d23 cl rfl (And.intro rfl rfl) ?_
          (repeat' (first | (refine Ev.go ?_; conv => whnf) | refine And.intro ?_ ?_ | exact True.intro | exact rfl | (intro rx hrx; rw [IntWalk.i64_in _ (by omega)] at hrx) | (intro hcx; exfalso; omega) | intro _))
          all_goals (try (exfalso; omega))
          refine TDq.pureC d32 cl rfl (And.intro rfl rfl) ?_
          (repeat' (first | (refine Ev.go ?_; conv => whnf) | refine And.intro ?_ ?_ | exact True.intro | exact rfl | (intro rx hrx; rw [IntWalk.i64_in _ (by omega)] at hrx) | (intro hcx; exfalso; omega) | intro _))
          refine TDq.pureC d43 cl rfl (And.intro rfl rfl) ?_
          (repeat' (first | (refine Ev.go ?_; conv => whnf) | refine And.intro ?_ ?_ | exact True.intro | exact rfl | (intro rx hrx; rw [IntWalk.i64_in _ (by omega)] at hrx) | (intro hcx; exfalso; omega) | intro _))
          all_goals (first | (refine ⟨?_⟩; exact vk) | exact cl | skip)
          refine TDq.pureC d44 cl rfl (And.intro rfl rfl) ?_
          (repeat' (first | (refine Ev.go ?_; conv => whnf) | refine And.intro ?_ ?_ | exact True.intro | exact rfl | (intro rx hrx; rw [IntWalk.i64_in _ (by omega)] at hrx) | (intro hcx; exfalso; omega) | intro _))
          all_goals (first | (refine ⟨?_⟩; exact vk) | exact cl | skip)
          refine TDq.pureC d33 cl rfl (And.intro rfl rfl) ?_
          (repeat' (first | (refine Ev.go ?_; conv => whnf) | refine And.intro ?_ ?_ | exact True.intro | exact rfl | (intro rx hrx; rw [IntWalk.i64_in _ (by omega)] at hrx) | (intro hcx; exfalso; omega) | intro _))
          all_goals (first | (refine ⟨?_⟩; exact vk) | exact cl | skip)
          all_goals (try (rename_i h; exact absurd rfl h))
          refine TSq.pureC d45 cl rfl (And.intro rfl rfl) ?_
          (repeat' (first | (refine Ev.go ?_; conv => whnf) | refine And.intro ?_ ?_ | exact True.intro | exact rfl | (intro rx hrx; rw [IntWalk.i64_in _ (by omega)] at hrx) | (intro hcx; exfalso; omega) | intro _))
          all_goals (try (exfalso; omega))
          refine TSq.pureC c19 cl rfl (And.intro rfl rfl) ?_
          (repeat' (first | (refine Ev.go ?_; conv => whnf) | refine And.intro ?_ ?_ | exact True.intro | exact rfl | (intro rx hrx; rw [IntWalk.i64_in _ (by omega)] at hrx) | (intro hcx; exfalso; omega) | intro _))
          try rfl
        · rw [hls] at d45
          simp only [withoutR, if_neg (show ¬ fault s ≠ 0 by simpa using hf), hls, if_true] at d30
          have d46 := c46 s l hl5 hls
          have d43' := c43 s l hf
          have hbl' := boundsOf_len (out := l) hf
          have d44' := c44 (boundsOf s l) (by omega)
          generalize boundsOf s l = B' at *
          generalize shortOf s l = C' at *
          generalize boundsOf s [] = B at *
          generalize shortOf s [] = C at *
          generalize valB (askF s.members l) s.members.length = who' at *
          (repeat' (first | (refine Ev.go ?_; conv => whnf) | refine And.intro ?_ ?_ | exact True.intro | exact rfl | (intro rx hrx; rw [IntWalk.i64_in _ (by omega)] at hrx) | (intro hcx; exfalso; omega) | intro _))
          all_goals (try (exfalso; omega))
          refine TSq.pureC b1 cl rfl (And.intro rfl rfl) ?_
          (repeat' (first | (refine Ev.go ?_; conv => whnf) | refine And.intro ?_ ?_ | exact True.intro | exact rfl | (intro rx hrx; rw [IntWalk.i64_in _ (by omega)] at hrx) | (intro hcx; exfalso; omega) | intro _))
          refine TSq.pureC d29 cl rfl (And.intro rfl rfl) ?_
          (repeat' (first | (refine Ev.go ?_; conv => whnf) | refine And.intro ?_ ?_ | exact True.intro | exact rfl | (intro rx hrx; rw [IntWalk.i64_in _ (by omega)] at hrx) | (intro hcx; exfalso; omega) | intro _))
          refine TSq.pureC b1 cl rfl (And.intro rfl rfl) ?_
          (repeat' (first | (refine Ev.go ?_; conv => whnf) | refine And.intro ?_ ?_ | exact True.intro | exact rfl | (intro rx hrx; rw [IntWalk.i64_in _ (by omega)] at hrx) | (intro hcx; exfalso; omega) | intro _))
          refine TSq.pureC d42 cl rfl (And.intro rfl rfl) ?_
          (repeat' (first | (refine Ev.go ?_; conv => whnf) | refine And.intro ?_ ?_ | exact True.intro | exact rfl | (intro rx hrx; rw [IntWalk.i64_in _ (by omega)] at hrx) | (intro hcx; exfalso; omega) | intro _))
          refine TSq.pureC b1 cl rfl (And.intro rfl rfl) ?_
          (repeat' (first | (refine Ev.go ?_; conv => whnf) | refine And.intro ?_ ?_ | exact True.intro | exact rfl | (intro rx hrx; rw [IntWalk.i64_in _ (by omega)] at hrx) | (intro hcx; exfalso; omega) | intro _))
          refine TSq.pureC d41 cl rfl (And.intro rfl rfl) ?_
          (repeat' (first | (refine Ev.go ?_; conv => whnf) | refine And.intro ?_ ?_ | exact True.intro | exact rfl | (intro rx hrx; rw [IntWalk.i64_in _ (by omega)] at hrx) | (intro hcx; exfalso; omega) | intro _))
          refine TSq.pureC d30 cl rfl (And.intro rfl rfl) ?_
          (repeat' (first | (refine Ev.go ?_; conv => whnf) | refine And.intro ?_ ?_ | exact True.intro | exact rfl | (intro rx hrx; rw [IntWalk.i64_in _ (by omega)] at hrx) | (intro hcx; exfalso; omega) | intro _))
          refine TSq.pureC d23 cl rfl (And.intro rfl rfl) ?_
          (repeat' (first | (refine Ev.go ?_; conv => whnf) | refine And.intro ?_ ?_ | exact True.intro | exact rfl | (intro rx hrx; rw [IntWalk.i64_in _ (by omega)] at hrx) | (intro hcx; exfalso; omega) | intro _))
          all_goals (try (exfalso; omega))
          refine TDq.pureC d32 cl rfl (And.intro rfl rfl) ?_
          (repeat' (first | (refine Ev.go ?_; conv => whnf) | refine And.intro ?_ ?_ | exact True.intro | exact rfl | (intro rx hrx; rw [IntWalk.i64_in _ (by omega)] at hrx) | (intro hcx; exfalso; omega) | intro _))
          refine TDq.pureC d43 cl rfl (And.intro rfl rfl) ?_
          (repeat' (first | (refine Ev.go ?_; conv => whnf) | refine And.intro ?_ ?_ | exact True.intro | exact rfl | (intro rx hrx; rw [IntWalk.i64_in _ (by omega)] at hrx) | (intro hcx; exfalso; omega) | intro _))
          all_goals (first | (refine ⟨?_⟩; exact vk) | exact cl | skip)
          refine TDq.pureC d44 cl rfl (And.intro rfl rfl) ?_
          (repeat' (first | (refine Ev.go ?_; conv => whnf) | refine And.intro ?_ ?_ | exact True.intro | exact rfl | (intro rx hrx; rw [IntWalk.i64_in _ (by omega)] at hrx) | (intro hcx; exfalso; omega) | intro _))
          all_goals (first | (refine ⟨?_⟩; exact vk) | exact cl | skip)
          refine TDq.pureC d33 cl rfl (And.intro rfl rfl) ?_
          (repeat' (first | (refine Ev.go ?_; conv => whnf) | refine And.intro ?_ ?_ | exact True.intro | exact rfl | (intro rx hrx; rw [IntWalk.i64_in _ (by omega)] at hrx) | (intro hcx; exfalso; omega) | intro _))
          all_goals (first | (refine ⟨?_⟩; exact vk) | exact cl | skip)
          all_goals (try (rename_i h; exact absurd rfl h))
          refine TSq.pureC d45 cl rfl (And.intro rfl rfl) ?_
          (repeat' (first | (refine Ev.go ?_; conv => whnf) | refine And.intro ?_ ?_ | exact True.intro | exact rfl | (intro rx hrx; rw [IntWalk.i64_in _ (by omega)] at hrx) | (intro hcx; exfalso; omega) | intro _))
          all_goals (try (exfalso; omega))
          refine TDq.pureC d46 cl rfl (And.intro rfl rfl) ?_
          (repeat' (first | (refine Ev.go ?_; conv => whnf) | refine And.intro ?_ ?_ | exact True.intro | exact rfl | (intro rx hrx; rw [IntWalk.i64_in _ (by omega)] at hrx) | (intro hcx; exfalso; omega) | intro _))
          refine TDq.pureC d43' cl rfl (And.intro rfl rfl) ?_
          (repeat' (first | (refine Ev.go ?_; conv => whnf) | refine And.intro ?_ ?_ | exact True.intro | exact rfl | (intro rx hrx; rw [IntWalk.i64_in _ (by omega)] at hrx) | (intro hcx; exfalso; omega) | intro _))
          all_goals (first | (refine ⟨?_⟩; exact vk) | exact cl | skip)
          refine TSq.pureC d44' cl rfl (And.intro rfl rfl) ?_
          (repeat' (first | (refine Ev.go ?_; conv => whnf) | refine And.intro ?_ ?_ | exact True.intro | exact rfl | (intro rx hrx; rw [IntWalk.i64_in _ (by omega)] at hrx) | (intro hcx; exfalso; omega) | intro _))
          refine TSq.pureC c19 cl rfl (And.intro rfl rfl) ?_
          (repeat' (first | (refine Ev.go ?_; conv => whnf) | refine And.intro ?_ ?_ | exact True.intro | exact rfl | (intro rx hrx; rw [IntWalk.i64_in _ (by omega)] at hrx) | (intro hcx; exfalso; omega) | intro _))
          try rfl
      · simp only [withoutR, if_pos (show fault s ≠ 0 from hf)] at d29 d30
        simp only [shortR, if_pos (show fault s ≠ 0 from hf)] at d42
        have hi0 : (encRs []).length = 0 := rfl
        generalize fault s = ft at *
        (repeat' (first | (refine Ev.go ?_; conv => whnf) | refine And.intro ?_ ?_ | exact True.intro | exact rfl | (intro rx hrx; rw [IntWalk.i64_in _ (by omega)] at hrx) | (intro hcx; exfalso; omega) | intro _))
        all_goals (try (exfalso; omega))
        refine TSq.pureC b1 cl rfl (And.intro rfl rfl) ?_
        (repeat' (first | (refine Ev.go ?_; conv => whnf) | refine And.intro ?_ ?_ | exact True.intro | exact rfl | (intro rx hrx; rw [IntWalk.i64_in _ (by omega)] at hrx) | (intro hcx; exfalso; omega) | intro _))
        refine TSq.pureC d29 cl rfl (And.intro rfl rfl) ?_
        (repeat' (first | (refine Ev.go ?_; conv => whnf) | refine And.intro ?_ ?_ | exact True.intro | exact rfl | (intro rx hrx; rw [IntWalk.i64_in _ (by omega)] at hrx) | (intro hcx; exfalso; omega) | intro _))
        refine TSq.pureC b1 cl rfl (And.intro rfl rfl) ?_
        (repeat' (first | (refine Ev.go ?_; conv => whnf) | refine And.intro ?_ ?_ | exact True.intro | exact rfl | (intro rx hrx; rw [IntWalk.i64_in _ (by omega)] at hrx) | (intro hcx; exfalso; omega) | intro _))
        refine TSq.pureC d42 cl rfl (And.intro rfl rfl) ?_
        (repeat' (first | (refine Ev.go ?_; conv => whnf) | refine And.intro ?_ ?_ | exact True.intro | exact rfl | (intro rx hrx; rw [IntWalk.i64_in _ (by omega)] at hrx) | (intro hcx; exfalso; omega) | intro _))
        refine TSq.pureC b1 cl rfl (And.intro rfl rfl) ?_
        (repeat' (first | (refine Ev.go ?_; conv => whnf) | refine And.intro ?_ ?_ | exact True.intro | exact rfl | (intro rx hrx; rw [IntWalk.i64_in _ (by omega)] at hrx) | (intro hcx; exfalso; omega) | intro _))
        refine TSq.pureC d41 cl rfl (And.intro rfl rfl) ?_
        (repeat' (first | (refine Ev.go ?_; conv => whnf) | refine And.intro ?_ ?_ | exact True.intro | exact rfl | (intro rx hrx; rw [IntWalk.i64_in _ (by omega)] at hrx) | (intro hcx; exfalso; omega) | intro _))
        refine TSq.pureC d30 cl rfl (And.intro rfl rfl) ?_
        (repeat' (first | (refine Ev.go ?_; conv => whnf) | refine And.intro ?_ ?_ | exact True.intro | exact rfl | (intro rx hrx; rw [IntWalk.i64_in _ (by omega)] at hrx) | (intro hcx; exfalso; omega) | intro _))
        refine TSq.pureC d23 cl rfl (And.intro rfl rfl) ?_
        (repeat' (first | (refine Ev.go ?_; conv => whnf) | refine And.intro ?_ ?_ | exact True.intro | exact rfl | (intro rx hrx; rw [IntWalk.i64_in _ (by omega)] at hrx) | (intro hcx; exfalso; omega) | intro _))
        all_goals (try (exfalso; omega))
        all_goals (first | (refine ⟨?_⟩; exact vc) | exact cl | skip)
        all_goals (try (rename_i h; exact absurd rfl h))
        refine TSq.pureC c19 cl rfl (And.intro rfl rfl) ?_
        (repeat' (first | (refine Ev.go ?_; conv => whnf) | refine And.intro ?_ ?_ | exact True.intro | exact rfl | (intro rx hrx; rw [IntWalk.i64_in _ (by omega)] at hrx) | (intro hcx; exfalso; omega) | intro _))
        try rfl
    · (repeat' (first | (refine Ev.go ?_; conv => whnf) | refine And.intro ?_ ?_ | exact True.intro | exact rfl | (intro rx hrx; rw [IntWalk.i64_in _ (by omega)] at hrx) | (intro hcx; exfalso; omega) | intro _))
      all_goals (try (exfalso; omega))
      refine TSq.pureC c19 cl rfl (And.intro rfl rfl) ?_
      (repeat' (first | (refine Ev.go ?_; conv => whnf) | refine And.intro ?_ ?_ | exact True.intro | exact rfl | (intro rx hrx; rw [IntWalk.i64_in _ (by omega)] at hrx) | (intro hcx; exfalso; omega) | intro _))
      try rfl
  · (repeat' (first | (refine Ev.go ?_; conv => whnf) | refine And.intro ?_ ?_ | exact True.intro | exact rfl | (intro rx hrx; rw [IntWalk.i64_in _ (by omega)] at hrx) | (intro hcx; exfalso; omega) | intro _))
    refine TSq.pureC c19 cl rfl (And.intro rfl rfl) ?_
    (repeat' (first | (refine Ev.go ?_; conv => whnf) | refine And.intro ?_ ?_ | exact True.intro | exact rfl | (intro rx hrx; rw [IntWalk.i64_in _ (by omega)] at hrx) | (intro hcx; exfalso; omega) | intro _))
    try rfl
end Go.Proofs.Ythnaamkempmjkaa
