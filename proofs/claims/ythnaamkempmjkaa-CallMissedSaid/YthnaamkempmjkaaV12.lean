/- CallMissed, the walk of the statement. -/
import Derived.Test.YthnaamkempmjkaaOh
import Derived.Test.YthnaamkempmjkaaKt
import Derived.Test.YthnaamkempmjkaaKfL12
set_option linter.unusedSimpArgs false
set_option linter.unusedVariables false
open Go Go.TV
namespace Go.Proofs.Ythnaamkempmjkaa

set_option maxHeartbeats 8000000 in
set_option maxRecDepth 100000 in
theorem c12 (s : Soc) (bits : Int) (hbt : 0 ≤ bits ∧ bits ≤ 255) : PF Try.prog 12 [encSoc s, .int .u8 bits] (· = .bool true) := by
  obtain ⟨b, rfl⟩ := Int.eq_ofNat_of_zero_le hbt.1
  refine PF.of (TF.ev fn_12 (Ev.at ?_))
  (repeat' (first | (refine Ev.go ?_; conv => whnf) | refine And.intro ?_ ?_ | exact True.intro | exact rfl | (intro rx hrx; rw [IntWalk.i64_in _ (by omega)] at hrx) | (intro hcx; exfalso; omega) | (intro hcx; exfalso; simp only [lz] at hcx; omega) | intro _))
  refine TSq.pureBC (c27 s) cl rfl (And.intro rfl rfl) ?_ ?_
  · intro hr
    have h0 : fault s = 0 := by simpa [ready] using hr
    have hl := fault_len h0
    have b1 := c21 s (by omega) (by omega)
    have d22 := c22 s (by omega) (by omega)
    have bE := c32 s (by omega)
    have hsub2 : ∀ {x : Int}, x = IntKind.i64.wrap (b : Int) → (0 : Int) ≤ 0 → x = b := fun h _ => by rw [h, IntWalk.i64_in _ (by omega)]
    have hp2' : 2 ^ s.members.length ≤ 32 := Nat.pow_le_pow_right (n := 2) (by omega) hl.1
    have hp1 : 1 ≤ 2 ^ s.members.length := Nat.one_le_two_pow
    have hsub3 : ∀ {x : Int}, x = IntKind.i64.wrap ((BitVec.ofInt IntKind.i64.bits (b : Int) &&& BitVec.ofInt IntKind.i64.bits ((2 ^ s.members.length - 1 : Nat) : Int)).toNat : Int) → (0 : Int) ≤ 0 → x = ((b % 2 ^ s.members.length : Nat) : Int) := fun h _ => by
      rw [and_n h (by omega) (by omega), and_low]
    have hom : b % 2 ^ s.members.length < 2 ^ s.members.length := Nat.mod_lt _ hp1
    have d47 := c47 s (b % 2 ^ s.members.length) h0 (by omega)
    have d31 := c31 (b % 2 ^ s.members.length) (by omega)
    have hbl := bitsN_more hom (10 - s.members.length)
    rw [show s.members.length + (10 - s.members.length) = 10 by omega] at hbl
    rw [hbl] at d31
    have hin : bitsN (b % 2 ^ s.members.length) s.members.length ∈ allC s.members.length := bitsN_allC
    have hbn := bitsN_len (b % 2 ^ s.members.length) s.members.length
    have hm := missedR_ok h0
    cases hf : (allC s.members.length).find? (goodM s) with
    | none =>
      rw [hf] at hm
      dsimp only at hm
      rw [List.find?_eq_none] at hf
      rw [show goodM s (bitsN (b % 2 ^ s.members.length) s.members.length) = false by simpa using hf _ hin] at d47
      rw [hm] at d22
      dsimp only at d22
      generalize hq : (2 ^ s.members.length - 1 : Nat) = q at *
      generalize ho : b % 2 ^ s.members.length = o at *
      (repeat' (first | (intro rx hrx; have hq := hsub2 hrx (by omega); subst hq; clear hrx) | (intro rx hrx; have hq := hsub3 hrx (by omega); subst hq; clear hrx) | (refine Ev.go ?_; conv => whnf) | refine And.intro ?_ ?_ | exact True.intro | exact rfl | (intro rx hrx; rw [IntWalk.i64_in _ (by omega)] at hrx) | (intro hcx; exfalso; omega) | intro _))
      refine TSq.pureC b1 cl rfl (And.intro rfl rfl) ?_
      (repeat' (first | (intro rx hrx; have hq := hsub2 hrx (by omega); subst hq; clear hrx) | (intro rx hrx; have hq := hsub3 hrx (by omega); subst hq; clear hrx) | (refine Ev.go ?_; conv => whnf) | refine And.intro ?_ ?_ | exact True.intro | exact rfl | (intro rx hrx; rw [IntWalk.i64_in _ (by omega)] at hrx) | (intro hcx; exfalso; omega) | intro _))
      refine TSq.pureC d22 cl rfl (And.intro rfl rfl) ?_
      (repeat' (first | (intro rx hrx; have hq := hsub2 hrx (by omega); subst hq; clear hrx) | (intro rx hrx; have hq := hsub3 hrx (by omega); subst hq; clear hrx) | (refine Ev.go ?_; conv => whnf) | refine And.intro ?_ ?_ | exact True.intro | exact rfl | (intro rx hrx; rw [IntWalk.i64_in _ (by omega)] at hrx) | (intro hcx; exfalso; omega) | intro _))
      refine TSq.pureC bE cl rfl (And.intro rfl rfl) ?_
      (repeat' (first | (intro rx hrx; have hq := hsub2 hrx (by omega); subst hq; clear hrx) | (intro rx hrx; have hq := hsub3 hrx (by omega); subst hq; clear hrx) | (refine Ev.go ?_; conv => whnf) | refine And.intro ?_ ?_ | exact True.intro | exact rfl | (intro rx hrx; rw [IntWalk.i64_in _ (by omega)] at hrx) | (intro hcx; exfalso; omega) | intro _))
      refine TSq.pureC d47 cl rfl (And.intro rfl rfl) ?_
      (repeat' (first | (intro rx hrx; have hq := hsub2 hrx (by omega); subst hq; clear hrx) | (intro rx hrx; have hq := hsub3 hrx (by omega); subst hq; clear hrx) | (refine Ev.go ?_; conv => whnf) | refine And.intro ?_ ?_ | exact True.intro | exact rfl | (intro rx hrx; rw [IntWalk.i64_in _ (by omega)] at hrx) | (intro hcx; exfalso; omega) | intro _))
      all_goals (try (exfalso; omega))
      refine TSq.pureC c19 cl rfl (And.intro rfl rfl) ?_
      (repeat' (first | (intro rx hrx; have hq := hsub2 hrx (by omega); subst hq; clear hrx) | (intro rx hrx; have hq := hsub3 hrx (by omega); subst hq; clear hrx) | (refine Ev.go ?_; conv => whnf) | refine And.intro ?_ ?_ | exact True.intro | exact rfl | (intro rx hrx; rw [IntWalk.i64_in _ (by omega)] at hrx) | (intro hcx; exfalso; omega) | intro _))
      try rfl
    | some t =>
      rw [hf] at hm
      dsimp only at hm
      obtain ⟨h1, h2, h3⟩ := find_first (allC_sorted s.members.length) hf
      obtain ⟨ot, hot, rfl⟩ := bits_of_list (allC_mem.1 h2).1 (allC_mem.1 h2).2
      have h3' := h3 _ hin
      rw [hm] at d22
      dsimp only at d22
      have hli : s.listed (bitsN ot s.members.length) = true := by
        simp only [Soc.listed, Bool.and_eq_true, decide_eq_true_eq, List.all_eq_true, within]
        exact ⟨fun x hx => by have := (allC_mem.1 h2).2 x hx; omega, (allC_mem.1 h2).1⟩
      have htl := bitsN_len ot s.members.length
      have d45 := c45 s (bitsN ot s.members.length) (by omega) (by omega)
      rw [hli] at d45
      have d46 := c46 s _ hl.1 hli
      have hcomp := ask_comp (ms := s.members) rfl hot
      rw [← hcomp] at d46
      have d47' := c47 s ot h0 (by omega)
      rw [h1] at d47'
      have d48 := c48 (bitsN (b % 2 ^ s.members.length) s.members.length) (bitsN ot s.members.length) (by omega) (by omega)
      generalize hq : (2 ^ s.members.length - 1 : Nat) = q at *
      generalize ho : b % 2 ^ s.members.length = o at *
      generalize bitsN ot s.members.length = T at *
      generalize bitsN o s.members.length = O at *
      have hotq : ot ≤ q := by omega
      cases hg : goodM s O
      · rw [hg] at d47
        (repeat' (first | (intro rx hrx; have hq := hsub2 hrx (by omega); subst hq; clear hrx) | (intro rx hrx; have hq := hsub3 hrx (by omega); subst hq; clear hrx) | (refine Ev.go ?_; conv => whnf) | refine And.intro ?_ ?_ | exact True.intro | exact rfl | (intro rx hrx; rw [IntWalk.i64_in _ (by omega)] at hrx) | (intro hcx; exfalso; omega) | intro _))
        refine TSq.pureC b1 cl rfl (And.intro rfl rfl) ?_
        (repeat' (first | (intro rx hrx; have hq := hsub2 hrx (by omega); subst hq; clear hrx) | (intro rx hrx; have hq := hsub3 hrx (by omega); subst hq; clear hrx) | (refine Ev.go ?_; conv => whnf) | refine And.intro ?_ ?_ | exact True.intro | exact rfl | (intro rx hrx; rw [IntWalk.i64_in _ (by omega)] at hrx) | (intro hcx; exfalso; omega) | intro _))
        refine TSq.pureC d22 cl rfl (And.intro rfl rfl) ?_
        (repeat' (first | (intro rx hrx; have hq := hsub2 hrx (by omega); subst hq; clear hrx) | (intro rx hrx; have hq := hsub3 hrx (by omega); subst hq; clear hrx) | (refine Ev.go ?_; conv => whnf) | refine And.intro ?_ ?_ | exact True.intro | exact rfl | (intro rx hrx; rw [IntWalk.i64_in _ (by omega)] at hrx) | (intro hcx; exfalso; omega) | intro _))
        refine TSq.pureC bE cl rfl (And.intro rfl rfl) ?_
        (repeat' (first | (intro rx hrx; have hq := hsub2 hrx (by omega); subst hq; clear hrx) | (intro rx hrx; have hq := hsub3 hrx (by omega); subst hq; clear hrx) | (refine Ev.go ?_; conv => whnf) | refine And.intro ?_ ?_ | exact True.intro | exact rfl | (intro rx hrx; rw [IntWalk.i64_in _ (by omega)] at hrx) | (intro hcx; exfalso; omega) | intro _))
        refine TSq.pureC d47 cl rfl (And.intro rfl rfl) ?_
        (repeat' (first | (intro rx hrx; have hq := hsub2 hrx (by omega); subst hq; clear hrx) | (intro rx hrx; have hq := hsub3 hrx (by omega); subst hq; clear hrx) | (refine Ev.go ?_; conv => whnf) | refine And.intro ?_ ?_ | exact True.intro | exact rfl | (intro rx hrx; rw [IntWalk.i64_in _ (by omega)] at hrx) | (intro hcx; exfalso; omega) | intro _))
        all_goals (try (exfalso; omega))
        refine TSq.pureC d45 cl rfl (And.intro rfl rfl) ?_
        (repeat' (first | (intro rx hrx; have hq := hsub2 hrx (by omega); subst hq; clear hrx) | (intro rx hrx; have hq := hsub3 hrx (by omega); subst hq; clear hrx) | (refine Ev.go ?_; conv => whnf) | refine And.intro ?_ ?_ | exact True.intro | exact rfl | (intro rx hrx; rw [IntWalk.i64_in _ (by omega)] at hrx) | (intro hcx; exfalso; omega) | intro _))
        refine TDq.pureC bE cl rfl (And.intro rfl rfl) ?_
        (repeat' (first | (intro rx hrx; have hq := hsub2 hrx (by omega); subst hq; clear hrx) | (intro rx hrx; have hq := hsub3 hrx (by omega); subst hq; clear hrx) | (refine Ev.go ?_; conv => whnf) | refine And.intro ?_ ?_ | exact True.intro | exact rfl | (intro rx hrx; rw [IntWalk.i64_in _ (by omega)] at hrx) | (intro hcx; exfalso; omega) | intro _))
        refine TDq.pureC d46 cl rfl (And.intro rfl rfl) ?_
        (repeat' (first | (intro rx hrx; have hq := hsub2 hrx (by omega); subst hq; clear hrx) | (intro rx hrx; have hq := hsub3 hrx (by omega); subst hq; clear hrx) | (refine Ev.go ?_; conv => whnf) | refine And.intro ?_ ?_ | exact True.intro | exact rfl | (intro rx hrx; rw [IntWalk.i64_in _ (by omega)] at hrx) | (intro hcx; exfalso; omega) | intro _))
        obtain rfl : rx = (ot : Int) := by omega
        refine TDq.pureC d47' cl rfl (And.intro rfl rfl) ?_
        (repeat' (first | (intro rx hrx; have hq := hsub2 hrx (by omega); subst hq; clear hrx) | (intro rx hrx; have hq := hsub3 hrx (by omega); subst hq; clear hrx) | (refine Ev.go ?_; conv => whnf) | refine And.intro ?_ ?_ | exact True.intro | exact rfl | (intro rx hrx; rw [IntWalk.i64_in _ (by omega)] at hrx) | (intro hcx; exfalso; omega) | intro _))
        all_goals (first | (refine ⟨?_⟩; exact vk) | exact cl | skip)
        refine TSq.pureC c19 cl rfl (And.intro rfl rfl) ?_
        (repeat' (first | (intro rx hrx; have hq := hsub2 hrx (by omega); subst hq; clear hrx) | (intro rx hrx; have hq := hsub3 hrx (by omega); subst hq; clear hrx) | (refine Ev.go ?_; conv => whnf) | refine And.intro ?_ ?_ | exact True.intro | exact rfl | (intro rx hrx; rw [IntWalk.i64_in _ (by omega)] at hrx) | (intro hcx; exfalso; omega) | intro _))
        try rfl
      · rw [hg] at d47
        rw [show shortB O T = false by
          cases hs : shortB O T
          · rfl
          · exfalso
            have hlt := shortB_iff.1 hs
            rcases h3' hg with h4 | h4
            · rw [h4] at hlt; exact LexB.irr hlt
            · exact LexB.irr (h4.trans hlt)] at d48
        (repeat' (first | (intro rx hrx; have hq := hsub2 hrx (by omega); subst hq; clear hrx) | (intro rx hrx; have hq := hsub3 hrx (by omega); subst hq; clear hrx) | (refine Ev.go ?_; conv => whnf) | refine And.intro ?_ ?_ | exact True.intro | exact rfl | (intro rx hrx; rw [IntWalk.i64_in _ (by omega)] at hrx) | (intro hcx; exfalso; omega) | intro _))
        refine TSq.pureC b1 cl rfl (And.intro rfl rfl) ?_
        (repeat' (first | (intro rx hrx; have hq := hsub2 hrx (by omega); subst hq; clear hrx) | (intro rx hrx; have hq := hsub3 hrx (by omega); subst hq; clear hrx) | (refine Ev.go ?_; conv => whnf) | refine And.intro ?_ ?_ | exact True.intro | exact rfl | (intro rx hrx; rw [IntWalk.i64_in _ (by omega)] at hrx) | (intro hcx; exfalso; omega) | intro _))
        refine TSq.pureC d22 cl rfl (And.intro rfl rfl) ?_
        (repeat' (first | (intro rx hrx; have hq := hsub2 hrx (by omega); subst hq; clear hrx) | (intro rx hrx; have hq := hsub3 hrx (by omega); subst hq; clear hrx) | (refine Ev.go ?_; conv => whnf) | refine And.intro ?_ ?_ | exact True.intro | exact rfl | (intro rx hrx; rw [IntWalk.i64_in _ (by omega)] at hrx) | (intro hcx; exfalso; omega) | intro _))
        refine TSq.pureC bE cl rfl (And.intro rfl rfl) ?_
        (repeat' (first | (intro rx hrx; have hq := hsub2 hrx (by omega); subst hq; clear hrx) | (intro rx hrx; have hq := hsub3 hrx (by omega); subst hq; clear hrx) | (refine Ev.go ?_; conv => whnf) | refine And.intro ?_ ?_ | exact True.intro | exact rfl | (intro rx hrx; rw [IntWalk.i64_in _ (by omega)] at hrx) | (intro hcx; exfalso; omega) | intro _))
        refine TSq.pureC d47 cl rfl (And.intro rfl rfl) ?_
        (repeat' (first | (intro rx hrx; have hq := hsub2 hrx (by omega); subst hq; clear hrx) | (intro rx hrx; have hq := hsub3 hrx (by omega); subst hq; clear hrx) | (refine Ev.go ?_; conv => whnf) | refine And.intro ?_ ?_ | exact True.intro | exact rfl | (intro rx hrx; rw [IntWalk.i64_in _ (by omega)] at hrx) | (intro hcx; exfalso; omega) | intro _))
        all_goals (try (exfalso; omega))
        refine TSq.pureC d45 cl rfl (And.intro rfl rfl) ?_
        (repeat' (first | (intro rx hrx; have hq := hsub2 hrx (by omega); subst hq; clear hrx) | (intro rx hrx; have hq := hsub3 hrx (by omega); subst hq; clear hrx) | (refine Ev.go ?_; conv => whnf) | refine And.intro ?_ ?_ | exact True.intro | exact rfl | (intro rx hrx; rw [IntWalk.i64_in _ (by omega)] at hrx) | (intro hcx; exfalso; omega) | intro _))
        refine TDq.pureC bE cl rfl (And.intro rfl rfl) ?_
        (repeat' (first | (intro rx hrx; have hq := hsub2 hrx (by omega); subst hq; clear hrx) | (intro rx hrx; have hq := hsub3 hrx (by omega); subst hq; clear hrx) | (refine Ev.go ?_; conv => whnf) | refine And.intro ?_ ?_ | exact True.intro | exact rfl | (intro rx hrx; rw [IntWalk.i64_in _ (by omega)] at hrx) | (intro hcx; exfalso; omega) | intro _))
        refine TDq.pureC d46 cl rfl (And.intro rfl rfl) ?_
        (repeat' (first | (intro rx hrx; have hq := hsub2 hrx (by omega); subst hq; clear hrx) | (intro rx hrx; have hq := hsub3 hrx (by omega); subst hq; clear hrx) | (refine Ev.go ?_; conv => whnf) | refine And.intro ?_ ?_ | exact True.intro | exact rfl | (intro rx hrx; rw [IntWalk.i64_in _ (by omega)] at hrx) | (intro hcx; exfalso; omega) | intro _))
        obtain rfl : rx = (ot : Int) := by omega
        refine TDq.pureC d47' cl rfl (And.intro rfl rfl) ?_
        (repeat' (first | (intro rx hrx; have hq := hsub2 hrx (by omega); subst hq; clear hrx) | (intro rx hrx; have hq := hsub3 hrx (by omega); subst hq; clear hrx) | (refine Ev.go ?_; conv => whnf) | refine And.intro ?_ ?_ | exact True.intro | exact rfl | (intro rx hrx; rw [IntWalk.i64_in _ (by omega)] at hrx) | (intro hcx; exfalso; omega) | intro _))
        all_goals (first | (refine ⟨?_⟩; exact vk) | exact cl | skip)
        refine TSq.pureC d31 cl rfl (And.intro rfl rfl) ?_
        (repeat' (first | (intro rx hrx; have hq := hsub2 hrx (by omega); subst hq; clear hrx) | (intro rx hrx; have hq := hsub3 hrx (by omega); subst hq; clear hrx) | (refine Ev.go ?_; conv => whnf) | refine And.intro ?_ ?_ | exact True.intro | exact rfl | (intro rx hrx; rw [IntWalk.i64_in _ (by omega)] at hrx) | (intro hcx; exfalso; omega) | intro _))
        refine TSq.pureC d48 cl rfl (And.intro rfl rfl) ?_
        (repeat' (first | (intro rx hrx; have hq := hsub2 hrx (by omega); subst hq; clear hrx) | (intro rx hrx; have hq := hsub3 hrx (by omega); subst hq; clear hrx) | (refine Ev.go ?_; conv => whnf) | refine And.intro ?_ ?_ | exact True.intro | exact rfl | (intro rx hrx; rw [IntWalk.i64_in _ (by omega)] at hrx) | (intro hcx; exfalso; omega) | intro _))
        refine TSq.pureC c19 cl rfl (And.intro rfl rfl) ?_
        (repeat' (first | (intro rx hrx; have hq := hsub2 hrx (by omega); subst hq; clear hrx) | (intro rx hrx; have hq := hsub3 hrx (by omega); subst hq; clear hrx) | (refine Ev.go ?_; conv => whnf) | refine And.intro ?_ ?_ | exact True.intro | exact rfl | (intro rx hrx; rw [IntWalk.i64_in _ (by omega)] at hrx) | (intro hcx; exfalso; omega) | intro _))
        try rfl
  · intro hr
    (repeat' (first | (refine Ev.go ?_; conv => whnf) | refine And.intro ?_ ?_ | exact True.intro | exact rfl | (intro rx hrx; rw [IntWalk.i64_in _ (by omega)] at hrx) | (intro hcx; exfalso; omega) | (intro hcx; exfalso; simp only [lz] at hcx; omega) | intro _))
    refine TSq.pureC c19 cl rfl (And.intro rfl rfl) ?_
    (repeat' (first | (refine Ev.go ?_; conv => whnf) | refine And.intro ?_ ?_ | exact True.intro | exact rfl | (intro rx hrx; rw [IntWalk.i64_in _ (by omega)] at hrx) | (intro hcx; exfalso; omega) | (intro hcx; exfalso; simp only [lz] at hcx; omega) | intro _))
    try rfl
end Go.Proofs.Ythnaamkempmjkaa
