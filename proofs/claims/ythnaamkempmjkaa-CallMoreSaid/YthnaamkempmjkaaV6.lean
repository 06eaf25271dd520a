/- CallMore, the walk of the statement. -/
import Derived.Test.YthnaamkempmjkaaKy
import Derived.Test.YthnaamkempmjkaaKfL6
set_option linter.unusedSimpArgs false
set_option linter.unusedVariables false
open Go Go.TV
namespace Go.Proofs.Ythnaamkempmjkaa

/-- A society with another reserve. -/
def resS (s : Soc) (v : Int) : Soc := ⟨s.members, s.losses, s.treaty, v⟩
theorem resS_fault {s : Soc} {v : Int} (h : fault s = 0) (hv : 0 ≤ v ∧ v ≤ 100000) : fault (resS s v) = 0 := by
  have h1 := fault_valid h
  have h2 := fault_len h
  refine fault_0 (by simp only [resS]; omega) ?_
  simp only [Soc.valid, Bool.and_eq_true] at h1 ⊢
  have hw : within (resS s v).reserve 0 100000 = true := decide_eq_true hv
  exact ⟨h1.1, ⟨h1.2.1, ⟨h1.2.2.1, ⟨h1.2.2.2.1, hw⟩⟩⟩⟩
theorem res_rate {s : Soc} {v r e r' e' : Int} (h : fault s = 0) (hv : s.reserve ≤ v ∧ v ≤ 100000) (h1 : RateIs s r e) (h2 : RateIs (resS s v) r' e') : e = 0 → e' = 0 ∧ r' ≤ r := by
  intro he
  have hn : (needsOf (resS s v)).hi ≤ (needsOf s).hi := by simp only [needsOf, needOf, resS]; omega
  have h0 := (fault_ok h).2.2.2.1
  have hf' := resS_fault (v := v) h (by omega)
  rcases h1 with ⟨h1, _⟩ | ⟨_, _, k, h3, h4, h5, _⟩ | ⟨_, _, h3, _⟩
  · exact absurd h h1
  · rcases h2 with ⟨h2, _⟩ | ⟨_, h6, j, h7, _, _, h8⟩ | ⟨_, _, _, h6⟩
    · exact absurd hf' h2
    · refine ⟨h6, ?_⟩
      rcases Nat.lt_or_ge k j with hkj | hkj
      · have h9 := h8 k hkj
        have e1 : (resS s v).members = s.members := rfl
        rw [e1] at h9; omega
      · omega
    · have h9 := h6 k h4
      have e1 : (resS s v).members = s.members := rfl
      rw [e1] at h9; omega
  · omega

set_option maxHeartbeats 4000000 in
set_option maxRecDepth 100000 in
theorem c6 (s : Soc) (need more : Int) (hn : 0 ≤ need ∧ need ≤ 4294967295) (hm : 0 ≤ more ∧ more ≤ 65535) : PF Try.prog 6 [encSoc s, .int .u32 need, .int .u16 more] (· = .bool true) := by
  have hz := encYs_len s.members
  refine PF.of (TF.ev fn_6 (Ev.at ?_))
  (repeat' (first | (refine Ev.go ?_; conv => whnf) | refine And.intro ?_ ?_ | exact True.intro | exact rfl | (intro rx hrx; rw [IntWalk.i64_in _ (by omega)] at hrx) | (intro hcx; exfalso; omega) | (intro hcx; exfalso; simp only [ints_len, encYs_len, encRs_len] at hcx; omega) | (intro ex hex; (first | obtain ⟨xx, hxx, rfl⟩ := ints_at hex | obtain ⟨xx, hxx, rfl⟩ := encYs_at hex | obtain ⟨xx, hxx, rfl⟩ := encRs_at hex); clear hex; try simp only [Int.toNat_natCast] at hxx) | intro _))
  refine TSq.pureBC (c27 s) (by simp [cloL, clo, encR, encY, encSoc, encT, encS, ints_clo, encYs_clo, encRs_clo]) rfl (And.intro rfl rfl) ?_ ?_
  · intro hr
    have h0 : fault s = 0 := by simpa [ready] using hr
    have hl := fault_len h0
    have h0' := (fault_ok h0).2.2.2.1
    have b1 := c21 s (by omega) (by omega)
    have hres1 : ∀ {x r : Int}, r = x.tmod 300001 → 0 ≤ x → 0 ≤ r ∧ r < 300001 := fun h hx => rem_bd h hx (by omega)
    (repeat' (first | (intro rx hrx; have hq := hres1 hrx (by omega); clear hrx) | (refine Ev.go ?_; conv => whnf) | refine And.intro ?_ ?_ | exact True.intro | exact rfl | (intro rx hrx; rw [IntWalk.i64_in _ (by omega)] at hrx) | (intro hcx; exfalso; omega) | intro _))
    all_goals (first | (refine ⟨?_⟩; first | rfl | exact List.cons_ne_nil _ _ | (show (_ : Nat) * _ ≤ _; simp [catS, repl, chunks, ints_len, encYs_len, encRs_len] <;> omega) | exact shS _ _ | exact shM _ | exact shN | exact encM_clo _ | exact ⟨rfl, rfl⟩ | exact ⟨rfl, rfl, rfl⟩ | omega | (simp only [ints_len, encYs_len, encRs_len]; omega) | (simp; omega) | (simp [cloL, clo, catS, repl, ints_clo, encYs_clo, encRs_clo, encR, encY, encS]; done) | (show chkGo _ _ _ _ _ = true; kernel_rfl)) | (simp [cloL, clo, catS, repl, ints_clo, encYs_clo, encRs_clo, encR, encY, encS]; done) | skip)
    refine TSq.pureC b1 (by simp [cloL, clo, encR, encY, encSoc, encT, encS, ints_clo, encYs_clo, encRs_clo]) rfl (And.intro rfl rfl) ?_
    (repeat' (first | (intro rx hrx; have hq := hres1 hrx (by omega); clear hrx) | (refine Ev.go ?_; conv => whnf) | refine And.intro ?_ ?_ | exact True.intro | exact rfl | (intro rx hrx; rw [IntWalk.i64_in _ (by omega)] at hrx) | (intro hcx; exfalso; omega) | intro _))
    rename_i _ _ N _ _ _ _ M hM _ _ V hV
    have hMb : (0 ≤ M ∧ M ≤ 300000) ∧ N ≤ M := by omega
    have hVb : s.reserve ≤ V ∧ V ≤ 100000 := by omega
    have f1 := c35 s N (by omega) (by omega)
    have f2 := c35 s M (by omega) (by omega)
    rw [callsR_good h0 (by omega)] at f1 f2
    dsimp only at f1 f2
    have sA := calls_sum h0 [] (n := N) (by omega)
    have sB := calls_sum h0 [] (n := M) (by omega)
    have pA := calls_short h0 [] (n := N) (by omega)
    have pB := calls_short h0 [] (n := M) (by omega)
    have g1 := c36 (callsOf s [] N).1 (fun x hx => by have := calls_bd h0 [] (n := N) (by omega) x hx; omega) (by rw [callsOf_len]; omega)
    have g2 := c36 (callsOf s [] M).1 (fun x hx => by have := calls_bd h0 [] (n := M) (by omega) x hx; omega) (by rw [callsOf_len]; omega)
    have b2 := c21 (resS s V) (by simp only [resS]; omega) (by simp only [resS]; omega)
    have d1 := c20 s (by omega) (by omega)
    have d2 := c20 (resS s V) (by simp only [resS]; omega) (by simp only [resS]; omega)
    have hf' := resS_fault (v := V) h0 (by omega)
    generalize (callsOf s [] N).1 = A at *
    generalize (callsOf s [] N).2 = p at *
    generalize (callsOf s [] M).1 = B at *
    generalize (callsOf s [] M).2 = q at *
    generalize sumL A = SA at *
    generalize sumL B = SB at *
    generalize mostOf s [] = K at *
    refine TSq.pureC f1 (by simp [cloL, clo, encR, encY, encSoc, encT, encS, ints_clo, encYs_clo, encRs_clo]) rfl (And.intro rfl rfl) ?_
    (repeat' (first | (intro rx hrx; have hq := hres1 hrx (by omega); clear hrx) | (refine Ev.go ?_; conv => whnf) | refine And.intro ?_ ?_ | exact True.intro | exact rfl | (intro rx hrx; rw [IntWalk.i64_in _ (by omega)] at hrx) | (intro hcx; exfalso; omega) | intro _))
    refine TSq.pureC b1 (by simp [cloL, clo, encR, encY, encSoc, encT, encS, ints_clo, encYs_clo, encRs_clo]) rfl (And.intro rfl rfl) ?_
    (repeat' (first | (intro rx hrx; have hq := hres1 hrx (by omega); clear hrx) | (refine Ev.go ?_; conv => whnf) | refine And.intro ?_ ?_ | exact True.intro | exact rfl | (intro rx hrx; rw [IntWalk.i64_in _ (by omega)] at hrx) | (intro hcx; exfalso; omega) | intro _))
    refine TSq.pureC f2 (by simp [cloL, clo, encR, encY, encSoc, encT, encS, ints_clo, encYs_clo, encRs_clo]) rfl (And.intro rfl rfl) ?_
    (repeat' (first | (intro rx hrx; have hq := hres1 hrx (by omega); clear hrx) | (refine Ev.go ?_; conv => whnf) | refine And.intro ?_ ?_ | exact True.intro | exact rfl | (intro rx hrx; rw [IntWalk.i64_in _ (by omega)] at hrx) | (intro hcx; exfalso; omega) | intro _))
    refine TSq.pureC b1 (by simp [cloL, clo, encR, encY, encSoc, encT, encS, ints_clo, encYs_clo, encRs_clo]) rfl (And.intro rfl rfl) ?_
    (repeat' (first | (intro rx hrx; have hq := hres1 hrx (by omega); clear hrx) | (refine Ev.go ?_; conv => whnf) | refine And.intro ?_ ?_ | exact True.intro | exact rfl | (intro rx hrx; rw [IntWalk.i64_in _ (by omega)] at hrx) | (intro hcx; exfalso; omega) | intro _))
    refine TSq.pureQ rfl d1 (by simp [cloL, clo, encR, encY, encSoc, encT, encS, ints_clo, encYs_clo, encRs_clo]) rfl (And.intro rfl rfl) ?_
    rintro _ ⟨r, e, rfl, hr1⟩ _
    (repeat' (first | (intro rx hrx; have hq := hres1 hrx (by omega); clear hrx) | (refine Ev.go ?_; conv => whnf) | refine And.intro ?_ ?_ | exact True.intro | exact rfl | (intro rx hrx; rw [IntWalk.i64_in _ (by omega)] at hrx) | (intro hcx; exfalso; omega) | intro _))
    refine TSq.pureC b2 (by simp [cloL, clo, encSoc, encYs_clo, encRs_clo]) rfl (And.intro rfl rfl) ?_
    (repeat' (first | (intro rx hrx; have hq := hres1 hrx (by omega); clear hrx) | (refine Ev.go ?_; conv => whnf) | refine And.intro ?_ ?_ | exact True.intro | exact rfl | (intro rx hrx; rw [IntWalk.i64_in _ (by omega)] at hrx) | (intro hcx; exfalso; omega) | intro _))
    refine TSq.pureQ rfl d2 (by simp [cloL, clo, encSoc, encYs_clo, encRs_clo]) rfl (And.intro rfl rfl) ?_
    rintro _ ⟨r', e', rfl, hr2⟩ _
    have hR := res_rate h0 hVb hr1 hr2
    have hc1 := rate_cases h0 hr1
    have hc2 := rate_cases hf' hr2
    clear hr1 hr2
    rcases hc1 with ⟨rfl, hr1⟩ | ⟨rfl, rfl⟩
    · obtain ⟨rfl, hR2⟩ := hR rfl
      (repeat' (first | (intro rx hrx; have hq := hres1 hrx (by omega); clear hrx) | (refine Ev.go ?_; conv => whnf) | refine And.intro ?_ ?_ | exact True.intro | exact rfl | (intro rx hrx; rw [IntWalk.i64_in _ (by omega)] at hrx) | (intro hcx; exfalso; omega) | intro _))
      refine TSq.pureC g1 (by simp [cloL, clo, encR, encY, encSoc, encT, encS, ints_clo, encYs_clo, encRs_clo]) rfl (And.intro rfl rfl) ?_
      (repeat' (first | (intro rx hrx; have hq := hres1 hrx (by omega); clear hrx) | (refine Ev.go ?_; conv => whnf) | refine And.intro ?_ ?_ | exact True.intro | exact rfl | (intro rx hrx; rw [IntWalk.i64_in _ (by omega)] at hrx) | (intro hcx; exfalso; omega) | intro _))
      refine TSq.pureC g2 (by simp [cloL, clo, encR, encY, encSoc, encT, encS, ints_clo, encYs_clo, encRs_clo]) rfl (And.intro rfl rfl) ?_
      (repeat' (first | (intro rx hrx; have hq := hres1 hrx (by omega); clear hrx) | (refine Ev.go ?_; conv => whnf) | refine And.intro ?_ ?_ | exact True.intro | exact rfl | (intro rx hrx; rw [IntWalk.i64_in _ (by omega)] at hrx) | (intro hcx; exfalso; omega) | intro _))
      all_goals (try (exfalso; omega))
      refine TSq.pureC c19 (by simp [cloL, clo, encR, encY, encSoc, encT, encS, ints_clo, encYs_clo, encRs_clo]) rfl (And.intro rfl rfl) ?_
      (repeat' (first | (intro rx hrx; have hq := hres1 hrx (by omega); clear hrx) | (refine Ev.go ?_; conv => whnf) | refine And.intro ?_ ?_ | exact True.intro | exact rfl | (intro rx hrx; rw [IntWalk.i64_in _ (by omega)] at hrx) | (intro hcx; exfalso; omega) | intro _))
      try rfl
    · rcases hc2 with ⟨rfl, hr2⟩ | ⟨rfl, rfl⟩
      all_goals
        (repeat' (first | (intro rx hrx; have hq := hres1 hrx (by omega); clear hrx) | (refine Ev.go ?_; conv => whnf) | refine And.intro ?_ ?_ | exact True.intro | exact rfl | (intro rx hrx; rw [IntWalk.i64_in _ (by omega)] at hrx) | (intro hcx; exfalso; omega) | intro _))
        refine TSq.pureC g1 (by simp [cloL, clo, encR, encY, encSoc, encT, encS, ints_clo, encYs_clo, encRs_clo]) rfl (And.intro rfl rfl) ?_
        (repeat' (first | (intro rx hrx; have hq := hres1 hrx (by omega); clear hrx) | (refine Ev.go ?_; conv => whnf) | refine And.intro ?_ ?_ | exact True.intro | exact rfl | (intro rx hrx; rw [IntWalk.i64_in _ (by omega)] at hrx) | (intro hcx; exfalso; omega) | intro _))
        refine TSq.pureC g2 (by simp [cloL, clo, encR, encY, encSoc, encT, encS, ints_clo, encYs_clo, encRs_clo]) rfl (And.intro rfl rfl) ?_
        (repeat' (first | (intro rx hrx; have hq := hres1 hrx (by omega); clear hrx) | (refine Ev.go ?_; conv => whnf) | refine And.intro ?_ ?_ | exact True.intro | exact rfl | (intro rx hrx; rw [IntWalk.i64_in _ (by omega)] at hrx) | (intro hcx; exfalso; omega) | intro _))
        all_goals (try (exfalso; omega))
        refine TSq.pureC c19 (by simp [cloL, clo, encR, encY, encSoc, encT, encS, ints_clo, encYs_clo, encRs_clo]) rfl (And.intro rfl rfl) ?_
        (repeat' (first | (intro rx hrx; have hq := hres1 hrx (by omega); clear hrx) | (refine Ev.go ?_; conv => whnf) | refine And.intro ?_ ?_ | exact True.intro | exact rfl | (intro rx hrx; rw [IntWalk.i64_in _ (by omega)] at hrx) | (intro hcx; exfalso; omega) | intro _))
        try rfl
  · intro hr
    (repeat' (first | (refine Ev.go ?_; conv => whnf) | refine And.intro ?_ ?_ | exact True.intro | exact rfl | (intro rx hrx; rw [IntWalk.i64_in _ (by omega)] at hrx) | (intro hcx; exfalso; omega) | (intro hcx; exfalso; simp only [ints_len, encYs_len, encRs_len] at hcx; omega) | (intro ex hex; (first | obtain ⟨xx, hxx, rfl⟩ := ints_at hex | obtain ⟨xx, hxx, rfl⟩ := encYs_at hex | obtain ⟨xx, hxx, rfl⟩ := encRs_at hex); clear hex; try simp only [Int.toNat_natCast] at hxx) | intro _))
    refine TSq.pureC c19 (by simp [cloL, clo, encR, encY, encSoc, encT, encS, ints_clo, encYs_clo, encRs_clo]) rfl (And.intro rfl rfl) ?_
    (repeat' (first | (refine Ev.go ?_; conv => whnf) | refine And.intro ?_ ?_ | exact True.intro | exact rfl | (intro rx hrx; rw [IntWalk.i64_in _ (by omega)] at hrx) | (intro hcx; exfalso; omega) | (intro hcx; exfalso; simp only [ints_len, encYs_len, encRs_len] at hcx; omega) | (intro ex hex; (first | obtain ⟨xx, hxx, rfl⟩ := ints_at hex | obtain ⟨xx, hxx, rfl⟩ := encYs_at hex | obtain ⟨xx, hxx, rfl⟩ := encRs_at hex); clear hex; try simp only [Int.toNat_natCast] at hxx) | intro _))
    try rfl
end Go.Proofs.Ythnaamkempmjkaa
