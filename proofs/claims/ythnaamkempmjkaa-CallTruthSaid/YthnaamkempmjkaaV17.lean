/- CallTruth, the walk of the statement. -/
import Derived.Test.YthnaamkempmjkaaNc
import Derived.Test.YthnaamkempmjkaaKfL17
set_option linter.unusedSimpArgs false
set_option linter.unusedVariables false
open Go Go.TV
namespace Go.Proofs.Ythnaamkempmjkaa

theorem truth_need {s : Soc} {t : Truth} (h0 : fault s = 0) (ht : isTruth s t = true) : (needsOf s).lo ≤ needOf s (sumL t.losses) t.treaty ∧ needOf s (sumL t.losses) t.treaty ≤ (needsOf s).hi := by
  obtain ⟨h1, h2, h3⟩ := isTruth_at.1 ht
  have key : ∀ (l : List Rng) (v : List Int) (a b c : Int), v.length = l.length → (∀ (i : Nat) (r : Rng) (x : Int), l[i]? = some r → v[i]? = some x → r.has x = true) → a ≤ b → b ≤ c →
      (los l).foldl (· + ·) a ≤ v.foldl (· + ·) b ∧ v.foldl (· + ·) b ≤ (his l).foldl (· + ·) c := by
    intro l
    induction l with
    | nil =>
      intro v a b c hl _ h4 h5
      have : v = [] := List.eq_nil_of_length_eq_zero hl
      subst this
      exact ⟨h4, h5⟩
    | cons r l ih =>
      intro v a b c hl h h4 h5
      cases v with
      | nil => simp at hl
      | cons x v =>
        have hx := h 0 r x rfl rfl
        simp only [Rng.has, within, decide_eq_true_eq] at hx
        have := ih v (a + r.lo) (b + x) (c + r.hi) (by simpa using hl) (fun i r' x' h6 h7 => h (i + 1) r' x' (by simpa using h6) (by simpa using h7)) (by omega) (by omega)
        simpa only [los, his, List.map_cons, List.foldl_cons] using this
  have := key s.losses t.losses 0 0 0 h1 h3 (Int.le_refl _) (Int.le_refl _)
  simp only [Rng.has, within, decide_eq_true_eq] at h2
  simp only [needsOf, needOf, sumL]
  omega

set_option maxHeartbeats 16000000 in
set_option maxRecDepth 100000 in
theorem c17 (s : Soc) (ws : List Int) (hw : ∀ n ∈ ws, 0 ≤ n ∧ n ≤ 255) (hwl : ws.length ≤ maxLen) : PF Try.prog 17 [encSoc s, .sl 1 (ws.map (SV.int .u8))] (· = .bool true) := by
  refine PF.of (TF.ev fn_17 (Ev.at ?_))
  (repeat' (first | (refine Ev.go ?_; conv => whnf) | refine And.intro ?_ ?_ | exact True.intro | exact rfl | (intro rx hrx; rw [IntWalk.i64_in _ (by omega)] at hrx) | (intro hcx; exfalso; omega) | (intro hcx; exfalso; simp only [lz] at hcx; omega) | (intro ex hex; (first | obtain ⟨xx, hxx, rfl⟩ := ints_at hex | obtain ⟨xx, hxx, rfl⟩ := encYs_at hex | obtain ⟨xx, hxx, rfl⟩ := encRs_at hex); clear hex; try simp only [Int.toNat_natCast] at hxx) | intro _))
  refine TSq.pureBC (c27 s) (by simp [cloL, clo, encR, encY, encSoc, encT, encS, cz]) rfl (And.intro rfl rfl) ?_ ?_
  · intro hr
    have h0 : fault s = 0 := by simpa [ready] using hr
    have hl := fault_len h0
    have hz := encYs_len s.members
    have b1 := c21 s (by omega) (by omega)
    have d58 := c58 s ws h0 hw (by unfold maxLen at hwl; omega)
    have hT := pickT_ok ws h0
    have hpl : (pickT s ws).losses.length = s.losses.length := pickL_len _ _ _
    generalize pickT s ws = t at *
    have b2 := c52 t (by omega)
    have d51 := c51 s t (by omega) (by omega) (by omega)
    rw [show needR s t = (needOf s (sumL t.losses) t.treaty, 0) by simp only [needR, if_neg (show ¬ fault s ≠ 0 by simpa using h0), if_pos hT]] at d51
    have hn := truth_need h0 hT
    have hnn := needs_le h0
    dsimp only at d51
    generalize needOf s (sumL t.losses) t.treaty = n at *
    have d28 := c28 s (by omega) (by omega)
    simp only [needsR, if_neg (show ¬ fault s ≠ 0 by simpa using h0)] at d28
    have d29 := c29 s (by omega) (by omega)
    simp only [withoutR, if_neg (show ¬ fault s ≠ 0 by simpa using h0), if_pos (listed_nil s)] at d29
    have d42 := c42 s (by omega) (by omega)
    simp only [shortR, if_neg (show ¬ fault s ≠ 0 by simpa using h0)] at d42
    have hne := every_mem.2 hn
    have hsb := (bndF_is (fun n => (callsOf s [] n).2) (every (needsOf s)) (every_ne hnn.1.2)).2.2 n hne
    change (shortOf s []).lo ≤ (callsOf s [] n).2 ∧ (callsOf s [] n).2 ≤ (shortOf s []).hi at hsb
    have hbn : ∀ k, k < s.members.length → ∃ r : Rng, (boundsOf s [])[k]? = some r ∧ r.lo ≤ (callsF s.members 6 (askF s.members []) n fun _ => 0).1 k ∧ (callsF s.members 6 (askF s.members []) n fun _ => 0).1 k ≤ r.hi := fun k hk => by
      refine ⟨_, by rw [boundsOf_eq h0]; simp only [List.getElem?_map, List.getElem?_range hk]; rfl, ?_⟩
      exact (bndF_is (fun n => (callsF s.members 6 (askF s.members []) n fun _ => 0).1 k) (every (needsOf s)) (every_ne hnn.1.2)).2.2 n hne
    have hbl := boundsOf_len (out := []) h0
    have hib := encRs_len (boundsOf s [])
    have p := calls_paid h0 [] (n := n) (by omega)
    have hat := fun i (hi : i < s.members.length) => calls_at (s := s) (out := []) (n := n) hi
    have hask : ∀ i, i < s.members.length → askF s.members [] i = true := fun i hi => by simp [askF, hi]
    have hmost := fun i (hi : i < s.members.length) => p.most i (hask i hi)
    have hshort := fun h i (hi : i < s.members.length) => p.short h i (hask i hi)
    have hnn0 := p.nn
    change 0 ≤ (callsOf s [] n).2 at hnn0
    have hsum := calls_sum h0 [] (n := n) (by omega)
    have hcb := calls_bd h0 [] (n := n) (by omega)
    have hcl := callsOf_len s [] n
    have hic := ints_len (callsOf s [] n).1
    have d35 := c35 s n (by omega) (by omega)
    have d49 := c49 s n (callsOf s [] n).1 (by omega) (by omega) (by omega)
    rw [show proveR s n (callsOf s [] n).1 = true by simp only [proveR, callsR_good h0 (show 0 ≤ n ∧ n ≤ 300000 by omega)]; simp] at d49
    rw [callsR_good h0 (by omega)] at d35
    have d41 := c41 (callsOf s [] n).1 (by omega)
    have d36 := c36 (callsOf s [] n).1 (fun x hx => by have := hcb x hx; omega) (by omega)
    dsimp only at d35
    have hSb := sumL_bd (l := (callsOf s [] n).1) (fun x hx => by have := hcb x hx; omega) (callsOf s [] n).1.length
    rw [List.take_length] at hSb
    change 0 < (callsOf s [] n).2 → _ at hshort
    generalize hx : (fun i => (callsF s.members 6 (askF s.members []) n fun _ => 0).1 i) = xf at *
    have hx' : ∀ i, (callsF s.members 6 (askF s.members []) n fun _ => 0).1 i = xf i := fun i => by rw [← hx]
    simp only [hx'] at hbn hat hmost hshort
    clear hx hx' p
    generalize boundsOf s [] = B at *
    generalize shortOf s [] = C at *
    generalize (callsOf s [] n).1 = A at *
    generalize (callsOf s [] n).2 = q at *
    generalize sumL A = SA at *
    generalize needsOf s = N at *
    (repeat' (first | (intro ex hex; have hq := hg1 (by omega) hex; subst hq; clear hex) | (intro ex hex; have hq := hg2 (by omega) hex; subst hq; clear hex) | (intro ex hex; have hq := hg3 (by omega) hex; subst hq; clear hex) | (refine Ev.go ?_; conv => whnf) | refine And.intro ?_ ?_ | exact True.intro | exact rfl | (intro rx hrx; rw [IntWalk.i64_in _ (by omega)] at hrx) | (intro hcx; exfalso; omega) | intro _))
    refine TDq.pureC b1 (by simp [cloL, clo, encR, encY, encSoc, encT, encS, cz]) rfl (And.intro rfl rfl) ?_
    (repeat' (first | (intro ex hex; have hq := hg1 (by omega) hex; subst hq; clear hex) | (intro ex hex; have hq := hg2 (by omega) hex; subst hq; clear hex) | (intro ex hex; have hq := hg3 (by omega) hex; subst hq; clear hex) | (refine Ev.go ?_; conv => whnf) | refine And.intro ?_ ?_ | exact True.intro | exact rfl | (intro rx hrx; rw [IntWalk.i64_in _ (by omega)] at hrx) | (intro hcx; exfalso; omega) | intro _))
    refine TDq.pureC d58 (by simp [cloL, clo, encR, encY, encSoc, encT, encS, cz]) rfl (And.intro rfl rfl) ?_
    (repeat' (first | (intro ex hex; have hq := hg1 (by omega) hex; subst hq; clear hex) | (intro ex hex; have hq := hg2 (by omega) hex; subst hq; clear hex) | (intro ex hex; have hq := hg3 (by omega) hex; subst hq; clear hex) | (refine Ev.go ?_; conv => whnf) | refine And.intro ?_ ?_ | exact True.intro | exact rfl | (intro rx hrx; rw [IntWalk.i64_in _ (by omega)] at hrx) | (intro hcx; exfalso; omega) | intro _))
    refine TDq.pureC b2 (by simp [cloL, clo, encR, encY, encSoc, encT, encS, cz]) rfl (And.intro rfl rfl) ?_
    (repeat' (first | (intro ex hex; have hq := hg1 (by omega) hex; subst hq; clear hex) | (intro ex hex; have hq := hg2 (by omega) hex; subst hq; clear hex) | (intro ex hex; have hq := hg3 (by omega) hex; subst hq; clear hex) | (refine Ev.go ?_; conv => whnf) | refine And.intro ?_ ?_ | exact True.intro | exact rfl | (intro rx hrx; rw [IntWalk.i64_in _ (by omega)] at hrx) | (intro hcx; exfalso; omega) | intro _))
    refine TDq.pureC d51 (by simp [cloL, clo, encR, encY, encSoc, encT, encS, cz]) rfl (And.intro rfl rfl) ?_
    (repeat' (first | (intro ex hex; have hq := hg1 (by omega) hex; subst hq; clear hex) | (intro ex hex; have hq := hg2 (by omega) hex; subst hq; clear hex) | (intro ex hex; have hq := hg3 (by omega) hex; subst hq; clear hex) | (refine Ev.go ?_; conv => whnf) | refine And.intro ?_ ?_ | exact True.intro | exact rfl | (intro rx hrx; rw [IntWalk.i64_in _ (by omega)] at hrx) | (intro hcx; exfalso; omega) | intro _))
    all_goals (first | (refine ⟨?_⟩; show chkGo _ _ _ _ _ = true; kernel_rfl) | (refine ⟨?_⟩; first | rfl | exact List.cons_ne_nil _ _ | (show (_ : Nat) * _ ≤ _; simp [catS, repl, chunks, lz] <;> omega) | exact shS _ _ | exact shM _ | exact shN | exact encM_clo _ | exact ⟨rfl, rfl⟩ | exact ⟨rfl, rfl, rfl⟩ | omega | (simp only [lz]; omega) | (simp; omega) | (simp [cloL, clo, catS, repl, cz, encR, encY, encS]; done) | (show chkGo _ _ _ _ _ = true; kernel_rfl)) | (simp [cloL, clo, catS, repl, cz, encR, encY, encS]; done) | skip)
    refine TSq.pureC b1 (by simp [cloL, clo, encR, encY, encSoc, encT, encS, cz]) rfl (And.intro rfl rfl) ?_
    (repeat' (first | (intro ex hex; have hq := hg1 (by omega) hex; subst hq; clear hex) | (intro ex hex; have hq := hg2 (by omega) hex; subst hq; clear hex) | (intro ex hex; have hq := hg3 (by omega) hex; subst hq; clear hex) | (refine Ev.go ?_; conv => whnf) | refine And.intro ?_ ?_ | exact True.intro | exact rfl | (intro rx hrx; rw [IntWalk.i64_in _ (by omega)] at hrx) | (intro hcx; exfalso; omega) | intro _))
    refine TSq.pureC d28 (by simp [cloL, clo, encR, encY, encSoc, encT, encS, cz]) rfl (And.intro rfl rfl) ?_
    (repeat' (first | (intro ex hex; have hq := hg1 (by omega) hex; subst hq; clear hex) | (intro ex hex; have hq := hg2 (by omega) hex; subst hq; clear hex) | (intro ex hex; have hq := hg3 (by omega) hex; subst hq; clear hex) | (refine Ev.go ?_; conv => whnf) | refine And.intro ?_ ?_ | exact True.intro | exact rfl | (intro rx hrx; rw [IntWalk.i64_in _ (by omega)] at hrx) | (intro hcx; exfalso; omega) | intro _))
    refine TSq.pureC b1 (by simp [cloL, clo, encR, encY, encSoc, encT, encS, cz]) rfl (And.intro rfl rfl) ?_
    (repeat' (first | (intro ex hex; have hq := hg1 (by omega) hex; subst hq; clear hex) | (intro ex hex; have hq := hg2 (by omega) hex; subst hq; clear hex) | (intro ex hex; have hq := hg3 (by omega) hex; subst hq; clear hex) | (refine Ev.go ?_; conv => whnf) | refine And.intro ?_ ?_ | exact True.intro | exact rfl | (intro rx hrx; rw [IntWalk.i64_in _ (by omega)] at hrx) | (intro hcx; exfalso; omega) | intro _))
    refine TSq.pureC d29 (by simp [cloL, clo, encR, encY, encSoc, encT, encS, cz]) rfl (And.intro rfl rfl) ?_
    (repeat' (first | (intro ex hex; have hq := hg1 (by omega) hex; subst hq; clear hex) | (intro ex hex; have hq := hg2 (by omega) hex; subst hq; clear hex) | (intro ex hex; have hq := hg3 (by omega) hex; subst hq; clear hex) | (refine Ev.go ?_; conv => whnf) | refine And.intro ?_ ?_ | exact True.intro | exact rfl | (intro rx hrx; rw [IntWalk.i64_in _ (by omega)] at hrx) | (intro hcx; exfalso; omega) | intro _))
    refine TSq.pureC b1 (by simp [cloL, clo, encR, encY, encSoc, encT, encS, cz]) rfl (And.intro rfl rfl) ?_
    (repeat' (first | (intro ex hex; have hq := hg1 (by omega) hex; subst hq; clear hex) | (intro ex hex; have hq := hg2 (by omega) hex; subst hq; clear hex) | (intro ex hex; have hq := hg3 (by omega) hex; subst hq; clear hex) | (refine Ev.go ?_; conv => whnf) | refine And.intro ?_ ?_ | exact True.intro | exact rfl | (intro rx hrx; rw [IntWalk.i64_in _ (by omega)] at hrx) | (intro hcx; exfalso; omega) | intro _))
    refine TSq.pureC d42 (by simp [cloL, clo, encR, encY, encSoc, encT, encS, cz]) rfl (And.intro rfl rfl) ?_
    (repeat' (first | (intro ex hex; have hq := hg1 (by omega) hex; subst hq; clear hex) | (intro ex hex; have hq := hg2 (by omega) hex; subst hq; clear hex) | (intro ex hex; have hq := hg3 (by omega) hex; subst hq; clear hex) | (refine Ev.go ?_; conv => whnf) | refine And.intro ?_ ?_ | exact True.intro | exact rfl | (intro rx hrx; rw [IntWalk.i64_in _ (by omega)] at hrx) | (intro hcx; exfalso; omega) | intro _))
    all_goals (first | (refine ⟨?_⟩; first | rfl | exact List.cons_ne_nil _ _ | (show (_ : Nat) * _ ≤ _; simp [catS, repl, chunks, lz] <;> omega) | exact shS _ _ | exact shM _ | exact shN | exact encM_clo _ | exact ⟨rfl, rfl⟩ | exact ⟨rfl, rfl, rfl⟩ | omega | (simp only [lz]; omega) | (simp; omega) | (simp [cloL, clo, catS, repl, cz, encR, encY, encS]; done) | (show chkGo _ _ _ _ _ = true; kernel_rfl)) | (simp [cloL, clo, catS, repl, cz, encR, encY, encS]; done) | skip)
    all_goals (try (exfalso; omega))
    refine TSq.pureC b1 (by simp [cloL, clo, encR, encY, encSoc, encT, encS, cz]) rfl (And.intro rfl rfl) ?_
    (repeat' (first | (intro ex hex; have hq := hg1 (by omega) hex; subst hq; clear hex) | (intro ex hex; have hq := hg2 (by omega) hex; subst hq; clear hex) | (intro ex hex; have hq := hg3 (by omega) hex; subst hq; clear hex) | (refine Ev.go ?_; conv => whnf) | refine And.intro ?_ ?_ | exact True.intro | exact rfl | (intro rx hrx; rw [IntWalk.i64_in _ (by omega)] at hrx) | (intro hcx; exfalso; omega) | intro _))
    refine TSq.pureC d35 (by simp [cloL, clo, encR, encY, encSoc, encT, encS, cz]) rfl (And.intro rfl rfl) ?_
    (repeat' (first | (intro ex hex; have hq := hg1 (by omega) hex; subst hq; clear hex) | (intro ex hex; have hq := hg2 (by omega) hex; subst hq; clear hex) | (intro ex hex; have hq := hg3 (by omega) hex; subst hq; clear hex) | (refine Ev.go ?_; conv => whnf) | refine And.intro ?_ ?_ | exact True.intro | exact rfl | (intro rx hrx; rw [IntWalk.i64_in _ (by omega)] at hrx) | (intro hcx; exfalso; omega) | intro _))
    all_goals (try (exfalso; omega))
    refine TSq.pureC d36 (by simp [cloL, clo, encR, encY, encSoc, encT, encS, cz]) rfl (And.intro rfl rfl) ?_
    (repeat' (first | (intro ex hex; have hq := hg1 (by omega) hex; subst hq; clear hex) | (intro ex hex; have hq := hg2 (by omega) hex; subst hq; clear hex) | (intro ex hex; have hq := hg3 (by omega) hex; subst hq; clear hex) | (refine Ev.go ?_; conv => whnf) | refine And.intro ?_ ?_ | exact True.intro | exact rfl | (intro rx hrx; rw [IntWalk.i64_in _ (by omega)] at hrx) | (intro hcx; exfalso; omega) | intro _))
    all_goals (try (exfalso; omega))
    refine TSq.pureC b1 (by simp [cloL, clo, encR, encY, encSoc, encT, encS, cz]) rfl (And.intro rfl rfl) ?_
    (repeat' (first | (intro ex hex; have hq := hg1 (by omega) hex; subst hq; clear hex) | (intro ex hex; have hq := hg2 (by omega) hex; subst hq; clear hex) | (intro ex hex; have hq := hg3 (by omega) hex; subst hq; clear hex) | (refine Ev.go ?_; conv => whnf) | refine And.intro ?_ ?_ | exact True.intro | exact rfl | (intro rx hrx; rw [IntWalk.i64_in _ (by omega)] at hrx) | (intro hcx; exfalso; omega) | intro _))
    refine TSq.pureC d41 (by simp [cloL, clo, encR, encY, encSoc, encT, encS, cz]) rfl (And.intro rfl rfl) ?_
    (repeat' (first | (intro ex hex; have hq := hg1 (by omega) hex; subst hq; clear hex) | (intro ex hex; have hq := hg2 (by omega) hex; subst hq; clear hex) | (intro ex hex; have hq := hg3 (by omega) hex; subst hq; clear hex) | (refine Ev.go ?_; conv => whnf) | refine And.intro ?_ ?_ | exact True.intro | exact rfl | (intro rx hrx; rw [IntWalk.i64_in _ (by omega)] at hrx) | (intro hcx; exfalso; omega) | intro _))
    refine TSq.pureC d49 (by simp [cloL, clo, encR, encY, encSoc, encT, encS, cz]) rfl (And.intro rfl rfl) ?_
    (repeat' (first | (intro ex hex; have hq := hg1 (by omega) hex; subst hq; clear hex) | (intro ex hex; have hq := hg2 (by omega) hex; subst hq; clear hex) | (intro ex hex; have hq := hg3 (by omega) hex; subst hq; clear hex) | (refine Ev.go ?_; conv => whnf) | refine And.intro ?_ ?_ | exact True.intro | exact rfl | (intro rx hrx; rw [IntWalk.i64_in _ (by omega)] at hrx) | (intro hcx; exfalso; omega) | intro _))
    refine TWq.loop (fun k : Nat => [(16, .int .i64 k)]) (fun k => []) (fun k => k ≤ s.members.length) (fun k => s.members.length - k) 0 [] [] ?_ (by omega) ?_
    · (repeat' (first | (intro ex hex; have hq := hg1 (by omega) hex; subst hq; clear hex) | (intro ex hex; have hq := hg2 (by omega) hex; subst hq; clear hex) | (intro ex hex; have hq := hg3 (by omega) hex; subst hq; clear hex) | (refine Ev.go ?_; conv => whnf) | refine And.intro ?_ ?_ | exact True.intro | exact rfl | (intro rx hrx; rw [IntWalk.i64_in _ (by omega)] at hrx) | (intro hcx; exfalso; omega) | intro _))
      all_goals (first | (refine ⟨?_⟩; first | rfl | exact List.cons_ne_nil _ _ | (show (_ : Nat) * _ ≤ _; simp [catS, repl, chunks, lz] <;> omega) | exact shS _ _ | exact shM _ | exact shN | exact encM_clo _ | exact ⟨rfl, rfl⟩ | exact ⟨rfl, rfl, rfl⟩ | omega | (simp only [lz]; omega) | (simp; omega) | (simp [cloL, clo, catS, repl, cz, encR, encY, encS]; done) | (show chkGo _ _ _ _ _ = true; kernel_rfl)) | (simp [cloL, clo, catS, repl, cz, encR, encY, encS]; done) | skip)
    · intro k hk
      rcases Nat.lt_or_ge k s.members.length with hkl | hkl
      · obtain ⟨r, hr1, hr2, hr3⟩ := hbn k hkl
        obtain ⟨m, hmk⟩ : ∃ m, s.members[k]? = some m := ⟨_, List.getElem?_eq_getElem hkl⟩
        have hA1 := hat k hkl
        have hm1 := hmost k hkl
        have hs1 := fun h => hshort h k hkl
        rw [mst_at hmk] at hm1 hs1
        generalize xf k = a at *
        have hg1 : ∀ {n : Nat} {e : SV}, n = k → (ints A)[n]? = some e → e = .int .i64 a := by
          rintro n e rfl he
          obtain ⟨x, hx, rfl⟩ := ints_at he
          rw [hA1] at hx; cases hx; rfl
        have hg2 : ∀ {n : Nat} {e : SV}, n = k → (encRs B)[n]? = some e → e = encR r := by
          rintro n e rfl he
          obtain ⟨x, hx, rfl⟩ := encRs_at he
          rw [hr1] at hx; cases hx; rfl
        have hg3 : ∀ {n : Nat} {e : SV}, n = k → (encYs s.members)[n]? = some e → e = encY m := by
          rintro n e rfl he
          obtain ⟨x, hx, rfl⟩ := encYs_at he
          rw [hmk] at hx; cases hx; rfl
        rcases Int.lt_or_le 0 q with hq | hq
        · have hs2 := hs1 hq
          (repeat' (first | (intro ex hex; have hq := hg1 (by omega) hex; subst hq; clear hex) | (intro ex hex; have hq := hg2 (by omega) hex; subst hq; clear hex) | (intro ex hex; have hq := hg3 (by omega) hex; subst hq; clear hex) | (refine Ev.go ?_; conv => whnf) | refine And.intro ?_ ?_ | exact True.intro | exact rfl | (intro rx hrx; rw [IntWalk.i64_in _ (by omega)] at hrx) | (intro hcx; exfalso; omega) | intro _))
          all_goals (first | (refine ⟨?_⟩; show chkGo _ _ _ _ _ = true; kernel_rfl) | (refine ⟨?_⟩; first | rfl | exact List.cons_ne_nil _ _ | (show (_ : Nat) * _ ≤ _; simp [catS, repl, chunks, lz] <;> omega) | exact shS _ _ | exact shM _ | exact shN | exact encM_clo _ | exact ⟨rfl, rfl⟩ | exact ⟨rfl, rfl, rfl⟩ | omega | (simp only [lz]; omega) | (simp; omega) | (simp [cloL, clo, catS, repl, cz, encR, encY, encS]; done) | (show chkGo _ _ _ _ _ = true; kernel_rfl)) | (simp [cloL, clo, catS, repl, cz, encR, encY, encS]; done) | skip)
          all_goals (try (exfalso; omega))
          all_goals
            refine ⟨⟨k + 1, by omega, by omega, ?_⟩⟩
            (repeat' (first | (intro ex hex; have hq := hg1 (by omega) hex; subst hq; clear hex) | (intro ex hex; have hq := hg2 (by omega) hex; subst hq; clear hex) | (intro ex hex; have hq := hg3 (by omega) hex; subst hq; clear hex) | (refine Ev.go ?_; conv => whnf) | refine And.intro ?_ ?_ | exact True.intro | exact rfl | (intro rx hrx; rw [IntWalk.i64_in _ (by omega)] at hrx) | (intro hcx; exfalso; omega) | intro _))
            all_goals (first | (refine ⟨?_⟩; first | rfl | exact List.cons_ne_nil _ _ | (show (_ : Nat) * _ ≤ _; simp [catS, repl, chunks, lz] <;> omega) | exact shS _ _ | exact shM _ | exact shN | exact encM_clo _ | exact ⟨rfl, rfl⟩ | exact ⟨rfl, rfl, rfl⟩ | omega | (simp only [lz]; omega) | (simp; omega) | (simp [cloL, clo, catS, repl, cz, encR, encY, encS]; done) | (show chkGo _ _ _ _ _ = true; kernel_rfl)) | (simp [cloL, clo, catS, repl, cz, encR, encY, encS]; done) | skip)
        · (repeat' (first | (intro ex hex; have hq := hg1 (by omega) hex; subst hq; clear hex) | (intro ex hex; have hq := hg2 (by omega) hex; subst hq; clear hex) | (intro ex hex; have hq := hg3 (by omega) hex; subst hq; clear hex) | (refine Ev.go ?_; conv => whnf) | refine And.intro ?_ ?_ | exact True.intro | exact rfl | (intro rx hrx; rw [IntWalk.i64_in _ (by omega)] at hrx) | (intro hcx; exfalso; omega) | intro _))
          all_goals (first | (refine ⟨?_⟩; show chkGo _ _ _ _ _ = true; kernel_rfl) | (refine ⟨?_⟩; first | rfl | exact List.cons_ne_nil _ _ | (show (_ : Nat) * _ ≤ _; simp [catS, repl, chunks, lz] <;> omega) | exact shS _ _ | exact shM _ | exact shN | exact encM_clo _ | exact ⟨rfl, rfl⟩ | exact ⟨rfl, rfl, rfl⟩ | omega | (simp only [lz]; omega) | (simp; omega) | (simp [cloL, clo, catS, repl, cz, encR, encY, encS]; done) | (show chkGo _ _ _ _ _ = true; kernel_rfl)) | (simp [cloL, clo, catS, repl, cz, encR, encY, encS]; done) | skip)
          all_goals (try (exfalso; omega))
          all_goals
            refine ⟨⟨k + 1, by omega, by omega, ?_⟩⟩
            (repeat' (first | (intro ex hex; have hq := hg1 (by omega) hex; subst hq; clear hex) | (intro ex hex; have hq := hg2 (by omega) hex; subst hq; clear hex) | (intro ex hex; have hq := hg3 (by omega) hex; subst hq; clear hex) | (refine Ev.go ?_; conv => whnf) | refine And.intro ?_ ?_ | exact True.intro | exact rfl | (intro rx hrx; rw [IntWalk.i64_in _ (by omega)] at hrx) | (intro hcx; exfalso; omega) | intro _))
            all_goals (first | (refine ⟨?_⟩; first | rfl | exact List.cons_ne_nil _ _ | (show (_ : Nat) * _ ≤ _; simp [catS, repl, chunks, lz] <;> omega) | exact shS _ _ | exact shM _ | exact shN | exact encM_clo _ | exact ⟨rfl, rfl⟩ | exact ⟨rfl, rfl, rfl⟩ | omega | (simp only [lz]; omega) | (simp; omega) | (simp [cloL, clo, catS, repl, cz, encR, encY, encS]; done) | (show chkGo _ _ _ _ _ = true; kernel_rfl)) | (simp [cloL, clo, catS, repl, cz, encR, encY, encS]; done) | skip)
      · have hke : k = s.members.length := by omega
        subst hke
        (repeat' (first | (intro ex hex; have hq := hg1 (by omega) hex; subst hq; clear hex) | (intro ex hex; have hq := hg2 (by omega) hex; subst hq; clear hex) | (intro ex hex; have hq := hg3 (by omega) hex; subst hq; clear hex) | (refine Ev.go ?_; conv => whnf) | refine And.intro ?_ ?_ | exact True.intro | exact rfl | (intro rx hrx; rw [IntWalk.i64_in _ (by omega)] at hrx) | (intro hcx; exfalso; omega) | intro _))
        all_goals (first | (refine ⟨?_⟩; first | rfl | exact List.cons_ne_nil _ _ | (show (_ : Nat) * _ ≤ _; simp [catS, repl, chunks, lz] <;> omega) | exact shS _ _ | exact shM _ | exact shN | exact encM_clo _ | exact ⟨rfl, rfl⟩ | exact ⟨rfl, rfl, rfl⟩ | omega | (simp only [lz]; omega) | (simp; omega) | (simp [cloL, clo, catS, repl, cz, encR, encY, encS]; done) | (show chkGo _ _ _ _ _ = true; kernel_rfl)) | (simp [cloL, clo, catS, repl, cz, encR, encY, encS]; done) | skip)
        refine TSq.pureC c19 (by simp [cloL, clo, encR, encY, encSoc, encT, encS, cz]) rfl (And.intro rfl rfl) ?_
        (repeat' (first | (intro ex hex; have hq := hg1 (by omega) hex; subst hq; clear hex) | (intro ex hex; have hq := hg2 (by omega) hex; subst hq; clear hex) | (intro ex hex; have hq := hg3 (by omega) hex; subst hq; clear hex) | (refine Ev.go ?_; conv => whnf) | refine And.intro ?_ ?_ | exact True.intro | exact rfl | (intro rx hrx; rw [IntWalk.i64_in _ (by omega)] at hrx) | (intro hcx; exfalso; omega) | intro _))
        try rfl
  · intro hr
    (repeat' (first | (refine Ev.go ?_; conv => whnf) | refine And.intro ?_ ?_ | exact True.intro | exact rfl | (intro rx hrx; rw [IntWalk.i64_in _ (by omega)] at hrx) | (intro hcx; exfalso; omega) | (intro hcx; exfalso; simp only [lz] at hcx; omega) | (intro ex hex; (first | obtain ⟨xx, hxx, rfl⟩ := ints_at hex | obtain ⟨xx, hxx, rfl⟩ := encYs_at hex | obtain ⟨xx, hxx, rfl⟩ := encRs_at hex); clear hex; try simp only [Int.toNat_natCast] at hxx) | intro _))
    refine TSq.pureC c19 (by simp [cloL, clo, encR, encY, encSoc, encT, encS, cz]) rfl (And.intro rfl rfl) ?_
    (repeat' (first | (refine Ev.go ?_; conv => whnf) | refine And.intro ?_ ?_ | exact True.intro | exact rfl | (intro rx hrx; rw [IntWalk.i64_in _ (by omega)] at hrx) | (intro hcx; exfalso; omega) | (intro hcx; exfalso; simp only [lz] at hcx; omega) | (intro ex hex; (first | obtain ⟨xx, hxx, rfl⟩ := ints_at hex | obtain ⟨xx, hxx, rfl⟩ := encYs_at hex | obtain ⟨xx, hxx, rfl⟩ := encRs_at hex); clear hex; try simp only [Int.toNat_natCast] at hxx) | intro _))
    try rfl
end Go.Proofs.Ythnaamkempmjkaa
