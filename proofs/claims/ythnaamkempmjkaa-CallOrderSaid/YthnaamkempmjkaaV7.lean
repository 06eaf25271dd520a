/- CallOrder, the walk of the statement. -/
import Derived.Test.YthnaamkempmjkaaKv
import Derived.Test.YthnaamkempmjkaaKfL7
set_option linter.unusedSimpArgs false
set_option linter.unusedVariables false
open Go Go.TV
namespace Go.Proofs.Ythnaamkempmjkaa

/-- A society with its members in another order. -/
def rotS (s : Soc) (k : Nat) : Soc := ⟨rotM s.members k, s.losses, s.treaty, s.reserve⟩
theorem rotS_fault {s : Soc} {k : Nat} (h : fault s = 0) : fault (rotS s k) = 0 := by
  have h1 := fault_valid h
  have h2 := fault_len h
  refine fault_0 (by simp only [rotS, rotM_len]; omega) ?_
  simp only [Soc.valid, Bool.and_eq_true] at h1 ⊢
  have hall : (rotS s k).members.all Mem.valid = true := by
    rw [List.all_eq_true] at h1 ⊢
    exact fun x hx => h1.2.1 x ((rotM_perm s.members k).mem_iff.1 hx)
  exact ⟨by simpa [rotS, rotM_len] using h1.1, ⟨hall, h1.2.2⟩⟩
theorem tmod_n {x y : Int} {n i : Nat} (h : x = y.tmod (n : Int)) (hy : y = (i : Int)) : x = ((i % n : Nat) : Int) := by
  rw [h, hy, Int.tmod_eq_emod_of_nonneg (Int.natCast_nonneg _)]; rfl

set_option maxHeartbeats 8000000 in
set_option maxRecDepth 100000 in
theorem c7 (s : Soc) (by_ need : Int) (hb : 0 ≤ by_ ∧ by_ ≤ 255) (hn : 0 ≤ need ∧ need ≤ 4294967295) : PF Try.prog 7 [encSoc s, .int .u8 by_, .int .u32 need] (· = .bool true) := by
  refine PF.of (TF.ev fn_7 (Ev.at ?_))
  (repeat' (first | (refine Ev.go ?_; conv => whnf) | refine And.intro ?_ ?_ | exact True.intro | exact rfl | (intro rx hrx; rw [IntWalk.i64_in _ (by omega)] at hrx) | (intro hcx; exfalso; omega) | (intro hcx; exfalso; simp only [lz] at hcx; omega) | (intro ex hex; (first | obtain ⟨xx, hxx, rfl⟩ := ints_at hex | obtain ⟨xx, hxx, rfl⟩ := encYs_at hex | obtain ⟨xx, hxx, rfl⟩ := encRs_at hex); clear hex; try simp only [Int.toNat_natCast] at hxx) | intro _))
  refine TSq.pureBC (c27 s) (by simp [cloL, clo, encR, encY, encSoc, encT, encS, cz]) rfl (And.intro rfl rfl) ?_ ?_
  · intro hr
    have h0 : fault s = 0 := by simpa [ready] using hr
    have hres1 : ∀ {x r : Int}, r = x.tmod 100001 → 0 ≤ x → 0 ≤ r ∧ r < 100001 := fun h hx => rem_bd h hx (by omega)
    (repeat' (first | (intro rx hrx; have hq := hres1 hrx (by omega); clear hrx) | (intro rx hrx; have hq := hres2 hrx (by omega); clear hrx) | (intro rx hrx; have hq := hsub1 hrx (by omega); subst hq; clear hrx) | (intro ex hex; have hq := hg1 (by omega) hex; subst hq; clear hex) | (intro ex hex; have hq := hg2 (by omega) hex; subst hq; clear hex) | (refine Ev.go ?_; conv => whnf) | refine And.intro ?_ ?_ | exact True.intro | exact rfl | (intro rx hrx; rw [IntWalk.i64_in _ (by omega)] at hrx) | (intro hcx; exfalso; omega) | intro _))
    all_goals (first | (refine ⟨?_⟩; first | rfl | exact List.cons_ne_nil _ _ | (show (_ : Nat) * _ ≤ _; simp [catS, repl, chunks, lz] <;> omega) | exact shS _ _ | exact shM _ | exact shN | exact encM_clo _ | exact ⟨rfl, rfl⟩ | exact ⟨rfl, rfl, rfl⟩ | omega | (simp only [lz]; omega) | (simp; omega) | (simp [cloL, clo, catS, repl, cz, encR, encY, encS]; done) | (show chkGo _ _ _ _ _ = true; kernel_rfl)) | (simp [cloL, clo, catS, repl, cz, encR, encY, encS]; done) | skip)
    obtain ⟨N, hN'⟩ : ∃ N : Int, N = rx := ⟨_, rfl⟩
    rw [← hN'] at hq ⊢
    have hN := hq
    clear hq hN'
    have b0 := c37 s N (by have := fault_len h0; omega)
    have hX0 := freeS_fault (n := N) h0 (by omega)
    have hXf := freeS_free s N
    generalize freeS s N = X at *
    have hl := fault_len hX0
    have hz := encYs_len X.members
    have hOk := fault_ms hX0
    have hpos := (fault_ok hX0).2.2.2.2
    have b1 := c21 X (by omega) (by omega)
    have d1 := c35 X N (by omega) (by omega)
    rw [callsR_good hX0 (by omega), show (callsOf X [] N).2 = 0 from free_short hOk hN.1 hXf hpos] at d1
    have sA := calls_sum hX0 [] (n := N) hN.1
    rw [show (callsOf X [] N).2 = 0 from free_short hOk hN.1 hXf hpos] at sA
    have hlA := callsOf_len X [] N
    have hiA := ints_len (callsOf X [] N).1
    have hAb := calls_bd hX0 [] (n := N) hN.1
    have g1 := c36 (callsOf X [] N).1 (fun x hx => by have := hAb x hx; omega) (by omega)
    have hAat := fun i (hi : i < X.members.length) => calls_at (s := X) (out := []) (n := N) hi
    dsimp only at d1
    refine TSq.pureC b0 (by simp [cloL, clo, encR, encY, encSoc, encT, encS, cz]) rfl (And.intro rfl rfl) ?_
    have hres2 : ∀ {x r : Int}, r = x.tmod ((encYs X.members).length : Int) → 0 ≤ x → 0 ≤ r ∧ r < X.members.length := fun h hx => by rw [hz] at h; exact rem_bd h hx (by omega)
    (repeat' (first | (intro rx hrx; have hq := hres1 hrx (by omega); clear hrx) | (intro rx hrx; have hq := hres2 hrx (by omega); clear hrx) | (intro rx hrx; have hq := hsub1 hrx (by omega); subst hq; clear hrx) | (intro ex hex; have hq := hg1 (by omega) hex; subst hq; clear hex) | (intro ex hex; have hq := hg2 (by omega) hex; subst hq; clear hex) | (refine Ev.go ?_; conv => whnf) | refine And.intro ?_ ?_ | exact True.intro | exact rfl | (intro rx hrx; rw [IntWalk.i64_in _ (by omega)] at hrx) | (intro hcx; exfalso; omega) | intro _))
    all_goals (first | (refine ⟨?_⟩; first | rfl | exact List.cons_ne_nil _ _ | (show (_ : Nat) * _ ≤ _; simp [catS, repl, chunks, lz] <;> omega) | exact shS _ _ | exact shM _ | exact shN | exact encM_clo _ | exact ⟨rfl, rfl⟩ | exact ⟨rfl, rfl, rfl⟩ | omega | (simp only [lz]; omega) | (simp; omega) | (simp [cloL, clo, catS, repl, cz, encR, encY, encS]; done) | (show chkGo _ _ _ _ _ = true; kernel_rfl)) | (simp [cloL, clo, catS, repl, cz, encR, encY, encS]; done) | skip)
    obtain ⟨k, hk⟩ : ∃ k : Nat, rx = k := ⟨rx.toNat, by omega⟩
    rw [hk] at hq ⊢
    have hkl : k < X.members.length := by omega
    clear hk hq hres1 hres2
    have hlen := rotM_len X.members k
    have hY0 := rotS_fault (k := k) hX0
    have b2 := c21 (rotS X k) (by simp only [rotS, hlen]; omega) (by simp only [rotS]; omega)
    have d2 := c35 (rotS X k) N (by simp only [rotS, hlen]; omega) (by simp only [rotS]; omega)
    have hYf := rotM_free hXf k hkl
    have hYok := rotM_ok hOk k hkl
    rw [callsR_good hY0 (by omega), show (callsOf (rotS X k) [] N).2 = 0 from free_short hYok hN.1 hYf (by omega)] at d2
    have sB := calls_sum hY0 [] (n := N) hN.1
    rw [show (callsOf (rotS X k) [] N).2 = 0 from free_short hYok hN.1 hYf (by omega)] at sB
    have hlB := callsOf_len (rotS X k) [] N
    rw [show (rotS X k).members.length = X.members.length from hlen] at hlB
    have hiB := ints_len (callsOf (rotS X k) [] N).1
    have hBb := calls_bd hY0 [] (n := N) hN.1
    have g2 := c36 (callsOf (rotS X k) [] N).1 (fun x hx => by have := hBb x hx; omega) (by omega)
    have hBat := fun i (hi : i < X.members.length) => calls_at (s := rotS X k) (out := []) (n := N) (i := i) (by rw [show (rotS X k).members.length = X.members.length from hlen]; exact hi)
    have hnear := fun i (hi : i < X.members.length) => rot_near hOk hN.1 hXf hkl hi
    dsimp only at d2
    rw [show encSoc (rotS X k) = .agg [.sl 3 (encYs (rotM X.members k)), .sl 2 (encRs X.losses), .int .i64 X.treaty.lo, .int .i64 X.treaty.hi, .int .i64 X.reserve] from rfl] at b2 d2
    refine TWq.loopP (fun p : Nat × List Mem => [(11, .int .i64 p.1)])
      (fun p => [(2, .cells [match p.2 with | [] => .nils | _ :: _ => .own 3, .sl 2 (encRs X.losses), .int .i64 X.treaty.lo, .int .i64 X.treaty.hi, .int .i64 X.reserve]), (3, match p.2 with | [] => .dead | _ :: _ => .arr 62 3 (encYs p.2))])
      (fun p => p.1 ≤ X.members.length ∧ p.2 = (rotM X.members k).take p.1) (fun p => X.members.length - p.1) (0, []) [] ?_ ⟨by omega, by simp⟩ ?_
    · (repeat' (first | (intro rx hrx; have hq := hres1 hrx (by omega); clear hrx) | (intro rx hrx; have hq := hres2 hrx (by omega); clear hrx) | (intro rx hrx; have hq := hsub1 hrx (by omega); subst hq; clear hrx) | (intro ex hex; have hq := hg1 (by omega) hex; subst hq; clear hex) | (intro ex hex; have hq := hg2 (by omega) hex; subst hq; clear hex) | (refine Ev.go ?_; conv => whnf) | refine And.intro ?_ ?_ | exact True.intro | exact rfl | (intro rx hrx; rw [IntWalk.i64_in _ (by omega)] at hrx) | (intro hcx; exfalso; omega) | intro _))
      all_goals (first | (refine ⟨?_⟩; first | rfl | exact List.cons_ne_nil _ _ | (show (_ : Nat) * _ ≤ _; simp [catS, repl, chunks, lz] <;> omega) | exact shS _ _ | exact shM _ | exact shN | exact encM_clo _ | exact ⟨rfl, rfl⟩ | exact ⟨rfl, rfl, rfl⟩ | omega | (simp only [lz]; omega) | (simp; omega) | (simp [cloL, clo, catS, repl, cz, encR, encY, encS]; done) | (show chkGo _ _ _ _ _ = true; kernel_rfl)) | (simp [cloL, clo, catS, repl, cz, encR, encY, encS]; done) | skip)
    · rintro ⟨i, y⟩ ⟨hi, hy⟩
      dsimp only at hi hy ⊢
      have hyl : y.length = i := by rw [hy]; simp [hlen]; omega
      rcases Nat.lt_or_ge i X.members.length with hil | hil
      · have hj := Nat.mod_lt (i + k) hpos
        obtain ⟨m, hm⟩ : ∃ m, X.members[(i + k) % X.members.length]? = some m := ⟨_, List.getElem?_eq_getElem hj⟩
        have hmr : (rotM X.members k)[i]? = some m := by rw [rotM_at hkl hil, hm]
        have hsub1 : ∀ {x z : Int}, x = z.tmod ((encYs X.members).length : Int) → z = ((i + k : Nat) : Int) → x = (((i + k) % X.members.length : Nat) : Int) := fun h e => by rw [hz] at h; exact tmod_n h e
        have hg1 : ∀ {n : Nat} {e : SV}, n = (i + k) % X.members.length → (encYs X.members)[n]? = some e → e = encY m := by
          rintro n e rfl he
          obtain ⟨x, hx, rfl⟩ := encYs_at he
          rw [hm] at hx; cases hx; rfl
        generalize (i + k) % X.members.length = j at *
        rcases y with _ | ⟨a, l⟩
        · (repeat' (first | (intro rx hrx; have hq := hres1 hrx (by omega); clear hrx) | (intro rx hrx; have hq := hres2 hrx (by omega); clear hrx) | (intro rx hrx; have hq := hsub1 hrx (by omega); subst hq; clear hrx) | (intro ex hex; have hq := hg1 (by omega) hex; subst hq; clear hex) | (intro ex hex; have hq := hg2 (by omega) hex; subst hq; clear hex) | (refine Ev.go ?_; conv => whnf) | refine And.intro ?_ ?_ | exact True.intro | exact rfl | (intro rx hrx; rw [IntWalk.i64_in _ (by omega)] at hrx) | (intro hcx; exfalso; omega) | intro _))
          all_goals (first | (refine ⟨?_⟩; show chkGo _ _ _ _ _ = true; kernel_rfl) | (refine ⟨?_⟩; first | rfl | exact List.cons_ne_nil _ _ | (show (_ : Nat) * _ ≤ _; simp [catS, repl, chunks, lz] <;> omega) | exact shS _ _ | exact shM _ | exact shN | exact encM_clo _ | exact ⟨rfl, rfl⟩ | exact ⟨rfl, rfl, rfl⟩ | omega | (simp only [lz]; omega) | (simp; omega) | (simp [cloL, clo, catS, repl, cz, encR, encY, encS]; done) | (show chkGo _ _ _ _ _ = true; kernel_rfl)) | (simp [cloL, clo, catS, repl, cz, encR, encY, encS]; done) | skip)
          refine ⟨⟨[(3, 5)], (i + 1, [m]), ⟨by dsimp only; omega, ?_⟩, by dsimp only; omega, ?_⟩⟩
          · dsimp only; rw [take_snoc hmr, ← hy]; rfl
          · (repeat' (first | (intro rx hrx; have hq := hres1 hrx (by omega); clear hrx) | (intro rx hrx; have hq := hres2 hrx (by omega); clear hrx) | (intro rx hrx; have hq := hsub1 hrx (by omega); subst hq; clear hrx) | (intro ex hex; have hq := hg1 (by omega) hex; subst hq; clear hex) | (intro ex hex; have hq := hg2 (by omega) hex; subst hq; clear hex) | (refine Ev.go ?_; conv => whnf) | refine And.intro ?_ ?_ | exact True.intro | exact rfl | (intro rx hrx; rw [IntWalk.i64_in _ (by omega)] at hrx) | (intro hcx; exfalso; omega) | intro _))
            all_goals (first | (refine ⟨?_⟩; first | rfl | exact List.cons_ne_nil _ _ | (show (_ : Nat) * _ ≤ _; simp [catS, repl, chunks, lz] <;> omega) | exact shS _ _ | exact shM _ | exact shN | exact encM_clo _ | exact ⟨rfl, rfl⟩ | exact ⟨rfl, rfl, rfl⟩ | omega | (simp only [lz]; omega) | (simp; omega) | (simp [cloL, clo, catS, repl, cz, encR, encY, encS]; done) | (show chkGo _ _ _ _ _ = true; kernel_rfl)) | (simp [cloL, clo, catS, repl, cz, encR, encY, encS]; done) | skip)
            all_goals (try (refine ⟨?_⟩; simp [encYs, encY, catS, repl, chunks]))
        · simp only [List.length_cons] at hyl
          have hal := encYs_len (a :: l)
          simp only [List.length_cons] at hal
          (repeat' (first | (intro rx hrx; have hq := hres1 hrx (by omega); clear hrx) | (intro rx hrx; have hq := hres2 hrx (by omega); clear hrx) | (intro rx hrx; have hq := hsub1 hrx (by omega); subst hq; clear hrx) | (intro ex hex; have hq := hg1 (by omega) hex; subst hq; clear hex) | (intro ex hex; have hq := hg2 (by omega) hex; subst hq; clear hex) | (refine Ev.go ?_; conv => whnf) | refine And.intro ?_ ?_ | exact True.intro | exact rfl | (intro rx hrx; rw [IntWalk.i64_in _ (by omega)] at hrx) | (intro hcx; exfalso; omega) | intro _))
          all_goals (first | (refine ⟨?_⟩; show chkGo _ _ _ _ _ = true; kernel_rfl) | (refine ⟨?_⟩; first | rfl | exact List.cons_ne_nil _ _ | (show (_ : Nat) * _ ≤ _; simp [catS, repl, chunks, lz] <;> omega) | exact shS _ _ | exact shM _ | exact shN | exact encM_clo _ | exact ⟨rfl, rfl⟩ | exact ⟨rfl, rfl, rfl⟩ | omega | (simp only [lz]; omega) | (simp; omega) | (simp [cloL, clo, catS, repl, cz, encR, encY, encS]; done) | (show chkGo _ _ _ _ _ = true; kernel_rfl)) | (simp [cloL, clo, catS, repl, cz, encR, encY, encS]; done) | skip)
          refine ⟨⟨[(3, 5)], (i + 1, (a :: l) ++ [m]), ⟨by dsimp only; omega, ?_⟩, by dsimp only; omega, ?_⟩⟩
          · dsimp only; rw [take_snoc hmr, ← hy]
          · (repeat' (first | (intro rx hrx; have hq := hres1 hrx (by omega); clear hrx) | (intro rx hrx; have hq := hres2 hrx (by omega); clear hrx) | (intro rx hrx; have hq := hsub1 hrx (by omega); subst hq; clear hrx) | (intro ex hex; have hq := hg1 (by omega) hex; subst hq; clear hex) | (intro ex hex; have hq := hg2 (by omega) hex; subst hq; clear hex) | (refine Ev.go ?_; conv => whnf) | refine And.intro ?_ ?_ | exact True.intro | exact rfl | (intro rx hrx; rw [IntWalk.i64_in _ (by omega)] at hrx) | (intro hcx; exfalso; omega) | intro _))
            all_goals (first | (refine ⟨?_⟩; first | rfl | exact List.cons_ne_nil _ _ | (show (_ : Nat) * _ ≤ _; simp [catS, repl, chunks, lz] <;> omega) | exact shS _ _ | exact shM _ | exact shN | exact encM_clo _ | exact ⟨rfl, rfl⟩ | exact ⟨rfl, rfl, rfl⟩ | omega | (simp only [lz]; omega) | (simp; omega) | (simp [cloL, clo, catS, repl, cz, encR, encY, encS]; done) | (show chkGo _ _ _ _ _ = true; kernel_rfl)) | (simp [cloL, clo, catS, repl, cz, encR, encY, encS]; done) | skip)
            all_goals (try (refine ⟨?_⟩; simp [encYs, encY, catS, repl, chunks]))
      · have hie : i = X.members.length := by omega
        rw [List.take_of_length_le (by omega)] at hy
        rcases y with _ | ⟨y0, ys⟩
        · simp at hyl; omega
        · rw [← hy] at b2 d2
          have hYcl := encYs_clo (y0 :: ys)
          generalize (callsOf X [] N).1 = A at *
          generalize (callsOf (rotS X k) [] N).1 = B at *
          generalize (callsOf X [] N).2 = p at *
          generalize (callsOf (rotS X k) [] N).2 = q at *
          (repeat' (first | (intro rx hrx; have hq := hres1 hrx (by omega); clear hrx) | (intro rx hrx; have hq := hres2 hrx (by omega); clear hrx) | (intro rx hrx; have hq := hsub1 hrx (by omega); subst hq; clear hrx) | (intro ex hex; have hq := hg1 (by omega) hex; subst hq; clear hex) | (intro ex hex; have hq := hg2 (by omega) hex; subst hq; clear hex) | (refine Ev.go ?_; conv => whnf) | refine And.intro ?_ ?_ | exact True.intro | exact rfl | (intro rx hrx; rw [IntWalk.i64_in _ (by omega)] at hrx) | (intro hcx; exfalso; omega) | intro _))
          all_goals (first | (refine ⟨?_⟩; first | rfl | exact List.cons_ne_nil _ _ | (show (_ : Nat) * _ ≤ _; simp [catS, repl, chunks, lz] <;> omega) | exact shS _ _ | exact shM _ | exact shN | exact encM_clo _ | exact ⟨rfl, rfl⟩ | exact ⟨rfl, rfl, rfl⟩ | omega | (simp only [lz]; omega) | (simp; omega) | (simp [cloL, clo, catS, repl, cz, encR, encY, encS]; done) | (show chkGo _ _ _ _ _ = true; kernel_rfl)) | (simp [cloL, clo, catS, repl, cz, encR, encY, encS]; done) | skip)
          refine TSq.pubS 3 ?_
          (repeat' (first | (intro rx hrx; have hq := hres1 hrx (by omega); clear hrx) | (intro rx hrx; have hq := hres2 hrx (by omega); clear hrx) | (intro rx hrx; have hq := hsub1 hrx (by omega); subst hq; clear hrx) | (intro ex hex; have hq := hg1 (by omega) hex; subst hq; clear hex) | (intro ex hex; have hq := hg2 (by omega) hex; subst hq; clear hex) | (refine Ev.go ?_; conv => whnf) | refine And.intro ?_ ?_ | exact True.intro | exact rfl | (intro rx hrx; rw [IntWalk.i64_in _ (by omega)] at hrx) | (intro hcx; exfalso; omega) | intro _))
          all_goals (first | (refine ⟨?_⟩; first | rfl | exact List.cons_ne_nil _ _ | (show (_ : Nat) * _ ≤ _; simp [catS, repl, chunks, lz] <;> omega) | exact shS _ _ | exact shM _ | exact shN | exact encM_clo _ | exact ⟨rfl, rfl⟩ | exact ⟨rfl, rfl, rfl⟩ | omega | (simp only [lz]; omega) | (simp; omega) | (simp [cloL, clo, catS, repl, cz, encR, encY, encS]; done) | (show chkGo _ _ _ _ _ = true; kernel_rfl)) | (simp [cloL, clo, catS, repl, cz, encR, encY, encS]; done) | skip)
          all_goals (try exact ⟨hYcl⟩)
          refine TSq.pureC b1 (by simp [cloL, clo, encR, encY, encSoc, encT, encS, cz]) rfl (And.intro rfl rfl) ?_
          (repeat' (first | (intro rx hrx; have hq := hres1 hrx (by omega); clear hrx) | (intro rx hrx; have hq := hres2 hrx (by omega); clear hrx) | (intro rx hrx; have hq := hsub1 hrx (by omega); subst hq; clear hrx) | (intro ex hex; have hq := hg1 (by omega) hex; subst hq; clear hex) | (intro ex hex; have hq := hg2 (by omega) hex; subst hq; clear hex) | (refine Ev.go ?_; conv => whnf) | refine And.intro ?_ ?_ | exact True.intro | exact rfl | (intro rx hrx; rw [IntWalk.i64_in _ (by omega)] at hrx) | (intro hcx; exfalso; omega) | intro _))
          refine TSq.pureC d1 (by simp [cloL, clo, encR, encY, encSoc, encT, encS, cz]) rfl (And.intro rfl rfl) ?_
          (repeat' (first | (intro rx hrx; have hq := hres1 hrx (by omega); clear hrx) | (intro rx hrx; have hq := hres2 hrx (by omega); clear hrx) | (intro rx hrx; have hq := hsub1 hrx (by omega); subst hq; clear hrx) | (intro ex hex; have hq := hg1 (by omega) hex; subst hq; clear hex) | (intro ex hex; have hq := hg2 (by omega) hex; subst hq; clear hex) | (refine Ev.go ?_; conv => whnf) | refine And.intro ?_ ?_ | exact True.intro | exact rfl | (intro rx hrx; rw [IntWalk.i64_in _ (by omega)] at hrx) | (intro hcx; exfalso; omega) | intro _))
          refine TSq.pureC b2 (by simp [cloL, clo, encYs_clo, encRs_clo]) rfl (And.intro rfl rfl) ?_
          (repeat' (first | (intro rx hrx; have hq := hres1 hrx (by omega); clear hrx) | (intro rx hrx; have hq := hres2 hrx (by omega); clear hrx) | (intro rx hrx; have hq := hsub1 hrx (by omega); subst hq; clear hrx) | (intro ex hex; have hq := hg1 (by omega) hex; subst hq; clear hex) | (intro ex hex; have hq := hg2 (by omega) hex; subst hq; clear hex) | (refine Ev.go ?_; conv => whnf) | refine And.intro ?_ ?_ | exact True.intro | exact rfl | (intro rx hrx; rw [IntWalk.i64_in _ (by omega)] at hrx) | (intro hcx; exfalso; omega) | intro _))
          refine TSq.pureC d2 (by simp [cloL, clo, encYs_clo, encRs_clo]) rfl (And.intro rfl rfl) ?_
          (repeat' (first | (intro rx hrx; have hq := hres1 hrx (by omega); clear hrx) | (intro rx hrx; have hq := hres2 hrx (by omega); clear hrx) | (intro rx hrx; have hq := hsub1 hrx (by omega); subst hq; clear hrx) | (intro ex hex; have hq := hg1 (by omega) hex; subst hq; clear hex) | (intro ex hex; have hq := hg2 (by omega) hex; subst hq; clear hex) | (refine Ev.go ?_; conv => whnf) | refine And.intro ?_ ?_ | exact True.intro | exact rfl | (intro rx hrx; rw [IntWalk.i64_in _ (by omega)] at hrx) | (intro hcx; exfalso; omega) | intro _))
          all_goals (first | (refine ⟨?_⟩; first | rfl | exact List.cons_ne_nil _ _ | (show (_ : Nat) * _ ≤ _; simp [catS, repl, chunks, lz] <;> omega) | exact shS _ _ | exact shM _ | exact shN | exact encM_clo _ | exact ⟨rfl, rfl⟩ | exact ⟨rfl, rfl, rfl⟩ | omega | (simp only [lz]; omega) | (simp; omega) | (simp [cloL, clo, catS, repl, cz, encR, encY, encS]; done) | (show chkGo _ _ _ _ _ = true; kernel_rfl)) | (simp [cloL, clo, catS, repl, cz, encR, encY, encS]; done) | skip)
          all_goals (try (exfalso; omega))
          refine TWq.loop (fun k : Nat => [(18, .int .i64 k), (19, .junk)]) (fun k => []) (fun k => k ≤ X.members.length) (fun k => X.members.length - k) 0 [] [] ?_ (by omega) ?_
          · (repeat' (first | (intro rx hrx; have hq := hres1 hrx (by omega); clear hrx) | (intro rx hrx; have hq := hres2 hrx (by omega); clear hrx) | (intro rx hrx; have hq := hsub1 hrx (by omega); subst hq; clear hrx) | (intro ex hex; have hq := hg1 (by omega) hex; subst hq; clear hex) | (intro ex hex; have hq := hg2 (by omega) hex; subst hq; clear hex) | (refine Ev.go ?_; conv => whnf) | refine And.intro ?_ ?_ | exact True.intro | exact rfl | (intro rx hrx; rw [IntWalk.i64_in _ (by omega)] at hrx) | (intro hcx; exfalso; omega) | intro _))
            all_goals (first | (refine ⟨?_⟩; first | rfl | exact List.cons_ne_nil _ _ | (show (_ : Nat) * _ ≤ _; simp [catS, repl, chunks, lz] <;> omega) | exact shS _ _ | exact shM _ | exact shN | exact encM_clo _ | exact ⟨rfl, rfl⟩ | exact ⟨rfl, rfl, rfl⟩ | omega | (simp only [lz]; omega) | (simp; omega) | (simp [cloL, clo, catS, repl, cz, encR, encY, encS]; done) | (show chkGo _ _ _ _ _ = true; kernel_rfl)) | (simp [cloL, clo, catS, repl, cz, encR, encY, encS]; done) | skip)
          · intro i hi
            rcases Nat.lt_or_ge i X.members.length with hil | hil
            · have hj := Nat.mod_lt (i + k) hpos
              have hA1 := hAat _ hj
              have hB1 := hBat i hil
              have hn1 := hnear i hil
              have hsub1 : ∀ {x z : Int}, x = z.tmod ((ints A).length : Int) → z = ((i + k : Nat) : Int) → x = (((i + k) % X.members.length : Nat) : Int) := fun h e => by rw [hiA, hlA] at h; exact tmod_n h e
              generalize (i + k) % X.members.length = j at *
              have hA2 := hAb _ (List.mem_of_getElem? hA1)
              have hB2 := hBb _ (List.mem_of_getElem? hB1)
              change B[i]? = some ((callsF (rotM X.members k) 6 (askF (rotM X.members k) []) N fun _ => 0).1 i) at hB1
              change 0 ≤ (callsF (rotM X.members k) 6 (askF (rotM X.members k) []) N fun _ => 0).1 i ∧ _ at hB2
              generalize (callsF (rotM X.members k) 6 (askF (rotM X.members k) []) N fun _ => 0).1 i = b at *
              generalize (callsF X.members 6 (askF X.members []) N fun _ => 0).1 j = a at *
              have hg1 : ∀ {n : Nat} {e : SV}, n = i → (ints B)[n]? = some e → e = .int .i64 b := by
                rintro n e rfl he
                obtain ⟨x, hx, rfl⟩ := ints_at he
                rw [hB1] at hx; cases hx; rfl
              have hg2 : ∀ {n : Nat} {e : SV}, n = j → (ints A)[n]? = some e → e = .int .i64 a := by
                rintro n e rfl he
                obtain ⟨x, hx, rfl⟩ := ints_at he
                rw [hA1] at hx; cases hx; rfl
              (repeat' (first | (intro rx hrx; have hq := hres1 hrx (by omega); clear hrx) | (intro rx hrx; have hq := hres2 hrx (by omega); clear hrx) | (intro rx hrx; have hq := hsub1 hrx (by omega); subst hq; clear hrx) | (intro ex hex; have hq := hg1 (by omega) hex; subst hq; clear hex) | (intro ex hex; have hq := hg2 (by omega) hex; subst hq; clear hex) | (refine Ev.go ?_; conv => whnf) | refine And.intro ?_ ?_ | exact True.intro | exact rfl | (intro rx hrx; rw [IntWalk.i64_in _ (by omega)] at hrx) | (intro hcx; exfalso; omega) | intro _))
              all_goals (first | (refine ⟨?_⟩; show chkGo _ _ _ _ _ = true; kernel_rfl) | (refine ⟨?_⟩; first | rfl | exact List.cons_ne_nil _ _ | (show (_ : Nat) * _ ≤ _; simp [catS, repl, chunks, lz] <;> omega) | exact shS _ _ | exact shM _ | exact shN | exact encM_clo _ | exact ⟨rfl, rfl⟩ | exact ⟨rfl, rfl, rfl⟩ | omega | (simp only [lz]; omega) | (simp; omega) | (simp [cloL, clo, catS, repl, cz, encR, encY, encS]; done) | (show chkGo _ _ _ _ _ = true; kernel_rfl)) | (simp [cloL, clo, catS, repl, cz, encR, encY, encS]; done) | skip)
              refine ⟨⟨i + 1, by omega, by omega, ?_⟩⟩
              (repeat' (first | (intro rx hrx; have hq := hres1 hrx (by omega); clear hrx) | (intro rx hrx; have hq := hres2 hrx (by omega); clear hrx) | (intro rx hrx; have hq := hsub1 hrx (by omega); subst hq; clear hrx) | (intro ex hex; have hq := hg1 (by omega) hex; subst hq; clear hex) | (intro ex hex; have hq := hg2 (by omega) hex; subst hq; clear hex) | (refine Ev.go ?_; conv => whnf) | refine And.intro ?_ ?_ | exact True.intro | exact rfl | (intro rx hrx; rw [IntWalk.i64_in _ (by omega)] at hrx) | (intro hcx; exfalso; omega) | intro _))
              all_goals (first | (refine ⟨?_⟩; first | rfl | exact List.cons_ne_nil _ _ | (show (_ : Nat) * _ ≤ _; simp [catS, repl, chunks, lz] <;> omega) | exact shS _ _ | exact shM _ | exact shN | exact encM_clo _ | exact ⟨rfl, rfl⟩ | exact ⟨rfl, rfl, rfl⟩ | omega | (simp only [lz]; omega) | (simp; omega) | (simp [cloL, clo, catS, repl, cz, encR, encY, encS]; done) | (show chkGo _ _ _ _ _ = true; kernel_rfl)) | (simp [cloL, clo, catS, repl, cz, encR, encY, encS]; done) | skip)
            · have hke : i = X.members.length := by omega
              subst hke
              (repeat' (first | (intro rx hrx; have hq := hres1 hrx (by omega); clear hrx) | (intro rx hrx; have hq := hres2 hrx (by omega); clear hrx) | (intro rx hrx; have hq := hsub1 hrx (by omega); subst hq; clear hrx) | (intro ex hex; have hq := hg1 (by omega) hex; subst hq; clear hex) | (intro ex hex; have hq := hg2 (by omega) hex; subst hq; clear hex) | (refine Ev.go ?_; conv => whnf) | refine And.intro ?_ ?_ | exact True.intro | exact rfl | (intro rx hrx; rw [IntWalk.i64_in _ (by omega)] at hrx) | (intro hcx; exfalso; omega) | intro _))
              all_goals (first | (refine ⟨?_⟩; first | rfl | exact List.cons_ne_nil _ _ | (show (_ : Nat) * _ ≤ _; simp [catS, repl, chunks, lz] <;> omega) | exact shS _ _ | exact shM _ | exact shN | exact encM_clo _ | exact ⟨rfl, rfl⟩ | exact ⟨rfl, rfl, rfl⟩ | omega | (simp only [lz]; omega) | (simp; omega) | (simp [cloL, clo, catS, repl, cz, encR, encY, encS]; done) | (show chkGo _ _ _ _ _ = true; kernel_rfl)) | (simp [cloL, clo, catS, repl, cz, encR, encY, encS]; done) | skip)
              refine TSq.pureC g1 (by simp [cloL, clo, encR, encY, encSoc, encT, encS, cz]) rfl (And.intro rfl rfl) ?_
              (repeat' (first | (intro rx hrx; have hq := hres1 hrx (by omega); clear hrx) | (intro rx hrx; have hq := hres2 hrx (by omega); clear hrx) | (intro rx hrx; have hq := hsub1 hrx (by omega); subst hq; clear hrx) | (intro ex hex; have hq := hg1 (by omega) hex; subst hq; clear hex) | (intro ex hex; have hq := hg2 (by omega) hex; subst hq; clear hex) | (refine Ev.go ?_; conv => whnf) | refine And.intro ?_ ?_ | exact True.intro | exact rfl | (intro rx hrx; rw [IntWalk.i64_in _ (by omega)] at hrx) | (intro hcx; exfalso; omega) | intro _))
              refine TSq.pureC g2 (by simp [cloL, clo, encR, encY, encSoc, encT, encS, cz]) rfl (And.intro rfl rfl) ?_
              (repeat' (first | (intro rx hrx; have hq := hres1 hrx (by omega); clear hrx) | (intro rx hrx; have hq := hres2 hrx (by omega); clear hrx) | (intro rx hrx; have hq := hsub1 hrx (by omega); subst hq; clear hrx) | (intro ex hex; have hq := hg1 (by omega) hex; subst hq; clear hex) | (intro ex hex; have hq := hg2 (by omega) hex; subst hq; clear hex) | (refine Ev.go ?_; conv => whnf) | refine And.intro ?_ ?_ | exact True.intro | exact rfl | (intro rx hrx; rw [IntWalk.i64_in _ (by omega)] at hrx) | (intro hcx; exfalso; omega) | intro _))
              refine TSq.pureC c19 (by simp [cloL, clo, encR, encY, encSoc, encT, encS, cz]) rfl (And.intro rfl rfl) ?_
              (repeat' (first | (intro rx hrx; have hq := hres1 hrx (by omega); clear hrx) | (intro rx hrx; have hq := hres2 hrx (by omega); clear hrx) | (intro rx hrx; have hq := hsub1 hrx (by omega); subst hq; clear hrx) | (intro ex hex; have hq := hg1 (by omega) hex; subst hq; clear hex) | (intro ex hex; have hq := hg2 (by omega) hex; subst hq; clear hex) | (refine Ev.go ?_; conv => whnf) | refine And.intro ?_ ?_ | exact True.intro | exact rfl | (intro rx hrx; rw [IntWalk.i64_in _ (by omega)] at hrx) | (intro hcx; exfalso; omega) | intro _))
              all_goals (first | (refine ⟨?_⟩; first | rfl | exact List.cons_ne_nil _ _ | (show (_ : Nat) * _ ≤ _; simp [catS, repl, chunks, lz] <;> omega) | exact shS _ _ | exact shM _ | exact shN | exact encM_clo _ | exact ⟨rfl, rfl⟩ | exact ⟨rfl, rfl, rfl⟩ | omega | (simp only [lz]; omega) | (simp; omega) | (simp [cloL, clo, catS, repl, cz, encR, encY, encS]; done) | (show chkGo _ _ _ _ _ = true; kernel_rfl)) | (simp [cloL, clo, catS, repl, cz, encR, encY, encS]; done) | skip)
              all_goals (try rfl)
  · intro hr
    (repeat' (first | (refine Ev.go ?_; conv => whnf) | refine And.intro ?_ ?_ | exact True.intro | exact rfl | (intro rx hrx; rw [IntWalk.i64_in _ (by omega)] at hrx) | (intro hcx; exfalso; omega) | (intro hcx; exfalso; simp only [lz] at hcx; omega) | (intro ex hex; (first | obtain ⟨xx, hxx, rfl⟩ := ints_at hex | obtain ⟨xx, hxx, rfl⟩ := encYs_at hex | obtain ⟨xx, hxx, rfl⟩ := encRs_at hex); clear hex; try simp only [Int.toNat_natCast] at hxx) | intro _))
    refine TSq.pureC c19 (by simp [cloL, clo, encR, encY, encSoc, encT, encS, cz]) rfl (And.intro rfl rfl) ?_
    (repeat' (first | (refine Ev.go ?_; conv => whnf) | refine And.intro ?_ ?_ | exact True.intro | exact rfl | (intro rx hrx; rw [IntWalk.i64_in _ (by omega)] at hrx) | (intro hcx; exfalso; omega) | (intro hcx; exfalso; simp only [lz] at hcx; omega) | (intro ex hex; (first | obtain ⟨xx, hxx, rfl⟩ := ints_at hex | obtain ⟨xx, hxx, rfl⟩ := encYs_at hex | obtain ⟨xx, hxx, rfl⟩ := encRs_at hex); clear hex; try simp only [Int.toNat_natCast] at hxx) | intro _))
    try rfl
end Go.Proofs.Ythnaamkempmjkaa
