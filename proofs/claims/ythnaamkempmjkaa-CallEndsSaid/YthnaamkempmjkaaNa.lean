/- The need and its bounds, as the document says. -/
import Derived.Test.YthnaamkempmjkaaKz
set_option linter.unusedSimpArgs false
set_option linter.unusedVariables false
open Go Go.TV
namespace Go.Proofs.Ythnaamkempmjkaa

/-- A list of pence in a truth. -/
def PenL (l : List Int) : Prop := l.length ≤ 9 ∧ ∀ x ∈ l, 0 ≤ x ∧ x ≤ 1000000
set_option maxRecDepth 100000 in
set_option maxHeartbeats 4000000 in
theorem c55 (s : Soc) (l : List Int) (o : SV) (t : Int) (ho : LN l o) (hl : PenL l) (hr : 0 ≤ s.reserve ∧ s.reserve ≤ 1000000) (ht : 0 ≤ t ∧ t ≤ 1000000) : PF Try.prog 55 [encSoc s, .agg [o, .int .i64 t]] (· = .int .i64 (needOf s (sumL l) t)) := by
  have hz := ints_len l
  have hb := sumL_bd hl.2
  have hln := hl.1
  rcases ho with rfl | ⟨rfl, rfl⟩
  all_goals
    refine PF.of (TF.ev fn_55 (Ev.at ?_))
    (repeat' (first | (intro ex hex; have hq := hg1 (by omega) hex; subst hq; clear hex) | (refine Ev.go ?_; conv => whnf) | refine And.intro ?_ ?_ | exact True.intro | exact rfl | (intro rx hrx; rw [IntWalk.i64_in _ (by omega)] at hrx) | (intro hcx; exfalso; omega) | intro _))
    all_goals (first | (refine ⟨?_⟩; exact vc) | exact cl | skip)
  · refine TWq.loop (fun k : Nat => [(5, .int .i64 (0 - s.reserve - t + sumL (l.take k))), (6, .int .i64 k)]) (fun _ => []) (fun k => k ≤ l.length) (fun k => l.length - k) 0 [] [] ?_ (by omega) ?_
    · (repeat' (first | (intro ex hex; have hq := hg1 (by omega) hex; subst hq; clear hex) | (refine Ev.go ?_; conv => whnf) | refine And.intro ?_ ?_ | exact True.intro | exact rfl | (intro rx hrx; rw [IntWalk.i64_in _ (by omega)] at hrx) | (intro hcx; exfalso; omega) | intro _))
      all_goals (first | (refine ⟨?_⟩; exact vc) | exact cl | skip)
      all_goals (refine ⟨?_⟩; simp [sumL]; omega)
    · intro k hk
      have hb1 := hb k
      rcases Nat.lt_or_ge k l.length with hkl | hkl
      · obtain ⟨v, hv⟩ : ∃ v, l[k]? = some v := ⟨_, List.getElem?_eq_getElem hkl⟩
        have hb2 := hb (k + 1)
        have hs := sumL_take hv
        have hg1 : ∀ {n : Nat} {e : SV}, n = k → (ints l)[n]? = some e → e = .int .i64 v := by
          rintro n e rfl he
          obtain ⟨x, hx, rfl⟩ := ints_at he
          rw [hv] at hx; cases hx; rfl
        (repeat' (first | (intro ex hex; have hq := hg1 (by omega) hex; subst hq; clear hex) | (refine Ev.go ?_; conv => whnf) | refine And.intro ?_ ?_ | exact True.intro | exact rfl | (intro rx hrx; rw [IntWalk.i64_in _ (by omega)] at hrx) | (intro hcx; exfalso; omega) | intro _))
        all_goals (first | (refine ⟨?_⟩; exact vc) | exact cl | skip)
        refine ⟨⟨k + 1, by omega, by omega, ?_⟩⟩
        (repeat' (first | (intro ex hex; have hq := hg1 (by omega) hex; subst hq; clear hex) | (refine Ev.go ?_; conv => whnf) | refine And.intro ?_ ?_ | exact True.intro | exact rfl | (intro rx hrx; rw [IntWalk.i64_in _ (by omega)] at hrx) | (intro hcx; exfalso; omega) | intro _))
        all_goals (first | (refine ⟨?_⟩; exact vc) | exact cl | skip)
        all_goals (refine ⟨?_⟩; rw [hs]; omega)
      · have hke : k = l.length := by omega
        subst hke
        rw [List.take_length]
        (repeat' (first | (intro ex hex; have hq := hg1 (by omega) hex; subst hq; clear hex) | (refine Ev.go ?_; conv => whnf) | refine And.intro ?_ ?_ | exact True.intro | exact rfl | (intro rx hrx; rw [IntWalk.i64_in _ (by omega)] at hrx) | (intro hcx; exfalso; omega) | intro _))
        all_goals (first | (refine ⟨?_⟩; exact vc) | exact cl | skip)
        all_goals (simp only [needOf, SV.int.injEq, true_and]; omega)
  · refine TWq.loop (fun k : Nat => [(5, .int .i64 (0 - s.reserve - t)), (6, .int .i64 0)]) (fun _ => []) (fun _ => True) (fun k => k) 0 [] [] ?_ True.intro ?_
    · (repeat' (first | (intro ex hex; have hq := hg1 (by omega) hex; subst hq; clear hex) | (refine Ev.go ?_; conv => whnf) | refine And.intro ?_ ?_ | exact True.intro | exact rfl | (intro rx hrx; rw [IntWalk.i64_in _ (by omega)] at hrx) | (intro hcx; exfalso; omega) | intro _))
      all_goals (first | (refine ⟨?_⟩; exact vc) | exact cl | skip)
      all_goals (refine ⟨?_⟩; omega)
    · intro k _
      (repeat' (first | (intro ex hex; have hq := hg1 (by omega) hex; subst hq; clear hex) | (refine Ev.go ?_; conv => whnf) | refine And.intro ?_ ?_ | exact True.intro | exact rfl | (intro rx hrx; rw [IntWalk.i64_in _ (by omega)] at hrx) | (intro hcx; exfalso; omega) | intro _))
      all_goals (first | (refine ⟨?_⟩; exact vc) | exact cl | skip)
      all_goals (simp [needOf, sumL]; try omega)
set_option maxRecDepth 100000 in
set_option maxHeartbeats 4000000 in
theorem c34 (s : Soc) (h : fault s = 0) : PF Try.prog 34 [encSoc s] (· = encR (needsOf s)) := by
  have hw := encRs_len s.losses
  have hl := (fault_len h).2
  obtain ⟨_, hr, ht, hs, _⟩ := fault_ok h
  refine PF.of (TF.ev fn_34 (Ev.at ?_))
  (repeat' (first | (intro ex hex; have hq := hg1 (by omega) hex; subst hq; clear hex) | (refine Ev.go ?_; conv => whnf) | refine And.intro ?_ ?_ | exact True.intro | exact rfl | (intro rx hrx; rw [IntWalk.i64_in _ (by omega)] at hrx) | (intro hcx; exfalso; omega) | intro _))
  all_goals (first | (refine ⟨?_⟩; exact vc) | exact cl | skip)
  refine TWq.loopP (fun p : Nat × List Rng => [(5, .int .i64 p.1)])
    (fun p => [(2, .cells [match p.2 with | [] => .nils | _ :: _ => .own 4, .int .i64 s.treaty.hi]), (3, .cells [match p.2 with | [] => .nils | _ :: _ => .own 5, .int .i64 s.treaty.lo]), (4, match p.2 with | [] => .dead | _ :: _ => .arr 3 1 (ints (los p.2))), (5, match p.2 with | [] => .dead | _ :: _ => .arr 3 1 (ints (his p.2)))])
    (fun p => p.1 ≤ s.losses.length ∧ p.2 = s.losses.take p.1) (fun p => s.losses.length - p.1) (0, []) [] ?_ ⟨by omega, by simp⟩ ?_
  · (repeat' (first | (intro ex hex; have hq := hg1 (by omega) hex; subst hq; clear hex) | (refine Ev.go ?_; conv => whnf) | refine And.intro ?_ ?_ | exact True.intro | exact rfl | (intro rx hrx; rw [IntWalk.i64_in _ (by omega)] at hrx) | (intro hcx; exfalso; omega) | intro _))
    all_goals (first | (refine ⟨?_⟩; exact vc) | exact cl | skip)
  · rintro ⟨k, y⟩ ⟨hk, hy⟩
    dsimp only at hk hy ⊢
    have hyl : y.length = k := by rw [hy]; simp; omega
    rcases Nat.lt_or_ge k s.losses.length with hkl | hkl
    · obtain ⟨m, hm⟩ : ∃ m, s.losses[k]? = some m := ⟨_, List.getElem?_eq_getElem hkl⟩
      have hg1 : ∀ {n : Nat} {e : SV}, n = k → (encRs s.losses)[n]? = some e → e = encR m := by
        rintro n e rfl he
        obtain ⟨x, hx, rfl⟩ := encRs_at he
        rw [hm] at hx; cases hx; rfl
      rcases y with _ | ⟨a, l⟩
      · (repeat' (first | (intro ex hex; have hq := hg1 (by omega) hex; subst hq; clear hex) | (refine Ev.go ?_; conv => whnf) | refine And.intro ?_ ?_ | exact True.intro | exact rfl | (intro rx hrx; rw [IntWalk.i64_in _ (by omega)] at hrx) | (intro hcx; exfalso; omega) | intro _))
        all_goals (first | (refine ⟨?_⟩; exact vk) | exact cl | skip)
        refine ⟨⟨[(4, 7), (5, 9)], (k + 1, [m]), ⟨by omega, ?_⟩, by dsimp only; omega, ?_⟩⟩
        · dsimp only; rw [take_snoc hm, ← hy]; rfl
        · (repeat' (first | (intro ex hex; have hq := hg1 (by omega) hex; subst hq; clear hex) | (refine Ev.go ?_; conv => whnf) | refine And.intro ?_ ?_ | exact True.intro | exact rfl | (intro rx hrx; rw [IntWalk.i64_in _ (by omega)] at hrx) | (intro hcx; exfalso; omega) | intro _))
          all_goals (first | (refine ⟨?_⟩; exact vc) | exact cl | skip)
          all_goals (try (refine ⟨?_⟩; simp [ints, los, his, catS, repl, chunks]))
      · simp only [List.length_cons] at hyl
        have h1 : (ints (los (a :: l))).length = l.length + 1 := by rw [ints_len]; simp [los]
        have h2 : (ints (his (a :: l))).length = l.length + 1 := by rw [ints_len]; simp [his]
        (repeat' (first | (intro ex hex; have hq := hg1 (by omega) hex; subst hq; clear hex) | (refine Ev.go ?_; conv => whnf) | refine And.intro ?_ ?_ | exact True.intro | exact rfl | (intro rx hrx; rw [IntWalk.i64_in _ (by omega)] at hrx) | (intro hcx; exfalso; omega) | intro _))
        all_goals (first | (refine ⟨?_⟩; exact vk) | exact cl | skip)
        all_goals (try (refine ⟨?_⟩; simp only [h1, h2]; simp [catS, repl]; omega))
        refine ⟨⟨[(4, 7), (5, 9)], (k + 1, (a :: l) ++ [m]), ⟨by omega, ?_⟩, by dsimp only; omega, ?_⟩⟩
        · dsimp only; rw [take_snoc hm, ← hy]
        · (repeat' (first | (intro ex hex; have hq := hg1 (by omega) hex; subst hq; clear hex) | (refine Ev.go ?_; conv => whnf) | refine And.intro ?_ ?_ | exact True.intro | exact rfl | (intro rx hrx; rw [IntWalk.i64_in _ (by omega)] at hrx) | (intro hcx; exfalso; omega) | intro _))
          all_goals (first | (refine ⟨?_⟩; exact vc) | exact cl | skip)
          all_goals (try (refine ⟨?_⟩; simp [ints, los, his, catS, repl, chunks]))
    · have hke : k = s.losses.length := by omega
      rw [List.take_of_length_le (by omega)] at hy
      have p1 : PenL (los s.losses) := ⟨by simp [los]; omega, fun x hx => by simp only [los, List.mem_map] at hx; obtain ⟨r, h1, rfl⟩ := hx; have := hr r h1; omega⟩
      have p2 : PenL (his s.losses) := ⟨by simp [his]; omega, fun x hx => by simp only [his, List.mem_map] at hx; obtain ⟨r, h1, rfl⟩ := hx; have := hr r h1; omega⟩
      rw [show needsOf s = ⟨needOf s (sumL (los y)) s.treaty.hi, needOf s (sumL (his y)) s.treaty.lo⟩ by rw [hy]; rfl]
      rw [← hy] at p1 p2
      rcases y with _ | ⟨a, l⟩
      · have d1 := c55 s [] .nils s.treaty.hi (.inr ⟨rfl, rfl⟩) p1 (by omega) (by omega)
        have d2 := c55 s [] .nils s.treaty.lo (.inr ⟨rfl, rfl⟩) p2 (by omega) (by omega)
        rw [show los ([] : List Rng) = [] from rfl, show his ([] : List Rng) = [] from rfl]
        generalize needOf s (sumL []) s.treaty.hi = n1 at *
        generalize needOf s (sumL []) s.treaty.lo = n2 at *
        (repeat' (first | (intro ex hex; have hq := hg1 (by omega) hex; subst hq; clear hex) | (refine Ev.go ?_; conv => whnf) | refine And.intro ?_ ?_ | exact True.intro | exact rfl | (intro rx hrx; rw [IntWalk.i64_in _ (by omega)] at hrx) | (intro hcx; exfalso; omega) | intro _))
        all_goals (first | (refine ⟨?_⟩; exact vc) | exact cl | skip)
        refine TDq.pureC d1 cl rfl (And.intro rfl rfl) ?_
        (repeat' (first | (intro ex hex; have hq := hg1 (by omega) hex; subst hq; clear hex) | (refine Ev.go ?_; conv => whnf) | refine And.intro ?_ ?_ | exact True.intro | exact rfl | (intro rx hrx; rw [IntWalk.i64_in _ (by omega)] at hrx) | (intro hcx; exfalso; omega) | intro _))
        all_goals (first | (refine ⟨?_⟩; exact vc) | exact cl | skip)
        refine TDq.pureC d2 cl rfl (And.intro rfl rfl) ?_
        (repeat' (first | (intro ex hex; have hq := hg1 (by omega) hex; subst hq; clear hex) | (refine Ev.go ?_; conv => whnf) | refine And.intro ?_ ?_ | exact True.intro | exact rfl | (intro rx hrx; rw [IntWalk.i64_in _ (by omega)] at hrx) | (intro hcx; exfalso; omega) | intro _))
        all_goals (first | (refine ⟨?_⟩; exact vk) | exact cl | skip)
        all_goals (try rfl)
      · have d1 := c55 s (los (a :: l)) _ s.treaty.hi (.inl rfl) p1 (by omega) (by omega)
        have d2 := c55 s (his (a :: l)) _ s.treaty.lo (.inl rfl) p2 (by omega) (by omega)
        generalize needOf s (sumL (los (a :: l))) s.treaty.hi = n1 at *
        generalize needOf s (sumL (his (a :: l))) s.treaty.lo = n2 at *
        (repeat' (first | (intro ex hex; have hq := hg1 (by omega) hex; subst hq; clear hex) | (refine Ev.go ?_; conv => whnf) | refine And.intro ?_ ?_ | exact True.intro | exact rfl | (intro rx hrx; rw [IntWalk.i64_in _ (by omega)] at hrx) | (intro hcx; exfalso; omega) | intro _))
        all_goals (first | (refine ⟨?_⟩; exact vc) | exact cl | skip)
        refine TDq.lendC d1 (by simp [scal]) rfl (And.intro rfl ?_)
        (repeat' (first | (intro ex hex; have hq := hg1 (by omega) hex; subst hq; clear hex) | (refine Ev.go ?_; conv => whnf) | refine And.intro ?_ ?_ | exact True.intro | exact rfl | (intro rx hrx; rw [IntWalk.i64_in _ (by omega)] at hrx) | (intro hcx; exfalso; omega) | intro _))
        all_goals (first | (refine ⟨?_⟩; exact vc) | exact cl | skip)
        refine TDq.lendC d2 (by simp [scal]) rfl (And.intro rfl ?_)
        (repeat' (first | (intro ex hex; have hq := hg1 (by omega) hex; subst hq; clear hex) | (refine Ev.go ?_; conv => whnf) | refine And.intro ?_ ?_ | exact True.intro | exact rfl | (intro rx hrx; rw [IntWalk.i64_in _ (by omega)] at hrx) | (intro hcx; exfalso; omega) | intro _))
        all_goals (first | (refine ⟨?_⟩; exact vk) | exact cl | skip)
        all_goals (try rfl)
end Go.Proofs.Ythnaamkempmjkaa
