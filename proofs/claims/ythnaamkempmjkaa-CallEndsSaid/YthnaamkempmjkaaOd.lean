/- Lists of members by bits; bounds, as the document says. -/
import Derived.Test.YthnaamkempmjkaaOc
import Derived.Test.YthnaamkempmjkaaNa
import Derived.Test.YthnaamkempmjkaaKfG
set_option linter.unusedSimpArgs false
set_option linter.unusedVariables false
open Go Go.TV
namespace Go.Proofs.Ythnaamkempmjkaa

set_option maxHeartbeats 4000000 in
set_option maxRecDepth 100000 in
theorem c44 (a : List Rng) (h1 : a.length ≤ 1000000) : PF Try.prog 44 [.sl 2 (encRs a), .sl 2 (encRs a)] (· = .bool true) := by
  have hz := encRs_len a
  refine PF.of (TF.ev fn_44 (Ev.at ?_))
  (repeat' (first | (intro ex hex; have hq := hg1 (by omega) hex; subst hq; clear hex) | (refine Ev.go ?_; conv => whnf) | refine And.intro ?_ ?_ | exact True.intro | exact rfl | (intro rx hrx; rw [IntWalk.i64_in _ (by omega)] at hrx) | (intro hcx; exfalso; omega) | intro _))
  all_goals (try (exfalso; omega))
  refine TWq.loop (fun k : Nat => [(5, .int .i64 k)]) (fun _ => []) (fun k => k ≤ a.length) (fun k => a.length - k) 0 [] [] ?_ (by omega) ?_
  · (repeat' (first | (intro ex hex; have hq := hg1 (by omega) hex; subst hq; clear hex) | (refine Ev.go ?_; conv => whnf) | refine And.intro ?_ ?_ | exact True.intro | exact rfl | (intro rx hrx; rw [IntWalk.i64_in _ (by omega)] at hrx) | (intro hcx; exfalso; omega) | intro _))
    all_goals (first | (refine ⟨?_⟩; exact vc) | exact cl | skip)
  · intro k hk
    rcases Nat.lt_or_ge k a.length with hkl | hkl
    · obtain ⟨v, hv⟩ : ∃ v, a[k]? = some v := ⟨_, List.getElem?_eq_getElem hkl⟩
      have hg1 : ∀ {n : Nat} {e : SV}, n = k → (encRs a)[n]? = some e → e = encR v := by
        rintro n e rfl he
        obtain ⟨x, hx, rfl⟩ := encRs_at he
        rw [hv] at hx; cases hx; rfl
      (repeat' (first | (intro ex hex; have hq := hg1 (by omega) hex; subst hq; clear hex) | (refine Ev.go ?_; conv => whnf) | refine And.intro ?_ ?_ | exact True.intro | exact rfl | (intro rx hrx; rw [IntWalk.i64_in _ (by omega)] at hrx) | (intro hcx; exfalso; omega) | intro _))
      all_goals (first | (refine ⟨?_⟩; exact vc) | exact cl | skip)
      refine TDq.pureC (c33 v) cl rfl (And.intro rfl rfl) ?_
      (repeat' (first | (intro ex hex; have hq := hg1 (by omega) hex; subst hq; clear hex) | (refine Ev.go ?_; conv => whnf) | refine And.intro ?_ ?_ | exact True.intro | exact rfl | (intro rx hrx; rw [IntWalk.i64_in _ (by omega)] at hrx) | (intro hcx; exfalso; omega) | intro _))
      all_goals (first | (refine ⟨?_⟩; exact vk) | exact cl | skip)
      all_goals (try (rename_i h; exact absurd rfl h))
      refine ⟨⟨k + 1, by omega, by omega, ?_⟩⟩
      (repeat' (first | (intro ex hex; have hq := hg1 (by omega) hex; subst hq; clear hex) | (refine Ev.go ?_; conv => whnf) | refine And.intro ?_ ?_ | exact True.intro | exact rfl | (intro rx hrx; rw [IntWalk.i64_in _ (by omega)] at hrx) | (intro hcx; exfalso; omega) | intro _))
      all_goals (first | (refine ⟨?_⟩; exact vc) | exact cl | skip)
    · have hke : k = a.length := by omega
      subst hke
      (repeat' (first | (intro ex hex; have hq := hg1 (by omega) hex; subst hq; clear hex) | (refine Ev.go ?_; conv => whnf) | refine And.intro ?_ ?_ | exact True.intro | exact rfl | (intro rx hrx; rw [IntWalk.i64_in _ (by omega)] at hrx) | (intro hcx; exfalso; omega) | intro _))
      all_goals (first | (refine ⟨?_⟩; exact vc) | exact cl | skip)
      all_goals (try rfl)

theorem listed_take {s : Soc} {l : List Int} {k : Nat} {x : Int} (hx : l[k]? = some x) (h : s.listed (l.take k) = true) : s.listed (l.take (k + 1)) = (within x 0 (s.members.length - 1) && (decide (k = 0) || match l[k - 1]? with
    | some y => decide (y < x)
    | none => true)) := by
  simp only [Soc.listed, Bool.and_eq_true, decide_eq_true_eq, List.all_eq_true] at h
  obtain ⟨h1, h2⟩ := h
  rw [Bool.eq_iff_iff]
  simp only [Soc.listed, take_snoc hx, List.all_append, List.all_cons, List.all_nil, Bool.and_true, Bool.and_eq_true, decide_eq_true_eq, List.all_eq_true, List.pairwise_append, Bool.or_eq_true]
  have hlast : ∀ y, k ≠ 0 → l[k - 1]? = some y → ∀ a ∈ l.take k, a ≤ y := fun y hk hy a ha => by
    obtain ⟨i, hi⟩ := List.getElem?_of_mem ha
    have hik : i < k := by have := (List.getElem?_eq_some_iff.1 hi).1; simp at this; omega
    have hy' : (l.take k)[k - 1]? = some y := by rw [List.getElem?_take_of_lt (by omega)]; exact hy
    rcases Nat.lt_or_ge i (k - 1) with h | h
    · have := (List.pairwise_iff_getElem.1 h2) i (k - 1) (List.getElem?_eq_some_iff.1 hi).1 (List.getElem?_eq_some_iff.1 hy').1 h
      rw [(List.getElem?_eq_some_iff.1 hi).2, (List.getElem?_eq_some_iff.1 hy').2] at this; omega
    · have : i = k - 1 := by omega
      subst this; rw [hy'] at hi; cases hi; omega
  constructor
  · rintro ⟨⟨_, h3⟩, _, _, h4⟩
    refine ⟨h3, ?_⟩
    by_cases hk : k = 0
    · exact .inl hk
    · right
      cases hy : l[k - 1]? with
      | none => rfl
      | some y =>
        have : y ∈ l.take k := List.mem_of_getElem? (i := k - 1) (by rw [List.getElem?_take_of_lt (by omega)]; exact hy)
        simpa using h4 y this x (by simp)
  · rintro ⟨h3, h4⟩
    refine ⟨⟨h1, h3⟩, h2, by simp, fun a ha b hb => ?_⟩
    have : b = x := by simpa using hb
    subst this
    by_cases hk : k = 0
    · subst hk; simp at ha
    · rcases h4 with h4 | h4
      · exact absurd h4 hk
      · have hkl := (List.getElem?_eq_some_iff.1 hx).1
        have hy : l[k - 1]? = some (l[k - 1]'(by omega)) := List.getElem?_eq_getElem (by omega)
        rw [hy] at h4
        have := hlast _ hk hy a ha
        simp only [decide_eq_true_eq] at h4; omega
theorem listed_pre {s : Soc} {l : List Int} {k : Nat} (h : s.listed (l.take k) = false) : s.listed l = false := by
  cases hl : s.listed l
  · rfl
  · exfalso
    simp only [Soc.listed, Bool.and_eq_true, decide_eq_true_eq, List.all_eq_true] at hl
    have : s.listed (l.take k) = true := by
      simp only [Soc.listed, Bool.and_eq_true, decide_eq_true_eq, List.all_eq_true]
      exact ⟨fun x hx => hl.1 x (List.mem_of_mem_take hx), hl.2.sublist (List.take_sublist _ _)⟩
    rw [h] at this; cases this

set_option maxHeartbeats 4000000 in
set_option maxRecDepth 100000 in
theorem c45 (s : Soc) (l : List Int) (h1 : s.members.length ≤ 1000000) (h2 : l.length ≤ 1000000) : PF Try.prog 45 [encSoc s, .sl 1 (ints l)] (· = .bool (s.listed l)) := by
  have hz := ints_len l
  have hy := encYs_len s.members
  refine PF.of (TF.ev fn_45 (Ev.at ?_))
  (repeat' (first | (intro ex hex; have hq := hg1 (by omega) hex; subst hq; clear hex) | (intro ex hex; have hq := hg2 (by omega) hex; subst hq; clear hex) | (refine Ev.go ?_; conv => whnf) | refine And.intro ?_ ?_ | exact True.intro | exact rfl | (intro rx hrx; rw [IntWalk.i64_in _ (by omega)] at hrx) | (intro hcx; exfalso; omega) | intro _))
  all_goals (first | (refine ⟨?_⟩; exact vc) | exact cl | skip)
  refine TWq.loop (fun k : Nat => [(5, .int .i64 k)]) (fun _ => []) (fun k => k ≤ l.length ∧ s.listed (l.take k) = true) (fun k => l.length - k) 0 [] [] ?_ ⟨by omega, by simp [Soc.listed]⟩ ?_
  · (repeat' (first | (intro ex hex; have hq := hg1 (by omega) hex; subst hq; clear hex) | (intro ex hex; have hq := hg2 (by omega) hex; subst hq; clear hex) | (refine Ev.go ?_; conv => whnf) | refine And.intro ?_ ?_ | exact True.intro | exact rfl | (intro rx hrx; rw [IntWalk.i64_in _ (by omega)] at hrx) | (intro hcx; exfalso; omega) | intro _))
    all_goals (first | (refine ⟨?_⟩; exact vc) | exact cl | skip)
  · rintro k ⟨hk, hkt⟩
    rcases Nat.lt_or_ge k l.length with hkl | hkl
    · obtain ⟨v, hv⟩ : ∃ v, l[k]? = some v := ⟨_, List.getElem?_eq_getElem hkl⟩
      have hst := listed_take hv hkt
      have hg1 : ∀ {n : Nat} {e : SV}, n = k → (ints l)[n]? = some e → e = .int .i64 v := by
        rintro n e rfl he
        obtain ⟨x, hx, rfl⟩ := ints_at he
        rw [hv] at hx; cases hx; rfl
      have d40 := c40 v 0 (s.members.length - 1)
      rcases Nat.eq_zero_or_pos k with hk0 | hkp
      · subst hk0
        cases hw : within v 0 (s.members.length - 1)
        · rw [hw] at d40 hst
          rw [listed_pre (k := 0 + 1) (by rw [hst]; rfl)]
          (repeat' (first | (intro ex hex; have hq := hg1 (by omega) hex; subst hq; clear hex) | (intro ex hex; have hq := hg2 (by omega) hex; subst hq; clear hex) | (refine Ev.go ?_; conv => whnf) | refine And.intro ?_ ?_ | exact True.intro | exact rfl | (intro rx hrx; rw [IntWalk.i64_in _ (by omega)] at hrx) | (intro hcx; exfalso; omega) | intro _))
          all_goals (first | (refine ⟨?_⟩; exact vc) | exact cl | skip)
          obtain rfl : rx = (s.members.length : Int) - 1 := by omega
          refine TDq.pureC d40 cl rfl (And.intro rfl rfl) ?_
          (repeat' (first | (intro ex hex; have hq := hg1 (by omega) hex; subst hq; clear hex) | (intro ex hex; have hq := hg2 (by omega) hex; subst hq; clear hex) | (refine Ev.go ?_; conv => whnf) | refine And.intro ?_ ?_ | exact True.intro | exact rfl | (intro rx hrx; rw [IntWalk.i64_in _ (by omega)] at hrx) | (intro hcx; exfalso; omega) | intro _))
          all_goals (first | (refine ⟨?_⟩; exact vk) | exact cl | skip)
          all_goals (try rfl)
        · rw [hw] at d40 hst
          (repeat' (first | (intro ex hex; have hq := hg1 (by omega) hex; subst hq; clear hex) | (intro ex hex; have hq := hg2 (by omega) hex; subst hq; clear hex) | (refine Ev.go ?_; conv => whnf) | refine And.intro ?_ ?_ | exact True.intro | exact rfl | (intro rx hrx; rw [IntWalk.i64_in _ (by omega)] at hrx) | (intro hcx; exfalso; omega) | intro _))
          all_goals (first | (refine ⟨?_⟩; exact vc) | exact cl | skip)
          obtain rfl : rx = (s.members.length : Int) - 1 := by omega
          refine TDq.pureC d40 cl rfl (And.intro rfl rfl) ?_
          (repeat' (first | (intro ex hex; have hq := hg1 (by omega) hex; subst hq; clear hex) | (intro ex hex; have hq := hg2 (by omega) hex; subst hq; clear hex) | (refine Ev.go ?_; conv => whnf) | refine And.intro ?_ ?_ | exact True.intro | exact rfl | (intro rx hrx; rw [IntWalk.i64_in _ (by omega)] at hrx) | (intro hcx; exfalso; omega) | intro _))
          all_goals (first | (refine ⟨?_⟩; exact vk) | exact cl | skip)
          refine ⟨⟨1, ⟨by omega, by simpa using hst⟩, by omega, ?_⟩⟩
          (repeat' (first | (intro ex hex; have hq := hg1 (by omega) hex; subst hq; clear hex) | (intro ex hex; have hq := hg2 (by omega) hex; subst hq; clear hex) | (refine Ev.go ?_; conv => whnf) | refine And.intro ?_ ?_ | exact True.intro | exact rfl | (intro rx hrx; rw [IntWalk.i64_in _ (by omega)] at hrx) | (intro hcx; exfalso; omega) | intro _))
          all_goals (first | (refine ⟨?_⟩; exact vc) | exact cl | skip)
      · obtain ⟨u, hu⟩ : ∃ u, l[k - 1]? = some u := ⟨_, List.getElem?_eq_getElem (by omega)⟩
        have hg2 : ∀ {n : Nat} {e : SV}, n = k - 1 → (ints l)[n]? = some e → e = .int .i64 u := by
          rintro n e rfl he
          obtain ⟨x, hx, rfl⟩ := ints_at he
          rw [hu] at hx; cases hx; rfl
        have hk0 : k ≠ 0 := by omega
        rw [hu] at hst
        simp only [hk0, decide_false, Bool.false_or] at hst
        cases hw : within v 0 (s.members.length - 1)
        · rw [hw] at d40 hst
          rw [listed_pre (k := k + 1) (by rw [hst]; rfl)]
          (repeat' (first | (intro ex hex; have hq := hg1 (by omega) hex; subst hq; clear hex) | (intro ex hex; have hq := hg2 (by omega) hex; subst hq; clear hex) | (refine Ev.go ?_; conv => whnf) | refine And.intro ?_ ?_ | exact True.intro | exact rfl | (intro rx hrx; rw [IntWalk.i64_in _ (by omega)] at hrx) | (intro hcx; exfalso; omega) | intro _))
          all_goals (first | (refine ⟨?_⟩; exact vc) | exact cl | skip)
          obtain rfl : rx = (s.members.length : Int) - 1 := by omega
          refine TDq.pureC d40 cl rfl (And.intro rfl rfl) ?_
          (repeat' (first | (intro ex hex; have hq := hg1 (by omega) hex; subst hq; clear hex) | (intro ex hex; have hq := hg2 (by omega) hex; subst hq; clear hex) | (refine Ev.go ?_; conv => whnf) | refine And.intro ?_ ?_ | exact True.intro | exact rfl | (intro rx hrx; rw [IntWalk.i64_in _ (by omega)] at hrx) | (intro hcx; exfalso; omega) | intro _))
          all_goals (first | (refine ⟨?_⟩; exact vk) | exact cl | skip)
          all_goals (try rfl)
        · rw [hw] at d40 hst
          rcases Int.lt_or_le u v with huv | huv
          · (repeat' (first | (intro ex hex; have hq := hg1 (by omega) hex; subst hq; clear hex) | (intro ex hex; have hq := hg2 (by omega) hex; subst hq; clear hex) | (refine Ev.go ?_; conv => whnf) | refine And.intro ?_ ?_ | exact True.intro | exact rfl | (intro rx hrx; rw [IntWalk.i64_in _ (by omega)] at hrx) | (intro hcx; exfalso; omega) | intro _))
            all_goals (first | (refine ⟨?_⟩; exact vc) | exact cl | skip)
            obtain rfl : rx = (s.members.length : Int) - 1 := by omega
            refine TDq.pureC d40 cl rfl (And.intro rfl rfl) ?_
            (repeat' (first | (intro ex hex; have hq := hg1 (by omega) hex; subst hq; clear hex) | (intro ex hex; have hq := hg2 (by omega) hex; subst hq; clear hex) | (refine Ev.go ?_; conv => whnf) | refine And.intro ?_ ?_ | exact True.intro | exact rfl | (intro rx hrx; rw [IntWalk.i64_in _ (by omega)] at hrx) | (intro hcx; exfalso; omega) | intro _))
            all_goals (first | (refine ⟨?_⟩; exact vk) | exact cl | skip)
            refine ⟨⟨k + 1, ⟨by omega, by rw [hst]; simpa using huv⟩, by omega, ?_⟩⟩
            (repeat' (first | (intro ex hex; have hq := hg1 (by omega) hex; subst hq; clear hex) | (intro ex hex; have hq := hg2 (by omega) hex; subst hq; clear hex) | (refine Ev.go ?_; conv => whnf) | refine And.intro ?_ ?_ | exact True.intro | exact rfl | (intro rx hrx; rw [IntWalk.i64_in _ (by omega)] at hrx) | (intro hcx; exfalso; omega) | intro _))
            all_goals (first | (refine ⟨?_⟩; exact vc) | exact cl | skip)
          · rw [listed_pre (k := k + 1) (by rw [hst]; simp; omega)]
            (repeat' (first | (intro ex hex; have hq := hg1 (by omega) hex; subst hq; clear hex) | (intro ex hex; have hq := hg2 (by omega) hex; subst hq; clear hex) | (refine Ev.go ?_; conv => whnf) | refine And.intro ?_ ?_ | exact True.intro | exact rfl | (intro rx hrx; rw [IntWalk.i64_in _ (by omega)] at hrx) | (intro hcx; exfalso; omega) | intro _))
            all_goals (first | (refine ⟨?_⟩; exact vc) | exact cl | skip)
            obtain rfl : rx = (s.members.length : Int) - 1 := by omega
            refine TDq.pureC d40 cl rfl (And.intro rfl rfl) ?_
            (repeat' (first | (intro ex hex; have hq := hg1 (by omega) hex; subst hq; clear hex) | (intro ex hex; have hq := hg2 (by omega) hex; subst hq; clear hex) | (refine Ev.go ?_; conv => whnf) | refine And.intro ?_ ?_ | exact True.intro | exact rfl | (intro rx hrx; rw [IntWalk.i64_in _ (by omega)] at hrx) | (intro hcx; exfalso; omega) | intro _))
            all_goals (first | (refine ⟨?_⟩; exact vk) | exact cl | skip)
            all_goals (try rfl)
    · have hke : k = l.length := by omega
      subst hke
      rw [List.take_length] at hkt
      rw [hkt]
      (repeat' (first | (intro ex hex; have hq := hg1 (by omega) hex; subst hq; clear hex) | (intro ex hex; have hq := hg2 (by omega) hex; subst hq; clear hex) | (refine Ev.go ?_; conv => whnf) | refine And.intro ?_ ?_ | exact True.intro | exact rfl | (intro rx hrx; rw [IntWalk.i64_in _ (by omega)] at hrx) | (intro hcx; exfalso; omega) | intro _))
      all_goals (first | (refine ⟨?_⟩; exact vc) | exact cl | skip)
      all_goals (try rfl)
end Go.Proofs.Ythnaamkempmjkaa
