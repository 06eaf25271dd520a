/- The need in a truth; whether a list has just these calls. -/
import Derived.Test.YthnaamkempmjkaaKy
import Derived.Test.YthnaamkempmjkaaKfW
import Derived.Test.YthnaamkempmjkaaKfX
set_option linter.unusedSimpArgs false
set_option linter.unusedVariables false
open Go Go.TV
namespace Go.Proofs.Ythnaamkempmjkaa

theorem c75 (r : Rng) (n : Int) : PF Try.prog 75 [encR r, .int .i64 n] (· = .bool (r.has n)) := by
  refine PF.of (TF.ev fn_75 (Ev.at ?_))
  (repeat' (first | (refine Ev.go ?_; conv => whnf) | refine And.intro ?_ ?_ | exact True.intro | exact rfl | (intro rx hrx; rw [IntWalk.i64_in _ (by omega)] at hrx) | (intro hcx; exfalso; omega) | (intro hcx; exfalso; simp only [lz] at hcx; omega) | intro _))
  refine TSq.pureC (c69 n r.lo r.hi) cl rfl (And.intro rfl rfl) ?_
  (repeat' (first | (refine Ev.go ?_; conv => whnf) | refine And.intro ?_ ?_ | exact True.intro | exact rfl | (intro rx hrx; rw [IntWalk.i64_in _ (by omega)] at hrx) | (intro hcx; exfalso; omega) | (intro hcx; exfalso; simp only [lz] at hcx; omega) | intro _))
  try rfl
theorem take_eq {a b : List Int} {k : Nat} {x : Int} (ha : a[k]? = some x) (hb : b[k]? = some x) (h : a.take k = b.take k) : a.take (k + 1) = b.take (k + 1) := by
  rw [take_snoc ha, take_snoc hb, h]
set_option maxRecDepth 100000 in
set_option maxHeartbeats 4000000 in
theorem c73 (a b : List Int) (h1 : a.length ≤ 1000000) (h2 : b.length ≤ 1000000) : PF Try.prog 73 [.sl 1 (ints a), .sl 1 (ints b)] (· = .bool (decide (a = b))) := by
  have ha := ints_len a
  have hb := ints_len b
  by_cases hl : a.length = b.length
  · refine PF.of (TF.ev fn_73 (Ev.at ?_))
    (repeat' (first | (intro ex hex; have hq := hg1 (by omega) hex; subst hq; clear hex) | (intro ex hex; have hq := hg2 (by omega) hex; subst hq; clear hex) | (refine Ev.go ?_; conv => whnf) | refine And.intro ?_ ?_ | exact True.intro | exact rfl | (intro rx hrx; rw [IntWalk.i64_in _ (by omega)] at hrx) | (intro hcx; exfalso; omega) | intro _))
    all_goals (try (exfalso; omega))
    refine TWq.loop (fun k : Nat => [(13, .int .i64 k), (5, .junk)]) (fun _ => []) (fun k => k ≤ a.length ∧ a.take k = b.take k) (fun k => a.length - k) 0 [] [] ?_ ⟨by omega, rfl⟩ ?_
    · (repeat' (first | (intro ex hex; have hq := hg1 (by omega) hex; subst hq; clear hex) | (intro ex hex; have hq := hg2 (by omega) hex; subst hq; clear hex) | (refine Ev.go ?_; conv => whnf) | refine And.intro ?_ ?_ | exact True.intro | exact rfl | (intro rx hrx; rw [IntWalk.i64_in _ (by omega)] at hrx) | (intro hcx; exfalso; omega) | intro _))
      all_goals (first | (refine ⟨?_⟩; exact vc) | exact cl | skip)
    · rintro k ⟨hk, hab⟩
      rcases Nat.lt_or_ge k a.length with hkl | hkl
      · obtain ⟨v, hv⟩ : ∃ v, a[k]? = some v := ⟨_, List.getElem?_eq_getElem hkl⟩
        obtain ⟨w, hw⟩ : ∃ w, b[k]? = some w := ⟨_, List.getElem?_eq_getElem (by omega)⟩
        have hg1 : ∀ {n : Nat} {e : SV}, n = k → (ints a)[n]? = some e → e = .int .i64 v := by
          rintro n e rfl he
          obtain ⟨x, hx, rfl⟩ := ints_at he
          rw [hv] at hx; cases hx; rfl
        have hg2 : ∀ {n : Nat} {e : SV}, n = k → (ints b)[n]? = some e → e = .int .i64 w := by
          rintro n e rfl he
          obtain ⟨x, hx, rfl⟩ := ints_at he
          rw [hw] at hx; cases hx; rfl
        (repeat' (first | (intro ex hex; have hq := hg1 (by omega) hex; subst hq; clear hex) | (intro ex hex; have hq := hg2 (by omega) hex; subst hq; clear hex) | (refine Ev.go ?_; conv => whnf) | refine And.intro ?_ ?_ | exact True.intro | exact rfl | (intro rx hrx; rw [IntWalk.i64_in _ (by omega)] at hrx) | (intro hcx; exfalso; omega) | intro _))
        all_goals (first | (refine ⟨?_⟩; exact vk) | exact cl | skip)
        · rename_i he
          subst he
          refine ⟨⟨k + 1, ⟨by omega, take_eq hv hw hab⟩, by omega, ?_⟩⟩
          (repeat' (first | (intro ex hex; have hq := hg1 (by omega) hex; subst hq; clear hex) | (intro ex hex; have hq := hg2 (by omega) hex; subst hq; clear hex) | (refine Ev.go ?_; conv => whnf) | refine And.intro ?_ ?_ | exact True.intro | exact rfl | (intro rx hrx; rw [IntWalk.i64_in _ (by omega)] at hrx) | (intro hcx; exfalso; omega) | intro _))
          all_goals (first | (refine ⟨?_⟩; exact vc) | exact cl | skip)
        · rename_i hne
          show SV.bool _ = SV.bool _
          rw [SV.bool_iff]; simp only [Bool.false_eq_true, false_iff, decide_eq_true_eq]
          intro e; subst e; rw [hv] at hw; cases hw; exact hne rfl
      · have hke : k = a.length := by omega
        have : a = b := by
          rw [List.take_of_length_le (by omega), List.take_of_length_le (by omega)] at hab; exact hab
        (repeat' (first | (intro ex hex; have hq := hg1 (by omega) hex; subst hq; clear hex) | (intro ex hex; have hq := hg2 (by omega) hex; subst hq; clear hex) | (refine Ev.go ?_; conv => whnf) | refine And.intro ?_ ?_ | exact True.intro | exact rfl | (intro rx hrx; rw [IntWalk.i64_in _ (by omega)] at hrx) | (intro hcx; exfalso; omega) | intro _))
        all_goals (first | (refine ⟨?_⟩; exact vc) | exact cl | skip)
        all_goals (show SV.bool _ = SV.bool _; rw [SV.bool_iff]; simp [this])
  · refine PF.of (TF.ev fn_73 (Ev.at ?_))
    (repeat' (first | (intro ex hex; have hq := hg1 (by omega) hex; subst hq; clear hex) | (intro ex hex; have hq := hg2 (by omega) hex; subst hq; clear hex) | (refine Ev.go ?_; conv => whnf) | refine And.intro ?_ ?_ | exact True.intro | exact rfl | (intro rx hrx; rw [IntWalk.i64_in _ (by omega)] at hrx) | (intro hcx; exfalso; omega) | intro _))
    all_goals (try (exfalso; omega))
    show SV.bool _ = SV.bool _
    rw [SV.bool_iff]; simp only [Bool.false_eq_true, false_iff, decide_eq_true_eq]
    intro e; subst e; exact hl rfl
/-- What ProveCalls returns. -/
def proveR (s : Soc) (need : Int) (l : List Int) : Bool := decide ((callsR s need).2.2 = 0) && decide ((callsR s need).1 = l)
theorem callsR_len {s : Soc} {need : Int} (h : s.members.length ≤ 1000000) : (callsR s need).1.length ≤ 1000000 := by
  unfold callsR
  split
  · simp
  · split
    · rw [callsOf_len]; exact h
    · simp
theorem c49 (s : Soc) (need : Int) (l : List Int) (h1 : s.members.length ≤ 1000000) (h2 : s.losses.length ≤ 1000000) (h3 : l.length ≤ 1000000) : PF Try.prog 49 [encSoc s, .int .i64 need, .sl 1 (ints l)] (· = .bool (proveR s need l)) := by
  have d1 := c35 s need h1 h2
  have d2 := c73 (callsR s need).1 l (callsR_len h1) h3
  unfold proveR
  generalize (callsR s need).1 = A at *
  generalize (callsR s need).2.1 = p at *
  generalize (callsR s need).2.2 = e at *
  refine PF.of (TF.ev fn_49 (Ev.at ?_))
  (repeat' (first | (refine Ev.go ?_; conv => whnf) | refine And.intro ?_ ?_ | exact True.intro | exact rfl | (intro rx hrx; rw [IntWalk.i64_in _ (by omega)] at hrx) | (intro hcx; exfalso; omega) | intro _))
  refine TSq.pureC d1 cl rfl (And.intro rfl rfl) ?_
  (repeat' (first | (refine Ev.go ?_; conv => whnf) | refine And.intro ?_ ?_ | exact True.intro | exact rfl | (intro rx hrx; rw [IntWalk.i64_in _ (by omega)] at hrx) | (intro hcx; exfalso; omega) | intro _))
  · refine TSq.pureC d2 cl rfl (And.intro rfl rfl) ?_
    (repeat' (first | (refine Ev.go ?_; conv => whnf) | refine And.intro ?_ ?_ | exact True.intro | exact rfl | (intro rx hrx; rw [IntWalk.i64_in _ (by omega)] at hrx) | (intro hcx; exfalso; omega) | intro _))
    rename_i he
    show SV.bool _ = SV.bool _
    rw [decide_eq_true he, Bool.true_and]
  · rename_i he
    show SV.bool _ = SV.bool _
    rw [decide_eq_false he, Bool.false_and]
/-- What Need returns. -/
def needR (s : Soc) (t : Truth) : Int × Int := if fault s ≠ 0 then (0, fault s) else if isTruth s t = true then (needOf s (sumL t.losses) t.treaty, 0) else (0, 2)
theorem isTruth_at {s : Soc} {t : Truth} : isTruth s t = true ↔ t.losses.length = s.losses.length ∧ s.treaty.has t.treaty = true ∧ ∀ (i : Nat) (r : Rng) (v : Int), s.losses[i]? = some r → t.losses[i]? = some v → r.has v = true := by
  simp only [isTruth, Bool.and_eq_true, decide_eq_true_eq, List.all_eq_true, List.mem_range]
  constructor
  · rintro ⟨h1, h2, h3⟩
    refine ⟨h1, h2, fun i r v hr hv => ?_⟩
    have := h3 i (List.getElem?_eq_some_iff.1 hv).1
    rw [hr, List.getD_eq_getElem?_getD, hv] at this
    exact this
  · rintro ⟨h1, h2, h3⟩
    refine ⟨h1, h2, fun i hi => ?_⟩
    have hv : t.losses[i]? = some t.losses[i] := List.getElem?_eq_getElem hi
    have hr : s.losses[i]? = some (s.losses[i]'(by omega)) := List.getElem?_eq_getElem (by omega)
    rw [hr, List.getD_eq_getElem?_getD, hv]
    exact h3 i _ _ hr hv
set_option maxRecDepth 100000 in
set_option maxHeartbeats 4000000 in
theorem c51 (s : Soc) (t : Truth) (h1 : s.members.length ≤ 1000000) (h2 : s.losses.length ≤ 1000000) (h3 : t.losses.length ≤ 1000000) : PF Try.prog 51 [encSoc s, encT t] (· = .tup [.int .i64 (needR s t).1, .int .i64 (needR s t).2]) := by
  have hz := ints_len t.losses
  have hw := encRs_len s.losses
  have d1 := c53 s h1 h2
  by_cases hf : fault s = 0
  · rw [hf] at d1
    have hl3 := (fault_len hf).2
    obtain ⟨_, hr, ht, hs, _⟩ := fault_ok hf
    have hno : isTruth s t = false → needR s t = (0, 2) := fun h => by simp only [needR, if_neg (show ¬ fault s ≠ 0 by simpa using hf), h]; simp
    have hyes : isTruth s t = true → needR s t = (needOf s (sumL t.losses) t.treaty, 0) := fun h => by simp only [needR, if_neg (show ¬ fault s ≠ 0 by simpa using hf), h]; simp
    have d2 := c75 s.treaty t.treaty
    by_cases hlen : t.losses.length = s.losses.length
    · cases hh : s.treaty.has t.treaty
      · have hn := hno (by rw [Bool.eq_false_iff]; intro h; have := (isTruth_at.1 h).2.1; rw [hh] at this; cases this)
        rw [hh] at d2
        rw [hn]
        refine PF.of (TF.ev fn_51 (Ev.at ?_))
        (repeat' (first | (intro ex hex; have hq := hg1 (by omega) hex; subst hq; clear hex) | (intro ex hex; have hq := hg2 (by omega) hex; subst hq; clear hex) | (refine Ev.go ?_; conv => whnf) | refine And.intro ?_ ?_ | exact True.intro | exact rfl | (intro rx hrx; rw [IntWalk.i64_in _ (by omega)] at hrx) | (intro hcx; exfalso; omega) | intro _))
        refine TSq.pureC d1 cl rfl (And.intro rfl rfl) ?_
        (repeat' (first | (intro ex hex; have hq := hg1 (by omega) hex; subst hq; clear hex) | (intro ex hex; have hq := hg2 (by omega) hex; subst hq; clear hex) | (refine Ev.go ?_; conv => whnf) | refine And.intro ?_ ?_ | exact True.intro | exact rfl | (intro rx hrx; rw [IntWalk.i64_in _ (by omega)] at hrx) | (intro hcx; exfalso; omega) | intro _))
        all_goals (try (exfalso; omega))
        refine TSq.pureC d2 cl rfl (And.intro rfl rfl) ?_
        (repeat' (first | (intro ex hex; have hq := hg1 (by omega) hex; subst hq; clear hex) | (intro ex hex; have hq := hg2 (by omega) hex; subst hq; clear hex) | (refine Ev.go ?_; conv => whnf) | refine And.intro ?_ ?_ | exact True.intro | exact rfl | (intro rx hrx; rw [IntWalk.i64_in _ (by omega)] at hrx) | (intro hcx; exfalso; omega) | intro _))
        try rfl
      · rw [hh] at d2
        have hb : ∀ k, (∀ (i : Nat) (r : Rng) (v : Int), i < k → s.losses[i]? = some r → t.losses[i]? = some v → r.has v = true) → 0 ≤ sumL (t.losses.take k) ∧ sumL (t.losses.take k) ≤ k * 100000 := by
          intro k
          induction k with
          | zero => intro _; simp [sumL]
          | succ k ih =>
            intro h
            have h1 := ih fun i r v hi => h i r v (by omega)
            rcases Nat.lt_or_ge k t.losses.length with hk | hk
            · have hv : t.losses[k]? = some t.losses[k] := List.getElem?_eq_getElem hk
              have hrr : s.losses[k]? = some (s.losses[k]'(by omega)) := List.getElem?_eq_getElem (by omega)
              have := h k _ _ (by omega) hrr hv
              have h4 := hr _ (List.mem_of_getElem? hrr)
              simp only [Rng.has, within, decide_eq_true_eq] at this
              rw [sumL_take hv]; omega
            · rw [List.take_of_length_le (by omega)]; rw [List.take_of_length_le hk] at h1; omega
        refine PF.of (TF.ev fn_51 (Ev.at ?_))
        (repeat' (first | (intro ex hex; have hq := hg1 (by omega) hex; subst hq; clear hex) | (intro ex hex; have hq := hg2 (by omega) hex; subst hq; clear hex) | (refine Ev.go ?_; conv => whnf) | refine And.intro ?_ ?_ | exact True.intro | exact rfl | (intro rx hrx; rw [IntWalk.i64_in _ (by omega)] at hrx) | (intro hcx; exfalso; omega) | intro _))
        refine TSq.pureC d1 cl rfl (And.intro rfl rfl) ?_
        (repeat' (first | (intro ex hex; have hq := hg1 (by omega) hex; subst hq; clear hex) | (intro ex hex; have hq := hg2 (by omega) hex; subst hq; clear hex) | (refine Ev.go ?_; conv => whnf) | refine And.intro ?_ ?_ | exact True.intro | exact rfl | (intro rx hrx; rw [IntWalk.i64_in _ (by omega)] at hrx) | (intro hcx; exfalso; omega) | intro _))
        all_goals (try (exfalso; omega))
        refine TSq.pureC d2 cl rfl (And.intro rfl rfl) ?_
        (repeat' (first | (intro ex hex; have hq := hg1 (by omega) hex; subst hq; clear hex) | (intro ex hex; have hq := hg2 (by omega) hex; subst hq; clear hex) | (refine Ev.go ?_; conv => whnf) | refine And.intro ?_ ?_ | exact True.intro | exact rfl | (intro rx hrx; rw [IntWalk.i64_in _ (by omega)] at hrx) | (intro hcx; exfalso; omega) | intro _))
        refine TWq.loop (fun k : Nat => [(33, .int .i64 k), (7, .int .i64 (sumL (t.losses.take k))), (8, .junk), (9, .junk)]) (fun _ => []) (fun k => k ≤ t.losses.length ∧ ∀ (i : Nat) (r : Rng) (v : Int), i < k → s.losses[i]? = some r → t.losses[i]? = some v → r.has v = true) (fun k => t.losses.length - k) 0 [] [] ?_ ⟨by omega, fun i r v hi => by omega⟩ ?_
        · (repeat' (first | (intro ex hex; have hq := hg1 (by omega) hex; subst hq; clear hex) | (intro ex hex; have hq := hg2 (by omega) hex; subst hq; clear hex) | (refine Ev.go ?_; conv => whnf) | refine And.intro ?_ ?_ | exact True.intro | exact rfl | (intro rx hrx; rw [IntWalk.i64_in _ (by omega)] at hrx) | (intro hcx; exfalso; omega) | intro _))
          all_goals (first | (refine ⟨?_⟩; exact vc) | exact cl | skip)
        · rintro k ⟨hk, hok⟩
          have hb1 := hb k hok
          rcases Nat.lt_or_ge k t.losses.length with hkl | hkl
          · obtain ⟨v, hv⟩ : ∃ v, t.losses[k]? = some v := ⟨_, List.getElem?_eq_getElem hkl⟩
            obtain ⟨r, hrr⟩ : ∃ r, s.losses[k]? = some r := ⟨_, List.getElem?_eq_getElem (by omega)⟩
            have d3 := c75 r v
            have hsk := sumL_take hv
            have hg1 : ∀ {n : Nat} {e : SV}, n = k → (ints t.losses)[n]? = some e → e = .int .i64 v := by
              rintro n e rfl he
              obtain ⟨x, hx, rfl⟩ := ints_at he
              rw [hv] at hx; cases hx; rfl
            have hg2 : ∀ {n : Nat} {e : SV}, n = k → (encRs s.losses)[n]? = some e → e = encR r := by
              rintro n e rfl he
              obtain ⟨x, hx, rfl⟩ := encRs_at he
              rw [hrr] at hx; cases hx; rfl
            cases hv2 : r.has v
            · rw [hno (by rw [Bool.eq_false_iff]; intro h; have := (isTruth_at.1 h).2.2 k r v hrr hv; rw [hv2] at this; cases this)]
              rw [hv2] at d3
              (repeat' (first | (intro ex hex; have hq := hg1 (by omega) hex; subst hq; clear hex) | (intro ex hex; have hq := hg2 (by omega) hex; subst hq; clear hex) | (refine Ev.go ?_; conv => whnf) | refine And.intro ?_ ?_ | exact True.intro | exact rfl | (intro rx hrx; rw [IntWalk.i64_in _ (by omega)] at hrx) | (intro hcx; exfalso; omega) | intro _))
              all_goals (first | (refine ⟨?_⟩; exact vc) | exact cl | skip)
              refine TSq.pureC d3 cl rfl (And.intro rfl rfl) ?_
              (repeat' (first | (intro ex hex; have hq := hg1 (by omega) hex; subst hq; clear hex) | (intro ex hex; have hq := hg2 (by omega) hex; subst hq; clear hex) | (refine Ev.go ?_; conv => whnf) | refine And.intro ?_ ?_ | exact True.intro | exact rfl | (intro rx hrx; rw [IntWalk.i64_in _ (by omega)] at hrx) | (intro hcx; exfalso; omega) | intro _))
              all_goals (first | (refine ⟨?_⟩; exact vc) | exact cl | skip)
              try rfl
            · rw [hv2] at d3
              have hok' : ∀ (i : Nat) (r : Rng) (v : Int), i < k + 1 → s.losses[i]? = some r → t.losses[i]? = some v → r.has v = true := fun i r' v' hi h1 h2 => by
                rcases Nat.lt_or_ge i k with h | h
                · exact hok i r' v' h h1 h2
                · have : i = k := by omega
                  subst this
                  rw [hrr] at h1; rw [hv] at h2; cases h1; cases h2; exact hv2
              have hb2 := hb (k + 1) hok'
              (repeat' (first | (intro ex hex; have hq := hg1 (by omega) hex; subst hq; clear hex) | (intro ex hex; have hq := hg2 (by omega) hex; subst hq; clear hex) | (refine Ev.go ?_; conv => whnf) | refine And.intro ?_ ?_ | exact True.intro | exact rfl | (intro rx hrx; rw [IntWalk.i64_in _ (by omega)] at hrx) | (intro hcx; exfalso; omega) | intro _))
              all_goals (first | (refine ⟨?_⟩; exact vc) | exact cl | skip)
              refine TSq.pureC d3 cl rfl (And.intro rfl rfl) ?_
              (repeat' (first | (intro ex hex; have hq := hg1 (by omega) hex; subst hq; clear hex) | (intro ex hex; have hq := hg2 (by omega) hex; subst hq; clear hex) | (refine Ev.go ?_; conv => whnf) | refine And.intro ?_ ?_ | exact True.intro | exact rfl | (intro rx hrx; rw [IntWalk.i64_in _ (by omega)] at hrx) | (intro hcx; exfalso; omega) | intro _))
              all_goals (first | (refine ⟨?_⟩; exact vc) | exact cl | skip)
              refine ⟨⟨k + 1, ⟨by omega, hok'⟩, by omega, ?_⟩⟩
              (repeat' (first | (intro ex hex; have hq := hg1 (by omega) hex; subst hq; clear hex) | (intro ex hex; have hq := hg2 (by omega) hex; subst hq; clear hex) | (refine Ev.go ?_; conv => whnf) | refine And.intro ?_ ?_ | exact True.intro | exact rfl | (intro rx hrx; rw [IntWalk.i64_in _ (by omega)] at hrx) | (intro hcx; exfalso; omega) | intro _))
              all_goals (first | (refine ⟨?_⟩; exact vc) | exact cl | skip)
              all_goals (refine ⟨?_⟩; rw [hsk]; omega)
          · have hke : k = t.losses.length := by omega
            subst hke
            rw [List.take_length] at hb1 ⊢
            rw [hyes (isTruth_at.2 ⟨hlen, hh, fun i r v h1 h2 => hok i r v (List.getElem?_eq_some_iff.1 h2).1 h1 h2⟩)]
            have hth : 0 ≤ t.treaty ∧ t.treaty ≤ 100000 := by
              have := hh; simp only [Rng.has, within, decide_eq_true_eq] at this; omega
            have d4 := c76 s (sumL t.losses) t.treaty (by omega) (by omega) (by omega)
            (repeat' (first | (intro ex hex; have hq := hg1 (by omega) hex; subst hq; clear hex) | (intro ex hex; have hq := hg2 (by omega) hex; subst hq; clear hex) | (refine Ev.go ?_; conv => whnf) | refine And.intro ?_ ?_ | exact True.intro | exact rfl | (intro rx hrx; rw [IntWalk.i64_in _ (by omega)] at hrx) | (intro hcx; exfalso; omega) | intro _))
            all_goals (first | (refine ⟨?_⟩; exact vc) | exact cl | skip)
            refine TSq.pureC d4 cl rfl (And.intro rfl rfl) ?_
            (repeat' (first | (intro ex hex; have hq := hg1 (by omega) hex; subst hq; clear hex) | (intro ex hex; have hq := hg2 (by omega) hex; subst hq; clear hex) | (refine Ev.go ?_; conv => whnf) | refine And.intro ?_ ?_ | exact True.intro | exact rfl | (intro rx hrx; rw [IntWalk.i64_in _ (by omega)] at hrx) | (intro hcx; exfalso; omega) | intro _))
            try rfl
    · have hn := hno (by rw [Bool.eq_false_iff]; intro h; exact hlen (isTruth_at.1 h).1)
      rw [hn]
      refine PF.of (TF.ev fn_51 (Ev.at ?_))
      (repeat' (first | (intro ex hex; have hq := hg1 (by omega) hex; subst hq; clear hex) | (intro ex hex; have hq := hg2 (by omega) hex; subst hq; clear hex) | (refine Ev.go ?_; conv => whnf) | refine And.intro ?_ ?_ | exact True.intro | exact rfl | (intro rx hrx; rw [IntWalk.i64_in _ (by omega)] at hrx) | (intro hcx; exfalso; omega) | intro _))
      refine TSq.pureC d1 cl rfl (And.intro rfl rfl) ?_
      (repeat' (first | (intro ex hex; have hq := hg1 (by omega) hex; subst hq; clear hex) | (intro ex hex; have hq := hg2 (by omega) hex; subst hq; clear hex) | (refine Ev.go ?_; conv => whnf) | refine And.intro ?_ ?_ | exact True.intro | exact rfl | (intro rx hrx; rw [IntWalk.i64_in _ (by omega)] at hrx) | (intro hcx; exfalso; omega) | intro _))
      all_goals (try (exfalso; omega))
      all_goals (try rfl)
  · have hn : needR s t = (0, fault s) := by simp only [needR, if_pos hf]
    rw [hn]
    generalize fault s = ft at *
    refine PF.of (TF.ev fn_51 (Ev.at ?_))
    (repeat' (first | (intro ex hex; have hq := hg1 (by omega) hex; subst hq; clear hex) | (intro ex hex; have hq := hg2 (by omega) hex; subst hq; clear hex) | (refine Ev.go ?_; conv => whnf) | refine And.intro ?_ ?_ | exact True.intro | exact rfl | (intro rx hrx; rw [IntWalk.i64_in _ (by omega)] at hrx) | (intro hcx; exfalso; omega) | intro _))
    refine TSq.pureC d1 cl rfl (And.intro rfl rfl) ?_
    (repeat' (first | (intro ex hex; have hq := hg1 (by omega) hex; subst hq; clear hex) | (intro ex hex; have hq := hg2 (by omega) hex; subst hq; clear hex) | (refine Ev.go ?_; conv => whnf) | refine And.intro ?_ ?_ | exact True.intro | exact rfl | (intro rx hrx; rw [IntWalk.i64_in _ (by omega)] at hrx) | (intro hcx; exfalso; omega) | intro _))
    try rfl
end Go.Proofs.Ythnaamkempmjkaa
