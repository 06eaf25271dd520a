/- What a rate brings; the smallest rate that suffices. -/
import Derived.Test.YthnaamkempmjkaaKm
set_option linter.unusedSimpArgs false
set_option linter.unusedVariables false
open Go Go.TV
namespace Go.Proofs.Ythnaamkempmjkaa

def brF (ms : List Mem) (r : Int) : Nat → Int
  | 0 => 0
  | k + 1 => brF ms r k + min (mst ms k) (un ms k * r / 100)
theorem br1 {m : Mem} {r : Int} (hm : OkM m) (hr : 0 ≤ r ∧ r ≤ 10000) : (0 ≤ m.units * r ∧ m.units * r ≤ 100000000) ∧ (m.units * r).tdiv 100 = m.units * r / 100 ∧ (0 ≤ m.units * r / 100 ∧ m.units * r / 100 ≤ 100000000) ∧ 0 ≤ min m.most (m.units * r / 100) ∧ min m.most (m.units * r / 100) ≤ 100000 := by
  have hu := hm.units
  have a : 0 ≤ m.units * r := Int.mul_nonneg (by omega) hr.1
  have b := Int.mul_le_mul (a := m.units) (b := r) (c := 10000) (d := 10000) (by omega) (by omega) (by omega) (by omega)
  have hq : m.units * r / 100 ≤ m.units * r := Int.ediv_le_self _ a
  have hp : 0 ≤ m.units * r / 100 := Int.ediv_nonneg a (by omega)
  have hmo := hm.2.2
  exact ⟨⟨a, by omega⟩, Int.tdiv_eq_ediv_of_nonneg a, ⟨hp, by omega⟩, by omega, by omega⟩
theorem brF_le {ms : List Mem} {r : Int} (hm : ∀ m ∈ ms, OkM m) (hr : 0 ≤ r ∧ r ≤ 10000) : ∀ k : Nat, 0 ≤ brF ms r k ∧ brF ms r k ≤ k * 100000
  | 0 => by simp [brF]
  | k + 1 => by
    have ih := brF_le hm hr k
    simp only [brF]
    cases hk : ms[k]? with
    | none => simp only [mst, un, hk]; omega
    | some m =>
      have := br1 (hm m (List.mem_of_getElem? hk)) hr
      rw [mst_at hk, un_at hk]; omega
set_option maxRecDepth 100000 in
theorem c60 (s : Soc) (rate : Int) (hm : ∀ m ∈ s.members, OkM m) (hl : s.members.length ≤ 5) (hr : 0 ≤ rate ∧ rate ≤ 10000) : PF Try.prog 60 [encSoc s, .int .i64 rate] (· = .int .i64 (brF s.members rate s.members.length)) := by
  have hz := encYs_len s.members
  have hb := fun k => brF_le hm hr k
  refine PF.of (TF.ev fn_60 (Ev.at ?_))
  (repeat' (first | (intro ex hex; have hq := hg1 (by omega) hex; subst hq; clear hex) | (refine Ev.go ?_; conv => whnf) | refine And.intro ?_ ?_ | exact True.intro | exact rfl | (intro rx hrx; rw [IntWalk.i64_in _ (by omega)] at hrx) | (intro hcx; exfalso; omega) | intro _))
  all_goals (first | (refine ⟨?_⟩; exact vc) | exact cl | skip)
  refine TWq.loop (fun k : Nat => [(4, .int .i64 (brF s.members rate k)), (10, .int .i64 k), (6, .junk)]) (fun _ => []) (fun k => k ≤ s.members.length) (fun k => s.members.length - k) 0 [] [] ?_ (by omega) ?_
  · (repeat' (first | (intro ex hex; have hq := hg1 (by omega) hex; subst hq; clear hex) | (refine Ev.go ?_; conv => whnf) | refine And.intro ?_ ?_ | exact True.intro | exact rfl | (intro rx hrx; rw [IntWalk.i64_in _ (by omega)] at hrx) | (intro hcx; exfalso; omega) | intro _))
    all_goals (first | (refine ⟨?_⟩; exact vc) | exact cl | skip)
  · intro k hk
    have hbk := hb k
    have hbk1 := hb (k + 1)
    rcases Nat.lt_or_ge k s.members.length with hkl | hkl
    · obtain ⟨m, hmk⟩ : ∃ m, s.members[k]? = some m := ⟨_, List.getElem?_eq_getElem hkl⟩
      have om := hm m (List.mem_of_getElem? hmk)
      have ou := om.units
      have d82 := c82 m (by have := om.1; omega) (by have := om.2.1; omega)
      obtain ⟨a1, a2, a3, a4⟩ := br1 om hr
      have d81 := c81 [m.most, m.units * rate / 100] (by simp) (by simp)
      rw [show minL [m.most, m.units * rate / 100] = min m.most (m.units * rate / 100) from rfl] at d81
      have hs1 : brF s.members rate (k + 1) = brF s.members rate k + min (mst s.members k) (un s.members k * rate / 100) := rfl
      rw [mst_at hmk, un_at hmk] at hs1
      have hg1 : ∀ {n : Nat} {e : SV}, n = k → (encYs s.members)[n]? = some e → e = encY m := by
        rintro n e rfl he
        obtain ⟨x, hx, rfl⟩ := encYs_at he
        rw [hmk] at hx; cases hx; rfl
      generalize min m.most (m.units * rate / 100) = mn at *
      (repeat' (first | (intro ex hex; have hq := hg1 (by omega) hex; subst hq; clear hex) | (refine Ev.go ?_; conv => whnf) | refine And.intro ?_ ?_ | exact True.intro | exact rfl | (intro rx hrx; rw [IntWalk.i64_in _ (by omega)] at hrx) | (intro hcx; exfalso; omega) | intro _))
      all_goals (first | (refine ⟨?_⟩; exact vc) | exact cl | skip)
      refine TDq.pureC d82 cl rfl (And.intro rfl rfl) ?_
      (repeat' (first | (intro ex hex; have hq := hg1 (by omega) hex; subst hq; clear hex) | (refine Ev.go ?_; conv => whnf) | refine And.intro ?_ ?_ | exact True.intro | exact rfl | (intro rx hrx; rw [IntWalk.i64_in _ (by omega)] at hrx) | (intro hcx; exfalso; omega) | intro _))
      all_goals (first | (refine ⟨?_⟩; exact vc) | exact cl | skip)
      rename_i q0 h0
      subst hrx
      rw [a2, IntWalk.i64_in _ (by omega)] at h0
      subst h0
      refine TDq.lendC d81 (by simp [scal, ints]) rfl (And.intro rfl ?_)
      (repeat' (first | (intro ex hex; have hq := hg1 (by omega) hex; subst hq; clear hex) | (refine Ev.go ?_; conv => whnf) | refine And.intro ?_ ?_ | exact True.intro | exact rfl | (intro rx hrx; rw [IntWalk.i64_in _ (by omega)] at hrx) | (intro hcx; exfalso; omega) | intro _))
      all_goals (first | (refine ⟨?_⟩; exact vc) | exact cl | skip)
      refine ⟨⟨k + 1, by omega, by omega, ?_⟩⟩
      (repeat' (first | (intro ex hex; have hq := hg1 (by omega) hex; subst hq; clear hex) | (refine Ev.go ?_; conv => whnf) | refine And.intro ?_ ?_ | exact True.intro | exact rfl | (intro rx hrx; rw [IntWalk.i64_in _ (by omega)] at hrx) | (intro hcx; exfalso; omega) | intro _))
      all_goals (first | (refine ⟨?_⟩; exact vc) | exact cl | skip)
      all_goals (refine ⟨?_⟩; rw [hs1]; omega)
    · have hke : k = s.members.length := by omega
      subst hke
      (repeat' (first | (intro ex hex; have hq := hg1 (by omega) hex; subst hq; clear hex) | (refine Ev.go ?_; conv => whnf) | refine And.intro ?_ ?_ | exact True.intro | exact rfl | (intro rx hrx; rw [IntWalk.i64_in _ (by omega)] at hrx) | (intro hcx; exfalso; omega) | intro _))
      all_goals (first | (refine ⟨?_⟩; exact vc) | exact cl | skip)
      all_goals (try rfl)

/-- Which rate is the smallest one that suffices, and the error. -/
def RateIs (s : Soc) (r e : Int) : Prop :=
  (fault s ≠ 0 ∧ r = 0 ∧ e = fault s) ∨
  (fault s = 0 ∧ e = 0 ∧ (∃ k : Nat, r = k ∧ k ≤ 10000 ∧ (needsOf s).hi ≤ brF s.members k s.members.length ∧ ∀ j : Nat, j < k → brF s.members j s.members.length < (needsOf s).hi)) ∨
  (fault s = 0 ∧ r = 0 ∧ e = 10 ∧ ∀ j : Nat, j ≤ 10000 → brF s.members j s.members.length < (needsOf s).hi)
theorem c20 (s : Soc) (h1 : s.members.length ≤ 1000000) (h2 : s.losses.length ≤ 1000000) : PF Try.prog 20 [encSoc s] fun v => ∃ r e, v = .tup [.int .i64 r, .int .i64 e] ∧ RateIs s r e := by
  refine PF.of (TF.ev fn_20 (Ev.at ?_))
  (repeat' (first | (refine Ev.go ?_; conv => whnf) | refine And.intro ?_ ?_ | exact True.intro | exact rfl | (intro rx hrx; rw [IntWalk.i64_in _ (by omega)] at hrx) | (intro hcx; exfalso; omega) | intro _))
  refine TSq.pureC (c53 s h1 h2) cl rfl (And.intro rfl rfl) ?_
  (repeat' (first | (refine Ev.go ?_; conv => whnf) | refine And.intro ?_ ?_ | exact True.intro | exact rfl | (intro rx hrx; rw [IntWalk.i64_in _ (by omega)] at hrx) | (intro hcx; exfalso; omega) | intro _))
  · rename_i hf
    obtain ⟨hm, hr, ht, hs, _⟩ := fault_ok hf
    have hl := (fault_len hf).2
    have hl5 := (fault_len hf).1
    refine TSq.pureC (c59 s (by omega) (fun r h => by have := hr r h; omega) (by omega) (by omega) hs) cl rfl (And.intro rfl rfl) ?_
    (repeat' (first | (refine Ev.go ?_; conv => whnf) | refine And.intro ?_ ?_ | exact True.intro | exact rfl | (intro rx hrx; rw [IntWalk.i64_in _ (by omega)] at hrx) | (intro hcx; exfalso; omega) | intro _))
    refine TWq.loop (fun k : Nat => [(15, .int .i64 k), (6, .junk)]) (fun _ => []) (fun k => k ≤ 10001 ∧ ∀ j : Nat, j < k → brF s.members j s.members.length < (needsOf s).hi) (fun k => 10001 - k) 0 [] [] ?_ ⟨by omega, by omega⟩ ?_
    · (repeat' (first | (refine Ev.go ?_; conv => whnf) | refine And.intro ?_ ?_ | exact True.intro | exact rfl | (intro rx hrx; rw [IntWalk.i64_in _ (by omega)] at hrx) | (intro hcx; exfalso; omega) | intro _))
      all_goals (first | (refine ⟨?_⟩; exact vc) | exact cl | skip)
    · rintro k ⟨hk, hno⟩
      (repeat' (first | (refine Ev.go ?_; conv => whnf) | refine And.intro ?_ ?_ | exact True.intro | exact rfl | (intro rx hrx; rw [IntWalk.i64_in _ (by omega)] at hrx) | (intro hcx; exfalso; omega) | intro _))
      · refine TSq.pureC (c60 s k hm hl5 (by omega)) cl rfl (And.intro rfl rfl) ?_
        (repeat' (first | (refine Ev.go ?_; conv => whnf) | refine And.intro ?_ ?_ | exact True.intro | exact rfl | (intro rx hrx; rw [IntWalk.i64_in _ (by omega)] at hrx) | (intro hcx; exfalso; omega) | intro _))
        all_goals (first | (refine ⟨?_⟩; exact vc) | exact cl | skip)
        · exact ⟨k, 0, rfl, .inr (.inl ⟨hf, rfl, k, rfl, by omega, by assumption, hno⟩)⟩
        · refine ⟨⟨k + 1, ⟨by omega, fun j hj => ?_⟩, by omega, ?_⟩⟩
          · rcases Nat.lt_or_ge j k with h | h
            · exact hno j h
            · have : j = k := by omega
              subst this; omega
          · (repeat' (first | (refine Ev.go ?_; conv => whnf) | refine And.intro ?_ ?_ | exact True.intro | exact rfl | (intro rx hrx; rw [IntWalk.i64_in _ (by omega)] at hrx) | (intro hcx; exfalso; omega) | intro _))
            all_goals (first | (refine ⟨?_⟩; exact vc) | exact cl | skip)
      · exact ⟨0, 10, rfl, .inr (.inr ⟨hf, rfl, rfl, fun j hj => hno j (by omega)⟩)⟩
  · rename_i hf
    exact ⟨0, fault s, rfl, .inl ⟨hf, rfl, rfl⟩⟩
end Go.Proofs.Ythnaamkempmjkaa
