/- What a rate brings, as the document says. -/
import Derived.Test.YthnaamkempmjkaaKy
import Derived.Test.YthnaamkempmjkaaKfS
set_option linter.unusedSimpArgs false
set_option linter.unusedVariables false
open Go Go.TV
namespace Go.Proofs.Ythnaamkempmjkaa

theorem c38 (m : Mem) (h1 : 0 ≤ m.sum ∧ m.sum ≤ 10000) (h2 : 0 ≤ m.cls ∧ m.cls ≤ 10000) : PF Try.prog 38 [encY m] (· = .int .i64 m.units) := by
  have hm : 0 ≤ m.sum * m.cls ∧ m.sum * m.cls ≤ 100000000 := ⟨Int.mul_nonneg h1.1 h2.1, by have := Int.mul_le_mul h1.2 h2.2 h2.1 (by omega); omega⟩
  refine PF.of (TF.ev fn_38 (Ev.at ?_))
  (repeat' (first | (refine Ev.go ?_; conv => whnf) | refine And.intro ?_ ?_ | exact True.intro | exact rfl | (intro rx hrx; rw [IntWalk.i64_in _ (by omega)] at hrx) | (intro hcx; exfalso; omega) | (intro hcx; exfalso; simp only [lz] at hcx; omega) | intro _))
  subst hrx
  rfl
set_option maxRecDepth 100000 in
set_option maxHeartbeats 4000000 in
theorem c39 (s : Soc) (rate : Int) (hm : ∀ m ∈ s.members, OkM m) (hl : s.members.length ≤ 5) (hr : 0 ≤ rate ∧ rate ≤ 10000) : PF Try.prog 39 [encSoc s, .int .i64 rate] (· = .int .i64 (brF s.members rate s.members.length)) := by
  have hz := encYs_len s.members
  have hb := fun k => brF_le hm hr k
  refine PF.of (TF.ev fn_39 (Ev.at ?_))
  (repeat' (first | (intro rx hrx; have hq := hsub1 hrx (by omega); subst hq; clear hrx) | (intro rx hrx; have hq := hsub2 hrx (by omega); subst hq; clear hrx) | (intro ex hex; have hq := hg1 (by omega) hex; subst hq; clear hex) | (refine Ev.go ?_; conv => whnf) | refine And.intro ?_ ?_ | exact True.intro | exact rfl | (intro rx hrx; rw [IntWalk.i64_in _ (by omega)] at hrx) | (intro hcx; exfalso; omega) | intro _))
  all_goals (first | (refine ⟨?_⟩; exact vc) | exact cl | skip)
  refine TWq.loop (fun k : Nat => [(5, .int .i64 (brF s.members rate k)), (6, .int .i64 k)]) (fun _ => []) (fun k => k ≤ s.members.length) (fun k => s.members.length - k) 0 [] [] ?_ (by omega) ?_
  · (repeat' (first | (intro rx hrx; have hq := hsub1 hrx (by omega); subst hq; clear hrx) | (intro rx hrx; have hq := hsub2 hrx (by omega); subst hq; clear hrx) | (intro ex hex; have hq := hg1 (by omega) hex; subst hq; clear hex) | (refine Ev.go ?_; conv => whnf) | refine And.intro ?_ ?_ | exact True.intro | exact rfl | (intro rx hrx; rw [IntWalk.i64_in _ (by omega)] at hrx) | (intro hcx; exfalso; omega) | intro _))
    all_goals (first | (refine ⟨?_⟩; exact vc) | exact cl | skip)
  · intro k hk
    have hbk := hb k
    have hbk1 := hb (k + 1)
    rcases Nat.lt_or_ge k s.members.length with hkl | hkl
    · obtain ⟨m, hmk⟩ : ∃ m, s.members[k]? = some m := ⟨_, List.getElem?_eq_getElem hkl⟩
      have om := hm m (List.mem_of_getElem? hmk)
      have ou := om.units
      have d38 := c38 m (by have := om.1; omega) (by have := om.2.1; omega)
      obtain ⟨a1, a2, a3, a4⟩ := br1 om hr
      have hs1 : brF s.members rate (k + 1) = brF s.members rate k + min (mst s.members k) (un s.members k * rate / 100) := rfl
      rw [mst_at hmk, un_at hmk] at hs1
      have hg1 : ∀ {n : Nat} {e : SV}, n = k → (encYs s.members)[n]? = some e → e = encY m := by
        rintro n e rfl he
        obtain ⟨x, hx, rfl⟩ := encYs_at he
        rw [hmk] at hx; cases hx; rfl
      have hsub1 : ∀ {x : Int}, x = IntKind.i64.wrap (m.units * rate) → (0 : Int) ≤ 0 → x = m.units * rate := fun h _ => by rw [h, IntWalk.i64_in _ (by omega)]
      have hsub2 : ∀ {x : Int}, x = IntKind.i64.wrap ((m.units * rate).tdiv 100) → (0 : Int) ≤ 0 → x = m.units * rate / 100 := fun h _ => by rw [h, a2, IntWalk.i64_in _ (by omega)]
      (repeat' (first | (intro rx hrx; have hq := hsub1 hrx (by omega); subst hq; clear hrx) | (intro rx hrx; have hq := hsub2 hrx (by omega); subst hq; clear hrx) | (intro ex hex; have hq := hg1 (by omega) hex; subst hq; clear hex) | (refine Ev.go ?_; conv => whnf) | refine And.intro ?_ ?_ | exact True.intro | exact rfl | (intro rx hrx; rw [IntWalk.i64_in _ (by omega)] at hrx) | (intro hcx; exfalso; omega) | intro _))
      all_goals (first | (refine ⟨?_⟩; exact vc) | exact cl | skip)
      refine TDq.pureC d38 cl rfl (And.intro rfl rfl) ?_
      (repeat' (first | (intro rx hrx; have hq := hsub1 hrx (by omega); subst hq; clear hrx) | (intro rx hrx; have hq := hsub2 hrx (by omega); subst hq; clear hrx) | (intro ex hex; have hq := hg1 (by omega) hex; subst hq; clear hex) | (refine Ev.go ?_; conv => whnf) | refine And.intro ?_ ?_ | exact True.intro | exact rfl | (intro rx hrx; rw [IntWalk.i64_in _ (by omega)] at hrx) | (intro hcx; exfalso; omega) | intro _))
      all_goals (first | (refine ⟨?_⟩; exact vc) | exact cl | skip)
      refine ⟨⟨k + 1, by omega, by omega, ?_⟩⟩
      (repeat' (first | (intro rx hrx; have hq := hsub1 hrx (by omega); subst hq; clear hrx) | (intro rx hrx; have hq := hsub2 hrx (by omega); subst hq; clear hrx) | (intro ex hex; have hq := hg1 (by omega) hex; subst hq; clear hex) | (refine Ev.go ?_; conv => whnf) | refine And.intro ?_ ?_ | exact True.intro | exact rfl | (intro rx hrx; rw [IntWalk.i64_in _ (by omega)] at hrx) | (intro hcx; exfalso; omega) | intro _))
      all_goals (first | (refine ⟨?_⟩; exact vc) | exact cl | skip)
      all_goals (refine ⟨?_⟩; rw [hs1]; omega)
    · have hke : k = s.members.length := by omega
      subst hke
      (repeat' (first | (intro rx hrx; have hq := hsub1 hrx (by omega); subst hq; clear hrx) | (intro rx hrx; have hq := hsub2 hrx (by omega); subst hq; clear hrx) | (intro ex hex; have hq := hg1 (by omega) hex; subst hq; clear hex) | (refine Ev.go ?_; conv => whnf) | refine And.intro ?_ ?_ | exact True.intro | exact rfl | (intro rx hrx; rw [IntWalk.i64_in _ (by omega)] at hrx) | (intro hcx; exfalso; omega) | intro _))
      all_goals (first | (refine ⟨?_⟩; exact vc) | exact cl | skip)
      all_goals (try rfl)
end Go.Proofs.Ythnaamkempmjkaa
