/- Sums of calls; what the calls for a need are told of in the statements. -/
import Derived.Test.YthnaamkempmjkaaKt
import Derived.Test.YthnaamkempmjkaaPd
set_option linter.unusedSimpArgs false
set_option linter.unusedVariables false
open Go Go.TV
namespace Go.Proofs.Ythnaamkempmjkaa

theorem sumL_bd {l : List Int} (h : ∀ x ∈ l, 0 ≤ x ∧ x ≤ 1000000) : ∀ k : Nat, 0 ≤ sumL (l.take k) ∧ sumL (l.take k) ≤ k * 1000000
  | 0 => by simp [sumL]
  | k + 1 => by
    have ih := sumL_bd h k
    cases hk : l[k]? with
    | none =>
      have : l.length ≤ k := by simpa using hk
      rw [List.take_of_length_le (by omega)]; rw [List.take_of_length_le this] at ih; omega
    | some x =>
      have := h x (List.mem_of_getElem? hk)
      rw [sumL_take hk]; omega
theorem c36 (l : List Int) (h : ∀ x ∈ l, 0 ≤ x ∧ x ≤ 1000000) (hl : l.length ≤ 1000) : PF Try.prog 36 [.sl 1 (ints l)] (· = .int .i64 (sumL l)) := by
  have hz := ints_len l
  have hb := sumL_bd h
  refine PF.of (TF.ev fn_36 (Ev.at ?_))
  (repeat' (first | (intro ex hex; have hq := hg1 (by omega) hex; subst hq; clear hex) | (refine Ev.go ?_; conv => whnf) | refine And.intro ?_ ?_ | exact True.intro | exact rfl | (intro rx hrx; rw [IntWalk.i64_in _ (by omega)] at hrx) | (intro hcx; exfalso; omega) | intro _))
  refine TWq.loop (fun k : Nat => [(3, .int .i64 (sumL (l.take k))), (4, .int .i64 k)]) (fun _ => []) (fun k => k ≤ l.length) (fun k => l.length - k) 0 [] [] ?_ (by omega) ?_
  · (repeat' (first | (intro ex hex; have hq := hg1 (by omega) hex; subst hq; clear hex) | (refine Ev.go ?_; conv => whnf) | refine And.intro ?_ ?_ | exact True.intro | exact rfl | (intro rx hrx; rw [IntWalk.i64_in _ (by omega)] at hrx) | (intro hcx; exfalso; omega) | intro _))
    all_goals (first | (refine ⟨?_⟩; exact vc) | exact cl | skip)
  · intro k hk
    rcases Nat.lt_or_ge k l.length with hkl | hkl
    · obtain ⟨v, hv⟩ : ∃ v, l[k]? = some v := ⟨_, List.getElem?_eq_getElem hkl⟩
      have hb1 := hb k
      have hb2 := hb (k + 1)
      have hs := sumL_take hv
      have hg1 : ∀ {n : Nat} {e : SV}, n = k → (ints l)[n]? = some e → e = .int .i64 v := by
        rintro n e rfl he
        obtain ⟨x, hx, rfl⟩ := ints_at he
        rw [hv] at hx; cases hx; rfl
      (repeat' (first | (intro ex hex; have hq := hg1 (by omega) hex; subst hq; clear hex) | (refine Ev.go ?_; conv => whnf) | refine And.intro ?_ ?_ | exact True.intro | exact rfl | (intro rx hrx; rw [IntWalk.i64_in _ (by omega)] at hrx) | (intro hcx; exfalso; omega) | intro _))
      all_goals (first | (refine ⟨?_⟩; exact vc) | exact cl | skip)
      refine ⟨⟨k + 1, by omega, by omega, ?_⟩⟩
      (repeat' (first | (intro ex hex; have hq := hg1 (by omega) hex; subst hq; clear hex) | (refine Ev.go ?_; conv => whnf) | refine And.intro ?_ ?_ | exact True.intro | exact rfl | (intro rx hrx; rw [IntWalk.i64_in _ (by omega)] at hrx) | (intro hcx; exfalso; omega) | intro _))
      all_goals (first | (refine ⟨?_⟩; exact vc) | exact cl | skip)
      all_goals (refine ⟨?_⟩; rw [hs]; assumption)
    · have hke : k = l.length := by omega
      subst hke
      rw [List.take_length]
      (repeat' (first | (intro ex hex; have hq := hg1 (by omega) hex; subst hq; clear hex) | (refine Ev.go ?_; conv => whnf) | refine And.intro ?_ ?_ | exact True.intro | exact rfl | (intro rx hrx; rw [IntWalk.i64_in _ (by omega)] at hrx) | (intro hcx; exfalso; omega) | intro _))
      all_goals (first | (refine ⟨?_⟩; exact vc) | exact cl | skip)
      try rfl
theorem rem_bd {x r n : Int} (h : r = x.tmod n) (hx : 0 ≤ x) (hn : 0 < n) : 0 ≤ r ∧ r < n := by
  rw [h, Int.tmod_eq_emod_of_nonneg hx]; exact ⟨Int.emod_nonneg _ (by omega), Int.emod_lt_of_pos _ hn⟩
theorem fault_ms {s : Soc} (h : fault s = 0) : OkMs s.members := by
  obtain ⟨hm, _⟩ := fault_ok h
  refine ⟨(fault_len h).1, fun i hi => ?_⟩
  have hx : s.members[i]? = some s.members[i] := List.getElem?_eq_getElem hi
  have := hm _ (List.mem_of_getElem? hx)
  rw [un_at hx, mst_at hx]
  exact ⟨this.units.1, this.2.2.1⟩
theorem callsR_good {s : Soc} {n : Int} (h : fault s = 0) (hn : 0 ≤ n ∧ n ≤ 300000) : callsR s n = ((callsOf s [] n).1, (callsOf s [] n).2, 0) := by
  simp only [callsR, if_neg (show ¬ fault s ≠ 0 by simpa using h), if_pos (show within n 0 300000 = true by simpa [within] using hn)]
/-- The most that all who are asked pay. -/
def mostOf (s : Soc) (out : List Int) : Int := mostF s.members (askF s.members out)
theorem calls_paid {s : Soc} (h : fault s = 0) (out : List Int) {n : Int} (hn : 0 ≤ n) : Paid s.members (askF s.members out) n (fun _ => 0) (callsF s.members 6 (askF s.members out) n fun _ => 0) :=
  callsF_ok (fault_ms h) askF_len hn _
theorem calls_short {s : Soc} (h : fault s = 0) (out : List Int) {n : Int} (hn : 0 ≤ n) : (callsOf s out n).2 = max 0 (n - mostOf s out) := (calls_paid h out hn).short_eq
theorem calls_sum {s : Soc} (h : fault s = 0) (out : List Int) {n : Int} (hn : 0 ≤ n) : sumL (callsOf s out n).1 + (callsOf s out n).2 = n := by
  have p := calls_paid h out hn
  rw [callsOf, sumL_tab]
  have e : sumF (callsF s.members 6 (askF s.members out) n fun _ => 0).1 s.members.length = sumF (fun i => if askF s.members out i = true then (callsF s.members 6 (askF s.members out) n fun _ => 0).1 i else 0) s.members.length := sumF_congr fun i _ => by
    cases hf : askF s.members out i
    · rw [p.other i hf]; rfl
    · rfl
  have := p.sum
  rw [← e] at this
  dsimp only
  omega
theorem calls_at {s : Soc} {out : List Int} {n : Int} {i : Nat} (hi : i < s.members.length) : (callsOf s out n).1[i]? = some ((callsF s.members 6 (askF s.members out) n fun _ => 0).1 i) := by
  simp only [callsOf, tab, List.getElem?_map, List.getElem?_range hi]; rfl
theorem calls_bd {s : Soc} (h : fault s = 0) (out : List Int) {n : Int} (hn : 0 ≤ n) : ∀ x ∈ (callsOf s out n).1, 0 ≤ x ∧ x ≤ 100000 := by
  intro x hx
  simp only [callsOf, tab, List.mem_map, List.mem_range] at hx
  obtain ⟨i, hi, rfl⟩ := hx
  have p := calls_paid h out hn
  cases hf : askF s.members out i
  · rw [p.other i hf]; omega
  · have := p.most i hf
    have hm : s.members[i]? = some s.members[i] := List.getElem?_eq_getElem hi
    have := (fault_ok h).1 _ (List.mem_of_getElem? hm)
    rw [mst_at hm] at *
    have := this.2.2
    omega
theorem rate_cases {s : Soc} {r e : Int} (h : fault s = 0) (hr : RateIs s r e) : (e = 0 ∧ 0 ≤ r ∧ r ≤ 10000) ∨ (e = 10 ∧ r = 0) := by
  rcases hr with ⟨h1, _⟩ | ⟨_, h2, k, h3, h4, _⟩ | ⟨_, h2, h3, _⟩
  · exact absurd h h1
  · exact .inl ⟨h2, by omega, by omega⟩
  · exact .inr ⟨h3, h2⟩
end Go.Proofs.Ythnaamkempmjkaa
