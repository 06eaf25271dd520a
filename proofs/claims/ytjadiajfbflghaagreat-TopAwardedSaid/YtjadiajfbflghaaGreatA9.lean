/- Tariffs: the loss of a spot, and the part that is paid. What is valid, as the document says; the laws' helpers. A society, copied for the program. Parts of a need, and who is asked before a member. -/
import Derived.Test.YtjadiajfbflghaaGreatA8
set_option linter.unusedSimpArgs false
set_option linter.unusedVariables false
set_option linter.unusedSimpArgs false
set_option linter.unusedVariables false
open Go Go.TV
namespace Go.Proofs.YtjadiajfbflghaaGreat
def ratesF (t : Tf) (crop day : Int) : List Int := (t.rates.getD crop.toNat []).getD (lastLe t.weeks day t.weeks.length) []
def lossF (t : Tf) (crop day count : Int) : Int :=
  let r := ratesF t crop day
  let i := posB t.counts count
  if t.counts[i]? = some count then r.getD i 0 else (r.getD (i - 1) 0 * (t.counts.getD i 0 - count) + r.getD i 0 * (count - t.counts.getD (i - 1) 0)) / (t.counts.getD i 0 - t.counts.getD (i - 1) 0)
theorem loss_parts {t : Tf} (o : OkT t) {crop day count : Int} (hc : 0 ≤ crop ∧ crop < t.rates.length) (hn : 0 ≤ count ∧ count ≤ 100) :
    (∃ c, t.rates[crop.toNat]? = some c ∧ c[lastLe t.weeks day t.weeks.length]? = some (ratesF t crop day)) ∧ (ratesF t crop day).length = t.counts.length ∧ (∀ x ∈ ratesF t crop day, 0 ≤ x ∧ x ≤ 100) ∧ posB t.counts count < t.counts.length := by
  obtain ⟨hr, h0, hb⟩ := rise_of o.counts
  have hw : 0 < t.weeks.length := by have := (rise_of o.weeks).2.1; exact (List.getElem?_eq_some_iff.1 this).1
  have hc' : t.rates[crop.toNat]? = some (t.rates[crop.toNat]'(by omega)) := List.getElem?_eq_getElem (by omega)
  generalize t.rates[crop.toNat]'(by omega) = c at hc'
  obtain ⟨k1, k2⟩ := o.crops c (List.mem_of_getElem? hc')
  have hlt := lastLe_lt t.weeks day hw
  have hx : c[lastLe t.weeks day t.weeks.length]? = some (c[lastLe t.weeks day t.weeks.length]'(by omega)) := List.getElem?_eq_getElem (by omega)
  have hR : ratesF t crop day = c[lastLe t.weeks day t.weeks.length]'(by omega) := by
    simp only [ratesF, List.getD_eq_getElem?_getD, hc', Option.getD_some, hx]
  obtain ⟨m1, m2⟩ := k2 _ (List.mem_of_getElem? hx)
  rw [hR]
  refine ⟨⟨c, hc', hx⟩, m1, m2, ?_⟩
  obtain ⟨p1, p2, p3⟩ := posB_spec count t.counts
  rcases Nat.lt_or_ge (posB t.counts count) t.counts.length with h | h
  · exact h
  · have := p2 (t.counts.length - 1) 100 (by have := o.two; omega) o.last
    omega
set_option maxHeartbeats 8000000 in
set_option maxRecDepth 100000 in
theorem c154 (t : Tf) (o : OkT t) (crop day count : Int) (hc : 0 ≤ crop ∧ crop < t.rates.length) (hn : 0 ≤ count ∧ count ≤ 100) :
    PF Tryz.prog 154 [encTf t, .agg [.int .i64 crop, .int .i64 day, .int .i64 count]] (· = .int .i64 (lossF t crop day count)) ∧ 0 ≤ lossF t crop day count ∧ lossF t crop day count ≤ 100 := by
  obtain ⟨⟨c, hc1, hc2⟩, hrl, hrb, hp⟩ := loss_parts (day := day) o hc hn
  obtain ⟨hr, h0, hb⟩ := rise_of o.counts
  obtain ⟨p1, p2, p3⟩ := posB_spec count t.counts
  have hf := o.few
  have d1 := c208 t day (by omega)
  have d2 := c209 t.counts count (by omega) hr
  have hz1 := encCrs_len t.rates
  have hz2 := encIss_len c
  have hz3 := ints_len (ratesF t crop day)
  have hz4 := ints_len t.counts
  have hcl := (List.getElem?_eq_some_iff.1 hc2).1
  have hg1 : ∀ {n : Nat} {e : SV}, n = crop.toNat → (encCrs t.rates)[n]? = some e → e = encCr c := by
    rintro n e rfl he
    obtain ⟨x, hx, rfl⟩ := encCrs_at he
    rw [hc1] at hx; cases hx; rfl
  have hg2 : ∀ {n : Nat} {e : SV}, n = lastLe t.weeks day t.weeks.length → (encIss c)[n]? = some e → e = encIs (ratesF t crop day) := by
    rintro n e rfl he
    obtain ⟨x, hx, rfl⟩ := encIss_at he
    rw [hc2] at hx; cases hx; rfl
  have hi : (ratesF t crop day)[posB t.counts count]? = some ((ratesF t crop day).getD (posB t.counts count) 0) := by
    simp [List.getD_eq_getElem?_getD, List.getElem?_eq_getElem (show posB t.counts count < (ratesF t crop day).length by omega)]
  have hib := hrb _ (List.mem_of_getElem? hi)
  have hci : t.counts[posB t.counts count]? = some (t.counts.getD (posB t.counts count) 0) := by
    simp [List.getD_eq_getElem?_getD, List.getElem?_eq_getElem hp]
  have hcib := hb _ (List.mem_of_getElem? hci)
  have hge := p3 _ hci
  generalize hw : lastLe t.weeks day t.weeks.length = w at *
  generalize hR : ratesF t crop day = R at *
  have hg3 : ∀ {n : Nat} {e : SV}, n = posB t.counts count → (ints R)[n]? = some e → e = .int .i64 (R.getD (posB t.counts count) 0) := by
    rintro n e rfl he
    obtain ⟨x, hx, rfl⟩ := encI_at he
    rw [hi] at hx; cases hx; rfl
  by_cases hfd : t.counts[posB t.counts count]? = some count
  · have hL : lossF t crop day count = R.getD (posB t.counts count) 0 := by simp only [lossF, hR, if_pos hfd]
    rw [hL]
    refine ⟨?_, hib.1, hib.2⟩
    rw [decide_eq_true hfd] at d2
    generalize R.getD (posB t.counts count) 0 = ri at *
    generalize posB t.counts count = i at *
    refine PF.of (TF.ev fn_154 (Ev.at ?_))
    (repeat' (first | (intro rx hrx; have hq := hsub1 hrx (by omega); subst hq; clear hrx) | (intro rx hrx; have hq := hsub2 hrx (by omega); subst hq; clear hrx) | (intro rx hrx; have hq := hsub3 hrx (by omega); subst hq; clear hrx) | (intro ex hex; (first | have hq := hg1 (by omega) hex | have hq := hg2 (by omega) hex | have hq := hg3 (by omega) hex | have hq := hg4 (by omega) hex | have hq := hg5 (by omega) hex | have hq := hg6 (by omega) hex); subst hq; clear hex) | (refine Ev.go ?_; conv => whnf) | refine And.intro ?_ ?_ | exact True.intro | exact rfl | (intro rx hrx; rw [ij _ (by omega)] at hrx) | (intro hcx; exfalso; omega) | intro _))
    all_goals (first | (refine ⟨?_⟩; exact vc) | exact cl | skip)
    refine TDq.pureC d1 (by simp [cloL, clo, encTf, encCrs_clo, ints_clo]) rfl (And.intro rfl rfl) ?_
    (repeat' (first | (intro rx hrx; have hq := hsub1 hrx (by omega); subst hq; clear hrx) | (intro rx hrx; have hq := hsub2 hrx (by omega); subst hq; clear hrx) | (intro rx hrx; have hq := hsub3 hrx (by omega); subst hq; clear hrx) | (intro ex hex; (first | have hq := hg1 (by omega) hex | have hq := hg2 (by omega) hex | have hq := hg3 (by omega) hex | have hq := hg4 (by omega) hex | have hq := hg5 (by omega) hex | have hq := hg6 (by omega) hex); subst hq; clear hex) | (refine Ev.go ?_; conv => whnf) | refine And.intro ?_ ?_ | exact True.intro | exact rfl | (intro rx hrx; rw [ij _ (by omega)] at hrx) | (intro hcx; exfalso; omega) | intro _))
    all_goals (first | (refine ⟨?_⟩; exact vk) | exact cl | skip)
    refine TSq.pureC d2 cl rfl (And.intro rfl rfl) ?_
    (repeat' (first | (intro rx hrx; have hq := hsub1 hrx (by omega); subst hq; clear hrx) | (intro rx hrx; have hq := hsub2 hrx (by omega); subst hq; clear hrx) | (intro rx hrx; have hq := hsub3 hrx (by omega); subst hq; clear hrx) | (intro ex hex; (first | have hq := hg1 (by omega) hex | have hq := hg2 (by omega) hex | have hq := hg3 (by omega) hex | have hq := hg4 (by omega) hex | have hq := hg5 (by omega) hex | have hq := hg6 (by omega) hex); subst hq; clear hex) | (refine Ev.go ?_; conv => whnf) | refine And.intro ?_ ?_ | exact True.intro | exact rfl | (intro rx hrx; rw [ij _ (by omega)] at hrx) | (intro hcx; exfalso; omega) | intro _))
    all_goals (first | (refine ⟨?_⟩; exact vc) | exact cl | skip)
    all_goals (try rfl)
  · have hi1 : 1 ≤ posB t.counts count := by
      rcases Nat.eq_zero_or_pos (posB t.counts count) with h | h
      · rw [h] at hfd hge hci
        rw [h0] at hci
        have := (Option.some.inj hci).symm
        exact absurd (by rw [h0]; congr 1; omega) hfd
      · exact h
    have hj : R[posB t.counts count - 1]? = some (R.getD (posB t.counts count - 1) 0) := by
      simp [List.getD_eq_getElem?_getD, List.getElem?_eq_getElem (show posB t.counts count - 1 < R.length by omega)]
    have hjb := hrb _ (List.mem_of_getElem? hj)
    have hcj : t.counts[posB t.counts count - 1]? = some (t.counts.getD (posB t.counts count - 1) 0) := by
      simp [List.getD_eq_getElem?_getD, List.getElem?_eq_getElem (show posB t.counts count - 1 < t.counts.length by omega)]
    have hcjb := hb _ (List.mem_of_getElem? hcj)
    have hlt := p2 (posB t.counts count - 1) _ (by omega) hcj
    have hne : t.counts.getD (posB t.counts count) 0 ≠ count := fun e => hfd (by rw [hci, e])
    have hL : lossF t crop day count = (R.getD (posB t.counts count - 1) 0 * (t.counts.getD (posB t.counts count) 0 - count) + R.getD (posB t.counts count) 0 * (count - t.counts.getD (posB t.counts count - 1) 0)) / (t.counts.getD (posB t.counts count) 0 - t.counts.getD (posB t.counts count - 1) 0) := by
      simp only [lossF, hR, if_neg hfd]
    rw [hL]
    rw [decide_eq_false hfd] at d2
    have hg4 : ∀ {n : Nat} {e : SV}, n = posB t.counts count - 1 → (ints R)[n]? = some e → e = .int .i64 (R.getD (posB t.counts count - 1) 0) := by
      rintro n e rfl he
      obtain ⟨x, hx, rfl⟩ := encI_at he
      rw [hj] at hx; cases hx; rfl
    have hg5 : ∀ {n : Nat} {e : SV}, n = posB t.counts count → (ints t.counts)[n]? = some e → e = .int .i64 (t.counts.getD (posB t.counts count) 0) := by
      rintro n e rfl he
      obtain ⟨x, hx, rfl⟩ := encI_at he
      rw [hci] at hx; cases hx; rfl
    have hg6 : ∀ {n : Nat} {e : SV}, n = posB t.counts count - 1 → (ints t.counts)[n]? = some e → e = .int .i64 (t.counts.getD (posB t.counts count - 1) 0) := by
      rintro n e rfl he
      obtain ⟨x, hx, rfl⟩ := encI_at he
      rw [hcj] at hx; cases hx; rfl
    generalize R.getD (posB t.counts count) 0 = ri at *
    generalize R.getD (posB t.counts count - 1) 0 = rj at *
    generalize t.counts.getD (posB t.counts count) 0 = b at *
    generalize t.counts.getD (posB t.counts count - 1) 0 = a at *
    have m1 : 0 ≤ rj * (b - count) := Int.mul_nonneg hjb.1 (by omega)
    have m2 : 0 ≤ ri * (count - a) := Int.mul_nonneg hib.1 (by omega)
    have m3 : rj * (b - count) ≤ 100 * (b - count) := Int.mul_le_mul_of_nonneg_right hjb.2 (by omega)
    have m4 : ri * (count - a) ≤ 100 * (count - a) := Int.mul_le_mul_of_nonneg_right hib.2 (by omega)
    have hq0 : 0 ≤ (rj * (b - count) + ri * (count - a)) / (b - a) := Int.ediv_nonneg (by omega) (by omega)
    have hq1 : (rj * (b - count) + ri * (count - a)) / (b - a) ≤ 100 := by
      have : (rj * (b - count) + ri * (count - a)) ≤ 100 * (b - a) := by omega
      exact Int.ediv_le_of_le_mul (by omega) this
    refine ⟨?_, hq0, hq1⟩
    have hsub1 : ∀ {x y : Int}, x = IntKind.i64.wrap (rj * y) → y = b - count → x = rj * (b - count) := fun h e => by rw [h, e, IntWalk.i64_in _ (by omega)]
    have hsub2 : ∀ {x y : Int}, x = IntKind.i64.wrap (ri * y) → y = count - a → x = ri * (count - a) := fun h e => by rw [h, e, IntWalk.i64_in _ (by omega)]
    have hsub3 : ∀ {x y z : Int}, x = IntKind.i64.wrap (y.tdiv z) → y = rj * (b - count) + ri * (count - a) ∧ z = b - a → x = (rj * (b - count) + ri * (count - a)) / (b - a) := fun h e => by
      rw [h, e.1, e.2, Int.tdiv_eq_ediv_of_nonneg (by omega), IntWalk.i64_in _ (by omega)]
    generalize hQ : (rj * (b - count) + ri * (count - a)) / (b - a) = Q at *
    generalize rj * (b - count) = z1 at *
    generalize ri * (count - a) = z2 at *
    generalize posB t.counts count = i at *
    refine PF.of (TF.ev fn_154 (Ev.at ?_))
    (repeat' (first | (intro rx hrx; have hq := hsub1 hrx (by omega); subst hq; clear hrx) | (intro rx hrx; have hq := hsub2 hrx (by omega); subst hq; clear hrx) | (intro rx hrx; have hq := hsub3 hrx (by omega); subst hq; clear hrx) | (intro ex hex; (first | have hq := hg1 (by omega) hex | have hq := hg2 (by omega) hex | have hq := hg3 (by omega) hex | have hq := hg4 (by omega) hex | have hq := hg5 (by omega) hex | have hq := hg6 (by omega) hex); subst hq; clear hex) | (refine Ev.go ?_; conv => whnf) | refine And.intro ?_ ?_ | exact True.intro | exact rfl | (intro rx hrx; rw [ij _ (by omega)] at hrx) | (intro hcx; exfalso; omega) | intro _))
    all_goals (first | (refine ⟨?_⟩; exact vc) | exact cl | skip)
    refine TDq.pureC d1 (by simp [cloL, clo, encTf, encCrs_clo, ints_clo]) rfl (And.intro rfl rfl) ?_
    (repeat' (first | (intro rx hrx; have hq := hsub1 hrx (by omega); subst hq; clear hrx) | (intro rx hrx; have hq := hsub2 hrx (by omega); subst hq; clear hrx) | (intro rx hrx; have hq := hsub3 hrx (by omega); subst hq; clear hrx) | (intro ex hex; (first | have hq := hg1 (by omega) hex | have hq := hg2 (by omega) hex | have hq := hg3 (by omega) hex | have hq := hg4 (by omega) hex | have hq := hg5 (by omega) hex | have hq := hg6 (by omega) hex); subst hq; clear hex) | (refine Ev.go ?_; conv => whnf) | refine And.intro ?_ ?_ | exact True.intro | exact rfl | (intro rx hrx; rw [ij _ (by omega)] at hrx) | (intro hcx; exfalso; omega) | intro _))
    all_goals (first | (refine ⟨?_⟩; exact vk) | exact cl | skip)
    refine TSq.pureC d2 cl rfl (And.intro rfl rfl) ?_
    (repeat' (first | (intro rx hrx; have hq := hsub1 hrx (by omega); subst hq; clear hrx) | (intro rx hrx; have hq := hsub2 hrx (by omega); subst hq; clear hrx) | (intro rx hrx; have hq := hsub3 hrx (by omega); subst hq; clear hrx) | (intro ex hex; (first | have hq := hg1 (by omega) hex | have hq := hg2 (by omega) hex | have hq := hg3 (by omega) hex | have hq := hg4 (by omega) hex | have hq := hg5 (by omega) hex | have hq := hg6 (by omega) hex); subst hq; clear hex) | (refine Ev.go ?_; conv => whnf) | refine And.intro ?_ ?_ | exact True.intro | exact rfl | (intro rx hrx; rw [ij _ (by omega)] at hrx) | (intro hcx; exfalso; omega) | intro _))
    all_goals (first | (refine ⟨?_⟩; exact vk) | exact cl | skip)
    all_goals (try rfl)
end Go.Proofs.YtjadiajfbflghaaGreat
set_option linter.unusedSimpArgs false
set_option linter.unusedVariables false
open Go Go.TV
namespace Go.Proofs.YtjadiajfbflghaaGreat
theorem all_false {α : Type} {l : List α} {p : α → Bool} {k : Nat} {x : α} (h : l[k]? = some x) (hp : p x = false) : l.all p = false := by
  rw [List.all_eq_false]
  exact ⟨x, List.mem_of_getElem? h, by simp [hp]⟩
theorem fault_3 {s : Soc} (h : 5 < s.members.length ∨ 3 < s.losses.length) : fault s = 3 := by rw [fault, if_pos h]
theorem fault_1 {s : Soc} (h : ¬ (5 < s.members.length ∨ 3 < s.losses.length)) (h' : s.valid = false) : fault s = 1 := by
  rw [fault, if_neg h, if_neg (by rw [h']; simp)]
theorem fault_0 {s : Soc} (h : ¬ (5 < s.members.length ∨ 3 < s.losses.length)) (h' : s.valid = true) : fault s = 0 := by
  rw [fault, if_neg h, if_pos h']
theorem all_take {α : Type} {l : List α} {p : α → Bool} {k : Nat} {x : α} (h : l[k]? = some x) (h1 : (l.take k).all p = true) (h2 : p x = true) : (l.take (k + 1)).all p = true := by
  rw [take_snoc h, List.all_append, h1]; simp [h2]
set_option maxHeartbeats 4000000 in
set_option maxRecDepth 100000 in
theorem c9 (s : Soc) : PF Tryz.prog 9 [encSoc s] (· = .int .i64 (fault s)) := by
  have hz := encYs_len s.members
  have hw := encRs_len s.losses
  refine PF.of (TF.ev fn_9 (Ev.at ?_))
  (repeat' (first | (refine Ev.go ?_; conv => whnf) | refine And.intro ?_ ?_ | exact True.intro | exact rfl | (intro rx hrx; rw [ij _ (by omega)] at hrx) | (intro hcx; exfalso; omega) | (intro hcx; exfalso; simp only [lz] at hcx; omega) | intro _))
  all_goals (try (rw [fault_3 (by omega)]; done))
  · have h0 : s.members.length = 0 := by omega
    rw [fault_1 (by omega) (by simp [Soc.valid, List.length_eq_zero_iff.1 h0])]
  have hn1 : s.members.length ≠ 0 := by omega
  have hn0 : s.members ≠ [] := fun h => hn1 (by rw [h]; rfl)
  refine TSq.pureBC (c52 _) cl rfl (And.intro rfl rfl) ?_ ?_ <;> intro w1 <;> (repeat' (first | (refine Ev.go ?_; conv => whnf) | refine And.intro ?_ ?_ | exact True.intro | exact rfl | (intro rx hrx; rw [ij _ (by omega)] at hrx) | (intro hcx; exfalso; omega) | (intro hcx; exfalso; simp only [lz] at hcx; omega) | intro _))
  all_goals (try (rw [fault_1 (by omega) (by simp [Soc.valid, w1])]; done))
  refine TSq.pureBC (c53 _ _ _) cl rfl (And.intro rfl rfl) ?_ ?_ <;> intro w2 <;> (repeat' (first | (refine Ev.go ?_; conv => whnf) | refine And.intro ?_ ?_ | exact True.intro | exact rfl | (intro rx hrx; rw [ij _ (by omega)] at hrx) | (intro hcx; exfalso; omega) | (intro hcx; exfalso; simp only [lz] at hcx; omega) | intro _))
  all_goals (try (rw [fault_1 (by omega) (by simp [Soc.valid, w2])]; done))
  refine TWq.loop (fun k : Nat => [(3, .int .i64 k), (4, .junk)]) (fun k => []) (fun k => k ≤ s.members.length ∧ (s.members.take k).all Mem.valid = true) (fun k => s.members.length - k) 0 [] [] ?_ ⟨by omega, by simp⟩ ?_
  · (repeat' (first | (refine Ev.go ?_; conv => whnf) | refine And.intro ?_ ?_ | exact True.intro | exact rfl | (intro rx hrx; rw [ij _ (by omega)] at hrx) | (intro hcx; exfalso; omega) | (intro hcx; exfalso; simp only [lz] at hcx; omega) | intro _))
    all_goals (first | (refine ⟨?_⟩; exact vc) | exact cl | skip)
  · rintro k ⟨hk1, hk2⟩
    rcases Nat.lt_or_ge k s.members.length with hkl | hkl
    · obtain ⟨m, hm⟩ : ∃ m, s.members[k]? = some m := ⟨_, List.getElem?_eq_getElem hkl⟩
      have hg1 : ∀ {n : Nat} {e : SV}, n = k → (encYs s.members)[n]? = some e → e = encY m := by
        rintro n e rfl he
        obtain ⟨x, hx, rfl⟩ := encYs_at he
        rw [hm] at hx; cases hx; rfl
      have hbad : m.valid = false → s.valid = false := fun h => by simp only [Soc.valid, all_false hm h]; simp
      (repeat' (first | (intro ex hex; have hq := hg1 (by omega) hex; subst hq; clear hex) | (refine Ev.go ?_; conv => whnf) | refine And.intro ?_ ?_ | exact True.intro | exact rfl | (intro rx hrx; rw [ij _ (by omega)] at hrx) | (intro hcx; exfalso; omega) | intro _))
      all_goals (first | (refine ⟨?_⟩; exact vc) | exact cl | skip)
      refine TSq.pureBC (c53 _ _ _) cl rfl (And.intro rfl rfl) ?_ ?_ <;> intro w3 <;> (repeat' (first | (intro ex hex; have hq := hg1 (by omega) hex; subst hq; clear hex) | (refine Ev.go ?_; conv => whnf) | refine And.intro ?_ ?_ | exact True.intro | exact rfl | (intro rx hrx; rw [ij _ (by omega)] at hrx) | (intro hcx; exfalso; omega) | intro _))
      all_goals (try (rw [fault_1 (by omega) (hbad (by simp [Mem.valid, w3]))]; done))
      refine TSq.pureBC (c53 _ _ _) cl rfl (And.intro rfl rfl) ?_ ?_ <;> intro w4 <;> (repeat' (first | (intro ex hex; have hq := hg1 (by omega) hex; subst hq; clear hex) | (refine Ev.go ?_; conv => whnf) | refine And.intro ?_ ?_ | exact True.intro | exact rfl | (intro rx hrx; rw [ij _ (by omega)] at hrx) | (intro hcx; exfalso; omega) | intro _))
      all_goals (try (rw [fault_1 (by omega) (hbad (by simp [Mem.valid, w4]))]; done))
      refine TSq.pureBC (c53 _ _ _) cl rfl (And.intro rfl rfl) ?_ ?_ <;> intro w5 <;> (repeat' (first | (intro ex hex; have hq := hg1 (by omega) hex; subst hq; clear hex) | (refine Ev.go ?_; conv => whnf) | refine And.intro ?_ ?_ | exact True.intro | exact rfl | (intro rx hrx; rw [ij _ (by omega)] at hrx) | (intro hcx; exfalso; omega) | intro _))
      all_goals (try (rw [fault_1 (by omega) (hbad (by simp [Mem.valid, w5]))]; done))
      all_goals (first | (refine ⟨?_⟩; exact vc) | exact cl | skip)
      refine ⟨⟨k + 1, ⟨by omega, all_take hm hk2 (by simp [Mem.valid, w3, w4, w5])⟩, by omega, ?_⟩⟩
      (repeat' (first | (intro ex hex; have hq := hg1 (by omega) hex; subst hq; clear hex) | (refine Ev.go ?_; conv => whnf) | refine And.intro ?_ ?_ | exact True.intro | exact rfl | (intro rx hrx; rw [ij _ (by omega)] at hrx) | (intro hcx; exfalso; omega) | intro _))
      all_goals (first | (refine ⟨?_⟩; exact vc) | exact cl | skip)
    · have hke : k = s.members.length := by omega
      subst hke
      rw [List.take_length] at hk2
      (repeat' (first | (refine Ev.go ?_; conv => whnf) | refine And.intro ?_ ?_ | exact True.intro | exact rfl | (intro rx hrx; rw [ij _ (by omega)] at hrx) | (intro hcx; exfalso; omega) | (intro hcx; exfalso; simp only [lz] at hcx; omega) | intro _))
      all_goals (first | (refine ⟨?_⟩; exact vc) | exact cl | skip)
      refine TWq.loop (fun k : Nat => [(5, .int .i64 k)]) (fun k => []) (fun k => k ≤ s.losses.length ∧ (s.losses.take k).all Rng.pence = true) (fun k => s.losses.length - k) 0 [] [] ?_ ⟨by omega, by simp⟩ ?_
      · (repeat' (first | (refine Ev.go ?_; conv => whnf) | refine And.intro ?_ ?_ | exact True.intro | exact rfl | (intro rx hrx; rw [ij _ (by omega)] at hrx) | (intro hcx; exfalso; omega) | (intro hcx; exfalso; simp only [lz] at hcx; omega) | intro _))
        all_goals (first | (refine ⟨?_⟩; exact vc) | exact cl | skip)
      · rintro k ⟨hk3, hk4⟩
        rcases Nat.lt_or_ge k s.losses.length with hkl | hkl
        · obtain ⟨m, hm⟩ : ∃ m, s.losses[k]? = some m := ⟨_, List.getElem?_eq_getElem hkl⟩
          have hg1 : ∀ {n : Nat} {e : SV}, n = k → (encRs s.losses)[n]? = some e → e = encR m := by
            rintro n e rfl he
            obtain ⟨x, hx, rfl⟩ := encRs_at he
            rw [hm] at hx; cases hx; rfl
          have hbad : m.pence = false → s.valid = false := fun h => by simp only [Soc.valid, all_false hm h]; simp
          (repeat' (first | (intro ex hex; have hq := hg1 (by omega) hex; subst hq; clear hex) | (refine Ev.go ?_; conv => whnf) | refine And.intro ?_ ?_ | exact True.intro | exact rfl | (intro rx hrx; rw [ij _ (by omega)] at hrx) | (intro hcx; exfalso; omega) | intro _))
          all_goals (first | (refine ⟨?_⟩; exact vc) | exact cl | skip)
          refine TSq.pureBC (c52 _) cl rfl (And.intro rfl rfl) ?_ ?_ <;> intro w3 <;> (repeat' (first | (intro ex hex; have hq := hg1 (by omega) hex; subst hq; clear hex) | (refine Ev.go ?_; conv => whnf) | refine And.intro ?_ ?_ | exact True.intro | exact rfl | (intro rx hrx; rw [ij _ (by omega)] at hrx) | (intro hcx; exfalso; omega) | intro _))
          all_goals (try (rw [fault_1 (by omega) (hbad w3)]; done))
          all_goals (first | (refine ⟨?_⟩; exact vc) | exact cl | skip)
          refine ⟨⟨k + 1, ⟨by omega, all_take hm hk4 w3⟩, by omega, ?_⟩⟩
          (repeat' (first | (intro ex hex; have hq := hg1 (by omega) hex; subst hq; clear hex) | (refine Ev.go ?_; conv => whnf) | refine And.intro ?_ ?_ | exact True.intro | exact rfl | (intro rx hrx; rw [ij _ (by omega)] at hrx) | (intro hcx; exfalso; omega) | intro _))
          all_goals (first | (refine ⟨?_⟩; exact vc) | exact cl | skip)
        · have hke : k = s.losses.length := by omega
          subst hke
          rw [List.take_length] at hk4
          (repeat' (first | (refine Ev.go ?_; conv => whnf) | refine And.intro ?_ ?_ | exact True.intro | exact rfl | (intro rx hrx; rw [ij _ (by omega)] at hrx) | (intro hcx; exfalso; omega) | (intro hcx; exfalso; simp only [lz] at hcx; omega) | intro _))
          all_goals (first | (refine ⟨?_⟩; exact vc) | exact cl | skip)
          rw [fault_0 (by omega) (by simp [Soc.valid, hn0, hk2, hk4, w1, w2])]
theorem c8 (s : Soc) : PF Tryz.prog 8 [encSoc s] (· = .bool (decide (s.members.length ≤ 8 ∧ s.losses.length ≤ 6))) := by
  have hz := encYs_len s.members
  have hw := encRs_len s.losses
  refine PF.of (TF.ev fn_8 (Ev.at ?_))
  (repeat' (first | (refine Ev.go ?_; conv => whnf) | refine And.intro ?_ ?_ | exact True.intro | exact rfl | (intro rx hrx; rw [ij _ (by omega)] at hrx) | (intro hcx; exfalso; omega) | (intro hcx; exfalso; simp only [lz] at hcx; omega) | intro _))
  all_goals (rw [SV.bool_iff]; simp; omega)
def ready (s : Soc) : Bool := decide (fault s = 0)
theorem fault_len {s : Soc} (h : fault s = 0) : s.members.length ≤ 5 ∧ s.losses.length ≤ 3 := by
  unfold fault at h
  split at h <;> omega
theorem fault_valid {s : Soc} (h : fault s = 0) : s.valid = true := by
  unfold fault at h
  split at h
  · omega
  · split at h
    · assumption
    · omega
theorem c66 (r : Rng) : PF Tryz.prog 66 [encR r] (· = encR r) := by
  refine PF.of (TF.ev fn_66 (Ev.at ?_))
  (repeat' (first | (refine Ev.go ?_; conv => whnf) | refine And.intro ?_ ?_ | exact True.intro | exact rfl | (intro rx hrx; rw [ij _ (by omega)] at hrx) | (intro hcx; exfalso; omega) | (intro hcx; exfalso; simp only [lz] at hcx; omega) | intro _))
  try rfl
end Go.Proofs.YtjadiajfbflghaaGreat
set_option linter.unusedSimpArgs false
set_option linter.unusedVariables false
open Go Go.TV
namespace Go.Proofs.YtjadiajfbflghaaGreat
def SN (s : Soc) (v : SV) : Prop := ∃ a b, v = .agg [a, b, .int .i64 s.treaty.lo, .int .i64 s.treaty.hi, .int .i64 s.reserve] ∧ (a = .sl 3 (encYs s.members) ∨ (s.members = [] ∧ a = .nils)) ∧ (b = .sl 2 (encRs s.losses) ∨ (s.losses = [] ∧ b = .nils))
theorem SN.pf {f : FuncId} {args : List SV} {s : Soc} (h : PF Tryz.prog f args (SN s)) : PF Tryz.prog f args (· = encSoc s) := by
  refine PF.res h fun v hv _ => ?_
  refine ⟨_, rfl, by simp [encSoc, clo, cloL, encYs_clo, encRs_clo], ?_⟩
  obtain ⟨a, b, rfl, ha, hb⟩ := hv
  unfold encSoc
  rcases ha with rfl | ⟨h1, rfl⟩ <;> rcases hb with rfl | ⟨h2, rfl⟩
  · (repeat' (first | (refine Ev.go ?_; conv => whnf) | refine And.intro ?_ ?_ | exact True.intro | exact rfl | (intro rx hrx; rw [ij _ (by omega)] at hrx) | (intro hcx; exfalso; omega) | (intro hcx; exfalso; simp only [lz] at hcx; omega) | intro _))
    all_goals (first | (refine ⟨?_⟩; exact vc) | exact cl | skip)
  · rw [h2]
    (repeat' (first | (refine Ev.go ?_; conv => whnf) | refine And.intro ?_ ?_ | exact True.intro | exact rfl | (intro rx hrx; rw [ij _ (by omega)] at hrx) | (intro hcx; exfalso; omega) | (intro hcx; exfalso; simp only [lz] at hcx; omega) | intro _))
    all_goals (first | (refine ⟨?_⟩; exact vc) | exact cl | skip)
  · rw [h1]
    (repeat' (first | (refine Ev.go ?_; conv => whnf) | refine And.intro ?_ ?_ | exact True.intro | exact rfl | (intro rx hrx; rw [ij _ (by omega)] at hrx) | (intro hcx; exfalso; omega) | (intro hcx; exfalso; simp only [lz] at hcx; omega) | intro _))
    all_goals (first | (refine ⟨?_⟩; exact vc) | exact cl | skip)
  · rw [h1, h2]
    (repeat' (first | (refine Ev.go ?_; conv => whnf) | refine And.intro ?_ ?_ | exact True.intro | exact rfl | (intro rx hrx; rw [ij _ (by omega)] at hrx) | (intro hcx; exfalso; omega) | (intro hcx; exfalso; simp only [lz] at hcx; omega) | intro _))
    all_goals (first | (refine ⟨?_⟩; exact vc) | exact cl | skip)
set_option maxHeartbeats 4000000 in
set_option maxRecDepth 100000 in
theorem c17 (s : Soc) (h1 : s.members.length ≤ 1000) (h2 : s.losses.length ≤ 1000) : PF Tryz.prog 17 [encSoc s] (· = encSoc s) := by
  have hz := encYs_len s.members
  have hw := encRs_len s.losses
  refine SN.pf (PF.of (TF.ev fn_17 (Ev.at ?_)))
  (repeat' (first | (refine Ev.go ?_; conv => whnf) | refine And.intro ?_ ?_ | exact True.intro | exact rfl | (intro rx hrx; rw [ij _ (by omega)] at hrx) | (intro hcx; exfalso; omega) | (intro hcx; exfalso; simp only [lz] at hcx; omega) | (intro ex hex; (first | obtain ⟨xx, hxx, rfl⟩ := ints_at hex | obtain ⟨xx, hxx, rfl⟩ := encYs_at hex | obtain ⟨xx, hxx, rfl⟩ := encRs_at hex); clear hex; try simp only [Int.toNat_natCast] at hxx) | intro _))
  refine TDq.pureC (c66 s.treaty) cl rfl (And.intro rfl rfl) ?_
  (repeat' (first | (refine Ev.go ?_; conv => whnf) | refine And.intro ?_ ?_ | exact True.intro | exact rfl | (intro rx hrx; rw [ij _ (by omega)] at hrx) | (intro hcx; exfalso; omega) | (intro hcx; exfalso; simp only [lz] at hcx; omega) | (intro ex hex; (first | obtain ⟨xx, hxx, rfl⟩ := ints_at hex | obtain ⟨xx, hxx, rfl⟩ := encYs_at hex | obtain ⟨xx, hxx, rfl⟩ := encRs_at hex); clear hex; try simp only [Int.toNat_natCast] at hxx) | intro _))
  all_goals (first | (refine ⟨?_⟩; exact vc) | exact cl | skip)
  refine TWq.loopP (fun p : Nat × List Mem => [(4, .int .i64 p.1)])
    (fun p => [(2, .cells [match p.2 with | [] => .nils | _ :: _ => .own 3, .nils, .int .i64 s.treaty.lo, .int .i64 s.treaty.hi, .int .i64 s.reserve]), (3, match p.2 with | [] => .dead | _ :: _ => .arr 135 3 (encYs p.2))])
    (fun p => p.1 ≤ s.members.length ∧ p.2 = s.members.take p.1) (fun p => s.members.length - p.1) (0, []) [] ?_ ⟨by omega, by simp⟩ ?_
  · (repeat' (first | (refine Ev.go ?_; conv => whnf) | refine And.intro ?_ ?_ | exact True.intro | exact rfl | (intro rx hrx; rw [ij _ (by omega)] at hrx) | (intro hcx; exfalso; omega) | (intro hcx; exfalso; simp only [lz] at hcx; omega) | (intro ex hex; (first | obtain ⟨xx, hxx, rfl⟩ := ints_at hex | obtain ⟨xx, hxx, rfl⟩ := encYs_at hex | obtain ⟨xx, hxx, rfl⟩ := encRs_at hex); clear hex; try simp only [Int.toNat_natCast] at hxx) | intro _))
    all_goals (first | (refine ⟨?_⟩; exact vc) | exact cl | skip)
  · rintro ⟨k, l⟩ ⟨hk, hl⟩
    dsimp only at hk hl ⊢
    have hll : l.length ≤ k := by rw [hl]; simp; omega
    rcases Nat.lt_or_ge k s.members.length with hkl | hkl
    · cases l with
      | nil =>
        (repeat' (first | (refine Ev.go ?_; conv => whnf) | refine And.intro ?_ ?_ | exact True.intro | exact rfl | (intro rx hrx; rw [ij _ (by omega)] at hrx) | (intro hcx; exfalso; omega) | (intro hcx; exfalso; simp only [lz] at hcx; omega) | (intro ex hex; (first | obtain ⟨xx, hxx, rfl⟩ := ints_at hex | obtain ⟨xx, hxx, rfl⟩ := encYs_at hex | obtain ⟨xx, hxx, rfl⟩ := encRs_at hex); clear hex; try simp only [Int.toNat_natCast] at hxx) | intro _))
        all_goals (first | (refine ⟨?_⟩; exact vc) | exact cl | skip)
        refine ⟨⟨[(3, 6)], (k + 1, [xx]), ⟨by omega, ?_⟩, by dsimp only; omega, ?_⟩⟩
        · dsimp only; rw [take_snoc hxx, ← hl]; rfl
        · (repeat' (first | (refine Ev.go ?_; conv => whnf) | refine And.intro ?_ ?_ | exact True.intro | exact rfl | (intro rx hrx; rw [ij _ (by omega)] at hrx) | (intro hcx; exfalso; omega) | (intro hcx; exfalso; simp only [lz] at hcx; omega) | (intro ex hex; (first | obtain ⟨xx, hxx, rfl⟩ := ints_at hex | obtain ⟨xx, hxx, rfl⟩ := encYs_at hex | obtain ⟨xx, hxx, rfl⟩ := encRs_at hex); clear hex; try simp only [Int.toNat_natCast] at hxx) | intro _))
          all_goals (first | (refine ⟨?_⟩; exact vc) | exact cl | skip)
          all_goals (try (refine ⟨?_⟩; simp [encYs, encY, catS, repl, chunks]))
      | cons a l =>
        simp only [List.length_cons] at hll
        (repeat' (first | (refine Ev.go ?_; conv => whnf) | refine And.intro ?_ ?_ | exact True.intro | exact rfl | (intro rx hrx; rw [ij _ (by omega)] at hrx) | (intro hcx; exfalso; omega) | (intro hcx; exfalso; simp only [lz] at hcx; omega) | (intro ex hex; (first | obtain ⟨xx, hxx, rfl⟩ := ints_at hex | obtain ⟨xx, hxx, rfl⟩ := encYs_at hex | obtain ⟨xx, hxx, rfl⟩ := encRs_at hex); clear hex; try simp only [Int.toNat_natCast] at hxx) | intro _))
        all_goals (first | (refine ⟨?_⟩; exact vc) | exact cl | skip)
        refine ⟨⟨[(3, 6)], (k + 1, (a :: l) ++ [xx]), ⟨by omega, ?_⟩, by dsimp only; omega, ?_⟩⟩
        · dsimp only; rw [take_snoc hxx, ← hl]
        · (repeat' (first | (refine Ev.go ?_; conv => whnf) | refine And.intro ?_ ?_ | exact True.intro | exact rfl | (intro rx hrx; rw [ij _ (by omega)] at hrx) | (intro hcx; exfalso; omega) | (intro hcx; exfalso; simp only [lz] at hcx; omega) | (intro ex hex; (first | obtain ⟨xx, hxx, rfl⟩ := ints_at hex | obtain ⟨xx, hxx, rfl⟩ := encYs_at hex | obtain ⟨xx, hxx, rfl⟩ := encRs_at hex); clear hex; try simp only [Int.toNat_natCast] at hxx) | intro _))
          all_goals (first | (refine ⟨?_⟩; exact vc) | exact cl | skip)
          all_goals (try (refine ⟨?_⟩; simp [encYs, encY, catS, repl, chunks]))
    · have hke : k = s.members.length := by omega
      subst hke
      rw [List.take_length] at hl
      subst hl
      cases hms : s.members with
      | nil =>
        rw [hms] at hz
        (repeat' (first | (refine Ev.go ?_; conv => whnf) | refine And.intro ?_ ?_ | exact True.intro | exact rfl | (intro rx hrx; rw [ij _ (by omega)] at hrx) | (intro hcx; exfalso; omega) | (intro hcx; exfalso; simp only [lz] at hcx; omega) | (intro ex hex; (first | obtain ⟨xx, hxx, rfl⟩ := ints_at hex | obtain ⟨xx, hxx, rfl⟩ := encYs_at hex | obtain ⟨xx, hxx, rfl⟩ := encRs_at hex); clear hex; try simp only [Int.toNat_natCast] at hxx) | intro _))
        all_goals (first | (refine ⟨?_⟩; exact vc) | exact cl | skip)
        refine TWq.loopP (fun p : Nat × List Rng => [(6, .int .i64 p.1)])
          (fun p => [(2, .cells [.nils, match p.2 with | [] => .nils | _ :: _ => .own 4, .int .i64 s.treaty.lo, .int .i64 s.treaty.hi, .int .i64 s.reserve]), (3, .dead), (4, match p.2 with | [] => .dead | _ :: _ => .arr 65 2 (encRs p.2))])
          (fun p => p.1 ≤ s.losses.length ∧ p.2 = s.losses.take p.1) (fun p => s.losses.length - p.1) (0, []) [] ?_ ⟨by omega, by simp⟩ ?_
        · (repeat' (first | (refine Ev.go ?_; conv => whnf) | refine And.intro ?_ ?_ | exact True.intro | exact rfl | (intro rx hrx; rw [ij _ (by omega)] at hrx) | (intro hcx; exfalso; omega) | (intro hcx; exfalso; simp only [lz] at hcx; omega) | (intro ex hex; (first | obtain ⟨xx, hxx, rfl⟩ := ints_at hex | obtain ⟨xx, hxx, rfl⟩ := encYs_at hex | obtain ⟨xx, hxx, rfl⟩ := encRs_at hex); clear hex; try simp only [Int.toNat_natCast] at hxx) | intro _))
          all_goals (first | (refine ⟨?_⟩; exact vc) | exact cl | skip)
        · rintro ⟨k, l2⟩ ⟨hk, hl⟩
          dsimp only at hk hl ⊢
          have hll : l2.length ≤ k := by rw [hl]; simp; omega
          rcases Nat.lt_or_ge k s.losses.length with hkl | hkl
          · cases l2 with
            | nil =>
              (repeat' (first | (refine Ev.go ?_; conv => whnf) | refine And.intro ?_ ?_ | exact True.intro | exact rfl | (intro rx hrx; rw [ij _ (by omega)] at hrx) | (intro hcx; exfalso; omega) | (intro hcx; exfalso; simp only [lz] at hcx; omega) | (intro ex hex; (first | obtain ⟨xx, hxx, rfl⟩ := ints_at hex | obtain ⟨xx, hxx, rfl⟩ := encYs_at hex | obtain ⟨xx, hxx, rfl⟩ := encRs_at hex); clear hex; try simp only [Int.toNat_natCast] at hxx) | intro _))
              all_goals (first | (refine ⟨?_⟩; exact vc) | exact cl | skip)
              refine TDq.pureC (c66 xx) cl rfl (And.intro rfl rfl) ?_
              (repeat' (first | (refine Ev.go ?_; conv => whnf) | refine And.intro ?_ ?_ | exact True.intro | exact rfl | (intro rx hrx; rw [ij _ (by omega)] at hrx) | (intro hcx; exfalso; omega) | (intro hcx; exfalso; simp only [lz] at hcx; omega) | (intro ex hex; (first | obtain ⟨xx, hxx, rfl⟩ := ints_at hex | obtain ⟨xx, hxx, rfl⟩ := encYs_at hex | obtain ⟨xx, hxx, rfl⟩ := encRs_at hex); clear hex; try simp only [Int.toNat_natCast] at hxx) | intro _))
              all_goals (first | (refine ⟨?_⟩; exact vc) | exact cl | skip)
              refine ⟨⟨[(4, 6)], (k + 1, [xx]), ⟨by omega, ?_⟩, by dsimp only; omega, ?_⟩⟩
              · dsimp only; rw [take_snoc hxx, ← hl]; rfl
              · (repeat' (first | (refine Ev.go ?_; conv => whnf) | refine And.intro ?_ ?_ | exact True.intro | exact rfl | (intro rx hrx; rw [ij _ (by omega)] at hrx) | (intro hcx; exfalso; omega) | (intro hcx; exfalso; simp only [lz] at hcx; omega) | (intro ex hex; (first | obtain ⟨xx, hxx, rfl⟩ := ints_at hex | obtain ⟨xx, hxx, rfl⟩ := encYs_at hex | obtain ⟨xx, hxx, rfl⟩ := encRs_at hex); clear hex; try simp only [Int.toNat_natCast] at hxx) | intro _))
                all_goals (first | (refine ⟨?_⟩; exact vc) | exact cl | skip)
                all_goals (try (refine ⟨?_⟩; simp [encRs, encR, catS, repl, chunks]))
            | cons b l2 =>
              simp only [List.length_cons] at hll
              (repeat' (first | (refine Ev.go ?_; conv => whnf) | refine And.intro ?_ ?_ | exact True.intro | exact rfl | (intro rx hrx; rw [ij _ (by omega)] at hrx) | (intro hcx; exfalso; omega) | (intro hcx; exfalso; simp only [lz] at hcx; omega) | (intro ex hex; (first | obtain ⟨xx, hxx, rfl⟩ := ints_at hex | obtain ⟨xx, hxx, rfl⟩ := encYs_at hex | obtain ⟨xx, hxx, rfl⟩ := encRs_at hex); clear hex; try simp only [Int.toNat_natCast] at hxx) | intro _))
              all_goals (first | (refine ⟨?_⟩; exact vc) | exact cl | skip)
              refine TDq.pureC (c66 xx) cl rfl (And.intro rfl rfl) ?_
              (repeat' (first | (refine Ev.go ?_; conv => whnf) | refine And.intro ?_ ?_ | exact True.intro | exact rfl | (intro rx hrx; rw [ij _ (by omega)] at hrx) | (intro hcx; exfalso; omega) | (intro hcx; exfalso; simp only [lz] at hcx; omega) | (intro ex hex; (first | obtain ⟨xx, hxx, rfl⟩ := ints_at hex | obtain ⟨xx, hxx, rfl⟩ := encYs_at hex | obtain ⟨xx, hxx, rfl⟩ := encRs_at hex); clear hex; try simp only [Int.toNat_natCast] at hxx) | intro _))
              all_goals (first | (refine ⟨?_⟩; exact vc) | exact cl | skip)
              refine ⟨⟨[(4, 6)], (k + 1, (b :: l2) ++ [xx]), ⟨by omega, ?_⟩, by dsimp only; omega, ?_⟩⟩
              · dsimp only; rw [take_snoc hxx, ← hl]
              · (repeat' (first | (refine Ev.go ?_; conv => whnf) | refine And.intro ?_ ?_ | exact True.intro | exact rfl | (intro rx hrx; rw [ij _ (by omega)] at hrx) | (intro hcx; exfalso; omega) | (intro hcx; exfalso; simp only [lz] at hcx; omega) | (intro ex hex; (first | obtain ⟨xx, hxx, rfl⟩ := ints_at hex | obtain ⟨xx, hxx, rfl⟩ := encYs_at hex | obtain ⟨xx, hxx, rfl⟩ := encRs_at hex); clear hex; try simp only [Int.toNat_natCast] at hxx) | intro _))
                all_goals (first | (refine ⟨?_⟩; exact vc) | exact cl | skip)
                all_goals (try (refine ⟨?_⟩; simp [encRs, encR, catS, repl, chunks]))
          · have hke : k = s.losses.length := by omega
            subst hke
            rw [List.take_length] at hl
            cases l2 with
            | nil =>
              (repeat' (first | (refine Ev.go ?_; conv => whnf) | refine And.intro ?_ ?_ | exact True.intro | exact rfl | (intro rx hrx; rw [ij _ (by omega)] at hrx) | (intro hcx; exfalso; omega) | (intro hcx; exfalso; simp only [lz] at hcx; omega) | (intro ex hex; (first | obtain ⟨xx, hxx, rfl⟩ := ints_at hex | obtain ⟨xx, hxx, rfl⟩ := encYs_at hex | obtain ⟨xx, hxx, rfl⟩ := encRs_at hex); clear hex; try simp only [Int.toNat_natCast] at hxx) | intro _))
              all_goals (first | (refine ⟨?_⟩; exact vc) | exact cl | skip)
              exact ⟨_, _, rfl, .inr ⟨hms, rfl⟩, .inr ⟨hl.symm, rfl⟩⟩
            | cons b l2 =>
              (repeat' (first | (refine Ev.go ?_; conv => whnf) | refine And.intro ?_ ?_ | exact True.intro | exact rfl | (intro rx hrx; rw [ij _ (by omega)] at hrx) | (intro hcx; exfalso; omega) | (intro hcx; exfalso; simp only [lz] at hcx; omega) | (intro ex hex; (first | obtain ⟨xx, hxx, rfl⟩ := ints_at hex | obtain ⟨xx, hxx, rfl⟩ := encYs_at hex | obtain ⟨xx, hxx, rfl⟩ := encRs_at hex); clear hex; try simp only [Int.toNat_natCast] at hxx) | intro _))
              all_goals (first | (refine ⟨?_⟩; exact vc) | exact cl | skip)
              exact ⟨_, _, rfl, .inr ⟨hms, rfl⟩, .inl (by rw [← hl])⟩
      | cons a l =>
        rw [hms] at hz
        (repeat' (first | (refine Ev.go ?_; conv => whnf) | refine And.intro ?_ ?_ | exact True.intro | exact rfl | (intro rx hrx; rw [ij _ (by omega)] at hrx) | (intro hcx; exfalso; omega) | (intro hcx; exfalso; simp only [lz] at hcx; omega) | (intro ex hex; (first | obtain ⟨xx, hxx, rfl⟩ := ints_at hex | obtain ⟨xx, hxx, rfl⟩ := encYs_at hex | obtain ⟨xx, hxx, rfl⟩ := encRs_at hex); clear hex; try simp only [Int.toNat_natCast] at hxx) | intro _))
        all_goals (first | (refine ⟨?_⟩; exact vc) | exact cl | skip)
        refine TWq.loopP (fun p : Nat × List Rng => [(6, .int .i64 p.1)])
          (fun p => [(2, .cells [.own 3, match p.2 with | [] => .nils | _ :: _ => .own 4, .int .i64 s.treaty.lo, .int .i64 s.treaty.hi, .int .i64 s.reserve]), (3, .arr 135 3 (encYs (a :: l))), (4, match p.2 with | [] => .dead | _ :: _ => .arr 65 2 (encRs p.2))])
          (fun p => p.1 ≤ s.losses.length ∧ p.2 = s.losses.take p.1) (fun p => s.losses.length - p.1) (0, []) [] ?_ ⟨by omega, by simp⟩ ?_
        · (repeat' (first | (refine Ev.go ?_; conv => whnf) | refine And.intro ?_ ?_ | exact True.intro | exact rfl | (intro rx hrx; rw [ij _ (by omega)] at hrx) | (intro hcx; exfalso; omega) | (intro hcx; exfalso; simp only [lz] at hcx; omega) | (intro ex hex; (first | obtain ⟨xx, hxx, rfl⟩ := ints_at hex | obtain ⟨xx, hxx, rfl⟩ := encYs_at hex | obtain ⟨xx, hxx, rfl⟩ := encRs_at hex); clear hex; try simp only [Int.toNat_natCast] at hxx) | intro _))
          all_goals (first | (refine ⟨?_⟩; exact vc) | exact cl | skip)
        · rintro ⟨k, l2⟩ ⟨hk, hl⟩
          dsimp only at hk hl ⊢
          have hll : l2.length ≤ k := by rw [hl]; simp; omega
          rcases Nat.lt_or_ge k s.losses.length with hkl | hkl
          · cases l2 with
            | nil =>
              (repeat' (first | (refine Ev.go ?_; conv => whnf) | refine And.intro ?_ ?_ | exact True.intro | exact rfl | (intro rx hrx; rw [ij _ (by omega)] at hrx) | (intro hcx; exfalso; omega) | (intro hcx; exfalso; simp only [lz] at hcx; omega) | (intro ex hex; (first | obtain ⟨xx, hxx, rfl⟩ := ints_at hex | obtain ⟨xx, hxx, rfl⟩ := encYs_at hex | obtain ⟨xx, hxx, rfl⟩ := encRs_at hex); clear hex; try simp only [Int.toNat_natCast] at hxx) | intro _))
              all_goals (first | (refine ⟨?_⟩; exact vc) | exact cl | skip)
              refine TDq.pureC (c66 xx) cl rfl (And.intro rfl rfl) ?_
              (repeat' (first | (refine Ev.go ?_; conv => whnf) | refine And.intro ?_ ?_ | exact True.intro | exact rfl | (intro rx hrx; rw [ij _ (by omega)] at hrx) | (intro hcx; exfalso; omega) | (intro hcx; exfalso; simp only [lz] at hcx; omega) | (intro ex hex; (first | obtain ⟨xx, hxx, rfl⟩ := ints_at hex | obtain ⟨xx, hxx, rfl⟩ := encYs_at hex | obtain ⟨xx, hxx, rfl⟩ := encRs_at hex); clear hex; try simp only [Int.toNat_natCast] at hxx) | intro _))
              all_goals (first | (refine ⟨?_⟩; exact vc) | exact cl | skip)
              refine ⟨⟨[(4, 6)], (k + 1, [xx]), ⟨by omega, ?_⟩, by dsimp only; omega, ?_⟩⟩
              · dsimp only; rw [take_snoc hxx, ← hl]; rfl
              · (repeat' (first | (refine Ev.go ?_; conv => whnf) | refine And.intro ?_ ?_ | exact True.intro | exact rfl | (intro rx hrx; rw [ij _ (by omega)] at hrx) | (intro hcx; exfalso; omega) | (intro hcx; exfalso; simp only [lz] at hcx; omega) | (intro ex hex; (first | obtain ⟨xx, hxx, rfl⟩ := ints_at hex | obtain ⟨xx, hxx, rfl⟩ := encYs_at hex | obtain ⟨xx, hxx, rfl⟩ := encRs_at hex); clear hex; try simp only [Int.toNat_natCast] at hxx) | intro _))
                all_goals (first | (refine ⟨?_⟩; exact vc) | exact cl | skip)
                all_goals (try (refine ⟨?_⟩; simp [encRs, encR, catS, repl, chunks]))
            | cons b l2 =>
              simp only [List.length_cons] at hll
              (repeat' (first | (refine Ev.go ?_; conv => whnf) | refine And.intro ?_ ?_ | exact True.intro | exact rfl | (intro rx hrx; rw [ij _ (by omega)] at hrx) | (intro hcx; exfalso; omega) | (intro hcx; exfalso; simp only [lz] at hcx; omega) | (intro ex hex; (first | obtain ⟨xx, hxx, rfl⟩ := ints_at hex | obtain ⟨xx, hxx, rfl⟩ := encYs_at hex | obtain ⟨xx, hxx, rfl⟩ := encRs_at hex); clear hex; try simp only [Int.toNat_natCast] at hxx) | intro _))
              all_goals (first | (refine ⟨?_⟩; exact vc) | exact cl | skip)
              refine TDq.pureC (c66 xx) cl rfl (And.intro rfl rfl) ?_
              (repeat' (first | (refine Ev.go ?_; conv => whnf) | refine And.intro ?_ ?_ | exact True.intro | exact rfl | (intro rx hrx; rw [ij _ (by omega)] at hrx) | (intro hcx; exfalso; omega) | (intro hcx; exfalso; simp only [lz] at hcx; omega) | (intro ex hex; (first | obtain ⟨xx, hxx, rfl⟩ := ints_at hex | obtain ⟨xx, hxx, rfl⟩ := encYs_at hex | obtain ⟨xx, hxx, rfl⟩ := encRs_at hex); clear hex; try simp only [Int.toNat_natCast] at hxx) | intro _))
              all_goals (first | (refine ⟨?_⟩; exact vc) | exact cl | skip)
              refine ⟨⟨[(4, 6)], (k + 1, (b :: l2) ++ [xx]), ⟨by omega, ?_⟩, by dsimp only; omega, ?_⟩⟩
              · dsimp only; rw [take_snoc hxx, ← hl]
              · (repeat' (first | (refine Ev.go ?_; conv => whnf) | refine And.intro ?_ ?_ | exact True.intro | exact rfl | (intro rx hrx; rw [ij _ (by omega)] at hrx) | (intro hcx; exfalso; omega) | (intro hcx; exfalso; simp only [lz] at hcx; omega) | (intro ex hex; (first | obtain ⟨xx, hxx, rfl⟩ := ints_at hex | obtain ⟨xx, hxx, rfl⟩ := encYs_at hex | obtain ⟨xx, hxx, rfl⟩ := encRs_at hex); clear hex; try simp only [Int.toNat_natCast] at hxx) | intro _))
                all_goals (first | (refine ⟨?_⟩; exact vc) | exact cl | skip)
                all_goals (try (refine ⟨?_⟩; simp [encRs, encR, catS, repl, chunks]))
          · have hke : k = s.losses.length := by omega
            subst hke
            rw [List.take_length] at hl
            cases l2 with
            | nil =>
              (repeat' (first | (refine Ev.go ?_; conv => whnf) | refine And.intro ?_ ?_ | exact True.intro | exact rfl | (intro rx hrx; rw [ij _ (by omega)] at hrx) | (intro hcx; exfalso; omega) | (intro hcx; exfalso; simp only [lz] at hcx; omega) | (intro ex hex; (first | obtain ⟨xx, hxx, rfl⟩ := ints_at hex | obtain ⟨xx, hxx, rfl⟩ := encYs_at hex | obtain ⟨xx, hxx, rfl⟩ := encRs_at hex); clear hex; try simp only [Int.toNat_natCast] at hxx) | intro _))
              all_goals (first | (refine ⟨?_⟩; exact vc) | exact cl | skip)
              exact ⟨_, _, rfl, .inl (by rw [hms]), .inr ⟨hl.symm, rfl⟩⟩
            | cons b l2 =>
              (repeat' (first | (refine Ev.go ?_; conv => whnf) | refine And.intro ?_ ?_ | exact True.intro | exact rfl | (intro rx hrx; rw [ij _ (by omega)] at hrx) | (intro hcx; exfalso; omega) | (intro hcx; exfalso; simp only [lz] at hcx; omega) | (intro ex hex; (first | obtain ⟨xx, hxx, rfl⟩ := ints_at hex | obtain ⟨xx, hxx, rfl⟩ := encYs_at hex | obtain ⟨xx, hxx, rfl⟩ := encRs_at hex); clear hex; try simp only [Int.toNat_natCast] at hxx) | intro _))
              all_goals (first | (refine ⟨?_⟩; exact vc) | exact cl | skip)
              exact ⟨_, _, rfl, .inl (by rw [hms]), .inl (by rw [← hl])⟩
end Go.Proofs.YtjadiajfbflghaaGreat
set_option linter.unusedSimpArgs false
set_option linter.unusedVariables false
open Go Go.TV
namespace Go.Proofs.YtjadiajfbflghaaGreat
def OkM (m : Mem) : Prop := (1 ≤ m.sum ∧ m.sum ≤ 1000) ∧ (1 ≤ m.cls ∧ m.cls ≤ 10) ∧ 0 ≤ m.most ∧ m.most ≤ 100000
theorem OkM.units {m : Mem} (h : OkM m) : 1 ≤ m.units ∧ m.units ≤ 10000 := by
  obtain ⟨h1, h2, _⟩ := h
  unfold Mem.units
  have a := Int.mul_le_mul (a := 1) (b := 1) (c := m.sum) (d := m.cls) (by omega) (by omega) (by omega) (by omega)
  have b := Int.mul_le_mul (a := m.sum) (b := m.cls) (c := 1000) (d := 10) (by omega) (by omega) (by omega) (by omega)
  omega
def encW (s : Soc) (f : Nat → Bool) (p : SV) : List SV := [.sl 3 (encYs s.members), .sl 2 (encRs s.losses), .int .i64 s.treaty.lo, .int .i64 s.treaty.hi, .int .i64 s.reserve, .bool (f 0), .bool (f 1), .bool (f 2), .bool (f 3), .bool (f 4), p]
theorem un_at {ms : List Mem} {i : Nat} {m : Mem} (h : ms[i]? = some m) : un ms i = m.units := by simp only [un, h]
theorem mst_at {ms : List Mem} {i : Nat} {m : Mem} (h : ms[i]? = some m) : mst ms i = m.most := by simp only [mst, h]
theorem part_ok {need U u : Int} (hn : 0 ≤ need ∧ need ≤ 300000) (hu : 1 ≤ u ∧ u ≤ 10000) (hU : 1 ≤ U ∧ U ≤ 50000) : (0 ≤ need * u ∧ need * u ≤ 3000000000) ∧ (need * u).tdiv U = need * u / U ∧ (need * u).tmod U = need * u % U ∧ (0 ≤ need * u / U ∧ need * u / U ≤ 3000000000) ∧ 0 ≤ need * u % U ∧ need * u % U < U := by
  have a : 0 ≤ need * u := Int.mul_nonneg hn.1 (by omega)
  have b := Int.mul_le_mul (a := need) (b := u) (c := 300000) (d := 10000) (by omega) (by omega) (by omega) (by omega)
  have hq : need * u / U ≤ need * u := Int.ediv_le_self _ a
  refine ⟨⟨a, by omega⟩, Int.tdiv_eq_ediv_of_nonneg a, Int.tmod_eq_emod_of_nonneg a, ⟨Int.ediv_nonneg a (by omega), by omega⟩, Int.emod_nonneg _ (by omega), Int.emod_lt_of_pos _ (by omega)⟩
set_option maxRecDepth 100000 in
theorem c198 (s : Soc) (f : Nat → Bool) (es : List ((Int × Int) × Int)) (i : Nat) (m : Mem) (need U : Int) (hm : s.members[i]? = some m) (ho : OkM m) (hn : 0 ≤ need ∧ need ≤ 300000) (hU : 1 ≤ U ∧ U ≤ 50000) :
    PF Tryz.prog 198 [.iptr (.agg (encW s f (.imap (encM es)))) 0, .int .i64 i, .int .i64 need, .int .i64 U] (· = encS (quo s.members need U i, rst s.members need U i)) := by
  have hz := encYs_len s.members
  have hi : i < s.members.length := (List.getElem?_eq_some_iff.1 hm).1
  obtain ⟨a1, a2, a3, a4, a5, a6⟩ := part_ok (u := m.units) hn ho.units hU
  have hg1 : ∀ {n : Nat} {e : SV}, n = i → (encYs s.members)[n]? = some e → e = encY m := by
    rintro n e rfl he
    obtain ⟨x, hx, rfl⟩ := encYs_at he
    rw [hm] at hx; cases hx; rfl
  have hq : quo s.members need U i = need * m.units / U := by rw [quo, un_at hm]
  have hr : rst s.members need U i = need * m.units % U := by rw [rst, un_at hm]
  have ho1 := ho.1
  have ho2 := ho.2.1
  refine PF.of (TF.ev fn_198 (Ev.at ?_))
  (repeat' (first | (intro ex hex; have hq := hg1 (by omega) hex; subst hq; clear hex) | (refine Ev.go ?_; conv => whnf) | refine And.intro ?_ ?_ | exact True.intro | exact rfl | (intro rx hrx; rw [ij _ (by omega)] at hrx) | (intro hcx; exfalso; omega) | intro _))
  all_goals (first | (refine ⟨?_⟩; exact vc) | exact cl | skip)
  refine TSq.pureC (c197 m (by omega) (by omega)) cl rfl (And.intro rfl rfl) ?_
  (repeat' (first | (intro ex hex; have hq := hg1 (by omega) hex; subst hq; clear hex) | (refine Ev.go ?_; conv => whnf) | refine And.intro ?_ ?_ | exact True.intro | exact rfl | (intro rx hrx; rw [ij _ (by omega)] at hrx) | (intro hcx; exfalso; omega) | intro _))
  all_goals (first | (refine ⟨?_⟩; exact vc) | exact cl | skip)
  rename_i q0 h0 q1 h1
  subst hrx
  rw [a2, IntWalk.i64_in _ (by omega)] at h0
  rw [a3] at h1
  rw [hq, hr, h0, h1]; rfl
def totG : List ((Int × Int) × Int) → Int → Int
  | [], _ => 0
  | e :: es, x => (if x < e.1.2 then e.2 else 0) + totG es x
theorem totG_append : ∀ (a b : List ((Int × Int) × Int)) (x : Int), totG (a ++ b) x = totG a x + totG b x
  | [], b, x => by simp [totG]
  | e :: a, b, x => by simp only [List.cons_append, totG, totG_append a b x]; omega
theorem totG_nn : ∀ {es : List ((Int × Int) × Int)} (x : Int), (∀ e ∈ es, 0 ≤ e.2) → 0 ≤ totG es x
  | [], _, _ => by simp [totG]
  | e :: es, x, h => by
    have h1 := totG_nn (es := es) x fun e he => h e (List.mem_cons_of_mem _ he)
    have h2 := h e (List.mem_cons_self ..)
    simp only [totG]
    split <;> omega
theorem cntF_le (p : Nat → Bool) : ∀ n, 0 ≤ cntF p n ∧ cntF p n ≤ n
  | 0 => by simp [cntF]
  | n + 1 => by
    have := cntF_le p n
    simp only [cntF]
    split <;> omega
theorem encW_at {s : Soc} {f : Nat → Bool} {p : SV} {k : Nat} (h : k < 5) : (encW s f p)[5 + k]? = some (.bool (f k)) := by
  have : k = 0 ∨ k = 1 ∨ k = 2 ∨ k = 3 ∨ k = 4 := by omega
  rcases this with rfl | rfl | rfl | rfl | rfl <;> rfl
set_option maxHeartbeats 4000000 in
set_option maxRecDepth 100000 in
theorem c199 (s : Soc) (f : Nat → Bool) (es : List ((Int × Int) × Int)) (i : Nat) (need U : Int) (hm : ∀ m ∈ s.members, OkM m) (hl : s.members.length ≤ 5) (hi : i < s.members.length) (hn : 0 ≤ need ∧ need ≤ 300000) (hU : 1 ≤ U ∧ U ≤ 50000)
    (he : ∀ e ∈ es, 0 ≤ e.2) (hT : ∀ x, totG es x = cntF (fun k => f k && decide (x < rst s.members need U k)) s.members.length) :
    PF Tryz.prog 199 [.iptr (.agg (encW s f (.imap (encM es)))) 0, .int .i64 i, .int .i64 need, .int .i64 U] (· = .int .i64 (beforeF s.members f need U i)) := by
  have hz := encYs_len s.members
  obtain ⟨mi, hmi⟩ : ∃ m, s.members[i]? = some m := ⟨_, List.getElem?_eq_getElem hi⟩
  have d := fun (k : Nat) (m : Mem) (h : s.members[k]? = some m) => c198 s f es k m need U h (hm m (List.mem_of_getElem? h)) hn hU
  refine PF.of (TF.ev fn_199 (Ev.at ?_))
  (repeat' (first | (refine Ev.go ?_; conv => whnf) | refine And.intro ?_ ?_ | exact True.intro | exact rfl | (intro rx hrx; rw [ij _ (by omega)] at hrx) | (intro hcx; exfalso; omega) | intro _))
  all_goals (first | (refine ⟨?_⟩; exact vc) | exact cl | skip)
  refine TSq.pureC (d i mi hmi) (by simp [cloL, clo, encW, encYs_clo, encRs_clo, encM_clo]) rfl (And.intro rfl rfl) ?_
  (repeat' (first | (refine Ev.go ?_; conv => whnf) | refine And.intro ?_ ?_ | exact True.intro | exact rfl | (intro rx hrx; rw [ij _ (by omega)] at hrx) | (intro hcx; exfalso; omega) | intro _))
  all_goals (first | (refine ⟨?_⟩; exact vc) | exact cl | skip)
  have hTi := hT (rst s.members need U i)
  have hc1 := cntF_le (fun k => f k && decide (rst s.members need U i < rst s.members need U k)) s.members.length
  generalize hown : rst s.members need U i = own at *
  refine TWq.loop (fun p : List ((Int × Int) × Int) × Int => [(10, .int .i64 p.2), (11, .junk), (12, .junk)]) (fun p => [(1, .iter (.imap (encM es)) (encM p.1) none)])
    (fun p => (0 ≤ p.2 ∧ p.2 + totG p.1 own = totG es own) ∧ ∀ e ∈ p.1, 0 ≤ e.2) (fun p => p.1.length) (es, 0) [] [] ?_ ⟨⟨by dsimp only; omega, by dsimp only; omega⟩, he⟩ ?_
  · (repeat' (first | (refine Ev.go ?_; conv => whnf) | refine And.intro ?_ ?_ | exact True.intro | exact rfl | (intro rx hrx; rw [ij _ (by omega)] at hrx) | (intro hcx; exfalso; omega) | intro _))
    all_goals (first | (refine ⟨?_⟩; exact vc) | exact cl | skip)
  · rintro ⟨left, acc⟩ ⟨⟨hp1, hp2⟩, hp3⟩
    dsimp only at hp1 hp2 hp3 ⊢
    (repeat' (first | (refine Ev.go ?_; conv => whnf) | refine And.intro ?_ ?_ | exact True.intro | exact rfl | (intro rx hrx; rw [ij _ (by omega)] at hrx) | (intro hcx; exfalso; omega) | intro _))
    refine TSq.next rfl rfl rfl rfl ?_ ?_
    · intro hleft
      have hleft : left = [] := List.map_eq_nil_iff.1 hleft
      subst hleft
      simp only [totG] at hp2
      have hacc : acc = totG es own := by omega
      subst hacc
      (repeat' (first | (refine Ev.go ?_; conv => whnf) | refine And.intro ?_ ?_ | exact True.intro | exact rfl | (intro rx hrx; rw [ij _ (by omega)] at hrx) | (intro hcx; exfalso; omega) | intro _))
      all_goals (first | (refine ⟨?_⟩; exact vc) | exact cl | skip)
      have hc2 := fun k => cntF_le (fun k => f k && decide (rst s.members need U k = own)) k
      refine TWq.loop (fun k : Nat => [(10, .int .i64 (totG es own + cntF (fun k => f k && decide (rst s.members need U k = own)) k)), (38, .int .i64 k), (13, .junk)]) (fun _ => [])
        (fun k => k ≤ i) (fun k => i - k) 0 [] [] ?_ (by omega) ?_
      · (repeat' (first | (refine Ev.go ?_; conv => whnf) | refine And.intro ?_ ?_ | exact True.intro | exact rfl | (intro rx hrx; rw [ij _ (by omega)] at hrx) | (intro hcx; exfalso; omega) | intro _))
        all_goals (first | (refine ⟨?_⟩; exact vc) | exact cl | skip)
        all_goals (refine ⟨?_⟩; simp [cntF])
      · intro k hk
        have hck := hc2 k
        have hck1 := hc2 (k + 1)
        have hcs : cntF (fun k => f k && decide (rst s.members need U k = own)) (k + 1) = cntF (fun k => f k && decide (rst s.members need U k = own)) k + (if (f k && decide (rst s.members need U k = own)) = true then 1 else 0) := rfl
        rcases Nat.lt_or_ge k i with hki | hki
        · obtain ⟨mk, hmk⟩ : ∃ m, s.members[k]? = some m := ⟨_, List.getElem?_eq_getElem (by omega)⟩
          have dk := d k mk hmk
          have hat : (encW s f (.imap (encM es)))[0 + 5 + (k : Int).toNat * 1]? = some (.bool (f k)) := by
            rw [show 0 + 5 + (k : Int).toNat * 1 = 5 + k by simp]; exact encW_at (by omega)
          cases hf : f k
          · rw [hf] at hcs hat
            simp only [Bool.false_and, Bool.false_eq_true, if_false] at hcs
            (repeat' (first | (refine Ev.go ?_; conv => whnf) | refine And.intro ?_ ?_ | exact True.intro | exact rfl | (intro rx hrx; rw [ij _ (by omega)] at hrx) | (intro hcx; exfalso; omega) | intro _))
            all_goals (first | (refine ⟨?_⟩; exact vc) | exact cl | skip)
            refine getK_of hat ?_
            (repeat' (first | (refine Ev.go ?_; conv => whnf) | refine And.intro ?_ ?_ | exact True.intro | exact rfl | (intro rx hrx; rw [ij _ (by omega)] at hrx) | (intro hcx; exfalso; omega) | intro _))
            all_goals (first | (refine ⟨?_⟩; exact vk) | exact cl | skip)
            refine ⟨⟨k + 1, by omega, by omega, ?_⟩⟩
            (repeat' (first | (refine Ev.go ?_; conv => whnf) | refine And.intro ?_ ?_ | exact True.intro | exact rfl | (intro rx hrx; rw [ij _ (by omega)] at hrx) | (intro hcx; exfalso; omega) | intro _))
            all_goals (first | (refine ⟨?_⟩; exact vc) | exact cl | skip)
            all_goals (refine ⟨?_⟩; rw [hcs]; simp)
          · rw [hf] at hcs hat
            by_cases he : rst s.members need U k = own
            · simp only [he, decide_true, Bool.and_self, if_true] at hcs
              (repeat' (first | (refine Ev.go ?_; conv => whnf) | refine And.intro ?_ ?_ | exact True.intro | exact rfl | (intro rx hrx; rw [ij _ (by omega)] at hrx) | (intro hcx; exfalso; omega) | intro _))
              all_goals (first | (refine ⟨?_⟩; exact vc) | exact cl | skip)
              refine getK_of hat ?_
              (repeat' (first | (refine Ev.go ?_; conv => whnf) | refine And.intro ?_ ?_ | exact True.intro | exact rfl | (intro rx hrx; rw [ij _ (by omega)] at hrx) | (intro hcx; exfalso; omega) | intro _))
              refine TDq.pureC dk (by simp [cloL, clo, encW, encYs_clo, encRs_clo, encM_clo]) rfl (And.intro rfl rfl) ?_
              (repeat' (first | (refine Ev.go ?_; conv => whnf) | refine And.intro ?_ ?_ | exact True.intro | exact rfl | (intro rx hrx; rw [ij _ (by omega)] at hrx) | (intro hcx; exfalso; omega) | intro _))
              all_goals (first | (refine ⟨?_⟩; exact vk) | exact cl | skip)
              all_goals (try (exfalso; omega))
              refine ⟨⟨k + 1, by omega, by omega, ?_⟩⟩
              (repeat' (first | (refine Ev.go ?_; conv => whnf) | refine And.intro ?_ ?_ | exact True.intro | exact rfl | (intro rx hrx; rw [ij _ (by omega)] at hrx) | (intro hcx; exfalso; omega) | intro _))
              all_goals (first | (refine ⟨?_⟩; exact vc) | exact cl | skip)
              all_goals (refine ⟨?_⟩; rw [hcs]; omega)
            · simp only [he, decide_false, Bool.and_false, Bool.false_eq_true, if_false] at hcs
              (repeat' (first | (refine Ev.go ?_; conv => whnf) | refine And.intro ?_ ?_ | exact True.intro | exact rfl | (intro rx hrx; rw [ij _ (by omega)] at hrx) | (intro hcx; exfalso; omega) | intro _))
              all_goals (first | (refine ⟨?_⟩; exact vc) | exact cl | skip)
              refine getK_of hat ?_
              (repeat' (first | (refine Ev.go ?_; conv => whnf) | refine And.intro ?_ ?_ | exact True.intro | exact rfl | (intro rx hrx; rw [ij _ (by omega)] at hrx) | (intro hcx; exfalso; omega) | intro _))
              refine TDq.pureC dk (by simp [cloL, clo, encW, encYs_clo, encRs_clo, encM_clo]) rfl (And.intro rfl rfl) ?_
              (repeat' (first | (refine Ev.go ?_; conv => whnf) | refine And.intro ?_ ?_ | exact True.intro | exact rfl | (intro rx hrx; rw [ij _ (by omega)] at hrx) | (intro hcx; exfalso; omega) | intro _))
              all_goals (first | (refine ⟨?_⟩; exact vk) | exact cl | skip)
              all_goals (try (exfalso; omega))
              refine ⟨⟨k + 1, by omega, by omega, ?_⟩⟩
              (repeat' (first | (refine Ev.go ?_; conv => whnf) | refine And.intro ?_ ?_ | exact True.intro | exact rfl | (intro rx hrx; rw [ij _ (by omega)] at hrx) | (intro hcx; exfalso; omega) | intro _))
              all_goals (first | (refine ⟨?_⟩; exact vc) | exact cl | skip)
              all_goals (refine ⟨?_⟩; rw [hcs]; omega)
        · have hke : k = i := by omega
          subst hke
          (repeat' (first | (refine Ev.go ?_; conv => whnf) | refine And.intro ?_ ?_ | exact True.intro | exact rfl | (intro rx hrx; rw [ij _ (by omega)] at hrx) | (intro hcx; exfalso; omega) | intro _))
          all_goals (first | (refine ⟨?_⟩; exact vc) | exact cl | skip)
          simp only [beforeF, hTi, hown]
    · intro pre sk sv post he'
      obtain ⟨la, x, lb, rfl, rfl, rfl, rfl, rfl⟩ := encM_split he'
      have hx0 := hp3 x (by simp)
      have hla := totG_nn own fun e h => hp3 e (List.mem_append_left _ h)
      have hlb := totG_nn (es := lb) own fun e h => hp3 e (by simp [h])
      rw [totG_append] at hp2
      simp only [totG] at hp2
      have hrest : ∀ e ∈ la ++ lb, 0 ≤ e.2 := fun e h => hp3 e (by
        rcases List.mem_append.1 h with h | h
        · simp [h]
        · simp [h])
      by_cases hlt : own < x.1.2
      · rw [if_pos hlt] at hp2
        (repeat' (first | (refine Ev.go ?_; conv => whnf) | refine And.intro ?_ ?_ | exact True.intro | exact rfl | (intro rx hrx; rw [ij _ (by omega)] at hrx) | (intro hcx; exfalso; omega) | intro _))
        all_goals (first | (refine ⟨?_⟩; exact vc) | exact cl | skip)
        refine ⟨⟨(la ++ lb, acc + x.2), ⟨⟨by dsimp only; omega, by dsimp only; rw [totG_append]; omega⟩, hrest⟩, by simp, ?_⟩⟩
        (repeat' (first | (refine Ev.go ?_; conv => whnf) | refine And.intro ?_ ?_ | exact True.intro | exact rfl | (intro rx hrx; rw [ij _ (by omega)] at hrx) | (intro hcx; exfalso; omega) | intro _))
        all_goals (first | (refine ⟨?_⟩; exact vc) | exact cl | skip)
        all_goals (refine ⟨?_⟩; simp [encM])
      · rw [if_neg hlt] at hp2
        (repeat' (first | (refine Ev.go ?_; conv => whnf) | refine And.intro ?_ ?_ | exact True.intro | exact rfl | (intro rx hrx; rw [ij _ (by omega)] at hrx) | (intro hcx; exfalso; omega) | intro _))
        all_goals (first | (refine ⟨?_⟩; exact vc) | exact cl | skip)
        refine ⟨⟨(la ++ lb, acc), ⟨⟨by dsimp only; omega, by dsimp only; rw [totG_append]; omega⟩, hrest⟩, by simp, ?_⟩⟩
        (repeat' (first | (refine Ev.go ?_; conv => whnf) | refine And.intro ?_ ?_ | exact True.intro | exact rfl | (intro rx hrx; rw [ij _ (by omega)] at hrx) | (intro hcx; exfalso; omega) | intro _))
        all_goals (first | (refine ⟨?_⟩; exact vc) | exact cl | skip)
        all_goals (refine ⟨?_⟩; simp [encM])
end Go.Proofs.YtjadiajfbflghaaGreat
