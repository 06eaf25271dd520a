/- Shares by single pence, as the document says: the walk. -/
import Derived.Test.YthnaamkempmjkaaOa
import Derived.Test.YthnaamkempmjkaaKx
import Derived.Test.YthnaamkempmjkaaKfU
import Derived.Test.YthnaamkempmjkaaKz
set_option linter.unusedSimpArgs false
set_option linter.unusedVariables false
open Go Go.TV
namespace Go.Proofs.Ythnaamkempmjkaa

theorem outQ_at {ms : List Mem} {f : Nat → Bool} {need U : Int} {k : Nat} (h : f k = true) : quo ms need U k = outQ ms f need U (k + 1) k := by
  unfold outQ; rw [if_pos ⟨by omega, h⟩]
theorem outQ_other {ms : List Mem} {f : Nat → Bool} {need U : Int} {k : Nat} (i : Nat) (h : i ≠ k ∨ f k = false) : outQ ms f need U k i = outQ ms f need U (k + 1) i := by
  unfold outQ
  by_cases e : i = k
  · subst e; have : f i = false := by simpa using h
    simp [this]
  · have : i < k ↔ i < k + 1 := by omega
    simp only [this]
theorem restQ_other {ms : List Mem} {f : Nat → Bool} {need U : Int} {k : Nat} (i : Nat) (e : i ≠ k) : restQ ms f need U k i = restQ ms f need U (k + 1) i := by
  unfold restQ
  have : i < k ↔ i < k + 1 := by omega
  simp only [this]
theorem restQ_at {ms : List Mem} {f : Nat → Bool} {need U : Int} {k : Nat} {v : Int} (h : v = if f k = true then rst ms need U k else -1) : v = restQ ms f need U (k + 1) k := by
  unfold restQ; rw [if_pos (by omega)]; exact h
theorem set_set_ints {l : List SV} {k : Nat} {a b : SV} : (l.set k a).set k b = l.set k b := List.set_set ..

set_option maxHeartbeats 8000000 in
set_option maxRecDepth 100000 in
theorem c74 (s : Soc) (o : Nat) (need : Int) (hm : ∀ m ∈ s.members, OkM m) (hl : s.members.length ≤ 5) (ho : o < 2 ^ s.members.length) (h0 : 0 < o) (hn : 0 ≤ need ∧ need ≤ 300000) :
    PF Try.prog 74 [encSoc s, .int .i64 (o : Int), .int .i64 need] (· = .sl 1 (ints (tab s.members.length (shareF s.members (bitN o) need)))) := by
  have hz := encYs_len s.members
  have hU := fun k => unitsF_le hm (bitN o) k
  have ho5 : o < 32 := Nat.lt_of_lt_of_le ho (Nat.pow_le_pow_right (by omega) hl)
  have hsub1 : ∀ {x n : Int}, x = IntKind.u64.wrap n → 0 ≤ n ∧ n ≤ 60 → x = n := fun h e => by rw [h, IntWalk.u64_in _ (by omega)]
  obtain ⟨j, hj1, hj2⟩ : ∃ j, j < s.members.length ∧ bitN o j = true := by
    apply Classical.byContradiction
    intro hno
    have h1 : bitsN o s.members.length = [] := List.eq_nil_iff_forall_not_mem.2 fun x hx => by
      obtain ⟨i, h1, h2, _⟩ := mem_bitsN.1 hx; exact hno ⟨i, h1, h2⟩
    obtain ⟨q, hq1, hq2⟩ := bits_of_list (n := s.members.length) (t := []) (by simp) (by simp)
    have : ∀ n o, o < 2 ^ n → (∀ i, i < n → bitN o i = false) → o = 0 := by
      intro n
      induction n with
      | zero => intro o h _; simp at h; exact h
      | succ n ih =>
        intro o h hb
        have h2 := hb 0 (by omega)
        have h3 := ih (o / 2) (by rw [Nat.pow_succ] at h; omega) fun i hi => by
          have := hb (i + 1) (by omega)
          simp only [bitN, Nat.shiftRight_succ_inside] at this ⊢; exact this
        simp only [bitN, Nat.shiftRight_zero, decide_eq_false_iff_not] at h2
        omega
    have := this _ o ho fun i hi => by
      cases hb : bitN o i
      · rfl
      · exact absurd ⟨i, hi, hb⟩ hno
    omega
  have hUp : 1 ≤ unitsF s.members (bitN o) s.members.length := unitsF_pos hm (List.getElem?_eq_getElem hj1) hj1 hj2
  obtain ⟨⟨hl0, hl1⟩, _⟩ := sumF_share s.members (bitN o) need hUp
  refine PF.of (TF.ev fn_74 (Ev.at ?_))
  (repeat' (first | (intro ex hex; have hq := hgf1 hex; subst hq; clear hex) | (intro ex hex; have hq := hgf2 hex; subst hq; clear hex) | (intro rx hrx; have hq := hsub1 hrx (by omega); subst hq; clear hrx) | (intro rx hrx; have hq := hsub2 hrx (by omega); subst hq; clear hrx) | (intro rx hrx; have hq := hsub3 hrx (by omega); subst hq; clear hrx) | (intro rx hrx; have hq := hsub4 hrx (by omega); subst hq; clear hrx) | (intro rx hrx; have hq := hsub5 hrx (by omega); subst hq; clear hrx) | (intro rx hrx; have hq := hsub6 hrx (by omega); subst hq; clear hrx) | (intro ex hex; have hq := hg1 (by omega) hex; subst hq; clear hex) | (intro ex hex; have hq := hg2 (by omega) hex; subst hq; clear hex) | (intro ex hex; have hq := hg3 (by omega) hex; subst hq; clear hex) | (refine Ev.go ?_; conv => whnf) | refine And.intro ?_ ?_ | exact True.intro | exact rfl | (intro rx hrx; rw [IntWalk.i64_in _ (by omega)] at hrx) | (intro hcx; exfalso; omega) | intro _))
  all_goals (first | (refine ⟨?_⟩; exact vc) | exact cl | skip)
  refine TWq.loop (fun k : Nat => [(9, .int .i64 (unitsF s.members (bitN o) k)), (11, .int .i64 k)]) (fun _ => [(1, .arr 3 1 (ints (tab s.members.length fun _ => 0))), (2, .arr 3 1 (ints (tab s.members.length fun _ => 0)))]) (fun k => k ≤ s.members.length) (fun k => s.members.length - k) 0 [] [] ?_ (by omega) ?_
  · (repeat' (first | (intro ex hex; have hq := hgf1 hex; subst hq; clear hex) | (intro ex hex; have hq := hgf2 hex; subst hq; clear hex) | (intro rx hrx; have hq := hsub1 hrx (by omega); subst hq; clear hrx) | (intro rx hrx; have hq := hsub2 hrx (by omega); subst hq; clear hrx) | (intro rx hrx; have hq := hsub3 hrx (by omega); subst hq; clear hrx) | (intro rx hrx; have hq := hsub4 hrx (by omega); subst hq; clear hrx) | (intro rx hrx; have hq := hsub5 hrx (by omega); subst hq; clear hrx) | (intro rx hrx; have hq := hsub6 hrx (by omega); subst hq; clear hrx) | (intro ex hex; have hq := hg1 (by omega) hex; subst hq; clear hex) | (intro ex hex; have hq := hg2 (by omega) hex; subst hq; clear hex) | (intro ex hex; have hq := hg3 (by omega) hex; subst hq; clear hex) | (refine Ev.go ?_; conv => whnf) | refine And.intro ?_ ?_ | exact True.intro | exact rfl | (intro rx hrx; rw [IntWalk.i64_in _ (by omega)] at hrx) | (intro hcx; exfalso; omega) | intro _))
    all_goals (first | (refine ⟨?_⟩; exact vc) | exact cl | skip)
    all_goals (refine ⟨?_⟩; rw [hz]; simp [tab, ints, List.map_const'])
  · intro k hk
    have hUk := hU k
    rcases Nat.lt_or_ge k s.members.length with hkl | hkl
    · obtain ⟨m, hmk⟩ : ∃ m, s.members[k]? = some m := ⟨_, List.getElem?_eq_getElem hkl⟩
      have om := hm m (List.mem_of_getElem? hmk)
      have ou := om.units
      have d38 := c38 m (by have := om.1; omega) (by have := om.2.1; omega)
      have hs1 : unitsF s.members (bitN o) (k + 1) = unitsF s.members (bitN o) k + (if bitN o k = true then un s.members k else 0) := rfl
      rw [un_at hmk] at hs1
      have hg1 : ∀ {n : Nat} {e : SV}, n = k → (encYs s.members)[n]? = some e → e = encY m := by
        rintro n e rfl he
        obtain ⟨x, hx, rfl⟩ := encYs_at he
        rw [hmk] at hx; cases hx; rfl
      have hsub2 : ∀ {x m : Int}, x = (o : Int).fdiv (2 ^ min m.toNat IntKind.i64.bits) → m = k ∧ k ≤ 60 → x = ((o >>> k : Nat) : Int) := fun h e => shr_n h e
      have hsub3 : ∀ {x : Int}, x = ((o >>> k : Nat) : Int).tmod 2 → (0 : Int) ≤ 0 → x = if bitN o k = true then 1 else 0 := fun h _ => bit_n h
      cases hb : bitN o k
      all_goals
        rw [hb] at hs1 hsub3
        simp only [if_true, Bool.false_eq_true, if_false] at hs1 hsub3
        (repeat' (first | (intro ex hex; have hq := hgf1 hex; subst hq; clear hex) | (intro ex hex; have hq := hgf2 hex; subst hq; clear hex) | (intro rx hrx; have hq := hsub1 hrx (by omega); subst hq; clear hrx) | (intro rx hrx; have hq := hsub2 hrx (by omega); subst hq; clear hrx) | (intro rx hrx; have hq := hsub3 hrx (by omega); subst hq; clear hrx) | (intro rx hrx; have hq := hsub4 hrx (by omega); subst hq; clear hrx) | (intro rx hrx; have hq := hsub5 hrx (by omega); subst hq; clear hrx) | (intro rx hrx; have hq := hsub6 hrx (by omega); subst hq; clear hrx) | (intro ex hex; have hq := hg1 (by omega) hex; subst hq; clear hex) | (intro ex hex; have hq := hg2 (by omega) hex; subst hq; clear hex) | (intro ex hex; have hq := hg3 (by omega) hex; subst hq; clear hex) | (refine Ev.go ?_; conv => whnf) | refine And.intro ?_ ?_ | exact True.intro | exact rfl | (intro rx hrx; rw [IntWalk.i64_in _ (by omega)] at hrx) | (intro hcx; exfalso; omega) | intro _))
        all_goals (first | (refine ⟨?_⟩; exact vc) | exact cl | skip)
      · refine ⟨⟨k + 1, by omega, by omega, ?_⟩⟩
        (repeat' (first | (intro ex hex; have hq := hgf1 hex; subst hq; clear hex) | (intro ex hex; have hq := hgf2 hex; subst hq; clear hex) | (intro rx hrx; have hq := hsub1 hrx (by omega); subst hq; clear hrx) | (intro rx hrx; have hq := hsub2 hrx (by omega); subst hq; clear hrx) | (intro rx hrx; have hq := hsub3 hrx (by omega); subst hq; clear hrx) | (intro rx hrx; have hq := hsub4 hrx (by omega); subst hq; clear hrx) | (intro rx hrx; have hq := hsub5 hrx (by omega); subst hq; clear hrx) | (intro rx hrx; have hq := hsub6 hrx (by omega); subst hq; clear hrx) | (intro ex hex; have hq := hg1 (by omega) hex; subst hq; clear hex) | (intro ex hex; have hq := hg2 (by omega) hex; subst hq; clear hex) | (intro ex hex; have hq := hg3 (by omega) hex; subst hq; clear hex) | (refine Ev.go ?_; conv => whnf) | refine And.intro ?_ ?_ | exact True.intro | exact rfl | (intro rx hrx; rw [IntWalk.i64_in _ (by omega)] at hrx) | (intro hcx; exfalso; omega) | intro _))
        all_goals (first | (refine ⟨?_⟩; exact vc) | exact cl | skip)
        all_goals (refine ⟨?_⟩; rw [hs1]; omega)
      · refine TSq.pureC d38 cl rfl (And.intro rfl rfl) ?_
        (repeat' (first | (intro ex hex; have hq := hgf1 hex; subst hq; clear hex) | (intro ex hex; have hq := hgf2 hex; subst hq; clear hex) | (intro rx hrx; have hq := hsub1 hrx (by omega); subst hq; clear hrx) | (intro rx hrx; have hq := hsub2 hrx (by omega); subst hq; clear hrx) | (intro rx hrx; have hq := hsub3 hrx (by omega); subst hq; clear hrx) | (intro rx hrx; have hq := hsub4 hrx (by omega); subst hq; clear hrx) | (intro rx hrx; have hq := hsub5 hrx (by omega); subst hq; clear hrx) | (intro rx hrx; have hq := hsub6 hrx (by omega); subst hq; clear hrx) | (intro ex hex; have hq := hg1 (by omega) hex; subst hq; clear hex) | (intro ex hex; have hq := hg2 (by omega) hex; subst hq; clear hex) | (intro ex hex; have hq := hg3 (by omega) hex; subst hq; clear hex) | (refine Ev.go ?_; conv => whnf) | refine And.intro ?_ ?_ | exact True.intro | exact rfl | (intro rx hrx; rw [IntWalk.i64_in _ (by omega)] at hrx) | (intro hcx; exfalso; omega) | intro _))
        all_goals (first | (refine ⟨?_⟩; exact vc) | exact cl | skip)
        refine ⟨⟨k + 1, by omega, by omega, ?_⟩⟩
        (repeat' (first | (intro ex hex; have hq := hgf1 hex; subst hq; clear hex) | (intro ex hex; have hq := hgf2 hex; subst hq; clear hex) | (intro rx hrx; have hq := hsub1 hrx (by omega); subst hq; clear hrx) | (intro rx hrx; have hq := hsub2 hrx (by omega); subst hq; clear hrx) | (intro rx hrx; have hq := hsub3 hrx (by omega); subst hq; clear hrx) | (intro rx hrx; have hq := hsub4 hrx (by omega); subst hq; clear hrx) | (intro rx hrx; have hq := hsub5 hrx (by omega); subst hq; clear hrx) | (intro rx hrx; have hq := hsub6 hrx (by omega); subst hq; clear hrx) | (intro ex hex; have hq := hg1 (by omega) hex; subst hq; clear hex) | (intro ex hex; have hq := hg2 (by omega) hex; subst hq; clear hex) | (intro ex hex; have hq := hg3 (by omega) hex; subst hq; clear hex) | (refine Ev.go ?_; conv => whnf) | refine And.intro ?_ ?_ | exact True.intro | exact rfl | (intro rx hrx; rw [IntWalk.i64_in _ (by omega)] at hrx) | (intro hcx; exfalso; omega) | intro _))
        all_goals (first | (refine ⟨?_⟩; exact vc) | exact cl | skip)
        all_goals (refine ⟨?_⟩; rw [hs1]; omega)
    · have hke : k = s.members.length := by omega
      subst hke
      have hUe := hU s.members.length
      generalize hUg : unitsF s.members (bitN o) s.members.length = U at *
      have hq := fun i => quo_rst s.members need U i
      have hr := fun i => rst_bd (ms := s.members) (need := need) (U := U) hUp i
      have hun := fun i => un_nn hm i
      have hnu := fun i => Int.mul_nonneg hn.1 (hun i).1
      have hnu2 := fun i => Int.mul_le_mul hn.2 (hun i).2 (hun i).1 (show (0 : Int) ≤ 300000 by omega)
      have hqn := fun i => quo_nn (ms := s.members) (need := need) (U := U) (i := i) hn.1 hUp (hun i).1
      have hqb : ∀ i, quo s.members need U i ≤ 3000000000 := fun i => by
        have := Int.ediv_le_self U (hnu i)
        have h3 : quo s.members need U i ≤ need * un s.members i := this
        have := hnu2 i; omega
      have hlb := leftF_le (ms := s.members) (f := bitN o) (need := need) (U := U) (fun i _ _ => ⟨hqn i, hqb i⟩) hn
      (repeat' (first | (intro ex hex; have hq := hgf1 hex; subst hq; clear hex) | (intro ex hex; have hq := hgf2 hex; subst hq; clear hex) | (intro rx hrx; have hq := hsub1 hrx (by omega); subst hq; clear hrx) | (intro rx hrx; have hq := hsub2 hrx (by omega); subst hq; clear hrx) | (intro rx hrx; have hq := hsub3 hrx (by omega); subst hq; clear hrx) | (intro rx hrx; have hq := hsub4 hrx (by omega); subst hq; clear hrx) | (intro rx hrx; have hq := hsub5 hrx (by omega); subst hq; clear hrx) | (intro rx hrx; have hq := hsub6 hrx (by omega); subst hq; clear hrx) | (intro ex hex; have hq := hg1 (by omega) hex; subst hq; clear hex) | (intro ex hex; have hq := hg2 (by omega) hex; subst hq; clear hex) | (intro ex hex; have hq := hg3 (by omega) hex; subst hq; clear hex) | (refine Ev.go ?_; conv => whnf) | refine And.intro ?_ ?_ | exact True.intro | exact rfl | (intro rx hrx; rw [IntWalk.i64_in _ (by omega)] at hrx) | (intro hcx; exfalso; omega) | intro _))
      all_goals (first | (refine ⟨?_⟩; exact vc) | exact cl | skip)
      refine TWq.loop (fun k : Nat => [(12, .int .i64 k), (10, .int .i64 (leftF s.members (bitN o) need U k)), (13, .junk)])
        (fun k => [(1, .arr 3 1 (ints (tab s.members.length (outQ s.members (bitN o) need U k)))), (2, .arr 3 1 (ints (tab s.members.length (restQ s.members (bitN o) need U k))))]) (fun k => k ≤ s.members.length) (fun k => s.members.length - k) 0 [] [] ?_ (by omega) ?_
      · (repeat' (first | (intro ex hex; have hq := hgf1 hex; subst hq; clear hex) | (intro ex hex; have hq := hgf2 hex; subst hq; clear hex) | (intro rx hrx; have hq := hsub1 hrx (by omega); subst hq; clear hrx) | (intro rx hrx; have hq := hsub2 hrx (by omega); subst hq; clear hrx) | (intro rx hrx; have hq := hsub3 hrx (by omega); subst hq; clear hrx) | (intro rx hrx; have hq := hsub4 hrx (by omega); subst hq; clear hrx) | (intro rx hrx; have hq := hsub5 hrx (by omega); subst hq; clear hrx) | (intro rx hrx; have hq := hsub6 hrx (by omega); subst hq; clear hrx) | (intro ex hex; have hq := hg1 (by omega) hex; subst hq; clear hex) | (intro ex hex; have hq := hg2 (by omega) hex; subst hq; clear hex) | (intro ex hex; have hq := hg3 (by omega) hex; subst hq; clear hex) | (refine Ev.go ?_; conv => whnf) | refine And.intro ?_ ?_ | exact True.intro | exact rfl | (intro rx hrx; rw [IntWalk.i64_in _ (by omega)] at hrx) | (intro hcx; exfalso; omega) | intro _))
        all_goals (first | (refine ⟨?_⟩; exact vc) | exact cl | skip)
        all_goals (exact ⟨congrArg ints (tab_congr fun i _ => by simp [outQ, restQ])⟩)
      · intro k hk
        rcases Nat.lt_or_ge k s.members.length with hkl | hkl
        · obtain ⟨m, hmk⟩ : ∃ m, s.members[k]? = some m := ⟨_, List.getElem?_eq_getElem hkl⟩
          have om := hm m (List.mem_of_getElem? hmk)
          have ou := om.units
          have d38 := c38 m (by have := om.1; omega) (by have := om.2.1; omega)
          have hl2 := hlb k (by omega)
          have hl3 := hlb (k + 1) (by omega)
          have hls : leftF s.members (bitN o) need U (k + 1) = leftF s.members (bitN o) need U k - (if bitN o k = true then quo s.members need U k else 0) := rfl
          have hnuk := hnu k
          have hnu2k := hnu2 k
          have hqnk := hqn k
          have hqbk := hqb k
          have hrk := hr k
          have hg1 : ∀ {n : Nat} {e : SV}, n = k → (encYs s.members)[n]? = some e → e = encY m := by
            rintro n e rfl he
            obtain ⟨x, hx, rfl⟩ := encYs_at he
            rw [hmk] at hx; cases hx; rfl
          have hLo : (ints (tab s.members.length (outQ s.members (bitN o) need U k))).length = s.members.length := by rw [ints_len, tab_len]
          have hLr : (ints (tab s.members.length (restQ s.members (bitN o) need U k))).length = s.members.length := by rw [ints_len, tab_len]
          have hg2 : ∀ {n : Nat} {e : SV}, n = k → (ints (tab s.members.length (outQ s.members (bitN o) need U k)))[n]? = some e → e = .int .i64 (outQ s.members (bitN o) need U k k) := by
            rintro n e rfl he
            obtain ⟨x, hx, rfl⟩ := ints_at he
            simp only [tab, List.getElem?_map, List.getElem?_range hkl, Option.map_some, Option.some.injEq] at hx
            rw [hx]
          have hg3 : ∀ {n : Nat} {e : SV}, n = k → (ints (tab s.members.length (restQ s.members (bitN o) need U k)))[n]? = some e → e = .int .i64 (restQ s.members (bitN o) need U k k) := by
            rintro n e rfl he
            obtain ⟨x, hx, rfl⟩ := ints_at he
            simp only [tab, List.getElem?_map, List.getElem?_range hkl, Option.map_some, Option.some.injEq] at hx
            rw [hx]
          have hgf1 : ∀ {n : Nat} {e : SV} {v : SV}, ((ints (tab s.members.length (outQ s.members (bitN o) need U k))).set n v)[n]? = some e → e = v := fun {n e v} h => by
            rw [List.getElem?_set_self'] at h
            cases hm : (ints (tab s.members.length (outQ s.members (bitN o) need U k)))[n]? with
            | none => rw [hm] at h; simp at h
            | some y => rw [hm] at h; simp at h; exact h.symm
          have hgf2 : ∀ {n : Nat} {e : SV} {v : SV}, ((ints (tab s.members.length (restQ s.members (bitN o) need U k))).set n v)[n]? = some e → e = v := fun {n e v} h => by
            rw [List.getElem?_set_self'] at h
            cases hm : (ints (tab s.members.length (restQ s.members (bitN o) need U k)))[n]? with
            | none => rw [hm] at h; simp at h
            | some y => rw [hm] at h; simp at h; exact h.symm
          have hsub2 : ∀ {x m : Int}, x = (o : Int).fdiv (2 ^ min m.toNat IntKind.i64.bits) → m = k ∧ k ≤ 60 → x = ((o >>> k : Nat) : Int) := fun h e => shr_n h e
          have hsub3 : ∀ {x : Int}, x = ((o >>> k : Nat) : Int).tmod 2 → (0 : Int) ≤ 0 → x = if bitN o k = true then 1 else 0 := fun h _ => bit_n h
          have hdiv : quo s.members need U k = need * un s.members k / U := rfl
          have hmod : rst s.members need U k = need * un s.members k % U := rfl
          rw [un_at hmk] at hnuk hnu2k hdiv hmod
          have hsub4 : ∀ {x : Int}, x = IntKind.i64.wrap (need * m.units) → (0 : Int) ≤ 0 → x = need * m.units := fun h _ => by rw [h, IntWalk.i64_in _ (by omega)]
          have hsub5 : ∀ {x : Int}, x = IntKind.i64.wrap ((need * m.units).tdiv U) → (0 : Int) ≤ 0 → x = quo s.members need U k := fun h _ => by rw [h, Int.tdiv_eq_ediv_of_nonneg hnuk, ← hdiv, IntWalk.i64_in _ (by omega)]
          have hsub6 : ∀ {x : Int}, x = (need * m.units).tmod U → (0 : Int) ≤ 0 → x = rst s.members need U k := fun h _ => by rw [h, Int.tmod_eq_emod_of_nonneg hnuk, ← hmod]
          cases hb : bitN o k
          all_goals
            rw [hb] at hls hsub3
            simp only [if_true, Bool.false_eq_true, if_false] at hls hsub3
            (repeat' (first | (intro ex hex; have hq := hgf1 hex; subst hq; clear hex) | (intro ex hex; have hq := hgf2 hex; subst hq; clear hex) | (intro rx hrx; have hq := hsub1 hrx (by omega); subst hq; clear hrx) | (intro rx hrx; have hq := hsub2 hrx (by omega); subst hq; clear hrx) | (intro rx hrx; have hq := hsub3 hrx (by omega); subst hq; clear hrx) | (intro rx hrx; have hq := hsub4 hrx (by omega); subst hq; clear hrx) | (intro rx hrx; have hq := hsub5 hrx (by omega); subst hq; clear hrx) | (intro rx hrx; have hq := hsub6 hrx (by omega); subst hq; clear hrx) | (intro ex hex; have hq := hg1 (by omega) hex; subst hq; clear hex) | (intro ex hex; have hq := hg2 (by omega) hex; subst hq; clear hex) | (intro ex hex; have hq := hg3 (by omega) hex; subst hq; clear hex) | (refine Ev.go ?_; conv => whnf) | refine And.intro ?_ ?_ | exact True.intro | exact rfl | (intro rx hrx; rw [IntWalk.i64_in _ (by omega)] at hrx) | (intro hcx; exfalso; omega) | intro _))
            all_goals (first | (refine ⟨?_⟩; exact vc) | exact cl | skip)
          · refine ⟨⟨k + 1, by omega, by omega, ?_⟩⟩
            (repeat' (first | (intro ex hex; have hq := hgf1 hex; subst hq; clear hex) | (intro ex hex; have hq := hgf2 hex; subst hq; clear hex) | (intro rx hrx; have hq := hsub1 hrx (by omega); subst hq; clear hrx) | (intro rx hrx; have hq := hsub2 hrx (by omega); subst hq; clear hrx) | (intro rx hrx; have hq := hsub3 hrx (by omega); subst hq; clear hrx) | (intro rx hrx; have hq := hsub4 hrx (by omega); subst hq; clear hrx) | (intro rx hrx; have hq := hsub5 hrx (by omega); subst hq; clear hrx) | (intro rx hrx; have hq := hsub6 hrx (by omega); subst hq; clear hrx) | (intro ex hex; have hq := hg1 (by omega) hex; subst hq; clear hex) | (intro ex hex; have hq := hg2 (by omega) hex; subst hq; clear hex) | (intro ex hex; have hq := hg3 (by omega) hex; subst hq; clear hex) | (refine Ev.go ?_; conv => whnf) | refine And.intro ?_ ?_ | exact True.intro | exact rfl | (intro rx hrx; rw [IntWalk.i64_in _ (by omega)] at hrx) | (intro hcx; exfalso; omega) | intro _))
            all_goals (first | (refine ⟨?_⟩; exact vc) | exact cl | skip)
            all_goals (first | (refine ⟨?_⟩; rw [hls]; omega) | exact ⟨congrArg ints (tab_congr fun i _ => outQ_other i (.inr hb))⟩ | exact ⟨tab_set _ (restQ_at (by rw [hb]; rfl)) fun i hi => restQ_other i hi⟩)
          · refine TSq.pureC d38 cl rfl (And.intro rfl rfl) ?_
            (repeat' (first | (intro ex hex; have hq := hgf1 hex; subst hq; clear hex) | (intro ex hex; have hq := hgf2 hex; subst hq; clear hex) | (intro rx hrx; have hq := hsub1 hrx (by omega); subst hq; clear hrx) | (intro rx hrx; have hq := hsub2 hrx (by omega); subst hq; clear hrx) | (intro rx hrx; have hq := hsub3 hrx (by omega); subst hq; clear hrx) | (intro rx hrx; have hq := hsub4 hrx (by omega); subst hq; clear hrx) | (intro rx hrx; have hq := hsub5 hrx (by omega); subst hq; clear hrx) | (intro rx hrx; have hq := hsub6 hrx (by omega); subst hq; clear hrx) | (intro ex hex; have hq := hg1 (by omega) hex; subst hq; clear hex) | (intro ex hex; have hq := hg2 (by omega) hex; subst hq; clear hex) | (intro ex hex; have hq := hg3 (by omega) hex; subst hq; clear hex) | (refine Ev.go ?_; conv => whnf) | refine And.intro ?_ ?_ | exact True.intro | exact rfl | (intro rx hrx; rw [IntWalk.i64_in _ (by omega)] at hrx) | (intro hcx; exfalso; omega) | intro _))
            all_goals (first | (refine ⟨?_⟩; exact vk) | exact cl | skip)
            refine ⟨⟨k + 1, by omega, by omega, ?_⟩⟩
            (repeat' (first | (intro ex hex; have hq := hgf1 hex; subst hq; clear hex) | (intro ex hex; have hq := hgf2 hex; subst hq; clear hex) | (intro rx hrx; have hq := hsub1 hrx (by omega); subst hq; clear hrx) | (intro rx hrx; have hq := hsub2 hrx (by omega); subst hq; clear hrx) | (intro rx hrx; have hq := hsub3 hrx (by omega); subst hq; clear hrx) | (intro rx hrx; have hq := hsub4 hrx (by omega); subst hq; clear hrx) | (intro rx hrx; have hq := hsub5 hrx (by omega); subst hq; clear hrx) | (intro rx hrx; have hq := hsub6 hrx (by omega); subst hq; clear hrx) | (intro ex hex; have hq := hg1 (by omega) hex; subst hq; clear hex) | (intro ex hex; have hq := hg2 (by omega) hex; subst hq; clear hex) | (intro ex hex; have hq := hg3 (by omega) hex; subst hq; clear hex) | (refine Ev.go ?_; conv => whnf) | refine And.intro ?_ ?_ | exact True.intro | exact rfl | (intro rx hrx; rw [IntWalk.i64_in _ (by omega)] at hrx) | (intro hcx; exfalso; omega) | intro _))
            all_goals (first | (refine ⟨?_⟩; exact vc) | exact cl | skip)
            all_goals (first | (refine ⟨?_⟩; rw [hls]; omega) | exact ⟨tab_set _ (outQ_at hb) fun i hi => outQ_other i (.inl hi)⟩ | (refine ⟨?_⟩; rw [List.set_set]; exact tab_set _ (restQ_at (by rw [hb]; rfl)) fun i hi => restQ_other i hi))
        · have hke : k = s.members.length := by omega
          subst hke
          obtain ⟨L, hL⟩ : ∃ L : Nat, leftF s.members (bitN o) need U s.members.length = L := ⟨(leftF s.members (bitN o) need U s.members.length).toNat, by omega⟩
          have hl5' : L < 5 := by
            have h1 : cntF (bitN o) s.members.length ≤ 5 := by rw [cntF_eq]; have := cnt_le (bitN o) (List.range s.members.length); simp only [List.length_range] at this; omega
            omega
          have hshare : tab s.members.length (outP s.members (bitN o) need U L) = tab s.members.length (shareF s.members (bitN o) need) := by rw [← hL, ← hUg]; rfl
          have hpb : ∀ (t : Int) i, -1 ≤ restP s.members (bitN o) need U t i ∧ restP s.members (bitN o) need U t i ≤ 50000 := fun t i => by
            have := hr i; unfold restP; split <;> omega
          have hob : ∀ (t : Int) i, 0 ≤ outP s.members (bitN o) need U t i ∧ outP s.members (bitN o) need U t i ≤ 3000000001 := fun t i => by
            have := hqn i; have := hqb i; unfold outP; split
            · split <;> omega
            · omega
          (repeat' (first | (intro ex hex; have hq := hgf1 hex; subst hq; clear hex) | (intro ex hex; have hq := hgf2 hex; subst hq; clear hex) | (intro rx hrx; have hq := hsub1 hrx (by omega); subst hq; clear hrx) | (intro rx hrx; have hq := hsub2 hrx (by omega); subst hq; clear hrx) | (intro rx hrx; have hq := hsub3 hrx (by omega); subst hq; clear hrx) | (intro rx hrx; have hq := hsub4 hrx (by omega); subst hq; clear hrx) | (intro rx hrx; have hq := hsub5 hrx (by omega); subst hq; clear hrx) | (intro rx hrx; have hq := hsub6 hrx (by omega); subst hq; clear hrx) | (intro ex hex; have hq := hg1 (by omega) hex; subst hq; clear hex) | (intro ex hex; have hq := hg2 (by omega) hex; subst hq; clear hex) | (intro ex hex; have hq := hg3 (by omega) hex; subst hq; clear hex) | (refine Ev.go ?_; conv => whnf) | refine And.intro ?_ ?_ | exact True.intro | exact rfl | (intro rx hrx; rw [IntWalk.i64_in _ (by omega)] at hrx) | (intro hcx; exfalso; omega) | intro _))
          all_goals (first | (refine ⟨?_⟩; exact vc) | exact cl | skip)
          refine TWq.loop (fun t : Nat => [(10, .int .i64 ((L : Int) - t)), (14, .junk), (15, .junk)])
            (fun t => [(1, .arr 3 1 (ints (tab s.members.length (outP s.members (bitN o) need U t)))), (2, .arr 3 1 (ints (tab s.members.length (restP s.members (bitN o) need U t))))]) (fun t => t ≤ L) (fun t => L - t) 0 [] [] ?_ (by omega) ?_
          · (repeat' (first | (intro ex hex; have hq := hgf1 hex; subst hq; clear hex) | (intro ex hex; have hq := hgf2 hex; subst hq; clear hex) | (intro rx hrx; have hq := hsub1 hrx (by omega); subst hq; clear hrx) | (intro rx hrx; have hq := hsub2 hrx (by omega); subst hq; clear hrx) | (intro rx hrx; have hq := hsub3 hrx (by omega); subst hq; clear hrx) | (intro rx hrx; have hq := hsub4 hrx (by omega); subst hq; clear hrx) | (intro rx hrx; have hq := hsub5 hrx (by omega); subst hq; clear hrx) | (intro rx hrx; have hq := hsub6 hrx (by omega); subst hq; clear hrx) | (intro ex hex; have hq := hg1 (by omega) hex; subst hq; clear hex) | (intro ex hex; have hq := hg2 (by omega) hex; subst hq; clear hex) | (intro ex hex; have hq := hg3 (by omega) hex; subst hq; clear hex) | (refine Ev.go ?_; conv => whnf) | refine And.intro ?_ ?_ | exact True.intro | exact rfl | (intro rx hrx; rw [IntWalk.i64_in _ (by omega)] at hrx) | (intro hcx; exfalso; omega) | intro _))
            all_goals (first | (refine ⟨?_⟩; exact vc) | exact cl | skip)
            all_goals (first | (refine ⟨?_⟩; rw [hL]; simp; done) | exact ⟨congrArg ints (tab_congr fun i hi => outQ_n hi)⟩ | exact ⟨congrArg ints (tab_congr fun i hi => restQ_n hi)⟩)
          · intro t ht
            rcases Nat.lt_or_ge t L with htl | htl
            · obtain ⟨b, hb1, hb2, hb3, hb4⟩ := next_penny (ms := s.members) (f := bitN o) (need := need) (U := U) (t := t) hUp (by omega) (by omega)
              have hLo : (ints (tab s.members.length (outP s.members (bitN o) need U t))).length = s.members.length := by rw [ints_len, tab_len]
              have hLr : (ints (tab s.members.length (restP s.members (bitN o) need U t))).length = s.members.length := by rw [ints_len, tab_len]
              have hbest := fun c hc => penny_best (c := c) hUp hb1 hb2 hb3 hc
              have hpbt := hpb t
              have hobt := hob t
              have hout : ∀ v, v = outP s.members (bitN o) need U (t + 1 : Nat) b → (ints (tab s.members.length (outP s.members (bitN o) need U t))).set b (.int .i64 v) = ints (tab s.members.length (outP s.members (bitN o) need U (t + 1 : Nat))) := fun v hv => by
                refine tab_set _ hv fun i hi => ?_
                rw [outP_other hb4 i hi]; rfl
              have hrest : (ints (tab s.members.length (restP s.members (bitN o) need U t))).set b (.int .i64 (-1)) = ints (tab s.members.length (restP s.members (bitN o) need U (t + 1 : Nat))) := by
                rw [tab_set (o' := fun i => if i = b then -1 else restP s.members (bitN o) need U t i) _ (by simp) fun i hi => by simp [hi]]
                refine congrArg ints (tab_congr fun i hi => ?_)
                by_cases e : i = b
                · subst e; simp only [if_true]; rw [restP_at (ms := s.members) (f := bitN o) hb3]; rfl
                · simp only [if_neg e]; rw [restP_other hb4 i hi e]; rfl
              have hbv := outP_at hb1 hb2 hb3
              have hbv' : outP s.members (bitN o) need U t b + 1 = outP s.members (bitN o) need U (t + 1 : Nat) b := hbv
              clear hbv
              generalize hP : outP s.members (bitN o) need U (t + 1 : Nat) = P1 at *
              generalize hR : restP s.members (bitN o) need U (t + 1 : Nat) = R1 at *
              generalize outP s.members (bitN o) need U t = P0 at *
              generalize restP s.members (bitN o) need U t = R0 at *
              have hgo : ∀ k, k < s.members.length → ∀ {n : Nat} {e : SV}, n = k → (ints (tab s.members.length P0))[n]? = some e → e = .int .i64 (P0 k) := by
                rintro k hk n e rfl he
                obtain ⟨x, hx, rfl⟩ := ints_at he
                simp only [tab, List.getElem?_map, List.getElem?_range hk, Option.map_some, Option.some.injEq] at hx
                rw [hx]
              have hgr : ∀ k, k < s.members.length → ∀ {n : Nat} {e : SV}, n = k → (ints (tab s.members.length R0))[n]? = some e → e = .int .i64 (R0 k) := by
                rintro k hk n e rfl he
                obtain ⟨x, hx, rfl⟩ := ints_at he
                simp only [tab, List.getElem?_map, List.getElem?_range hk, Option.map_some, Option.some.injEq] at hx
                rw [hx]
              (repeat' (first | (intro ex hex; have hq := hgf1 hex; subst hq; clear hex) | (intro ex hex; have hq := hgf2 hex; subst hq; clear hex) | (intro rx hrx; have hq := hsub1 hrx (by omega); subst hq; clear hrx) | (intro rx hrx; have hq := hsub2 hrx (by omega); subst hq; clear hrx) | (intro rx hrx; have hq := hsub3 hrx (by omega); subst hq; clear hrx) | (intro rx hrx; have hq := hsub4 hrx (by omega); subst hq; clear hrx) | (intro rx hrx; have hq := hsub5 hrx (by omega); subst hq; clear hrx) | (intro rx hrx; have hq := hsub6 hrx (by omega); subst hq; clear hrx) | (intro ex hex; have hq := hg1 (by omega) hex; subst hq; clear hex) | (intro ex hex; have hq := hg2 (by omega) hex; subst hq; clear hex) | (intro ex hex; have hq := hg3 (by omega) hex; subst hq; clear hex) | (refine Ev.go ?_; conv => whnf) | refine And.intro ?_ ?_ | exact True.intro | exact rfl | (intro rx hrx; rw [IntWalk.i64_in _ (by omega)] at hrx) | (intro hcx; exfalso; omega) | intro _))
              all_goals (first | (refine ⟨?_⟩; exact vc) | exact cl | skip)
              refine TWq.loop (fun p : Nat × Nat => [(14, .int .i64 p.2), (15, .int .i64 p.1)]) (fun _ => [])
                (fun p => 1 ≤ p.1 ∧ p.1 ≤ s.members.length ∧ p.2 < p.1 ∧ ∀ j, j < p.1 → R0 j < R0 p.2 ∨ (R0 j = R0 p.2 ∧ p.2 ≤ j)) (fun p => s.members.length - p.1) (1, 0) [] [] ?_ ⟨by omega, by omega, by omega, fun j hj => by dsimp only at hj ⊢; (have hj0 : j = 0 := (by omega)); rw [hj0]; omega⟩ ?_
              · (repeat' (first | (intro ex hex; have hq := hgf1 hex; subst hq; clear hex) | (intro ex hex; have hq := hgf2 hex; subst hq; clear hex) | (intro rx hrx; have hq := hsub1 hrx (by omega); subst hq; clear hrx) | (intro rx hrx; have hq := hsub2 hrx (by omega); subst hq; clear hrx) | (intro rx hrx; have hq := hsub3 hrx (by omega); subst hq; clear hrx) | (intro rx hrx; have hq := hsub4 hrx (by omega); subst hq; clear hrx) | (intro rx hrx; have hq := hsub5 hrx (by omega); subst hq; clear hrx) | (intro rx hrx; have hq := hsub6 hrx (by omega); subst hq; clear hrx) | (intro ex hex; have hq := hg1 (by omega) hex; subst hq; clear hex) | (intro ex hex; have hq := hg2 (by omega) hex; subst hq; clear hex) | (intro ex hex; have hq := hg3 (by omega) hex; subst hq; clear hex) | (refine Ev.go ?_; conv => whnf) | refine And.intro ?_ ?_ | exact True.intro | exact rfl | (intro rx hrx; rw [IntWalk.i64_in _ (by omega)] at hrx) | (intro hcx; exfalso; omega) | intro _))
                all_goals (first | (refine ⟨?_⟩; exact vc) | exact cl | skip)
              · rintro ⟨k, c⟩ ⟨hk0, hk, hck, hmax⟩
                dsimp only at hk0 hk hck hmax ⊢
                rcases Nat.lt_or_ge k s.members.length with hkl | hkl
                · have hg1 := @hgr k hkl
                  have hg2 := @hgr c (by omega)
                  have hpk := hpbt k
                  have hpc := hpbt c
                  (repeat' (first | (intro ex hex; have hq := hgf1 hex; subst hq; clear hex) | (intro ex hex; have hq := hgf2 hex; subst hq; clear hex) | (intro rx hrx; have hq := hsub1 hrx (by omega); subst hq; clear hrx) | (intro rx hrx; have hq := hsub2 hrx (by omega); subst hq; clear hrx) | (intro rx hrx; have hq := hsub3 hrx (by omega); subst hq; clear hrx) | (intro rx hrx; have hq := hsub4 hrx (by omega); subst hq; clear hrx) | (intro rx hrx; have hq := hsub5 hrx (by omega); subst hq; clear hrx) | (intro rx hrx; have hq := hsub6 hrx (by omega); subst hq; clear hrx) | (intro ex hex; have hq := hg1 (by omega) hex; subst hq; clear hex) | (intro ex hex; have hq := hg2 (by omega) hex; subst hq; clear hex) | (intro ex hex; have hq := hg3 (by omega) hex; subst hq; clear hex) | (refine Ev.go ?_; conv => whnf) | refine And.intro ?_ ?_ | exact True.intro | exact rfl | (intro rx hrx; rw [IntWalk.i64_in _ (by omega)] at hrx) | (intro hcx; exfalso; omega) | intro _))
                  all_goals (first | (refine ⟨?_⟩; exact vk) | exact cl | skip)
                  · refine ⟨⟨(k + 1, k), ⟨by dsimp only; omega, by dsimp only; omega, by dsimp only; omega, fun j hj => ?_⟩, by dsimp only; omega, ?_⟩⟩
                    · dsimp only at hj ⊢
                      rcases Nat.lt_or_ge j k with h | h
                      · have := hmax j h; omega
                      · have : j = k := by omega
                        subst this; omega
                    · (repeat' (first | (intro ex hex; have hq := hgf1 hex; subst hq; clear hex) | (intro ex hex; have hq := hgf2 hex; subst hq; clear hex) | (intro rx hrx; have hq := hsub1 hrx (by omega); subst hq; clear hrx) | (intro rx hrx; have hq := hsub2 hrx (by omega); subst hq; clear hrx) | (intro rx hrx; have hq := hsub3 hrx (by omega); subst hq; clear hrx) | (intro rx hrx; have hq := hsub4 hrx (by omega); subst hq; clear hrx) | (intro rx hrx; have hq := hsub5 hrx (by omega); subst hq; clear hrx) | (intro rx hrx; have hq := hsub6 hrx (by omega); subst hq; clear hrx) | (intro ex hex; have hq := hg1 (by omega) hex; subst hq; clear hex) | (intro ex hex; have hq := hg2 (by omega) hex; subst hq; clear hex) | (intro ex hex; have hq := hg3 (by omega) hex; subst hq; clear hex) | (refine Ev.go ?_; conv => whnf) | refine And.intro ?_ ?_ | exact True.intro | exact rfl | (intro rx hrx; rw [IntWalk.i64_in _ (by omega)] at hrx) | (intro hcx; exfalso; omega) | intro _))
                      all_goals (first | (refine ⟨?_⟩; exact vc) | exact cl | skip)
                  · refine ⟨⟨(k + 1, c), ⟨by dsimp only; omega, by dsimp only; omega, by dsimp only; omega, fun j hj => ?_⟩, by dsimp only; omega, ?_⟩⟩
                    · dsimp only at hj ⊢
                      rcases Nat.lt_or_ge j k with h | h
                      · exact hmax j h
                      · have : j = k := by omega
                        subst this; omega
                    · (repeat' (first | (intro ex hex; have hq := hgf1 hex; subst hq; clear hex) | (intro ex hex; have hq := hgf2 hex; subst hq; clear hex) | (intro rx hrx; have hq := hsub1 hrx (by omega); subst hq; clear hrx) | (intro rx hrx; have hq := hsub2 hrx (by omega); subst hq; clear hrx) | (intro rx hrx; have hq := hsub3 hrx (by omega); subst hq; clear hrx) | (intro rx hrx; have hq := hsub4 hrx (by omega); subst hq; clear hrx) | (intro rx hrx; have hq := hsub5 hrx (by omega); subst hq; clear hrx) | (intro rx hrx; have hq := hsub6 hrx (by omega); subst hq; clear hrx) | (intro ex hex; have hq := hg1 (by omega) hex; subst hq; clear hex) | (intro ex hex; have hq := hg2 (by omega) hex; subst hq; clear hex) | (intro ex hex; have hq := hg3 (by omega) hex; subst hq; clear hex) | (refine Ev.go ?_; conv => whnf) | refine And.intro ?_ ?_ | exact True.intro | exact rfl | (intro rx hrx; rw [IntWalk.i64_in _ (by omega)] at hrx) | (intro hcx; exfalso; omega) | intro _))
                      all_goals (first | (refine ⟨?_⟩; exact vc) | exact cl | skip)
                · have hke : k = s.members.length := by omega
                  subst hke
                  have hcb := hbest c hck hmax
                  subst hcb
                  have hg1 := @hgo c hck
                  have hg2 := @hgr c hck
                  have hpc := hobt c
                  (repeat' (first | (intro ex hex; have hq := hgf1 hex; subst hq; clear hex) | (intro ex hex; have hq := hgf2 hex; subst hq; clear hex) | (intro rx hrx; have hq := hsub1 hrx (by omega); subst hq; clear hrx) | (intro rx hrx; have hq := hsub2 hrx (by omega); subst hq; clear hrx) | (intro rx hrx; have hq := hsub3 hrx (by omega); subst hq; clear hrx) | (intro rx hrx; have hq := hsub4 hrx (by omega); subst hq; clear hrx) | (intro rx hrx; have hq := hsub5 hrx (by omega); subst hq; clear hrx) | (intro rx hrx; have hq := hsub6 hrx (by omega); subst hq; clear hrx) | (intro ex hex; have hq := hg1 (by omega) hex; subst hq; clear hex) | (intro ex hex; have hq := hg2 (by omega) hex; subst hq; clear hex) | (intro ex hex; have hq := hg3 (by omega) hex; subst hq; clear hex) | (refine Ev.go ?_; conv => whnf) | refine And.intro ?_ ?_ | exact True.intro | exact rfl | (intro rx hrx; rw [IntWalk.i64_in _ (by omega)] at hrx) | (intro hcx; exfalso; omega) | intro _))
                  all_goals (first | (refine ⟨?_⟩; exact vc) | exact cl | skip)
                  refine ⟨⟨t + 1, by omega, by omega, ?_⟩⟩
                  (repeat' (first | (intro ex hex; have hq := hgf1 hex; subst hq; clear hex) | (intro ex hex; have hq := hgf2 hex; subst hq; clear hex) | (intro rx hrx; have hq := hsub1 hrx (by omega); subst hq; clear hrx) | (intro rx hrx; have hq := hsub2 hrx (by omega); subst hq; clear hrx) | (intro rx hrx; have hq := hsub3 hrx (by omega); subst hq; clear hrx) | (intro rx hrx; have hq := hsub4 hrx (by omega); subst hq; clear hrx) | (intro rx hrx; have hq := hsub5 hrx (by omega); subst hq; clear hrx) | (intro rx hrx; have hq := hsub6 hrx (by omega); subst hq; clear hrx) | (intro ex hex; have hq := hg1 (by omega) hex; subst hq; clear hex) | (intro ex hex; have hq := hg2 (by omega) hex; subst hq; clear hex) | (intro ex hex; have hq := hg3 (by omega) hex; subst hq; clear hex) | (refine Ev.go ?_; conv => whnf) | refine And.intro ?_ ?_ | exact True.intro | exact rfl | (intro rx hrx; rw [IntWalk.i64_in _ (by omega)] at hrx) | (intro hcx; exfalso; omega) | intro _))
                  all_goals (first | (refine ⟨?_⟩; exact vc) | exact cl | skip)
                  all_goals (first | (refine ⟨?_⟩; omega) | (rw [hP]; exact ⟨hout _ (by omega)⟩) | (rw [hR]; exact ⟨hrest⟩))
            · have hte : t = L := by omega
              subst hte
              rw [hshare]
              (repeat' (first | (intro ex hex; have hq := hgf1 hex; subst hq; clear hex) | (intro ex hex; have hq := hgf2 hex; subst hq; clear hex) | (intro rx hrx; have hq := hsub1 hrx (by omega); subst hq; clear hrx) | (intro rx hrx; have hq := hsub2 hrx (by omega); subst hq; clear hrx) | (intro rx hrx; have hq := hsub3 hrx (by omega); subst hq; clear hrx) | (intro rx hrx; have hq := hsub4 hrx (by omega); subst hq; clear hrx) | (intro rx hrx; have hq := hsub5 hrx (by omega); subst hq; clear hrx) | (intro rx hrx; have hq := hsub6 hrx (by omega); subst hq; clear hrx) | (intro ex hex; have hq := hg1 (by omega) hex; subst hq; clear hex) | (intro ex hex; have hq := hg2 (by omega) hex; subst hq; clear hex) | (intro ex hex; have hq := hg3 (by omega) hex; subst hq; clear hex) | (refine Ev.go ?_; conv => whnf) | refine And.intro ?_ ?_ | exact True.intro | exact rfl | (intro rx hrx; rw [IntWalk.i64_in _ (by omega)] at hrx) | (intro hcx; exfalso; omega) | intro _))
              all_goals (first | (refine ⟨?_⟩; exact vc) | exact cl | skip)
              all_goals (try rfl)
end Go.Proofs.Ythnaamkempmjkaa
