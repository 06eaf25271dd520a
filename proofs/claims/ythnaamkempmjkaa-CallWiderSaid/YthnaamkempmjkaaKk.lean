/- The calls for a need: the walk. -/
import Derived.Test.YthnaamkempmjkaaKj
set_option linter.unusedSimpArgs false
set_option linter.unusedVariables false
open Go Go.TV
namespace Go.Proofs.Ythnaamkempmjkaa

theorem sh5 (a b c d e : Bool) : shOK (.arr 5 1 false .bool) (.agg [.bool a, .bool b, .bool c, .bool d, .bool e]) := by simp [shOK, andN, partK, getK, lenIs]
theorem cntB_le (f : Nat → Bool) : cntB f ≤ 5 := by
  have h0 := Bool.toNat_le (f 0); have h1 := Bool.toNat_le (f 1); have h2 := Bool.toNat_le (f 2); have h3 := Bool.toNat_le (f 3); have h4 := Bool.toNat_le (f 4)
  unfold cntB; omega
theorem outU_0 {ms : List Mem} {f : Nat → Bool} {need : Int} {o : Nat → Int} (i : Nat) : o i = outU ms f need o 0 i := by simp [outU]
theorem outU_other {ms : List Mem} {f : Nat → Bool} {need : Int} {o : Nat → Int} {k i : Nat} (h : i ≠ k) : outU ms f need o k i = outU ms f need o (k + 1) i := by
  unfold outU
  have : i < k ↔ i < k + 1 := by omega
  simp only [this]
theorem outU_at {ms : List Mem} {f : Nat → Bool} {need : Int} {o : Nat → Int} {k : Nat} (h : capF ms f need k = true) : mst ms k = outU ms f need o (k + 1) k := by
  unfold outU
  rw [if_pos ⟨by omega, h⟩]
theorem outU_not {ms : List Mem} {f : Nat → Bool} {need : Int} {o : Nat → Int} {k : Nat} (h : capF ms f need k = false) (i : Nat) : outU ms f need o k i = outU ms f need o (k + 1) i := by
  by_cases e : i = k
  · subst e; unfold outU; simp [h]
  · exact outU_other e
theorem finU_0 {ms : List Mem} {f : Nat → Bool} {need : Int} {o : Nat → Int} (i : Nat) : o i = finU ms f need o 0 i := by simp [finU]
theorem finU_other {ms : List Mem} {f : Nat → Bool} {need : Int} {o : Nat → Int} {k i : Nat} (h : i ≠ k) : finU ms f need o k i = finU ms f need o (k + 1) i := by
  unfold finU
  have : i < k ↔ i < k + 1 := by omega
  simp only [this]
theorem finU_at {ms : List Mem} {f : Nat → Bool} {need : Int} {o : Nat → Int} {k : Nat} (h : f k = true) : shareF ms f need k = finU ms f need o (k + 1) k := by
  unfold finU
  rw [if_pos ⟨by omega, h⟩]
theorem finU_not {ms : List Mem} {f : Nat → Bool} {need : Int} {o : Nat → Int} {k : Nat} (h : f k = false) (i : Nat) : finU ms f need o k i = finU ms f need o (k + 1) i := by
  by_cases e : i = k
  · subst e; unfold finU; simp [h]
  · exact finU_other e
theorem fi5_at {g : Nat → Int} {k : Nat} (h : k < 5) : [SV.int .i64 (g 0), SV.int .i64 (g 1), SV.int .i64 (g 2), SV.int .i64 (g 3), SV.int .i64 (g 4)][0 + (k : Int).toNat * 1]? = some (.int .i64 (g k)) := by
  have : k = 0 ∨ k = 1 ∨ k = 2 ∨ k = 3 ∨ k = 4 := by omega
  rcases this with rfl | rfl | rfl | rfl | rfl <;> rfl
theorem fl5_at {g : Nat → Bool} {k : Nat} (h : k < 5) : [SV.bool (g 0), SV.bool (g 1), SV.bool (g 2), SV.bool (g 3), SV.bool (g 4)][0 + (k : Int).toNat * 1]? = some (.bool (g k)) := by
  have : k = 0 ∨ k = 1 ∨ k = 2 ∨ k = 3 ∨ k = 4 := by omega
  rcases this with rfl | rfl | rfl | rfl | rfl <;> rfl
/-- What a round of sharing is told. -/
structure CallI (ms : List Mem) (f0 : Nat → Bool) (need0 : Int) (t : Nat) (f : Nat → Bool) (need : Int) (o : Nat → Int) : Prop where
  eq : callsF ms 6 f0 need0 (fun _ => 0) = callsF ms t f need o
  cnt : cntB f < t
  lt : ∀ i, f i = true → i < ms.length
  nn : 0 ≤ need ∧ need ≤ 300000

set_option maxHeartbeats 16000000 in
set_option maxRecDepth 100000 in
theorem t71 (s : Soc) (f0 : Nat → Bool) (need0 : Int) (hm : ∀ m ∈ s.members, OkM m) (hl : s.members.length ≤ 5) (hf0 : ∀ i, f0 i = true → i < s.members.length) (hn : 0 ≤ need0 ∧ need0 ≤ 300000) :
    TF Try.prog 71 [.ptr 2 0, .int .i64 need0] [.cells (socC s), .cells (socC s), .cells (encW s f0 .nilm)] (fun r h' => h' = [.cells (socC s), .cells (socC s), .dead, .arr 3 1 (ints (tab s.members.length (callsF s.members 6 f0 need0 fun _ => 0).1))] ∧
      r = .tup [.own 3, .int .i64 (callsF s.members 6 f0 need0 fun _ => 0).2]) := by
  have hz := encYs_len s.members
  refine TF.cutTo (TF.ev fn_71 (Ev.at ?_))
  (repeat' (first | (intro ex hex; have hq := hg1 (by omega) hex; subst hq; clear hex) | (intro ex hex; have hq := hg2 (by omega) hex; subst hq; clear hex) | (refine Ev.go ?_; conv => whnf) | refine And.intro ?_ ?_ | exact True.intro | exact rfl | (intro rx hrx; rw [IntWalk.i64_in _ (by omega)] at hrx) | (intro hcx; exfalso; omega) | intro _))
  all_goals (first | (refine ⟨?_⟩; exact vc) | exact cl | skip)
  refine TWq.loop (fun p : Nat × (Nat → Bool) × Int × (Nat → Int) => [(1, .int .i64 p.2.2.1), (6, .junk), (7, .junk), (8, .junk), (9, .junk), (10, .junk)])
    (fun p => [(2, .cells (encW s p.2.1 .junk)), (3, .arr 3 1 (ints (tab s.members.length p.2.2.2)))]) (fun p => CallI s.members f0 need0 p.1 p.2.1 p.2.2.1 p.2.2.2) (fun p => p.1) (6, f0, need0, fun _ => 0) [] [] ?_ ⟨rfl, ?_, hf0, hn⟩ ?_
  · (repeat' (first | (intro ex hex; have hq := hg1 (by omega) hex; subst hq; clear hex) | (intro ex hex; have hq := hg2 (by omega) hex; subst hq; clear hex) | (refine Ev.go ?_; conv => whnf) | refine And.intro ?_ ?_ | exact True.intro | exact rfl | (intro rx hrx; rw [IntWalk.i64_in _ (by omega)] at hrx) | (intro hcx; exfalso; omega) | intro _))
    all_goals (first | (refine ⟨?_⟩; exact vc) | exact cl | skip)
    all_goals (refine ⟨?_⟩; rw [hz]; simp [tab, ints, List.map_const'])
  · have := cntB_le f0
    dsimp only; omega
  · rintro ⟨t, f, need, o⟩ hI
    dsimp only at hI ⊢
    cases ha : any5 f
    · obtain ⟨a0, a1, a2, a3, a4⟩ := any5_iff.1 ha
      obtain ⟨t, rfl⟩ : ∃ t', t = t' + 1 := ⟨t - 1, by have := hI.cnt; omega⟩
      have he := hI.eq.trans (show callsF s.members (t + 1) f need o = (o, need) by simp only [callsF, if_pos ha])
      (repeat' (first | (intro ex hex; have hq := hg1 (by omega) hex; subst hq; clear hex) | (intro ex hex; have hq := hg2 (by omega) hex; subst hq; clear hex) | (refine Ev.go ?_; conv => whnf) | refine And.intro ?_ ?_ | exact True.intro | exact rfl | (intro rx hrx; rw [IntWalk.i64_in _ (by omega)] at hrx) | (intro hcx; exfalso; omega) | intro _))
      all_goals (first | (refine ⟨?_⟩; exact vc) | exact cl | skip)
      all_goals (try exact ⟨sh5 _ _ _ _ _⟩)
      · exact ⟨by rw [he]⟩
      · change SV.tup [.own 3, .int .i64 need] = _
        rw [he]
      · rename_i hq
        exact absurd (by rw [a0, a1, a2, a3, a4]) hq
    · (repeat' (first | (intro ex hex; have hq := hg1 (by omega) hex; subst hq; clear hex) | (intro ex hex; have hq := hg2 (by omega) hex; subst hq; clear hex) | (refine Ev.go ?_; conv => whnf) | refine And.intro ?_ ?_ | exact True.intro | exact rfl | (intro rx hrx; rw [IntWalk.i64_in _ (by omega)] at hrx) | (intro hcx; exfalso; omega) | intro _))
      all_goals (first | (refine ⟨?_⟩; exact vc) | exact cl | skip)
      all_goals (try exact ⟨sh5 _ _ _ _ _⟩)
      all_goals (try (rename_i hq; exfalso; simp only [SV.agg.injEq, List.cons.injEq, SV.bool.injEq, and_true] at hq; rw [any5_iff.2 hq] at ha; cases ha; done))
      · rename_i hq
        obtain ⟨t, rfl⟩ : ∃ t', t = t' + 1 := ⟨t - 1, by have := hI.cnt; omega⟩
        have d89 := t89 s f need (tab s.members.length o) hm hl hI.nn
        refine TSq.callT rfl rfl (calleeK_const (And.intro rfl rfl) (d89.mono ?_))
        rintro _ _ ⟨rfl, rfl⟩
        (repeat' (first | (intro ex hex; have hq := hg1 (by omega) hex; subst hq; clear hex) | (intro ex hex; have hq := hg2 (by omega) hex; subst hq; clear hex) | (refine Ev.go ?_; conv => whnf) | refine And.intro ?_ ?_ | exact True.intro | exact rfl | (intro rx hrx; rw [IntWalk.i64_in _ (by omega)] at hrx) | (intro hcx; exfalso; omega) | intro _))
        all_goals (first | (refine ⟨?_⟩; exact vc) | exact cl | skip)
        have hUpos : 0 < unitsF s.members f s.members.length := by
          obtain ⟨i, hi⟩ : ∃ i, f i = true := by
            simp only [any5, Bool.or_eq_true] at ha
            rcases ha with h | h | h | h | h <;> exact ⟨_, h⟩
          have := unitsF_pos hm (List.getElem?_eq_getElem (hI.lt i hi)) (hI.lt i hi) hi
          omega
        have hnb : ∀ k, k ≤ s.members.length → 0 ≤ needF s.members (capF s.members f need) need k ∧ needF s.members (capF s.members f need) need k ≤ 300000 := fun k hk => by
          have q1 := needF_ok (f := f) (need := need) hm hI.nn.1 k hk
          have q2 := leftF_nn (ms := s.members) (f := f) (need := need) hUpos
          have q3 := leftF_anti (f := f) (need := need) hm hI.nn.1 (Int.le_of_lt hUpos) k (s.members.length - k)
          rw [show k + (s.members.length - k) = s.members.length by omega] at q3
          have := hI.nn
          omega
        refine TWq.loop (fun k : Nat => [(1, .int .i64 (needF s.members (capF s.members f need) need k)), (37, .int .i64 k), (8, .junk), (9, .junk)])
          (fun k => [(2, .cells (encW s (capU s.members f need k) .junk)), (3, .arr 3 1 (ints (tab s.members.length (outU s.members f need o k))))]) (fun k => k ≤ s.members.length) (fun k => s.members.length - k) 0 [] [] ?_ (by omega) ?_
        · (repeat' (first | (intro ex hex; have hq := hg1 (by omega) hex; subst hq; clear hex) | (intro ex hex; have hq := hg2 (by omega) hex; subst hq; clear hex) | (refine Ev.go ?_; conv => whnf) | refine And.intro ?_ ?_ | exact True.intro | exact rfl | (intro rx hrx; rw [IntWalk.i64_in _ (by omega)] at hrx) | (intro hcx; exfalso; omega) | intro _))
          all_goals (first | (refine ⟨?_⟩; exact vc) | exact cl | skip)
          all_goals (first | exact ⟨capU_0 _⟩ | exact ⟨congrArg ints (tab_congr fun i _ => outU_0 i)⟩)
        · intro k hk
          have hnk := hnb k hk
          rcases Nat.lt_or_ge k s.members.length with hkl | hkl
          · obtain ⟨m, hmk⟩ : ∃ m, s.members[k]? = some m := ⟨_, List.getElem?_eq_getElem hkl⟩
            have hnk1 := hnb (k + 1) hkl
            have hns : needF s.members (capF s.members f need) need (k + 1) = needF s.members (capF s.members f need) need k - (if capF s.members f need k = true then mst s.members k else 0) := rfl
            have hg1 : ∀ {n : Nat} {e : SV}, n = k → (encYs s.members)[n]? = some e → e = encY m := by
              rintro n e rfl he
              obtain ⟨x, hx, rfl⟩ := encYs_at he
              rw [hmk] at hx; cases hx; rfl
            have hmst := mst_at hmk
            have hLk : (ints (tab s.members.length (outU s.members f need o k))).length = s.members.length := by rw [ints_len, tab_len]
            have hg2 : ∀ {n : Nat} {e : SV}, n = k → (ints (tab s.members.length (outU s.members f need o k)))[n]? = some e → e = .int .i64 (outU s.members f need o k k) := by
              rintro n e rfl he
              obtain ⟨x, hx, rfl⟩ := ints_at he
              simp only [tab, List.getElem?_map, List.getElem?_range hkl, Option.map_some, Option.some.injEq] at hx
              rw [hx]
            cases hf : f k
            · have hc := capF_no (ms := s.members) (need := need) hf
              rw [hc] at hns
              simp only [Bool.false_eq_true, if_false] at hns
              have hat := fl5_at (g := f) (k := k) (by omega)
              rw [hf] at hat
              (repeat' (first | (intro ex hex; have hq := hg1 (by omega) hex; subst hq; clear hex) | (intro ex hex; have hq := hg2 (by omega) hex; subst hq; clear hex) | (refine Ev.go ?_; conv => whnf) | refine And.intro ?_ ?_ | exact True.intro | exact rfl | (intro rx hrx; rw [IntWalk.i64_in _ (by omega)] at hrx) | (intro hcx; exfalso; omega) | intro _))
              all_goals (first | (refine ⟨?_⟩; exact vc) | exact cl | skip)
              refine getK_of hat ?_
              (repeat' (first | (intro ex hex; have hq := hg1 (by omega) hex; subst hq; clear hex) | (intro ex hex; have hq := hg2 (by omega) hex; subst hq; clear hex) | (refine Ev.go ?_; conv => whnf) | refine And.intro ?_ ?_ | exact True.intro | exact rfl | (intro rx hrx; rw [IntWalk.i64_in _ (by omega)] at hrx) | (intro hcx; exfalso; omega) | intro _))
              all_goals (first | (refine ⟨?_⟩; exact vk) | exact cl | skip)
              refine ⟨⟨k + 1, by omega, by omega, ?_⟩⟩
              (repeat' (first | (intro ex hex; have hq := hg1 (by omega) hex; subst hq; clear hex) | (intro ex hex; have hq := hg2 (by omega) hex; subst hq; clear hex) | (refine Ev.go ?_; conv => whnf) | refine And.intro ?_ ?_ | exact True.intro | exact rfl | (intro rx hrx; rw [IntWalk.i64_in _ (by omega)] at hrx) | (intro hcx; exfalso; omega) | intro _))
              all_goals (first | (refine ⟨?_⟩; exact vc) | exact cl | skip)
              all_goals (first | exact ⟨capU_not hc _⟩ | exact ⟨congrArg ints (tab_congr fun i _ => outU_not hc i)⟩ | (refine ⟨?_⟩; rw [hns]; omega))
            · have hcd := capF_of (need := need) hkl hf
              obtain ⟨k1, hk1⟩ : ∃ k1, k1 = k + 1 := ⟨_, rfl⟩
              have tset := fun (v : Int) (h : v = outU s.members f need o (k + 1) k) => tab_set (n := s.members.length) (outU s.members f need o k) (o' := outU s.members f need o (k + 1)) h (fun i hi => outU_other hi)
              rcases Int.lt_or_le (mst s.members k) (shareF s.members f need k) with hlt | hge
              · have hc : capF s.members f need k = true := by rw [hcd, decide_eq_true hlt]
                rw [hc] at hns
                simp only [if_true] at hns
                have hout := outU_at (o := o) hc
                have hcu := capU_at hc
                rw [hmst] at hlt hns hout
                have hcs : k = 0 ∨ k = 1 ∨ k = 2 ∨ k = 3 ∨ k = 4 := by omega
                rcases hcs with rfl | rfl | rfl | rfl | rfl
                all_goals
                  (repeat' (first | (intro ex hex; have hq := hg1 (by omega) hex; subst hq; clear hex) | (intro ex hex; have hq := hg2 (by omega) hex; subst hq; clear hex) | (refine Ev.go ?_; conv => whnf) | refine And.intro ?_ ?_ | exact True.intro | exact rfl | (intro rx hrx; rw [IntWalk.i64_in _ (by omega)] at hrx) | (intro hcx; exfalso; omega) | intro _))
                  all_goals (first | (refine ⟨?_⟩; exact vc) | exact cl | skip)
                  rw [hf]
                  conv => whnf
                  (repeat' (first | (intro ex hex; have hq := hg1 (by omega) hex; subst hq; clear hex) | (intro ex hex; have hq := hg2 (by omega) hex; subst hq; clear hex) | (refine Ev.go ?_; conv => whnf) | refine And.intro ?_ ?_ | exact True.intro | exact rfl | (intro rx hrx; rw [IntWalk.i64_in _ (by omega)] at hrx) | (intro hcx; exfalso; omega) | intro _))
                  all_goals (first | (refine ⟨?_⟩; exact vk) | exact cl | skip)
                  refine ⟨⟨k1, by omega, by omega, ?_⟩⟩
                  subst hk1
                  (repeat' (first | (intro ex hex; have hq := hg1 (by omega) hex; subst hq; clear hex) | (intro ex hex; have hq := hg2 (by omega) hex; subst hq; clear hex) | (refine Ev.go ?_; conv => whnf) | refine And.intro ?_ ?_ | exact True.intro | exact rfl | (intro rx hrx; rw [IntWalk.i64_in _ (by omega)] at hrx) | (intro hcx; exfalso; omega) | intro _))
                  all_goals (first | (refine ⟨?_⟩; exact vc) | exact cl | skip)
                  all_goals (first | exact ⟨hcu⟩ | exact ⟨capU_other (by decide)⟩ | exact ⟨tset _ hout⟩ | (refine ⟨?_⟩; rw [hns]; omega))
              · have hc : capF s.members f need k = false := by rw [hcd, decide_eq_false (by omega)]
                rw [hc] at hns
                simp only [Bool.false_eq_true, if_false] at hns
                have hat := fl5_at (g := f) (k := k) (by omega)
                have hat2 := fi5_at (g := shareF s.members f need) (k := k) (by omega)
                rw [hf] at hat
                rw [hmst] at hge
                (repeat' (first | (intro ex hex; have hq := hg1 (by omega) hex; subst hq; clear hex) | (intro ex hex; have hq := hg2 (by omega) hex; subst hq; clear hex) | (refine Ev.go ?_; conv => whnf) | refine And.intro ?_ ?_ | exact True.intro | exact rfl | (intro rx hrx; rw [IntWalk.i64_in _ (by omega)] at hrx) | (intro hcx; exfalso; omega) | intro _))
                all_goals (first | (refine ⟨?_⟩; exact vc) | exact cl | skip)
                refine getK_of hat ?_
                (repeat' (first | (intro ex hex; have hq := hg1 (by omega) hex; subst hq; clear hex) | (intro ex hex; have hq := hg2 (by omega) hex; subst hq; clear hex) | (refine Ev.go ?_; conv => whnf) | refine And.intro ?_ ?_ | exact True.intro | exact rfl | (intro rx hrx; rw [IntWalk.i64_in _ (by omega)] at hrx) | (intro hcx; exfalso; omega) | intro _))
                all_goals (first | (refine ⟨?_⟩; exact vc) | exact cl | skip)
                refine getK_of hat2 ?_
                (repeat' (first | (intro ex hex; have hq := hg1 (by omega) hex; subst hq; clear hex) | (intro ex hex; have hq := hg2 (by omega) hex; subst hq; clear hex) | (refine Ev.go ?_; conv => whnf) | refine And.intro ?_ ?_ | exact True.intro | exact rfl | (intro rx hrx; rw [IntWalk.i64_in _ (by omega)] at hrx) | (intro hcx; exfalso; omega) | intro _))
                all_goals (first | (refine ⟨?_⟩; exact vk) | exact cl | skip)
                refine ⟨⟨k + 1, by omega, by omega, ?_⟩⟩
                (repeat' (first | (intro ex hex; have hq := hg1 (by omega) hex; subst hq; clear hex) | (intro ex hex; have hq := hg2 (by omega) hex; subst hq; clear hex) | (refine Ev.go ?_; conv => whnf) | refine And.intro ?_ ?_ | exact True.intro | exact rfl | (intro rx hrx; rw [IntWalk.i64_in _ (by omega)] at hrx) | (intro hcx; exfalso; omega) | intro _))
                all_goals (first | (refine ⟨?_⟩; exact vc) | exact cl | skip)
                all_goals (first | exact ⟨capU_not hc _⟩ | exact ⟨congrArg ints (tab_congr fun i _ => outU_not hc i)⟩ | (refine ⟨?_⟩; rw [hns]; omega))
          · have hke : k = s.members.length := by omega
            subst hke
            have hLn : (ints (tab s.members.length (outU s.members f need o s.members.length))).length = s.members.length := by rw [ints_len, tab_len]
            cases hcap : any5 (capF s.members f need)
            · obtain ⟨c0, c1, c2, c3, c4⟩ := any5_iff.1 hcap
              have he := hI.eq.trans (show callsF s.members (t + 1) f need o = (fun i => if f i = true ∧ i < s.members.length then shareF s.members f need i else o i, 0) by
                show (if any5 f = false then _ else if any5 (capF s.members f need) = false then _ else _) = _
                rw [if_neg (by rw [ha]; simp), if_pos hcap])
              have hcn : ∀ i, i < s.members.length → capF s.members f need i = false := fun i hi => by
                have : i = 0 ∨ i = 1 ∨ i = 2 ∨ i = 3 ∨ i = 4 := by omega
                rcases this with rfl | rfl | rfl | rfl | rfl <;> assumption
              (repeat' (first | (intro ex hex; have hq := hg1 (by omega) hex; subst hq; clear hex) | (intro ex hex; have hq := hg2 (by omega) hex; subst hq; clear hex) | (refine Ev.go ?_; conv => whnf) | refine And.intro ?_ ?_ | exact True.intro | exact rfl | (intro rx hrx; rw [IntWalk.i64_in _ (by omega)] at hrx) | (intro hcx; exfalso; omega) | intro _))
              all_goals (first | (refine ⟨?_⟩; exact vk) | exact cl | skip)
              all_goals (try exact ⟨sh5 _ _ _ _ _⟩)
              all_goals (try (rename_i hq; exfalso; refine hq ?_; simp only [capU_n, c0, c1, c2, c3, c4, Bool.not_false, Bool.and_true]; done))
              refine TWq.loop (fun k : Nat => [(80, .int .i64 k), (10, .junk)]) (fun k => [(3, .arr 3 1 (ints (tab s.members.length (finU s.members f need (outU s.members f need o s.members.length) k))))]) (fun k => k ≤ s.members.length) (fun k => s.members.length - k) 0 [] [] ?_ (by omega) ?_
              · (repeat' (first | (intro ex hex; have hq := hg1 (by omega) hex; subst hq; clear hex) | (intro ex hex; have hq := hg2 (by omega) hex; subst hq; clear hex) | (refine Ev.go ?_; conv => whnf) | refine And.intro ?_ ?_ | exact True.intro | exact rfl | (intro rx hrx; rw [IntWalk.i64_in _ (by omega)] at hrx) | (intro hcx; exfalso; omega) | intro _))
                all_goals (first | (refine ⟨?_⟩; exact vc) | exact cl | skip)
                all_goals (exact ⟨congrArg ints (tab_congr fun i _ => finU_0 i)⟩)
              · intro k hk
                rcases Nat.lt_or_ge k s.members.length with hkl | hkl
                · have hLk : (ints (tab s.members.length (finU s.members f need (outU s.members f need o s.members.length) k))).length = s.members.length := by rw [ints_len, tab_len]
                  have hg1 : ∀ {n : Nat} {e : SV}, n = k → (ints (tab s.members.length (finU s.members f need (outU s.members f need o s.members.length) k)))[n]? = some e → e = .int .i64 (finU s.members f need (outU s.members f need o s.members.length) k k) := by
                    rintro n e rfl he
                    obtain ⟨x, hx, rfl⟩ := ints_at he
                    simp only [tab, List.getElem?_map, List.getElem?_range hkl, Option.map_some, Option.some.injEq] at hx
                    rw [hx]
                  have hat := fl5_at (g := f) (k := k) (by omega)
                  have hat2 := fi5_at (g := shareF s.members f need) (k := k) (by omega)
                  cases hf : f k
                  · rw [hf] at hat
                    (repeat' (first | (intro ex hex; have hq := hg1 (by omega) hex; subst hq; clear hex) | (intro ex hex; have hq := hg2 (by omega) hex; subst hq; clear hex) | (refine Ev.go ?_; conv => whnf) | refine And.intro ?_ ?_ | exact True.intro | exact rfl | (intro rx hrx; rw [IntWalk.i64_in _ (by omega)] at hrx) | (intro hcx; exfalso; omega) | intro _))
                    all_goals (first | (refine ⟨?_⟩; exact vc) | exact cl | skip)
                    refine getK_of hat ?_
                    (repeat' (first | (intro ex hex; have hq := hg1 (by omega) hex; subst hq; clear hex) | (intro ex hex; have hq := hg2 (by omega) hex; subst hq; clear hex) | (refine Ev.go ?_; conv => whnf) | refine And.intro ?_ ?_ | exact True.intro | exact rfl | (intro rx hrx; rw [IntWalk.i64_in _ (by omega)] at hrx) | (intro hcx; exfalso; omega) | intro _))
                    all_goals (first | (refine ⟨?_⟩; exact vc) | exact cl | skip)
                    refine ⟨⟨k + 1, by omega, by omega, ?_⟩⟩
                    (repeat' (first | (intro ex hex; have hq := hg1 (by omega) hex; subst hq; clear hex) | (intro ex hex; have hq := hg2 (by omega) hex; subst hq; clear hex) | (refine Ev.go ?_; conv => whnf) | refine And.intro ?_ ?_ | exact True.intro | exact rfl | (intro rx hrx; rw [IntWalk.i64_in _ (by omega)] at hrx) | (intro hcx; exfalso; omega) | intro _))
                    all_goals (first | (refine ⟨?_⟩; exact vc) | exact cl | skip)
                    all_goals (exact ⟨congrArg ints (tab_congr fun i _ => finU_not hf i)⟩)
                  · rw [hf] at hat
                    (repeat' (first | (intro ex hex; have hq := hg1 (by omega) hex; subst hq; clear hex) | (intro ex hex; have hq := hg2 (by omega) hex; subst hq; clear hex) | (refine Ev.go ?_; conv => whnf) | refine And.intro ?_ ?_ | exact True.intro | exact rfl | (intro rx hrx; rw [IntWalk.i64_in _ (by omega)] at hrx) | (intro hcx; exfalso; omega) | intro _))
                    all_goals (first | (refine ⟨?_⟩; exact vc) | exact cl | skip)
                    refine getK_of hat ?_
                    (repeat' (first | (intro ex hex; have hq := hg1 (by omega) hex; subst hq; clear hex) | (intro ex hex; have hq := hg2 (by omega) hex; subst hq; clear hex) | (refine Ev.go ?_; conv => whnf) | refine And.intro ?_ ?_ | exact True.intro | exact rfl | (intro rx hrx; rw [IntWalk.i64_in _ (by omega)] at hrx) | (intro hcx; exfalso; omega) | intro _))
                    all_goals (first | (refine ⟨?_⟩; exact vc) | exact cl | skip)
                    refine getK_of hat2 ?_
                    (repeat' (first | (intro ex hex; have hq := hg1 (by omega) hex; subst hq; clear hex) | (intro ex hex; have hq := hg2 (by omega) hex; subst hq; clear hex) | (refine Ev.go ?_; conv => whnf) | refine And.intro ?_ ?_ | exact True.intro | exact rfl | (intro rx hrx; rw [IntWalk.i64_in _ (by omega)] at hrx) | (intro hcx; exfalso; omega) | intro _))
                    all_goals (first | (refine ⟨?_⟩; exact vc) | exact cl | skip)
                    refine ⟨⟨k + 1, by omega, by omega, ?_⟩⟩
                    (repeat' (first | (intro ex hex; have hq := hg1 (by omega) hex; subst hq; clear hex) | (intro ex hex; have hq := hg2 (by omega) hex; subst hq; clear hex) | (refine Ev.go ?_; conv => whnf) | refine And.intro ?_ ?_ | exact True.intro | exact rfl | (intro rx hrx; rw [IntWalk.i64_in _ (by omega)] at hrx) | (intro hcx; exfalso; omega) | intro _))
                    all_goals (first | (refine ⟨?_⟩; exact vc) | exact cl | skip)
                    all_goals (exact ⟨tab_set _ (finU_at hf) (fun i hi => finU_other hi)⟩)
                · have hke : k = s.members.length := by omega
                  subst hke
                  (repeat' (first | (intro ex hex; have hq := hg1 (by omega) hex; subst hq; clear hex) | (intro ex hex; have hq := hg2 (by omega) hex; subst hq; clear hex) | (refine Ev.go ?_; conv => whnf) | refine And.intro ?_ ?_ | exact True.intro | exact rfl | (intro rx hrx; rw [IntWalk.i64_in _ (by omega)] at hrx) | (intro hcx; exfalso; omega) | intro _))
                  all_goals (first | (refine ⟨?_⟩; exact vc) | exact cl | skip)
                  · refine ⟨congrArg ints ?_⟩
                    rw [he]
                    refine tab_congr fun i hi => ?_
                    simp only [finU, outU, hi, hcn i hi, true_and, and_true, Bool.false_eq_true, and_false, if_false]
                  · change SV.tup [.own 3, .int .i64 0] = _
                    rw [he]
            · (repeat' (first | (intro ex hex; have hq := hg1 (by omega) hex; subst hq; clear hex) | (intro ex hex; have hq := hg2 (by omega) hex; subst hq; clear hex) | (refine Ev.go ?_; conv => whnf) | refine And.intro ?_ ?_ | exact True.intro | exact rfl | (intro rx hrx; rw [IntWalk.i64_in _ (by omega)] at hrx) | (intro hcx; exfalso; omega) | intro _))
              all_goals (first | (refine ⟨?_⟩; exact vk) | exact cl | skip)
              all_goals (try exact ⟨sh5 _ _ _ _ _⟩)
              all_goals (try (rename_i hq; exfalso; simp only [SV.agg.injEq, List.cons.injEq, SV.bool.injEq, and_true, capU_n] at hq; simp only [any5, Bool.or_eq_true] at hcap; obtain ⟨q0, q1, q2, q3, q4⟩ := hq; rcases hcap with h | h | h | h | h <;> (have hfi := (cap_quo h).2.1; simp_all); done))
              have hstep : callsF s.members (t + 1) f need o = callsF s.members t (fun i => f i && !capF s.members f need i) (needF s.members (capF s.members f need) need s.members.length) (fun i => if capF s.members f need i = true then mst s.members i else o i) := by
                show (if any5 f = false then _ else if any5 (capF s.members f need) = false then _ else _) = _
                rw [if_neg (by rw [ha]; simp), if_neg (by rw [hcap]; simp)]
              have hcl := cntB_lt hcap (fun i h => (cap_quo h).2.1)
              have hI' : CallI s.members f0 need0 t (fun i => f i && !capF s.members f need i) (needF s.members (capF s.members f need) need s.members.length) (fun i => if capF s.members f need i = true then mst s.members i else o i) :=
                ⟨hI.eq.trans hstep, by have := hI.cnt; omega, fun i hi => hI.lt i (by simp only [Bool.and_eq_true] at hi; exact hi.1), hnb _ (Nat.le_refl _)⟩
              refine ⟨⟨(t, _, _, _), hI', by dsimp only; omega, ?_⟩⟩
              (repeat' (first | (intro ex hex; have hq := hg1 (by omega) hex; subst hq; clear hex) | (intro ex hex; have hq := hg2 (by omega) hex; subst hq; clear hex) | (refine Ev.go ?_; conv => whnf) | refine And.intro ?_ ?_ | exact True.intro | exact rfl | (intro rx hrx; rw [IntWalk.i64_in _ (by omega)] at hrx) | (intro hcx; exfalso; omega) | intro _))
              all_goals (first | (refine ⟨?_⟩; exact vc) | exact cl | skip)
              all_goals (first | exact ⟨capU_n _⟩ | (refine ⟨congrArg ints (tab_congr fun i hi => ?_)⟩; show outU s.members f need o s.members.length i = if capF s.members f need i = true then mst s.members i else o i; simp only [outU, hi, true_and]))
end Go.Proofs.Ythnaamkempmjkaa
