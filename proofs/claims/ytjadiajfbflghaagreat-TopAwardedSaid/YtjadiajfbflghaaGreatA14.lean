/- Cases: how a case ends in a truth. TopAwarded, the plain law: an award and what the society pays of the fee are losses of a society. The words' answer for cases: small functions, lists that rise. The words' answer for cases: a tariff that is valid. The words' answer for cases: the error of tariffs. The words' answer for cases: the error of a case; cases that are thin. -/
import Derived.Test.YtjadiajfbflghaaGreatA11
import Derived.Test.YtjadiajfbflghaaGreatA13
import Derived.Test.YtjadiajfbflghaaGreatA9
set_option linter.unusedSimpArgs false
set_option linter.unusedVariables false
set_option linter.unusedSimpArgs false
set_option linter.unusedVariables false
open Go Go.TV
namespace Go.Proofs.YtjadiajfbflghaaGreat
def PlayQ' (c : Cas) (t : List Thr) (s : SV) : Prop := ∃ cs : SV, s = .tup [.agg [cs, .int .i64 (smAt c t c.flds.length).aw, .int .i64 ((smAt c t c.flds.length).fees c.fee).1, .int .i64 ((smAt c t c.flds.length).fees c.fee).2], .int .i64 0] ∧ (cs = .nils ∨ ∃ m, cs = .sl 1 (ints m))
def encSmC (s : Sm) : List SV := [.int .i64 s.aw, .int .i64 s.l0, .int .i64 s.l1, .int .i64 s.l2, .int .i64 s.l3]
set_option maxRecDepth 100000 in
set_option maxHeartbeats 8000000 in
theorem c14' (c : Cas) (t : List Thr) (h : OkC c) (ht : TruthF c.flds t) : PF Tryz.prog 14 [encCas c, .sl 3 (encThrs t)] (PlayQ' c t) := by
  obtain ⟨a, ha, _⟩ := first_of h
  have hz := encFlds_len c.flds
  have hw := encThrs_len t
  have hfew := h.few
  have hlen := ht.1
  have d1 := c54 c h
  have d2 := c58 c t (by omega) ht
  refine PF.of (TF.ev fn_14 (Ev.at ?_))
  (repeat' (first | (intro ex hex; (first | have hq := hg1 (by omega) hex | have hq := hg2 (by omega) hex); subst hq; clear hex) | (refine Ev.go ?_; conv => whnf) | refine And.intro ?_ ?_ | exact True.intro | exact rfl | (intro rx hrx; rw [ij _ (by omega)] at hrx) | (intro hcx; exfalso; omega) | intro _))
  all_goals (first | (refine ⟨?_⟩; exact vc) | exact cl | skip)
  refine TSq.pureC d1 (by simp [cloL, encCas_clo]) rfl (And.intro rfl rfl) ?_
  (repeat' (first | (intro ex hex; (first | have hq := hg1 (by omega) hex | have hq := hg2 (by omega) hex); subst hq; clear hex) | (refine Ev.go ?_; conv => whnf) | refine And.intro ?_ ?_ | exact True.intro | exact rfl | (intro rx hrx; rw [ij _ (by omega)] at hrx) | (intro hcx; exfalso; omega) | intro _))
  all_goals (first | (refine ⟨?_⟩; exact vc) | exact cl | skip)
  refine TSq.pureC d2 (by simp [cloL, clo, encCas_clo, encThrs_clo]) rfl (And.intro rfl rfl) ?_
  (repeat' (first | (intro ex hex; (first | have hq := hg1 (by omega) hex | have hq := hg2 (by omega) hex); subst hq; clear hex) | (refine Ev.go ?_; conv => whnf) | refine And.intro ?_ ?_ | exact True.intro | exact rfl | (intro rx hrx; rw [ij _ (by omega)] at hrx) | (intro hcx; exfalso; omega) | intro _))
  all_goals (first | (refine ⟨?_⟩; exact vc) | exact cl | skip)
  refine TWq.loopP (fun p : Nat × List Int => [(29, .int .i64 p.1), (5, .int .i64 0), (6, .int .i64 0)])
    (fun p => [(2, .cells [match p.2 with | [] => .nils | _ :: _ => .own 4, .int .i64 0, .int .i64 0, .int .i64 0]), (3, .cells (encSmC (smAt c t p.1))), (4, match p.2 with | [] => .dead | _ :: _ => .arr 3 1 (ints p.2))])
    (fun p => p.1 ≤ c.flds.length ∧ p.2.length = p.1) (fun p => c.flds.length - p.1) (0, []) [] ?_ ⟨by omega, rfl⟩ ?_
  · (repeat' (first | (intro ex hex; (first | have hq := hg1 (by omega) hex | have hq := hg2 (by omega) hex); subst hq; clear hex) | (refine Ev.go ?_; conv => whnf) | refine And.intro ?_ ?_ | exact True.intro | exact rfl | (intro rx hrx; rw [ij _ (by omega)] at hrx) | (intro hcx; exfalso; omega) | intro _))
    all_goals (first | (refine ⟨?_⟩; exact vc) | exact cl | skip)
  · rintro ⟨k, l⟩ ⟨hk, hl⟩
    dsimp only at hk hl ⊢
    have hs := smAt_ok h ht k hk
    obtain ⟨s1, s2, s3, s4, s5⟩ := hs
    rcases Nat.lt_or_ge k c.flds.length with hkl | hkl
    · obtain ⟨f, hf⟩ : ∃ v, c.flds[k]? = some v := ⟨_, List.getElem?_eq_getElem hkl⟩
      obtain ⟨x, hx⟩ : ∃ v, t[k]? = some v := ⟨_, List.getElem?_eq_getElem (by omega)⟩
      have hfm := List.mem_of_getElem? hf
      have o := h.flds a ha f hfm
      obtain ⟨⟨b1, b2, b3⟩, b4, b5, b6⟩ := out_ok h hfm (ht.2 k f x hf hx)
      have d3 := c59 f x b1 b2 b3
      have d4 := c60 c f (settleF f x).1 a h.tfs ha o.crop o.value h.day b4
      have d5 := c61 (smAt c t k) (outF c f x) (by omega) (by omega) (by omega) b6
      rw [← smAt_succ hf hx] at d5
      have hg1 : ∀ {n : Nat} {e : SV}, n = k → (encFlds c.flds)[n]? = some e → e = encFld f := by
        rintro n e rfl he
        obtain ⟨y, hy, rfl⟩ := encFlds_at he
        rw [hf] at hy; cases hy; rfl
      have hg2 : ∀ {n : Nat} {e : SV}, n = k → (encThrs t)[n]? = some e → e = encThr x := by
        rintro n e rfl he
        obtain ⟨y, hy, rfl⟩ := encThrs_at he
        rw [hx] at hy; cases hy; rfl
      rcases l with _ | ⟨b, l⟩
      all_goals
        (repeat' (first | (intro ex hex; (first | have hq := hg1 (by omega) hex | have hq := hg2 (by omega) hex); subst hq; clear hex) | (refine Ev.go ?_; conv => whnf) | refine And.intro ?_ ?_ | exact True.intro | exact rfl | (intro rx hrx; rw [ij _ (by omega)] at hrx) | (intro hcx; exfalso; omega) | intro _))
        all_goals (first | (refine ⟨?_⟩; exact vk) | exact cl | skip)
        refine TDq.pureC d3 (by simp [cloL, encFld_clo, clo, encThr]) rfl (And.intro rfl rfl) ?_
        (repeat' (first | (intro ex hex; (first | have hq := hg1 (by omega) hex | have hq := hg2 (by omega) hex); subst hq; clear hex) | (refine Ev.go ?_; conv => whnf) | refine And.intro ?_ ?_ | exact True.intro | exact rfl | (intro rx hrx; rw [ij _ (by omega)] at hrx) | (intro hcx; exfalso; omega) | intro _))
        all_goals (first | (refine ⟨?_⟩; exact vk) | exact cl | skip)
        refine TSq.pureC d4 (by simp [cloL, encFld_clo, encCas_clo, clo]) rfl (And.intro rfl rfl) ?_
        (repeat' (first | (intro ex hex; (first | have hq := hg1 (by omega) hex | have hq := hg2 (by omega) hex); subst hq; clear hex) | (refine Ev.go ?_; conv => whnf) | refine And.intro ?_ ?_ | exact True.intro | exact rfl | (intro rx hrx; rw [ij _ (by omega)] at hrx) | (intro hcx; exfalso; omega) | intro _))
        all_goals (first | (refine ⟨?_⟩; exact vc) | exact cl | skip)
        refine TSq.pureC d5 (by simp [cloL, encSm, clo]) rfl (And.intro rfl rfl) ?_
        (repeat' (first | (intro ex hex; (first | have hq := hg1 (by omega) hex | have hq := hg2 (by omega) hex); subst hq; clear hex) | (refine Ev.go ?_; conv => whnf) | refine And.intro ?_ ?_ | exact True.intro | exact rfl | (intro rx hrx; rw [ij _ (by omega)] at hrx) | (intro hcx; exfalso; omega) | intro _))
        all_goals (first | (refine ⟨?_⟩; exact vc) | exact cl | skip)
        all_goals (try (refine ⟨?_⟩; simp [ints_len, catS, repl]; simp at hl; omega))
        all_goals (refine ⟨⟨[(4, 7)], (k + 1, _ ++ [(settleF f x).1]), ⟨by dsimp only; omega, by rw [List.length_append, hl]; rfl⟩, by dsimp only; omega, ?_⟩⟩)
        (repeat' (first | (intro ex hex; (first | have hq := hg1 (by omega) hex | have hq := hg2 (by omega) hex); subst hq; clear hex) | (refine Ev.go ?_; conv => whnf) | refine And.intro ?_ ?_ | exact True.intro | exact rfl | (intro rx hrx; rw [ij _ (by omega)] at hrx) | (intro hcx; exfalso; omega) | intro _))
        all_goals (first | (refine ⟨?_⟩; exact vc) | exact cl | skip)
        all_goals (try (refine ⟨?_⟩; first | exact ints_clo _ | (simp [ints, catS, repl, chunks]; done)))
    · have hke : k = c.flds.length := by omega
      subst hke
      have d6 := c62 (smAt c t c.flds.length) c.fee (by omega) h.fee
      rcases l with _ | ⟨b, l⟩
      all_goals
        (repeat' (first | (intro ex hex; (first | have hq := hg1 (by omega) hex | have hq := hg2 (by omega) hex); subst hq; clear hex) | (refine Ev.go ?_; conv => whnf) | refine And.intro ?_ ?_ | exact True.intro | exact rfl | (intro rx hrx; rw [ij _ (by omega)] at hrx) | (intro hcx; exfalso; omega) | intro _))
        all_goals (first | (refine ⟨?_⟩; exact vc) | exact cl | skip)
        refine TSq.pureC d6 (by simp [cloL, clo, encSm]) rfl (And.intro rfl rfl) ?_
        (repeat' (first | (intro ex hex; (first | have hq := hg1 (by omega) hex | have hq := hg2 (by omega) hex); subst hq; clear hex) | (refine Ev.go ?_; conv => whnf) | refine And.intro ?_ ?_ | exact True.intro | exact rfl | (intro rx hrx; rw [ij _ (by omega)] at hrx) | (intro hcx; exfalso; omega) | intro _))
        all_goals (first | (refine ⟨?_⟩; exact vc) | exact cl | skip)
        all_goals (try (refine ⟨?_⟩; exact ints_clo _))
        all_goals (first | exact ⟨_, rfl, .inl rfl⟩ | exact ⟨_, rfl, .inr ⟨_, rfl⟩⟩)
def PlayQ (c : Cas) (t : List Thr) (s : SV) : Prop := ∃ m : List Int, s = .tup [.agg [.sl 1 (ints m), .int .i64 (smAt c t c.flds.length).aw, .int .i64 ((smAt c t c.flds.length).fees c.fee).1, .int .i64 ((smAt c t c.flds.length).fees c.fee).2], .int .i64 0]
theorem c14 (c : Cas) (t : List Thr) (h : OkC c) (ht : TruthF c.flds t) : PF Tryz.prog 14 [encCas c, .sl 3 (encThrs t)] (PlayQ c t) := by
  refine PF.res (c14' c t h ht) fun v hv _ => ?_
  obtain ⟨cs, rfl, hcs⟩ := hv
  rcases hcs with rfl | ⟨m, rfl⟩
  · refine ⟨_, ⟨[], rfl⟩, by simp [clo, cloL], ?_⟩
    (repeat' (first | (refine Ev.go ?_; conv => whnf) | refine And.intro ?_ ?_ | exact True.intro | exact rfl | (intro rx hrx; rw [ij _ (by omega)] at hrx) | (intro hcx; exfalso; omega) | intro _))
    all_goals (first | (refine ⟨?_⟩; exact vc) | exact cl | skip)
  · refine ⟨_, ⟨m, rfl⟩, by simp [clo, cloL], ?_⟩
    (repeat' (first | (refine Ev.go ?_; conv => whnf) | refine And.intro ?_ ?_ | exact True.intro | exact rfl | (intro rx hrx; rw [ij _ (by omega)] at hrx) | (intro hcx; exfalso; omega) | intro _))
    all_goals (first | (refine ⟨?_⟩; exact vc) | exact cl | skip)
end Go.Proofs.YtjadiajfbflghaaGreat
set_option linter.unusedSimpArgs false
set_option linter.unusedVariables false
open Go Go.TV
namespace Go.Proofs.YtjadiajfbflghaaGreat
theorem reach_truth {c : Cas} {outs : List (List (Int × Int))} (hO : OutsAll c c.flds.length outs) {t : List Thr} (ht : TruthF c.flds t) : smAt c t c.flds.length ∈ reachS outs sm0 := by
  have hl := hO.1
  have key : ∀ d k, k + d = c.flds.length → smAt c t c.flds.length ∈ reachS (outs.drop k) (smAt c t k) := by
    intro d
    induction d with
    | zero =>
      intro k hk
      obtain rfl : k = c.flds.length := by omega
      rw [List.drop_eq_nil_of_le (by omega)]
      simp [reachS]
    | succ d ih =>
      intro k hk
      obtain ⟨f, hf⟩ : ∃ v, c.flds[k]? = some v := ⟨_, List.getElem?_eq_getElem (by omega)⟩
      obtain ⟨x, hx⟩ : ∃ v, t[k]? = some v := ⟨_, List.getElem?_eq_getElem (by have := ht.1; omega)⟩
      obtain ⟨m, hm⟩ : ∃ v, outs[k]? = some v := ⟨_, List.getElem?_eq_getElem (by omega)⟩
      have hd : outs.drop k = m :: outs.drop (k + 1) := by
        rw [List.drop_eq_getElem_cons (by omega)]
        congr 1
        exact (List.getElem?_eq_some_iff.1 hm).2
      have := ih (k + 1) (by omega)
      rw [smAt_succ hf hx] at this
      rw [hd, reachS, List.mem_flatMap]
      exact ⟨_, ((hO.2 k f m (by omega) hf hm).2 _).2 ⟨x, truths_mem.2 (ht.2 k f x hf hx), rfl⟩, this⟩
  exact key c.flds.length 0 (by omega)
theorem fees_le {k : Nat} {s : Sm} (h : OkS k s) {fee : Int} (hf : 0 ≤ fee) : (0 ≤ (s.fees fee).1 ∧ (s.fees fee).1 ≤ fee) ∧ 0 ≤ (s.fees fee).2 ∧ (s.fees fee).2 ≤ fee := by
  unfold Sm.fees
  split
  · dsimp only; omega
  · split
    · dsimp only; omega
    · split <;> (dsimp only; omega)
def socX (s : Soc) (lo hi so : Int) : Soc := ⟨s.members, [⟨lo, hi⟩, ⟨so, so⟩], ⟨0, 0⟩, 0⟩
theorem faultX {s : Soc} (h : fault s = 0) {lo hi so : Int} (h1 : 0 ≤ lo ∧ lo ≤ hi ∧ hi ≤ 100000 ∧ hi - lo ≤ 30) (h2 : 0 ≤ so ∧ so ≤ 100000) : fault (socX s lo hi so) = 0 := by
  have hl := fault_len h
  have hm : s.members.length ≠ 0 ∧ s.members.all Mem.valid = true := by
    unfold fault at h
    split at h
    · cases h
    · split at h
      · rename_i hv
        simp only [Soc.valid, Bool.and_eq_true, decide_eq_true_eq] at hv
        exact ⟨hv.1, hv.2.1⟩
      · cases h
  unfold fault
  rw [if_neg (by simp [socX]; omega), if_pos]
  simp only [Soc.valid, socX, Bool.and_eq_true, decide_eq_true_eq]
  refine ⟨decide_eq_true hm.1, hm.2, ?_, rfl, rfl⟩
  simp only [List.all_cons, List.all_nil, Bool.and_true, Bool.and_eq_true, Rng.pence, decide_eq_true_eq]
  omega
theorem truthX {s : Soc} {lo hi so aw : Int} (h1 : lo ≤ aw ∧ aw ≤ hi) : isTruth (socX s lo hi so) ⟨[aw, so], 0⟩ = true := by
  refine isTruth_at.2 ⟨rfl, rfl, fun i r v hr hv => ?_⟩
  match i with
  | 0 =>
    simp [socX] at hr hv
    subst hr; subst hv
    simp only [Rng.has, within, decide_eq_true_eq]; exact h1
  | 1 =>
    simp [socX] at hr hv
    subst hr; subst hv
    simp only [Rng.has, within, decide_eq_true_eq]; omega
  | i + 2 => simp [socX] at hr
theorem needX {s : Soc} {lo hi so aw : Int} (h1 : 0 ≤ aw) (h2 : 0 ≤ so) : needOf (socX s lo hi so) (sumL [aw, so]) 0 = aw + so := by
  simp only [needOf, socX, sumL, List.foldl_cons, List.foldl_nil]; omega
theorem needRX {s : Soc} (h : fault s = 0) {lo hi so aw : Int} (h1 : 0 ≤ lo ∧ lo ≤ hi ∧ hi ≤ 100000 ∧ hi - lo ≤ 30) (h2 : 0 ≤ so ∧ so ≤ 100000) (h3 : lo ≤ aw ∧ aw ≤ hi) : needR (socX s lo hi so) ⟨[aw, so], 0⟩ = (aw + so, 0) := by
  simp only [needR, if_neg (show ¬ fault (socX s lo hi so) ≠ 0 by rw [faultX h h1 h2]; simp), if_pos (truthX h3)]
  rw [needX (by omega) h2.1]
theorem inX {s : Soc} (h : fault s = 0) {lo hi so aw : Int} (h1 : 0 ≤ lo ∧ lo ≤ hi ∧ hi ≤ 100000 ∧ hi - lo ≤ 30) (h2 : 0 ≤ so ∧ so ≤ 100000) (h3 : lo ≤ aw ∧ aw ≤ hi) :
    aw + so ∈ every (needsOf (socX s lo hi so)) ∧ ∀ k, k < s.members.length → ∃ (r : Rng) (a : Int), (boundsOf (socX s lo hi so) [])[k]? = some r ∧ (callsOf (socX s lo hi so) [] (aw + so)).1[k]? = some a ∧ r.lo ≤ a ∧ a ≤ r.hi := by
  have h0 := faultX h h1 h2
  have hne : aw + so ∈ every (needsOf (socX s lo hi so)) := every_mem.2 (by
    simp only [needsOf, needOf, socX, los, his, sumL, List.map_cons, List.map_nil, List.foldl_cons, List.foldl_nil]; omega)
  have hnn := needs_le h0
  refine ⟨hne, fun k hk => ?_⟩
  refine ⟨_, _, by rw [boundsOf_eq h0]; simp only [List.getElem?_map, List.getElem?_range (show k < (socX s lo hi so).members.length from hk)]; rfl, calls_at (s := socX s lo hi so) (out := []) (n := aw + so) hk, ?_⟩
  exact (bndF_is (fun n => (callsF (socX s lo hi so).members 6 (askF (socX s lo hi so).members []) n fun _ => 0).1 k) (every (needsOf (socX s lo hi so))) (every_ne hnn.1.2)).2.2 (aw + so) hne
end Go.Proofs.YtjadiajfbflghaaGreat
set_option linter.unusedSimpArgs false
set_option linter.unusedVariables false
open Go Go.TV
namespace Go.Proofs.YtjadiajfbflghaaGreat
theorem c50 (n lo hi : Int) : PF Tryz.prog 50 [.int .i64 n, .int .i64 lo, .int .i64 hi] (· = .bool (within n lo hi)) := by
  refine PF.of (TF.ev fn_50 (Ev.at ?_))
  (repeat' (first | (refine Ev.go ?_; conv => whnf) | refine And.intro ?_ ?_ | exact True.intro | exact rfl | (intro rx hrx; rw [ij _ (by omega)] at hrx) | (intro hcx; exfalso; omega) | intro _))
  all_goals (rw [SV.bool_iff]; simp [within]; omega)
theorem c51 (r : Rng) : PF Tryz.prog 51 [encR r] (· = .bool r.cntB) := by
  refine PF.of (TF.ev fn_51 (Ev.at ?_))
  (repeat' (first | (refine Ev.go ?_; conv => whnf) | refine And.intro ?_ ?_ | exact True.intro | exact rfl | (intro rx hrx; rw [ij _ (by omega)] at hrx) | (intro hcx; exfalso; omega) | intro _))
  all_goals (rw [SV.bool_iff]; simp only [Rng.cntB, Bool.and_eq_true, decide_eq_true_eq]; simp; omega)
theorem c31 (l : List Tf) (t : Tf) (ht : l[0]? = some t) (hl : t.rates.length ≤ 1000) (hll : l.length ≤ 1000) : PF Tryz.prog 31 [.sl 6 (encTfs l)] (· = .int .i64 t.rates.length) := by
  have hz := encTfs_len l
  have hw := encCrs_len t.rates
  have h0 := (List.getElem?_eq_some_iff.1 ht).1
  have hg1 : ∀ {n : Nat} {e : SV}, n = 0 → (encTfs l)[n]? = some e → e = encTf t := by
    rintro n e rfl he
    obtain ⟨x, hx, rfl⟩ := encTfs_at he
    rw [ht] at hx; cases hx; rfl
  refine PF.of (TF.ev fn_31 (Ev.at ?_))
  (repeat' (first | (intro ex hex; have hq := hg1 (by omega) hex; subst hq; clear hex) | (refine Ev.go ?_; conv => whnf) | refine And.intro ?_ ?_ | exact True.intro | exact rfl | (intro rx hrx; rw [ij _ (by omega)] at hrx) | (intro hcx; exfalso; omega) | intro _))
  all_goals (first | (refine ⟨?_⟩; exact vc) | exact cl | skip)
  all_goals (try rw [hw])
theorem goR_of {m : Int} : ∀ {l : List Int} {a : Int}, (∀ x ∈ l, 0 ≤ x ∧ x ≤ m) → (∀ x, l[0]? = some x → a < x) → (∀ (i : Nat) (x y : Int), l[i]? = some x → l[i + 1]? = some y → x < y) → goR a m l = true
  | [], _, _, _, _ => rfl
  | x :: l, a, h1, h2, h3 => by
    have hx := h1 x (List.mem_cons_self ..)
    have ha := h2 x rfl
    simp only [goR, Bool.and_eq_true, within, decide_eq_true_eq]
    refine ⟨by omega, goR_of (fun y hy => h1 y (List.mem_cons_of_mem _ hy)) (fun y hy => h3 0 x y rfl (by simpa using hy)) fun i u v hu hv => h3 (i + 1) u v (by simpa using hu) (by simpa using hv)⟩
theorem rising_of {l : List Int} {m : Int} (h1 : ∀ x ∈ l, 0 ≤ x ∧ x ≤ m) (h2 : l[0]? = some 0) (h3 : ∀ (i : Nat) (x y : Int), l[i]? = some x → l[i + 1]? = some y → x < y) : risingB l m = true := by
  simp only [risingB, Bool.and_eq_true, decide_eq_true_eq]
  refine ⟨(List.getElem?_eq_some_iff.1 h2).1, by rw [← h2]; cases l <;> rfl, goR_of h1 (fun x hx => by rw [h2] at hx; cases hx; omega) h3⟩
set_option maxRecDepth 100000 in
set_option maxHeartbeats 4000000 in
theorem c136 (l : List Int) (m : Int) (hl : l.length ≤ 1000) : PF Tryz.prog 136 [.sl 1 (ints l), .int .i64 m] (· = .bool (risingB l m)) := by
  have hz := ints_len l
  refine PF.of (TF.ev fn_136 (Ev.at ?_))
  (repeat' (first | (intro ex hex; (first | have hq := hg1 (by omega) hex | have hq := hg2 (by omega) hex | have hq := hg3 (by omega) hex); subst hq; clear hex) | (refine Ev.go ?_; conv => whnf) | refine And.intro ?_ ?_ | exact True.intro | exact rfl | (intro rx hrx; rw [ij _ (by omega)] at hrx) | (intro hcx; exfalso; omega) | intro _))
  refine TWq.loop (fun k : Nat => [(5, .int .i64 k)]) (fun _ => []) (fun k => k ≤ l.length ∧ (∀ x ∈ l.take k, 0 ≤ x ∧ x ≤ m) ∧ ∀ (i : Nat) (x y : Int), i + 1 < k → l[i]? = some x → l[i + 1]? = some y → x < y) (fun k => l.length - k) 0 [] [] ?_ ⟨by omega, by simp, fun i x y hi => by omega⟩ ?_
  · (repeat' (first | (intro ex hex; (first | have hq := hg1 (by omega) hex | have hq := hg2 (by omega) hex | have hq := hg3 (by omega) hex); subst hq; clear hex) | (refine Ev.go ?_; conv => whnf) | refine And.intro ?_ ?_ | exact True.intro | exact rfl | (intro rx hrx; rw [ij _ (by omega)] at hrx) | (intro hcx; exfalso; omega) | intro _))
    all_goals (first | (refine ⟨?_⟩; exact vc) | exact cl | skip)
  · rintro k ⟨hk, q1, q2⟩
    rcases Nat.lt_or_ge k l.length with hkl | hkl
    · obtain ⟨v, hv⟩ : ∃ v, l[k]? = some v := ⟨_, List.getElem?_eq_getElem hkl⟩
      have hg1 : ∀ {n : Nat} {e : SV}, n = k → (ints l)[n]? = some e → e = .int .i64 v := by
        rintro n e rfl he
        obtain ⟨x, hx, rfl⟩ := ints_at he
        rw [hv] at hx; cases hx; rfl
      have hin : within v 0 m = true → ∀ x ∈ l.take (k + 1), 0 ≤ x ∧ x ≤ m := fun hw x hx => by
        rw [take_snoc hv] at hx
        rcases List.mem_append.1 hx with h | h
        · exact q1 x h
        · simp at h; subst h
          simpa only [within, decide_eq_true_eq] using hw
      have hout : within v 0 m = false → risingB l m = false := fun hw => by
        cases hb : risingB l m with
        | false => rfl
        | true =>
          have := (rise_of hb).2.2 v (List.mem_of_getElem? hv)
          simp only [within, decide_eq_false_iff_not] at hw
          omega
      rcases Nat.eq_zero_or_pos k with h0 | h0
      · subst h0
        (repeat' (first | (intro ex hex; (first | have hq := hg1 (by omega) hex | have hq := hg2 (by omega) hex | have hq := hg3 (by omega) hex); subst hq; clear hex) | (refine Ev.go ?_; conv => whnf) | refine And.intro ?_ ?_ | exact True.intro | exact rfl | (intro rx hrx; rw [ij _ (by omega)] at hrx) | (intro hcx; exfalso; omega) | intro _))
        all_goals (first | (refine ⟨?_⟩; exact vk) | exact cl | skip)
        refine TDq.pureBC (c50 v 0 m) cl rfl (And.intro rfl rfl) ?_ ?_ <;> intro hb
        · (repeat' (first | (intro ex hex; (first | have hq := hg1 (by omega) hex | have hq := hg2 (by omega) hex | have hq := hg3 (by omega) hex); subst hq; clear hex) | (refine Ev.go ?_; conv => whnf) | refine And.intro ?_ ?_ | exact True.intro | exact rfl | (intro rx hrx; rw [ij _ (by omega)] at hrx) | (intro hcx; exfalso; omega) | intro _))
          all_goals (first | (refine ⟨?_⟩; exact vk) | exact cl | skip)
          all_goals (try (exfalso; omega))
          refine ⟨⟨1, ⟨by omega, hin hb, fun i x y hi => by omega⟩, by omega, ?_⟩⟩
          (repeat' (first | (intro ex hex; (first | have hq := hg1 (by omega) hex | have hq := hg2 (by omega) hex | have hq := hg3 (by omega) hex); subst hq; clear hex) | (refine Ev.go ?_; conv => whnf) | refine And.intro ?_ ?_ | exact True.intro | exact rfl | (intro rx hrx; rw [ij _ (by omega)] at hrx) | (intro hcx; exfalso; omega) | intro _))
          all_goals (first | (refine ⟨?_⟩; exact vc) | exact cl | skip)
        · (repeat' (first | (intro ex hex; (first | have hq := hg1 (by omega) hex | have hq := hg2 (by omega) hex | have hq := hg3 (by omega) hex); subst hq; clear hex) | (refine Ev.go ?_; conv => whnf) | refine And.intro ?_ ?_ | exact True.intro | exact rfl | (intro rx hrx; rw [ij _ (by omega)] at hrx) | (intro hcx; exfalso; omega) | intro _))
          all_goals (first | (refine ⟨?_⟩; exact vk) | exact cl | skip)
          rw [hout hb]
      · obtain ⟨u, hu⟩ : ∃ v, l[k - 1]? = some v := ⟨_, List.getElem?_eq_getElem (by omega)⟩
        have hg2 : ∀ {n : Nat} {e : SV}, n = k - 1 → (ints l)[n]? = some e → e = .int .i64 u := by
          rintro n e rfl he
          obtain ⟨x, hx, rfl⟩ := ints_at he
          rw [hu] at hx; cases hx; rfl
        (repeat' (first | (intro ex hex; (first | have hq := hg1 (by omega) hex | have hq := hg2 (by omega) hex | have hq := hg3 (by omega) hex); subst hq; clear hex) | (refine Ev.go ?_; conv => whnf) | refine And.intro ?_ ?_ | exact True.intro | exact rfl | (intro rx hrx; rw [ij _ (by omega)] at hrx) | (intro hcx; exfalso; omega) | intro _))
        all_goals (first | (refine ⟨?_⟩; exact vk) | exact cl | skip)
        refine TDq.pureBC (c50 v 0 m) cl rfl (And.intro rfl rfl) ?_ ?_ <;> intro hb
        · (repeat' (first | (intro ex hex; (first | have hq := hg1 (by omega) hex | have hq := hg2 (by omega) hex | have hq := hg3 (by omega) hex); subst hq; clear hex) | (refine Ev.go ?_; conv => whnf) | refine And.intro ?_ ?_ | exact True.intro | exact rfl | (intro rx hrx; rw [ij _ (by omega)] at hrx) | (intro hcx; exfalso; omega) | intro _))
          all_goals (first | (refine ⟨?_⟩; exact vk) | exact cl | skip)
          all_goals (try (exfalso; omega))
          · have hf : risingB l m = false := by
              cases hb' : risingB l m with
              | false => rfl
              | true =>
                have := (rise_of hb').1 (k - 1) k u v (by omega) hu hv
                omega
            rw [hf]
          · refine ⟨⟨k + 1, ⟨by omega, hin hb, fun i x y hi hx hy => ?_⟩, by omega, ?_⟩⟩
            · rcases Nat.lt_or_ge (i + 1) k with h | h
              · exact q2 i x y h hx hy
              · obtain rfl : i = k - 1 := by omega
                rw [show k - 1 + 1 = k by omega, hv] at hy
                rw [hu] at hx
                cases hx; cases hy; omega
            · (repeat' (first | (intro ex hex; (first | have hq := hg1 (by omega) hex | have hq := hg2 (by omega) hex | have hq := hg3 (by omega) hex); subst hq; clear hex) | (refine Ev.go ?_; conv => whnf) | refine And.intro ?_ ?_ | exact True.intro | exact rfl | (intro rx hrx; rw [ij _ (by omega)] at hrx) | (intro hcx; exfalso; omega) | intro _))
              all_goals (first | (refine ⟨?_⟩; exact vc) | exact cl | skip)
        · (repeat' (first | (intro ex hex; (first | have hq := hg1 (by omega) hex | have hq := hg2 (by omega) hex | have hq := hg3 (by omega) hex); subst hq; clear hex) | (refine Ev.go ?_; conv => whnf) | refine And.intro ?_ ?_ | exact True.intro | exact rfl | (intro rx hrx; rw [ij _ (by omega)] at hrx) | (intro hcx; exfalso; omega) | intro _))
          all_goals (first | (refine ⟨?_⟩; exact vk) | exact cl | skip)
          rw [hout hb]
    · have hke : k = l.length := by omega
      subst hke
      rw [List.take_length] at q1
      rcases Nat.eq_zero_or_pos l.length with h0 | h0
      · have hrb : risingB l m = false := by
          obtain rfl := List.eq_nil_of_length_eq_zero h0
          rfl
        rw [hrb]
        (repeat' (first | (intro ex hex; (first | have hq := hg1 (by omega) hex | have hq := hg2 (by omega) hex | have hq := hg3 (by omega) hex); subst hq; clear hex) | (refine Ev.go ?_; conv => whnf) | refine And.intro ?_ ?_ | exact True.intro | exact rfl | (intro rx hrx; rw [ij _ (by omega)] at hrx) | (intro hcx; exfalso; omega) | intro _))
        all_goals (first | (refine ⟨?_⟩; exact vc) | exact cl | skip)
      · obtain ⟨b, hb0⟩ : ∃ b, l[0]? = some b := ⟨_, List.getElem?_eq_getElem h0⟩
        have hg3 : ∀ {n : Nat} {e : SV}, n = 0 → (ints l)[n]? = some e → e = .int .i64 b := by
          rintro n e rfl he
          obtain ⟨x, hx, rfl⟩ := ints_at he
          rw [hb0] at hx; cases hx; rfl
        have hrb : risingB l m = decide (b = 0) := by
          by_cases hb : b = 0
          · subst hb
            rw [rising_of q1 hb0 fun i x y hx hy => q2 i x y (List.getElem?_eq_some_iff.1 hy).1 hx hy]; rfl
          · cases hb' : risingB l m with
            | false => simp [hb]
            | true =>
              have := (rise_of hb').2.1
              rw [hb0] at this
              exact absurd (Option.some.inj this) hb
        rw [hrb]
        clear hrb
        (repeat' (first | (intro ex hex; (first | have hq := hg1 (by omega) hex | have hq := hg2 (by omega) hex | have hq := hg3 (by omega) hex); subst hq; clear hex) | (refine Ev.go ?_; conv => whnf) | refine And.intro ?_ ?_ | exact True.intro | exact rfl | (intro rx hrx; rw [ij _ (by omega)] at hrx) | (intro hcx; exfalso; omega) | intro _))
        all_goals (first | (refine ⟨?_⟩; exact vc) | exact cl | skip)
        all_goals (try (exfalso; omega))
        all_goals (try (rw [SV.bool_iff]; simp; omega))
end Go.Proofs.YtjadiajfbflghaaGreat
set_option linter.unusedSimpArgs false
set_option linter.unusedVariables false
open Go Go.TV
namespace Go.Proofs.YtjadiajfbflghaaGreat
theorem all_f {α : Type} {p : α → Bool} {l : List α} {k : Nat} {x : α} (hx : l[k]? = some x) (h : p x = false) : l.all p = false := by
  cases hb : l.all p with
  | false => rfl
  | true => rw [List.all_eq_true] at hb; rw [hb x (List.mem_of_getElem? hx)] at h; cases h
theorem all_t {α : Type} {p : α → Bool} {l : List α} (h : ∀ x ∈ l.take l.length, p x = true) : l.all p = true := by
  rw [List.take_length] at h; exact List.all_eq_true.2 h
theorem take_all {α : Type} {p : α → Bool} {l : List α} {k : Nat} {x : α} (hx : l[k]? = some x) (h : ∀ y ∈ l.take k, p y = true) (hp : p x = true) : ∀ y ∈ l.take (k + 1), p y = true := fun y hy => by
  rw [take_snoc hx] at hy
  rcases List.mem_append.1 hy with h1 | h1
  · exact h y h1
  · simp at h1; subst h1; exact hp
set_option maxRecDepth 100000 in
set_option maxHeartbeats 8000000 in
theorem c75 (t : Tf) (hf : t.few = true) : PF Tryz.prog 75 [encTf t] (· = .bool t.valid) := by
  simp only [Tf.few, Bool.and_eq_true, decide_eq_true_eq] at hf
  obtain ⟨f1, f2, f3⟩ := hf
  have hw1 := ints_len t.weeks
  have hw2 := ints_len t.counts
  have hw3 := encCrs_len t.rates
  have d1 := c50 t.frm 0 120
  have d2 := c50 t.least 0 100
  have d3 := c136 t.weeks 120 (by omega)
  have d4 := c136 t.counts 100 (by omega)
  have hV : t.valid = (within t.frm 0 120 && (within t.least 0 100 && (risingB t.weeks 120 && (decide (1 < t.counts.length) && (risingB t.counts 100 && (decide (t.counts.getLast? = some 100) && (decide (0 < t.rates.length) && t.rates.all t.cropB))))))) := rfl
  have hpos : risingB t.counts 100 = true → 0 < t.counts.length := fun h => (List.getElem?_eq_some_iff.1 (rise_of h).2.1).1
  have hlast : risingB t.counts 100 = true → ∀ x, t.counts[t.counts.length - 1]? = some x → (decide (1 < t.counts.length) && decide (t.counts.getLast? = some 100)) = decide (x = 100) := fun h x hx => by
    rw [List.getLast?_eq_getElem?, hx]
    by_cases h1 : x = 100
    · subst h1
      have : 1 < t.counts.length := by
        rcases Nat.lt_or_ge 1 t.counts.length with h2 | h2
        · exact h2
        · have h3 := hpos h
          have h4 := (rise_of h).2.1
          rw [show t.counts.length - 1 = 0 by omega, h4] at hx
          cases hx
      simp [this]
    · simp [h1]
  have hcrop : ∀ (i : Nat) (cr : List (List Int)), t.rates[i]? = some cr → t.cropB cr = false → t.rates.all t.cropB = false := fun i cr h1 h2 => all_f h1 h2
  have hcB : ∀ cr : List (List Int), t.cropB cr = (decide (cr.length = t.weeks.length) && cr.all t.weekB) := fun _ => rfl
  have hwB : ∀ r : List Int, t.weekB r = (decide (r.length = t.counts.length) && r.all fun n => within n 0 100) := fun _ => rfl
  generalize t.valid = W at *
  refine PF.of (TF.ev fn_75 (Ev.at ?_))
  (repeat' (first | (intro ex hex; (first | have hq := hg1 (by omega) hex | have hq := hg2 (by omega) hex | have hq := hg3 (by omega) hex); subst hq; clear hex) | (refine Ev.go ?_; conv => whnf) | refine And.intro ?_ ?_ | exact True.intro | exact rfl | (intro rx hrx; rw [ij _ (by omega)] at hrx) | (intro hcx; exfalso; omega) | intro _))
  all_goals (first | (refine ⟨?_⟩; exact vc) | exact cl | skip)
  refine TSq.pureBC d1 cl rfl (And.intro rfl rfl) ?_ ?_ <;> intro hb1
  rotate_left
  · rw [hb1, Bool.false_and] at hV
    rw [hV]
    (repeat' (first | (intro ex hex; (first | have hq := hg1 (by omega) hex | have hq := hg2 (by omega) hex | have hq := hg3 (by omega) hex); subst hq; clear hex) | (refine Ev.go ?_; conv => whnf) | refine And.intro ?_ ?_ | exact True.intro | exact rfl | (intro rx hrx; rw [ij _ (by omega)] at hrx) | (intro hcx; exfalso; omega) | intro _))
    all_goals (first | (refine ⟨?_⟩; exact vc) | exact cl | skip)
    all_goals (try rfl)
  rw [hb1, Bool.true_and] at hV
  (repeat' (first | (intro ex hex; (first | have hq := hg1 (by omega) hex | have hq := hg2 (by omega) hex | have hq := hg3 (by omega) hex); subst hq; clear hex) | (refine Ev.go ?_; conv => whnf) | refine And.intro ?_ ?_ | exact True.intro | exact rfl | (intro rx hrx; rw [ij _ (by omega)] at hrx) | (intro hcx; exfalso; omega) | intro _))
  refine TSq.pureBC d2 cl rfl (And.intro rfl rfl) ?_ ?_ <;> intro hb2
  rotate_left
  · rw [hb2, Bool.false_and] at hV
    rw [hV]
    (repeat' (first | (intro ex hex; (first | have hq := hg1 (by omega) hex | have hq := hg2 (by omega) hex | have hq := hg3 (by omega) hex); subst hq; clear hex) | (refine Ev.go ?_; conv => whnf) | refine And.intro ?_ ?_ | exact True.intro | exact rfl | (intro rx hrx; rw [ij _ (by omega)] at hrx) | (intro hcx; exfalso; omega) | intro _))
    all_goals (first | (refine ⟨?_⟩; exact vc) | exact cl | skip)
    all_goals (try rfl)
  rw [hb2, Bool.true_and] at hV
  (repeat' (first | (intro ex hex; (first | have hq := hg1 (by omega) hex | have hq := hg2 (by omega) hex | have hq := hg3 (by omega) hex); subst hq; clear hex) | (refine Ev.go ?_; conv => whnf) | refine And.intro ?_ ?_ | exact True.intro | exact rfl | (intro rx hrx; rw [ij _ (by omega)] at hrx) | (intro hcx; exfalso; omega) | intro _))
  refine TSq.pureBC d3 cl rfl (And.intro rfl rfl) ?_ ?_ <;> intro hb3
  rotate_left
  · rw [hb3, Bool.false_and] at hV
    rw [hV]
    (repeat' (first | (intro ex hex; (first | have hq := hg1 (by omega) hex | have hq := hg2 (by omega) hex | have hq := hg3 (by omega) hex); subst hq; clear hex) | (refine Ev.go ?_; conv => whnf) | refine And.intro ?_ ?_ | exact True.intro | exact rfl | (intro rx hrx; rw [ij _ (by omega)] at hrx) | (intro hcx; exfalso; omega) | intro _))
    all_goals (first | (refine ⟨?_⟩; exact vc) | exact cl | skip)
    all_goals (try rfl)
  rw [hb3, Bool.true_and] at hV
  (repeat' (first | (intro ex hex; (first | have hq := hg1 (by omega) hex | have hq := hg2 (by omega) hex | have hq := hg3 (by omega) hex); subst hq; clear hex) | (refine Ev.go ?_; conv => whnf) | refine And.intro ?_ ?_ | exact True.intro | exact rfl | (intro rx hrx; rw [ij _ (by omega)] at hrx) | (intro hcx; exfalso; omega) | intro _))
  refine TSq.pureBC d4 cl rfl (And.intro rfl rfl) ?_ ?_ <;> intro hb4
  rotate_left
  · rw [hb4, Bool.false_and, Bool.and_false] at hV
    rw [hV]
    (repeat' (first | (intro ex hex; (first | have hq := hg1 (by omega) hex | have hq := hg2 (by omega) hex | have hq := hg3 (by omega) hex); subst hq; clear hex) | (refine Ev.go ?_; conv => whnf) | refine And.intro ?_ ?_ | exact True.intro | exact rfl | (intro rx hrx; rw [ij _ (by omega)] at hrx) | (intro hcx; exfalso; omega) | intro _))
    all_goals (first | (refine ⟨?_⟩; exact vc) | exact cl | skip)
    all_goals (try rfl)
  have hp := hpos hb4
  obtain ⟨x, hx⟩ : ∃ v, t.counts[t.counts.length - 1]? = some v := ⟨_, List.getElem?_eq_getElem (by omega)⟩
  have hl := hlast hb4 x hx
  rw [hb4, Bool.true_and, ← Bool.and_assoc, hl] at hV
  have hg1 : ∀ {n : Nat} {e : SV}, n = t.counts.length - 1 → (ints t.counts)[n]? = some e → e = .int .i64 x := by
    rintro n e rfl he
    obtain ⟨y, hy, rfl⟩ := ints_at he
    rw [hx] at hy; cases hy; rfl
  (repeat' (first | (intro ex hex; (first | have hq := hg1 (by omega) hex | have hq := hg2 (by omega) hex | have hq := hg3 (by omega) hex); subst hq; clear hex) | (refine Ev.go ?_; conv => whnf) | refine And.intro ?_ ?_ | exact True.intro | exact rfl | (intro rx hrx; rw [ij _ (by omega)] at hrx) | (intro hcx; exfalso; omega) | intro _))
  all_goals (first | (refine ⟨?_⟩; exact vc) | exact cl | skip)
  · rw [hV, decide_eq_false (by omega : ¬ 0 < t.rates.length), Bool.false_and, Bool.and_false]
  rotate_left
  · rw [hV, decide_eq_false (by omega : ¬ x = 100), Bool.false_and]
  rw [decide_eq_true (by omega : x = 100), decide_eq_true (by omega : 0 < t.rates.length), Bool.true_and, Bool.true_and] at hV
  clear hlast hl hg1
  refine TWq.loop (fun k : Nat => [(3, .int .i64 k)]) (fun _ => []) (fun k => k ≤ t.rates.length ∧ ∀ cr ∈ t.rates.take k, t.cropB cr = true) (fun k => t.rates.length - k) 0 [] [] ?_ ⟨by omega, by simp⟩ ?_
  · (repeat' (first | (intro ex hex; (first | have hq := hg1 (by omega) hex | have hq := hg2 (by omega) hex | have hq := hg3 (by omega) hex); subst hq; clear hex) | (refine Ev.go ?_; conv => whnf) | refine And.intro ?_ ?_ | exact True.intro | exact rfl | (intro rx hrx; rw [ij _ (by omega)] at hrx) | (intro hcx; exfalso; omega) | intro _))
    all_goals (first | (refine ⟨?_⟩; exact vc) | exact cl | skip)
  · rintro k ⟨hk, q1⟩
    rcases Nat.lt_or_ge k t.rates.length with hkl | hkl
    · obtain ⟨cr, hcr⟩ : ∃ v, t.rates[k]? = some v := ⟨_, List.getElem?_eq_getElem hkl⟩
      have hg1 : ∀ {n : Nat} {e : SV}, n = k → (encCrs t.rates)[n]? = some e → e = encCr cr := by
        rintro n e rfl he
        obtain ⟨y, hy, rfl⟩ := encCrs_at he
        rw [hcr] at hy; cases hy; rfl
      have hw4 := encIss_len cr
      have hbad : t.cropB cr = false → W = false := fun h => by rw [hV]; exact hcrop k cr hcr h
      have hB := hcB cr
      (repeat' (first | (intro ex hex; (first | have hq := hg1 (by omega) hex | have hq := hg2 (by omega) hex | have hq := hg3 (by omega) hex); subst hq; clear hex) | (refine Ev.go ?_; conv => whnf) | refine And.intro ?_ ?_ | exact True.intro | exact rfl | (intro rx hrx; rw [ij _ (by omega)] at hrx) | (intro hcx; exfalso; omega) | intro _))
      all_goals (first | (refine ⟨?_⟩; exact vk) | exact cl | skip)
      rotate_left
      · rw [hbad (by rw [hB, decide_eq_false (by omega), Bool.false_and])]
      rw [decide_eq_true (by omega), Bool.true_and] at hB
      refine TWq.loop (fun j : Nat => [(4, .int .i64 j)]) (fun _ => []) (fun j => j ≤ cr.length ∧ ∀ r ∈ cr.take j, t.weekB r = true) (fun j => cr.length - j) 0 [] [] ?_ ⟨by omega, by simp⟩ ?_
      · (repeat' (first | (intro ex hex; (first | have hq := hg1 (by omega) hex | have hq := hg2 (by omega) hex | have hq := hg3 (by omega) hex); subst hq; clear hex) | (refine Ev.go ?_; conv => whnf) | refine And.intro ?_ ?_ | exact True.intro | exact rfl | (intro rx hrx; rw [ij _ (by omega)] at hrx) | (intro hcx; exfalso; omega) | intro _))
        all_goals (first | (refine ⟨?_⟩; exact vc) | exact cl | skip)
      · rintro j ⟨hj, q2⟩
        rcases Nat.lt_or_ge j cr.length with hjl | hjl
        · obtain ⟨r, hr⟩ : ∃ v, cr[j]? = some v := ⟨_, List.getElem?_eq_getElem hjl⟩
          have hg2 : ∀ {n : Nat} {e : SV}, n = j → (encIss cr)[n]? = some e → e = encIs r := by
            rintro n e rfl he
            obtain ⟨y, hy, rfl⟩ := encIss_at he
            rw [hr] at hy; cases hy; rfl
          have hw5 := ints_len r
          have hbad2 : t.weekB r = false → W = false := fun h => hbad (by rw [hB]; exact all_f hr h)
          have hR := hwB r
          (repeat' (first | (intro ex hex; (first | have hq := hg1 (by omega) hex | have hq := hg2 (by omega) hex | have hq := hg3 (by omega) hex); subst hq; clear hex) | (refine Ev.go ?_; conv => whnf) | refine And.intro ?_ ?_ | exact True.intro | exact rfl | (intro rx hrx; rw [ij _ (by omega)] at hrx) | (intro hcx; exfalso; omega) | intro _))
          all_goals (first | (refine ⟨?_⟩; exact vk) | exact cl | skip)
          rotate_left
          · rw [hbad2 (by rw [hR, decide_eq_false (by omega), Bool.false_and])]
          rw [decide_eq_true (by omega), Bool.true_and] at hR
          refine TWq.loop (fun i : Nat => [(5, .int .i64 i)]) (fun _ => []) (fun i => i ≤ r.length ∧ ∀ n ∈ r.take i, within n 0 100 = true) (fun i => r.length - i) 0 [] [] ?_ ⟨by omega, by simp⟩ ?_
          · (repeat' (first | (intro ex hex; (first | have hq := hg1 (by omega) hex | have hq := hg2 (by omega) hex | have hq := hg3 (by omega) hex); subst hq; clear hex) | (refine Ev.go ?_; conv => whnf) | refine And.intro ?_ ?_ | exact True.intro | exact rfl | (intro rx hrx; rw [ij _ (by omega)] at hrx) | (intro hcx; exfalso; omega) | intro _))
            all_goals (first | (refine ⟨?_⟩; exact vc) | exact cl | skip)
          · rintro i ⟨hi, q3⟩
            rcases Nat.lt_or_ge i r.length with hil | hil
            · obtain ⟨n, hn⟩ : ∃ v, r[i]? = some v := ⟨_, List.getElem?_eq_getElem hil⟩
              have hg3 : ∀ {m : Nat} {e : SV}, m = i → (ints r)[m]? = some e → e = .int .i64 n := by
                rintro m e rfl he
                obtain ⟨y, hy, rfl⟩ := ints_at he
                rw [hn] at hy; cases hy; rfl
              (repeat' (first | (intro ex hex; (first | have hq := hg1 (by omega) hex | have hq := hg2 (by omega) hex | have hq := hg3 (by omega) hex); subst hq; clear hex) | (refine Ev.go ?_; conv => whnf) | refine And.intro ?_ ?_ | exact True.intro | exact rfl | (intro rx hrx; rw [ij _ (by omega)] at hrx) | (intro hcx; exfalso; omega) | intro _))
              all_goals (first | (refine ⟨?_⟩; exact vc) | exact cl | skip)
              refine TSq.pureBC (c50 n 0 100) cl rfl (And.intro rfl rfl) ?_ ?_ <;> intro hb
              · (repeat' (first | (intro ex hex; (first | have hq := hg1 (by omega) hex | have hq := hg2 (by omega) hex | have hq := hg3 (by omega) hex); subst hq; clear hex) | (refine Ev.go ?_; conv => whnf) | refine And.intro ?_ ?_ | exact True.intro | exact rfl | (intro rx hrx; rw [ij _ (by omega)] at hrx) | (intro hcx; exfalso; omega) | intro _))
                all_goals (first | (refine ⟨?_⟩; exact vc) | exact cl | skip)
                refine ⟨⟨i + 1, ⟨by omega, take_all hn q3 hb⟩, by omega, ?_⟩⟩
                (repeat' (first | (intro ex hex; (first | have hq := hg1 (by omega) hex | have hq := hg2 (by omega) hex | have hq := hg3 (by omega) hex); subst hq; clear hex) | (refine Ev.go ?_; conv => whnf) | refine And.intro ?_ ?_ | exact True.intro | exact rfl | (intro rx hrx; rw [ij _ (by omega)] at hrx) | (intro hcx; exfalso; omega) | intro _))
                all_goals (first | (refine ⟨?_⟩; exact vc) | exact cl | skip)
              · rw [hbad2 (by rw [hR]; exact all_f (p := fun n => within n 0 100) hn hb)]
                (repeat' (first | (intro ex hex; (first | have hq := hg1 (by omega) hex | have hq := hg2 (by omega) hex | have hq := hg3 (by omega) hex); subst hq; clear hex) | (refine Ev.go ?_; conv => whnf) | refine And.intro ?_ ?_ | exact True.intro | exact rfl | (intro rx hrx; rw [ij _ (by omega)] at hrx) | (intro hcx; exfalso; omega) | intro _))
                all_goals (first | (refine ⟨?_⟩; exact vc) | exact cl | skip)
                all_goals (try rfl)
            · have hie : i = r.length := by omega
              subst hie
              (repeat' (first | (intro ex hex; (first | have hq := hg1 (by omega) hex | have hq := hg2 (by omega) hex | have hq := hg3 (by omega) hex); subst hq; clear hex) | (refine Ev.go ?_; conv => whnf) | refine And.intro ?_ ?_ | exact True.intro | exact rfl | (intro rx hrx; rw [ij _ (by omega)] at hrx) | (intro hcx; exfalso; omega) | intro _))
              all_goals (first | (refine ⟨?_⟩; exact vc) | exact cl | skip)
              refine ⟨⟨j + 1, ⟨by omega, take_all hr q2 (by rw [hR]; exact all_t (p := fun n => within n 0 100) q3)⟩, by omega, ?_⟩⟩
              (repeat' (first | (intro ex hex; (first | have hq := hg1 (by omega) hex | have hq := hg2 (by omega) hex | have hq := hg3 (by omega) hex); subst hq; clear hex) | (refine Ev.go ?_; conv => whnf) | refine And.intro ?_ ?_ | exact True.intro | exact rfl | (intro rx hrx; rw [ij _ (by omega)] at hrx) | (intro hcx; exfalso; omega) | intro _))
              all_goals (first | (refine ⟨?_⟩; exact vc) | exact cl | skip)
        · have hje : j = cr.length := by omega
          subst hje
          (repeat' (first | (intro ex hex; (first | have hq := hg1 (by omega) hex | have hq := hg2 (by omega) hex | have hq := hg3 (by omega) hex); subst hq; clear hex) | (refine Ev.go ?_; conv => whnf) | refine And.intro ?_ ?_ | exact True.intro | exact rfl | (intro rx hrx; rw [ij _ (by omega)] at hrx) | (intro hcx; exfalso; omega) | intro _))
          all_goals (first | (refine ⟨?_⟩; exact vc) | exact cl | skip)
          refine ⟨⟨k + 1, ⟨by omega, take_all hcr q1 (by rw [hB]; exact all_t q2)⟩, by omega, ?_⟩⟩
          (repeat' (first | (intro ex hex; (first | have hq := hg1 (by omega) hex | have hq := hg2 (by omega) hex | have hq := hg3 (by omega) hex); subst hq; clear hex) | (refine Ev.go ?_; conv => whnf) | refine And.intro ?_ ?_ | exact True.intro | exact rfl | (intro rx hrx; rw [ij _ (by omega)] at hrx) | (intro hcx; exfalso; omega) | intro _))
          all_goals (first | (refine ⟨?_⟩; exact vc) | exact cl | skip)
    · have hke : k = t.rates.length := by omega
      subst hke
      rw [hV, all_t q1]
      (repeat' (first | (intro ex hex; (first | have hq := hg1 (by omega) hex | have hq := hg2 (by omega) hex | have hq := hg3 (by omega) hex); subst hq; clear hex) | (refine Ev.go ?_; conv => whnf) | refine And.intro ?_ ?_ | exact True.intro | exact rfl | (intro rx hrx; rw [ij _ (by omega)] at hrx) | (intro hcx; exfalso; omega) | intro _))
      all_goals (first | (refine ⟨?_⟩; exact vc) | exact cl | skip)
      all_goals (try rfl)
end Go.Proofs.YtjadiajfbflghaaGreat
set_option linter.unusedSimpArgs false
set_option linter.unusedVariables false
open Go Go.TV
namespace Go.Proofs.YtjadiajfbflghaaGreat
def FaultT (l : List Tf) (s : SV) : Prop := ∃ r : Int, s = .int .i64 r ∧ (r = 0 → ValidTs l)
structure UpTo (l : List Tf) (k : Nat) : Prop where
  valid : ∀ t ∈ l.take k, t.valid = true
  first : 0 < k → ∀ t, l[0]? = some t → t.frm = 0
  next : ∀ (i : Nat) (a b : Tf), i + 1 < k → l[i]? = some a → l[i + 1]? = some b → a.frm < b.frm
  crops : ∀ (i : Nat) (a b : Tf), i < k → l[0]? = some a → l[i]? = some b → b.rates.length = a.rates.length
theorem UpTo.zero (l : List Tf) : UpTo l 0 := ⟨by simp, fun h => by omega, fun i _ _ h => by omega, fun i _ _ h => by omega⟩
set_option maxRecDepth 100000 in
set_option maxHeartbeats 8000000 in
theorem c24 (l : List Tf) (hL : l.length ≤ 1000000) (hr : ∀ t ∈ l, t.weeks.length ≤ 1000000 ∧ t.counts.length ≤ 1000000 ∧ t.rates.length ≤ 1000000) : PF Tryz.prog 24 [.sl 6 (encTfs l)] (FaultT l) := by
  have hz := encTfs_len l
  refine PF.of (TF.ev fn_24 (Ev.at ?_))
  (repeat' (first | (intro ex hex; (first | have hq := hg1 (by omega) hex | have hq := hg2 (by omega) hex | have hq := hg3 (by omega) hex); subst hq; clear hex) | (refine Ev.go ?_; conv => whnf) | refine And.intro ?_ ?_ | exact True.intro | exact rfl | (intro rx hrx; rw [ij _ (by omega)] at hrx) | (intro hcx; exfalso; omega) | intro _))
  all_goals (first | (refine ⟨?_⟩; exact vc) | exact cl | skip)
  refine TWq.loop (fun k : Nat => [(3, .int .i64 k)]) (fun _ => []) (fun k => k ≤ l.length ∧ ∀ t ∈ l.take k, t.few = true) (fun k => l.length - k) 0 [] [] ?_ ⟨by omega, by simp⟩ ?_
  · (repeat' (first | (intro ex hex; (first | have hq := hg1 (by omega) hex | have hq := hg2 (by omega) hex | have hq := hg3 (by omega) hex); subst hq; clear hex) | (refine Ev.go ?_; conv => whnf) | refine And.intro ?_ ?_ | exact True.intro | exact rfl | (intro rx hrx; rw [ij _ (by omega)] at hrx) | (intro hcx; exfalso; omega) | intro _))
    all_goals (first | (refine ⟨?_⟩; exact vc) | exact cl | skip)
  · rintro k ⟨hk, q1⟩
    rcases Nat.lt_or_ge k l.length with hkl | hkl
    · obtain ⟨t, ht⟩ : ∃ v, l[k]? = some v := ⟨_, List.getElem?_eq_getElem hkl⟩
      have hg1 : ∀ {n : Nat} {e : SV}, n = k → (encTfs l)[n]? = some e → e = encTf t := by
        rintro n e rfl he
        obtain ⟨y, hy, rfl⟩ := encTfs_at he
        rw [ht] at hy; cases hy; rfl
      have hw1 := ints_len t.weeks
      have hw2 := ints_len t.counts
      have hw3 := encCrs_len t.rates
      (repeat' (first | (intro ex hex; (first | have hq := hg1 (by omega) hex | have hq := hg2 (by omega) hex | have hq := hg3 (by omega) hex); subst hq; clear hex) | (refine Ev.go ?_; conv => whnf) | refine And.intro ?_ ?_ | exact True.intro | exact rfl | (intro rx hrx; rw [ij _ (by omega)] at hrx) | (intro hcx; exfalso; omega) | intro _))
      all_goals (first | (refine ⟨?_⟩; exact vc) | exact cl | skip)
      all_goals (first | exact ⟨3, rfl, by omega⟩ | skip)
      refine ⟨⟨k + 1, ⟨by omega, take_all ht q1 ?_⟩, by omega, ?_⟩⟩
      · simp only [Tf.few, Bool.and_eq_true, decide_eq_true_eq]; omega
      · (repeat' (first | (intro ex hex; (first | have hq := hg1 (by omega) hex | have hq := hg2 (by omega) hex | have hq := hg3 (by omega) hex); subst hq; clear hex) | (refine Ev.go ?_; conv => whnf) | refine And.intro ?_ ?_ | exact True.intro | exact rfl | (intro rx hrx; rw [ij _ (by omega)] at hrx) | (intro hcx; exfalso; omega) | intro _))
        all_goals (first | (refine ⟨?_⟩; exact vc) | exact cl | skip)
    · have hke : k = l.length := by omega
      subst hke
      rw [List.take_length] at q1
      (repeat' (first | (intro ex hex; (first | have hq := hg1 (by omega) hex | have hq := hg2 (by omega) hex | have hq := hg3 (by omega) hex); subst hq; clear hex) | (refine Ev.go ?_; conv => whnf) | refine And.intro ?_ ?_ | exact True.intro | exact rfl | (intro rx hrx; rw [ij _ (by omega)] at hrx) | (intro hcx; exfalso; omega) | intro _))
      all_goals (first | (refine ⟨?_⟩; exact vc) | exact cl | skip)
      refine TWq.loop (fun j : Nat => [(4, .int .i64 j)]) (fun _ => []) (fun j => j ≤ l.length ∧ UpTo l j) (fun j => l.length - j) 0 [] [] ?_ ⟨by omega, UpTo.zero l⟩ ?_
      · (repeat' (first | (intro ex hex; (first | have hq := hg1 (by omega) hex | have hq := hg2 (by omega) hex | have hq := hg3 (by omega) hex); subst hq; clear hex) | (refine Ev.go ?_; conv => whnf) | refine And.intro ?_ ?_ | exact True.intro | exact rfl | (intro rx hrx; rw [ij _ (by omega)] at hrx) | (intro hcx; exfalso; omega) | intro _))
        all_goals (first | (refine ⟨?_⟩; exact vc) | exact cl | skip)
      · rintro j ⟨hj, q2⟩
        rcases Nat.lt_or_ge j l.length with hjl | hjl
        · obtain ⟨t, ht⟩ : ∃ v, l[j]? = some v := ⟨_, List.getElem?_eq_getElem hjl⟩
          obtain ⟨a, ha⟩ : ∃ v, l[0]? = some v := ⟨_, List.getElem?_eq_getElem (by omega)⟩
          have hg1 : ∀ {n : Nat} {e : SV}, n = j → (encTfs l)[n]? = some e → e = encTf t := by
            rintro n e rfl he
            obtain ⟨y, hy, rfl⟩ := encTfs_at he
            rw [ht] at hy; cases hy; rfl
          have hg2 : ∀ {n : Nat} {e : SV}, n = 0 → (encTfs l)[n]? = some e → e = encTf a := by
            rintro n e rfl he
            obtain ⟨y, hy, rfl⟩ := encTfs_at he
            rw [ha] at hy; cases hy; rfl
          have hw3 := encCrs_len t.rates
          have hw4 := encCrs_len a.rates
          have d1 := c75 t (q1 t (List.mem_of_getElem? ht))
          rcases Nat.eq_zero_or_pos j with h0 | h0
          · subst h0
            rw [ha] at ht
            cases ht
            have hnext : t.valid = true → t.frm = 0 → UpTo l 1 := fun h1 h2 => ⟨by rw [take_snoc ha]; simpa using h1, fun _ b hb => by rw [ha] at hb; cases hb; exact h2, fun i _ _ hi => by omega, fun i x y hi hx hy => by
              obtain rfl : i = 0 := by omega
              rw [hx] at hy; cases hy; rfl⟩
            (repeat' (first | (intro ex hex; (first | have hq := hg1 (by omega) hex | have hq := hg2 (by omega) hex | have hq := hg3 (by omega) hex); subst hq; clear hex) | (refine Ev.go ?_; conv => whnf) | refine And.intro ?_ ?_ | exact True.intro | exact rfl | (intro rx hrx; rw [ij _ (by omega)] at hrx) | (intro hcx; exfalso; omega) | intro _))
            all_goals (first | (refine ⟨?_⟩; exact vk) | exact cl | skip)
            refine TDq.pureBC d1 (by simp [cloL, clo, encTf, encCrs_clo, ints_clo]) rfl (And.intro rfl rfl) ?_ ?_ <;> intro hb
            · (repeat' (first | (intro ex hex; (first | have hq := hg1 (by omega) hex | have hq := hg2 (by omega) hex | have hq := hg3 (by omega) hex); subst hq; clear hex) | (refine Ev.go ?_; conv => whnf) | refine And.intro ?_ ?_ | exact True.intro | exact rfl | (intro rx hrx; rw [ij _ (by omega)] at hrx) | (intro hcx; exfalso; omega) | intro _))
              all_goals (first | (refine ⟨?_⟩; exact vk) | exact cl | skip)
              all_goals (try (exfalso; omega))
              all_goals (first | exact ⟨1, rfl, by omega⟩ | skip)
              refine ⟨⟨1, ⟨by omega, hnext hb (by omega)⟩, by omega, ?_⟩⟩
              (repeat' (first | (intro ex hex; (first | have hq := hg1 (by omega) hex | have hq := hg2 (by omega) hex | have hq := hg3 (by omega) hex); subst hq; clear hex) | (refine Ev.go ?_; conv => whnf) | refine And.intro ?_ ?_ | exact True.intro | exact rfl | (intro rx hrx; rw [ij _ (by omega)] at hrx) | (intro hcx; exfalso; omega) | intro _))
              all_goals (first | (refine ⟨?_⟩; exact vc) | exact cl | skip)
            · (repeat' (first | (intro ex hex; (first | have hq := hg1 (by omega) hex | have hq := hg2 (by omega) hex | have hq := hg3 (by omega) hex); subst hq; clear hex) | (refine Ev.go ?_; conv => whnf) | refine And.intro ?_ ?_ | exact True.intro | exact rfl | (intro rx hrx; rw [ij _ (by omega)] at hrx) | (intro hcx; exfalso; omega) | intro _))
              all_goals (first | (refine ⟨?_⟩; exact vk) | exact cl | skip)
          · obtain ⟨u, hu⟩ : ∃ v, l[j - 1]? = some v := ⟨_, List.getElem?_eq_getElem (by omega)⟩
            have hg3 : ∀ {n : Nat} {e : SV}, n = j - 1 → (encTfs l)[n]? = some e → e = encTf u := by
              rintro n e rfl he
              obtain ⟨y, hy, rfl⟩ := encTfs_at he
              rw [hu] at hy; cases hy; rfl
            have hnext : t.valid = true → u.frm < t.frm → t.rates.length = a.rates.length → UpTo l (j + 1) := fun h1 h2 h3 => ⟨take_all (p := Tf.valid) ht q2.valid h1, fun _ => q2.first h0, fun i x y hi hx hy => by
                rcases Nat.lt_or_ge (i + 1) j with h | h
                · exact q2.next i x y h hx hy
                · obtain rfl : i = j - 1 := by omega
                  rw [show j - 1 + 1 = j by omega, ht] at hy
                  rw [hu] at hx
                  cases hx; cases hy; exact h2, fun i x y hi hx hy => by
                rcases Nat.lt_or_ge i j with h | h
                · exact q2.crops i x y h hx hy
                · obtain rfl : i = j := by omega
                  rw [ha] at hx; rw [ht] at hy
                  cases hx; cases hy; exact h3⟩
            (repeat' (first | (intro ex hex; (first | have hq := hg1 (by omega) hex | have hq := hg2 (by omega) hex | have hq := hg3 (by omega) hex); subst hq; clear hex) | (refine Ev.go ?_; conv => whnf) | refine And.intro ?_ ?_ | exact True.intro | exact rfl | (intro rx hrx; rw [ij _ (by omega)] at hrx) | (intro hcx; exfalso; omega) | intro _))
            all_goals (first | (refine ⟨?_⟩; exact vk) | exact cl | skip)
            refine TDq.pureBC d1 (by simp [cloL, clo, encTf, encCrs_clo, ints_clo]) rfl (And.intro rfl rfl) ?_ ?_ <;> intro hb
            · (repeat' (first | (intro ex hex; (first | have hq := hg1 (by omega) hex | have hq := hg2 (by omega) hex | have hq := hg3 (by omega) hex); subst hq; clear hex) | (refine Ev.go ?_; conv => whnf) | refine And.intro ?_ ?_ | exact True.intro | exact rfl | (intro rx hrx; rw [ij _ (by omega)] at hrx) | (intro hcx; exfalso; omega) | intro _))
              all_goals (first | (refine ⟨?_⟩; exact vk) | exact cl | skip)
              all_goals (try (exfalso; omega))
              all_goals (first | exact ⟨1, rfl, by omega⟩ | skip)
              refine ⟨⟨j + 1, ⟨by omega, hnext hb (by omega) (by omega)⟩, by omega, ?_⟩⟩
              (repeat' (first | (intro ex hex; (first | have hq := hg1 (by omega) hex | have hq := hg2 (by omega) hex | have hq := hg3 (by omega) hex); subst hq; clear hex) | (refine Ev.go ?_; conv => whnf) | refine And.intro ?_ ?_ | exact True.intro | exact rfl | (intro rx hrx; rw [ij _ (by omega)] at hrx) | (intro hcx; exfalso; omega) | intro _))
              all_goals (first | (refine ⟨?_⟩; exact vc) | exact cl | skip)
            · (repeat' (first | (intro ex hex; (first | have hq := hg1 (by omega) hex | have hq := hg2 (by omega) hex | have hq := hg3 (by omega) hex); subst hq; clear hex) | (refine Ev.go ?_; conv => whnf) | refine And.intro ?_ ?_ | exact True.intro | exact rfl | (intro rx hrx; rw [ij _ (by omega)] at hrx) | (intro hcx; exfalso; omega) | intro _))
              all_goals (first | (refine ⟨?_⟩; exact vk) | exact cl | skip)
        · have hje : j = l.length := by omega
          subst hje
          have hlen3 : ¬ ((encTfs l).length : Int) > 3 := by omega
          (repeat' (first | (intro ex hex; (first | have hq := hg1 (by omega) hex | have hq := hg2 (by omega) hex | have hq := hg3 (by omega) hex); subst hq; clear hex) | (refine Ev.go ?_; conv => whnf) | refine And.intro ?_ ?_ | exact True.intro | exact rfl | (intro rx hrx; rw [ij _ (by omega)] at hrx) | (intro hcx; exfalso; omega) | intro _))
          all_goals (first | (refine ⟨?_⟩; exact vc) | exact cl | skip)
          all_goals (first | exact ⟨1, rfl, by omega⟩ | skip)
          refine ⟨0, rfl, fun _ => ⟨by omega, q1, by omega, q2.first (by omega), fun t ht => q2.valid t (by rw [List.take_length]; exact ht), fun i x y hx hy => q2.next i x y (List.getElem?_eq_some_iff.1 hy).1 hx hy, fun i x y hx hy => q2.crops i x y (List.getElem?_eq_some_iff.1 hy).1 hx hy⟩⟩
end Go.Proofs.YtjadiajfbflghaaGreat
set_option linter.unusedSimpArgs false
set_option linter.unusedVariables false
open Go Go.TV
namespace Go.Proofs.YtjadiajfbflghaaGreat
def FaultC (c : Cas) (s : SV) : Prop := ∃ r : Int, s = .int .i64 r ∧ (r = 0 → OkC c)
structure Held (l : List Tf) : Prop where
  len : l.length ≤ 1000000
  in_ : ∀ t ∈ l, t.weeks.length ≤ 1000000 ∧ t.counts.length ≤ 1000000 ∧ t.rates.length ≤ 1000000
set_option maxRecDepth 100000 in
set_option maxHeartbeats 8000000 in
theorem c7 (c : Cas) (hH : Held c.tfs) (hF : c.flds.length ≤ 1000000) : PF Tryz.prog 7 [encCas c] (FaultC c) := by
  have hz := encFlds_len c.flds
  refine PF.of (TF.ev fn_7 (Ev.at ?_))
  (repeat' (first | (intro ex hex; have hq := hg1 (by omega) hex; subst hq; clear hex) | (refine Ev.go ?_; conv => whnf) | refine And.intro ?_ ?_ | exact True.intro | exact rfl | (intro rx hrx; rw [ij _ (by omega)] at hrx) | (intro hcx; exfalso; omega) | intro _))
  all_goals (first | (refine ⟨?_⟩; exact vc) | exact cl | skip)
  refine TSq.pureQ rfl (c24 c.tfs hH.len hH.in_) (by simp [cloL, clo, encTfs_clo]) rfl (And.intro rfl rfl) ?_
  rintro s ⟨r, rfl, hr⟩ _
  by_cases hr0 : r = 0
  rotate_left
  · (repeat' (first | (intro ex hex; have hq := hg1 (by omega) hex; subst hq; clear hex) | (refine Ev.go ?_; conv => whnf) | refine And.intro ?_ ?_ | exact True.intro | exact rfl | (intro rx hrx; rw [ij _ (by omega)] at hrx) | (intro hcx; exfalso; omega) | intro _))
    all_goals (first | (refine ⟨?_⟩; exact vc) | exact cl | skip)
    exact ⟨r, rfl, fun h => by omega⟩
  subst hr0
  have hv := hr rfl
  have ha : c.tfs[0]? = some (c.tfs[0]'hv.ne) := List.getElem?_eq_getElem hv.ne
  generalize c.tfs[0]'hv.ne = a at ha
  have hfa := hv.few a (List.mem_of_getElem? ha)
  simp only [Tf.few, Bool.and_eq_true, decide_eq_true_eq] at hfa
  have hl3 := hv.len
  have d1 := c50 c.day 0 120
  have d2 := c50 c.fee 0 10000
  have d3 := c31 c.tfs a ha (by omega) (by omega)
  by_cases hfew : c.flds.length ≤ 3
  rotate_left
  · (repeat' (first | (intro ex hex; have hq := hg1 (by omega) hex; subst hq; clear hex) | (refine Ev.go ?_; conv => whnf) | refine And.intro ?_ ?_ | exact True.intro | exact rfl | (intro rx hrx; rw [ij _ (by omega)] at hrx) | (intro hcx; exfalso; omega) | intro _))
    all_goals (first | (refine ⟨?_⟩; exact vc) | exact cl | skip)
  by_cases hday : within c.day 0 120 = true
  rotate_left
  · simp only [Bool.not_eq_true] at hday
    rw [hday] at d1
    (repeat' (first | (intro ex hex; have hq := hg1 (by omega) hex; subst hq; clear hex) | (refine Ev.go ?_; conv => whnf) | refine And.intro ?_ ?_ | exact True.intro | exact rfl | (intro rx hrx; rw [ij _ (by omega)] at hrx) | (intro hcx; exfalso; omega) | intro _))
    all_goals (first | (refine ⟨?_⟩; exact vc) | exact cl | skip)
    refine TSq.pureC d1 cl rfl (And.intro rfl rfl) ?_
    (repeat' (first | (intro ex hex; have hq := hg1 (by omega) hex; subst hq; clear hex) | (refine Ev.go ?_; conv => whnf) | refine And.intro ?_ ?_ | exact True.intro | exact rfl | (intro rx hrx; rw [ij _ (by omega)] at hrx) | (intro hcx; exfalso; omega) | intro _))
    all_goals (first | (refine ⟨?_⟩; exact vc) | exact cl | skip)
  by_cases hfee : within c.fee 0 10000 = true
  rotate_left
  · simp only [Bool.not_eq_true] at hfee
    rw [hday] at d1
    rw [hfee] at d2
    (repeat' (first | (intro ex hex; have hq := hg1 (by omega) hex; subst hq; clear hex) | (refine Ev.go ?_; conv => whnf) | refine And.intro ?_ ?_ | exact True.intro | exact rfl | (intro rx hrx; rw [ij _ (by omega)] at hrx) | (intro hcx; exfalso; omega) | intro _))
    all_goals (first | (refine ⟨?_⟩; exact vc) | exact cl | skip)
    refine TSq.pureC d1 cl rfl (And.intro rfl rfl) ?_
    (repeat' (first | (intro ex hex; have hq := hg1 (by omega) hex; subst hq; clear hex) | (refine Ev.go ?_; conv => whnf) | refine And.intro ?_ ?_ | exact True.intro | exact rfl | (intro rx hrx; rw [ij _ (by omega)] at hrx) | (intro hcx; exfalso; omega) | intro _))
    refine TSq.pureC d2 cl rfl (And.intro rfl rfl) ?_
    (repeat' (first | (intro ex hex; have hq := hg1 (by omega) hex; subst hq; clear hex) | (refine Ev.go ?_; conv => whnf) | refine And.intro ?_ ?_ | exact True.intro | exact rfl | (intro rx hrx; rw [ij _ (by omega)] at hrx) | (intro hcx; exfalso; omega) | intro _))
    all_goals (first | (refine ⟨?_⟩; exact vc) | exact cl | skip)
  rw [hday] at d1
  rw [hfee] at d2
  (repeat' (first | (intro ex hex; have hq := hg1 (by omega) hex; subst hq; clear hex) | (refine Ev.go ?_; conv => whnf) | refine And.intro ?_ ?_ | exact True.intro | exact rfl | (intro rx hrx; rw [ij _ (by omega)] at hrx) | (intro hcx; exfalso; omega) | intro _))
  all_goals (first | (refine ⟨?_⟩; exact vc) | exact cl | skip)
  refine TSq.pureC d1 cl rfl (And.intro rfl rfl) ?_
  (repeat' (first | (intro ex hex; have hq := hg1 (by omega) hex; subst hq; clear hex) | (refine Ev.go ?_; conv => whnf) | refine And.intro ?_ ?_ | exact True.intro | exact rfl | (intro rx hrx; rw [ij _ (by omega)] at hrx) | (intro hcx; exfalso; omega) | intro _))
  refine TSq.pureC d2 cl rfl (And.intro rfl rfl) ?_
  (repeat' (first | (intro ex hex; have hq := hg1 (by omega) hex; subst hq; clear hex) | (refine Ev.go ?_; conv => whnf) | refine And.intro ?_ ?_ | exact True.intro | exact rfl | (intro rx hrx; rw [ij _ (by omega)] at hrx) | (intro hcx; exfalso; omega) | intro _))
  refine TWq.loop (fun k : Nat => [(4, .int .i64 k)]) (fun _ => []) (fun k => k ≤ c.flds.length ∧ ∀ f ∈ c.flds.take k, OkF a.rates.length f) (fun k => c.flds.length - k) 0 [] [] ?_ ⟨by omega, by simp⟩ ?_
  · (repeat' (first | (intro ex hex; have hq := hg1 (by omega) hex; subst hq; clear hex) | (refine Ev.go ?_; conv => whnf) | refine And.intro ?_ ?_ | exact True.intro | exact rfl | (intro rx hrx; rw [ij _ (by omega)] at hrx) | (intro hcx; exfalso; omega) | intro _))
    all_goals (first | (refine ⟨?_⟩; exact vc) | exact cl | skip)
  · rintro k ⟨hk, q1⟩
    rcases Nat.lt_or_ge k c.flds.length with hkl | hkl
    · obtain ⟨f, hf⟩ : ∃ v, c.flds[k]? = some v := ⟨_, List.getElem?_eq_getElem hkl⟩
      have hg1 : ∀ {n : Nat} {e : SV}, n = k → (encFlds c.flds)[n]? = some e → e = encFld f := by
        rintro n e rfl he
        obtain ⟨y, hy, rfl⟩ := encFlds_at he
        rw [hf] at hy; cases hy; rfl
      have e1 := c50 f.crop 0 (a.rates.length - 1)
      have e2 := c50 f.value 0 100000
      have e3 := c50 f.near 0 100
      have e4 := c51 f.fi
      have e5 := c51 f.se
      have e6 := c51 f.um
      (repeat' (first | (intro ex hex; have hq := hg1 (by omega) hex; subst hq; clear hex) | (refine Ev.go ?_; conv => whnf) | refine And.intro ?_ ?_ | exact True.intro | exact rfl | (intro rx hrx; rw [ij _ (by omega)] at hrx) | (intro hcx; exfalso; omega) | intro _))
      all_goals (first | (refine ⟨?_⟩; exact vk) | exact cl | skip)
      refine TDq.pureC d3 (by simp [cloL, clo, encTfs_clo]) rfl (And.intro rfl rfl) ?_
      (repeat' (first | (intro ex hex; have hq := hg1 (by omega) hex; subst hq; clear hex) | (refine Ev.go ?_; conv => whnf) | refine And.intro ?_ ?_ | exact True.intro | exact rfl | (intro rx hrx; rw [ij _ (by omega)] at hrx) | (intro hcx; exfalso; omega) | intro _))
      all_goals (first | (refine ⟨?_⟩; exact vk) | exact cl | skip)
      obtain rfl : rx = (a.rates.length : Int) - 1 := by omega
      refine TDq.pureBC e1 cl rfl (And.intro rfl rfl) ?_ ?_ <;> intro b1
      rotate_left
      · (repeat' (first | (intro ex hex; have hq := hg1 (by omega) hex; subst hq; clear hex) | (refine Ev.go ?_; conv => whnf) | refine And.intro ?_ ?_ | exact True.intro | exact rfl | (intro rx hrx; rw [ij _ (by omega)] at hrx) | (intro hcx; exfalso; omega) | intro _))
        all_goals (first | (refine ⟨?_⟩; exact vk) | exact cl | skip)
      (repeat' (first | (intro ex hex; have hq := hg1 (by omega) hex; subst hq; clear hex) | (refine Ev.go ?_; conv => whnf) | refine And.intro ?_ ?_ | exact True.intro | exact rfl | (intro rx hrx; rw [ij _ (by omega)] at hrx) | (intro hcx; exfalso; omega) | intro _))
      all_goals (first | (refine ⟨?_⟩; exact vk) | exact cl | skip)
      refine TDq.pureBC e2 cl rfl (And.intro rfl rfl) ?_ ?_ <;> intro b2
      rotate_left
      · (repeat' (first | (intro ex hex; have hq := hg1 (by omega) hex; subst hq; clear hex) | (refine Ev.go ?_; conv => whnf) | refine And.intro ?_ ?_ | exact True.intro | exact rfl | (intro rx hrx; rw [ij _ (by omega)] at hrx) | (intro hcx; exfalso; omega) | intro _))
        all_goals (first | (refine ⟨?_⟩; exact vk) | exact cl | skip)
      (repeat' (first | (intro ex hex; have hq := hg1 (by omega) hex; subst hq; clear hex) | (refine Ev.go ?_; conv => whnf) | refine And.intro ?_ ?_ | exact True.intro | exact rfl | (intro rx hrx; rw [ij _ (by omega)] at hrx) | (intro hcx; exfalso; omega) | intro _))
      all_goals (first | (refine ⟨?_⟩; exact vk) | exact cl | skip)
      refine TDq.pureBC e3 cl rfl (And.intro rfl rfl) ?_ ?_ <;> intro b3
      rotate_left
      · (repeat' (first | (intro ex hex; have hq := hg1 (by omega) hex; subst hq; clear hex) | (refine Ev.go ?_; conv => whnf) | refine And.intro ?_ ?_ | exact True.intro | exact rfl | (intro rx hrx; rw [ij _ (by omega)] at hrx) | (intro hcx; exfalso; omega) | intro _))
        all_goals (first | (refine ⟨?_⟩; exact vk) | exact cl | skip)
      (repeat' (first | (intro ex hex; have hq := hg1 (by omega) hex; subst hq; clear hex) | (refine Ev.go ?_; conv => whnf) | refine And.intro ?_ ?_ | exact True.intro | exact rfl | (intro rx hrx; rw [ij _ (by omega)] at hrx) | (intro hcx; exfalso; omega) | intro _))
      all_goals (first | (refine ⟨?_⟩; exact vk) | exact cl | skip)
      refine TDq.pureBC e4 cl rfl (And.intro rfl rfl) ?_ ?_ <;> intro b4
      rotate_left
      · (repeat' (first | (intro ex hex; have hq := hg1 (by omega) hex; subst hq; clear hex) | (refine Ev.go ?_; conv => whnf) | refine And.intro ?_ ?_ | exact True.intro | exact rfl | (intro rx hrx; rw [ij _ (by omega)] at hrx) | (intro hcx; exfalso; omega) | intro _))
        all_goals (first | (refine ⟨?_⟩; exact vk) | exact cl | skip)
      (repeat' (first | (intro ex hex; have hq := hg1 (by omega) hex; subst hq; clear hex) | (refine Ev.go ?_; conv => whnf) | refine And.intro ?_ ?_ | exact True.intro | exact rfl | (intro rx hrx; rw [ij _ (by omega)] at hrx) | (intro hcx; exfalso; omega) | intro _))
      all_goals (first | (refine ⟨?_⟩; exact vk) | exact cl | skip)
      refine TDq.pureBC e5 cl rfl (And.intro rfl rfl) ?_ ?_ <;> intro b5
      rotate_left
      · (repeat' (first | (intro ex hex; have hq := hg1 (by omega) hex; subst hq; clear hex) | (refine Ev.go ?_; conv => whnf) | refine And.intro ?_ ?_ | exact True.intro | exact rfl | (intro rx hrx; rw [ij _ (by omega)] at hrx) | (intro hcx; exfalso; omega) | intro _))
        all_goals (first | (refine ⟨?_⟩; exact vk) | exact cl | skip)
      (repeat' (first | (intro ex hex; have hq := hg1 (by omega) hex; subst hq; clear hex) | (refine Ev.go ?_; conv => whnf) | refine And.intro ?_ ?_ | exact True.intro | exact rfl | (intro rx hrx; rw [ij _ (by omega)] at hrx) | (intro hcx; exfalso; omega) | intro _))
      all_goals (first | (refine ⟨?_⟩; exact vk) | exact cl | skip)
      refine TDq.pureBC e6 cl rfl (And.intro rfl rfl) ?_ ?_ <;> intro b6
      rotate_left
      · (repeat' (first | (intro ex hex; have hq := hg1 (by omega) hex; subst hq; clear hex) | (refine Ev.go ?_; conv => whnf) | refine And.intro ?_ ?_ | exact True.intro | exact rfl | (intro rx hrx; rw [ij _ (by omega)] at hrx) | (intro hcx; exfalso; omega) | intro _))
        all_goals (first | (refine ⟨?_⟩; exact vk) | exact cl | skip)
      (repeat' (first | (intro ex hex; have hq := hg1 (by omega) hex; subst hq; clear hex) | (refine Ev.go ?_; conv => whnf) | refine And.intro ?_ ?_ | exact True.intro | exact rfl | (intro rx hrx; rw [ij _ (by omega)] at hrx) | (intro hcx; exfalso; omega) | intro _))
      all_goals (first | (refine ⟨?_⟩; exact vk) | exact cl | skip)
      simp only [within, decide_eq_true_eq] at b1 b2 b3
      refine ⟨⟨k + 1, ⟨by omega, fun g hg => ?_⟩, by omega, ?_⟩⟩
      · rw [take_snoc hf] at hg
        rcases List.mem_append.1 hg with h | h
        · exact q1 g h
        · simp at h; subst h; exact ⟨by omega, b2, b3, b4, b5, b6⟩
      · (repeat' (first | (intro ex hex; have hq := hg1 (by omega) hex; subst hq; clear hex) | (refine Ev.go ?_; conv => whnf) | refine And.intro ?_ ?_ | exact True.intro | exact rfl | (intro rx hrx; rw [ij _ (by omega)] at hrx) | (intro hcx; exfalso; omega) | intro _))
        all_goals (first | (refine ⟨?_⟩; exact vc) | exact cl | skip)
    · have hke : k = c.flds.length := by omega
      subst hke
      rw [List.take_length] at q1
      simp only [within, decide_eq_true_eq] at hday hfee
      (repeat' (first | (intro ex hex; have hq := hg1 (by omega) hex; subst hq; clear hex) | (refine Ev.go ?_; conv => whnf) | refine And.intro ?_ ?_ | exact True.intro | exact rfl | (intro rx hrx; rw [ij _ (by omega)] at hrx) | (intro hcx; exfalso; omega) | intro _))
      all_goals (first | (refine ⟨?_⟩; exact vc) | exact cl | skip)
      exact ⟨0, rfl, fun _ => ⟨hv, hday, hfee, hfew, fun b hb => by rw [ha] at hb; cases hb; exact q1⟩⟩
def SmallT (t : Tf) : Bool := decide (t.weeks.length ≤ 7) && (decide (t.counts.length ≤ 7) && decide (t.rates.length ≤ 5))
theorem held_of {l : List Tf} (h5 : l.length ≤ 5) (h : ∀ t ∈ l, SmallT t = true) : Held l := ⟨by omega, fun t ht => by
  have := h t ht
  simp only [SmallT, Bool.and_eq_true, decide_eq_true_eq] at this
  omega⟩
set_option maxRecDepth 100000 in
set_option maxHeartbeats 8000000 in
theorem c23 (l : List Tf) : PF Tryz.prog 23 [.sl 6 (encTfs l)] fun s => ∃ b : Bool, s = .bool b ∧ (b = true → Held l) := by
  have hz := encTfs_len l
  refine PF.of (TF.ev fn_23 (Ev.at ?_))
  by_cases h5 : l.length ≤ 5
  rotate_left
  · (repeat' (first | (intro ex hex; (first | have hq := hg1 (by omega) hex | have hq := hg2 (by omega) hex | have hq := hg3 (by omega) hex); subst hq; clear hex) | (refine Ev.go ?_; conv => whnf) | refine And.intro ?_ ?_ | exact True.intro | exact rfl | (intro rx hrx; rw [ij _ (by omega)] at hrx) | (intro hcx; exfalso; omega) | intro _))
    all_goals (first | (refine ⟨?_⟩; exact vc) | exact cl | skip)
  (repeat' (first | (intro ex hex; (first | have hq := hg1 (by omega) hex | have hq := hg2 (by omega) hex | have hq := hg3 (by omega) hex); subst hq; clear hex) | (refine Ev.go ?_; conv => whnf) | refine And.intro ?_ ?_ | exact True.intro | exact rfl | (intro rx hrx; rw [ij _ (by omega)] at hrx) | (intro hcx; exfalso; omega) | intro _))
  all_goals (try (exfalso; omega))
  all_goals (first | (refine ⟨?_⟩; exact vc) | exact cl | skip)
  refine TWq.loop (fun k : Nat => [(3, .int .i64 k)]) (fun _ => []) (fun k => k ≤ l.length ∧ ∀ t ∈ l.take k, SmallT t = true) (fun k => l.length - k) 0 [] [] ?_ ⟨by omega, by simp⟩ ?_
  · (repeat' (first | (intro ex hex; (first | have hq := hg1 (by omega) hex | have hq := hg2 (by omega) hex | have hq := hg3 (by omega) hex); subst hq; clear hex) | (refine Ev.go ?_; conv => whnf) | refine And.intro ?_ ?_ | exact True.intro | exact rfl | (intro rx hrx; rw [ij _ (by omega)] at hrx) | (intro hcx; exfalso; omega) | intro _))
    all_goals (first | (refine ⟨?_⟩; exact vc) | exact cl | skip)
  · rintro k ⟨hk, q1⟩
    rcases Nat.lt_or_ge k l.length with hkl | hkl
    · obtain ⟨t, ht⟩ : ∃ v, l[k]? = some v := ⟨_, List.getElem?_eq_getElem hkl⟩
      have hg1 : ∀ {n : Nat} {e : SV}, n = k → (encTfs l)[n]? = some e → e = encTf t := by
        rintro n e rfl he
        obtain ⟨y, hy, rfl⟩ := encTfs_at he
        rw [ht] at hy; cases hy; rfl
      have hw1 := ints_len t.weeks
      have hw2 := ints_len t.counts
      have hw3 := encCrs_len t.rates
      (repeat' (first | (intro ex hex; (first | have hq := hg1 (by omega) hex | have hq := hg2 (by omega) hex | have hq := hg3 (by omega) hex); subst hq; clear hex) | (refine Ev.go ?_; conv => whnf) | refine And.intro ?_ ?_ | exact True.intro | exact rfl | (intro rx hrx; rw [ij _ (by omega)] at hrx) | (intro hcx; exfalso; omega) | intro _))
      all_goals (first | (refine ⟨?_⟩; exact vc) | exact cl | skip)
      all_goals (first | exact ⟨_, rfl, fun h => by cases h⟩ | skip)
      have hst : SmallT t = true := by simp only [SmallT, Bool.and_eq_true, decide_eq_true_eq]; omega
      refine TWq.loop (fun j : Nat => [(4, .int .i64 j)]) (fun _ => []) (fun j => j ≤ t.rates.length) (fun j => t.rates.length - j) 0 [] [] ?_ (by omega) ?_
      · (repeat' (first | (intro ex hex; (first | have hq := hg1 (by omega) hex | have hq := hg2 (by omega) hex | have hq := hg3 (by omega) hex); subst hq; clear hex) | (refine Ev.go ?_; conv => whnf) | refine And.intro ?_ ?_ | exact True.intro | exact rfl | (intro rx hrx; rw [ij _ (by omega)] at hrx) | (intro hcx; exfalso; omega) | intro _))
        all_goals (first | (refine ⟨?_⟩; exact vc) | exact cl | skip)
      · intro j hj
        rcases Nat.lt_or_ge j t.rates.length with hjl | hjl
        · obtain ⟨cr, hcr⟩ : ∃ v, t.rates[j]? = some v := ⟨_, List.getElem?_eq_getElem hjl⟩
          have hg2 : ∀ {n : Nat} {e : SV}, n = j → (encCrs t.rates)[n]? = some e → e = encCr cr := by
            rintro n e rfl he
            obtain ⟨y, hy, rfl⟩ := encCrs_at he
            rw [hcr] at hy; cases hy; rfl
          have hw4 := encIss_len cr
          (repeat' (first | (intro ex hex; (first | have hq := hg1 (by omega) hex | have hq := hg2 (by omega) hex | have hq := hg3 (by omega) hex); subst hq; clear hex) | (refine Ev.go ?_; conv => whnf) | refine And.intro ?_ ?_ | exact True.intro | exact rfl | (intro rx hrx; rw [ij _ (by omega)] at hrx) | (intro hcx; exfalso; omega) | intro _))
          all_goals (first | (refine ⟨?_⟩; exact vc) | exact cl | skip)
          all_goals (first | exact ⟨_, rfl, fun h => by cases h⟩ | skip)
          refine TWq.loop (fun i : Nat => [(5, .int .i64 i)]) (fun _ => []) (fun i => i ≤ cr.length) (fun i => cr.length - i) 0 [] [] ?_ (by omega) ?_
          · (repeat' (first | (intro ex hex; (first | have hq := hg1 (by omega) hex | have hq := hg2 (by omega) hex | have hq := hg3 (by omega) hex); subst hq; clear hex) | (refine Ev.go ?_; conv => whnf) | refine And.intro ?_ ?_ | exact True.intro | exact rfl | (intro rx hrx; rw [ij _ (by omega)] at hrx) | (intro hcx; exfalso; omega) | intro _))
            all_goals (first | (refine ⟨?_⟩; exact vc) | exact cl | skip)
          · intro i hi
            rcases Nat.lt_or_ge i cr.length with hil | hil
            · obtain ⟨r, hr⟩ : ∃ v, cr[i]? = some v := ⟨_, List.getElem?_eq_getElem hil⟩
              have hg3 : ∀ {n : Nat} {e : SV}, n = i → (encIss cr)[n]? = some e → e = encIs r := by
                rintro n e rfl he
                obtain ⟨y, hy, rfl⟩ := encIss_at he
                rw [hr] at hy; cases hy; rfl
              (repeat' (first | (intro ex hex; (first | have hq := hg1 (by omega) hex | have hq := hg2 (by omega) hex | have hq := hg3 (by omega) hex); subst hq; clear hex) | (refine Ev.go ?_; conv => whnf) | refine And.intro ?_ ?_ | exact True.intro | exact rfl | (intro rx hrx; rw [ij _ (by omega)] at hrx) | (intro hcx; exfalso; omega) | intro _))
              all_goals (first | (refine ⟨?_⟩; exact vc) | exact cl | skip)
              all_goals (first | exact ⟨_, rfl, fun h => by cases h⟩ | skip)
              refine ⟨⟨i + 1, by omega, by omega, ?_⟩⟩
              (repeat' (first | (intro ex hex; (first | have hq := hg1 (by omega) hex | have hq := hg2 (by omega) hex | have hq := hg3 (by omega) hex); subst hq; clear hex) | (refine Ev.go ?_; conv => whnf) | refine And.intro ?_ ?_ | exact True.intro | exact rfl | (intro rx hrx; rw [ij _ (by omega)] at hrx) | (intro hcx; exfalso; omega) | intro _))
              all_goals (first | (refine ⟨?_⟩; exact vc) | exact cl | skip)
            · have hie : i = cr.length := by omega
              subst hie
              (repeat' (first | (intro ex hex; (first | have hq := hg1 (by omega) hex | have hq := hg2 (by omega) hex | have hq := hg3 (by omega) hex); subst hq; clear hex) | (refine Ev.go ?_; conv => whnf) | refine And.intro ?_ ?_ | exact True.intro | exact rfl | (intro rx hrx; rw [ij _ (by omega)] at hrx) | (intro hcx; exfalso; omega) | intro _))
              all_goals (first | (refine ⟨?_⟩; exact vc) | exact cl | skip)
              refine ⟨⟨j + 1, by omega, by omega, ?_⟩⟩
              (repeat' (first | (intro ex hex; (first | have hq := hg1 (by omega) hex | have hq := hg2 (by omega) hex | have hq := hg3 (by omega) hex); subst hq; clear hex) | (refine Ev.go ?_; conv => whnf) | refine And.intro ?_ ?_ | exact True.intro | exact rfl | (intro rx hrx; rw [ij _ (by omega)] at hrx) | (intro hcx; exfalso; omega) | intro _))
              all_goals (first | (refine ⟨?_⟩; exact vc) | exact cl | skip)
        · have hje : j = t.rates.length := by omega
          subst hje
          (repeat' (first | (intro ex hex; (first | have hq := hg1 (by omega) hex | have hq := hg2 (by omega) hex | have hq := hg3 (by omega) hex); subst hq; clear hex) | (refine Ev.go ?_; conv => whnf) | refine And.intro ?_ ?_ | exact True.intro | exact rfl | (intro rx hrx; rw [ij _ (by omega)] at hrx) | (intro hcx; exfalso; omega) | intro _))
          all_goals (first | (refine ⟨?_⟩; exact vc) | exact cl | skip)
          refine ⟨⟨k + 1, ⟨by omega, take_all (p := SmallT) ht q1 hst⟩, by omega, ?_⟩⟩
          (repeat' (first | (intro ex hex; (first | have hq := hg1 (by omega) hex | have hq := hg2 (by omega) hex | have hq := hg3 (by omega) hex); subst hq; clear hex) | (refine Ev.go ?_; conv => whnf) | refine And.intro ?_ ?_ | exact True.intro | exact rfl | (intro rx hrx; rw [ij _ (by omega)] at hrx) | (intro hcx; exfalso; omega) | intro _))
          all_goals (first | (refine ⟨?_⟩; exact vc) | exact cl | skip)
    · have hke : k = l.length := by omega
      subst hke
      rw [List.take_length] at q1
      (repeat' (first | (intro ex hex; (first | have hq := hg1 (by omega) hex | have hq := hg2 (by omega) hex | have hq := hg3 (by omega) hex); subst hq; clear hex) | (refine Ev.go ?_; conv => whnf) | refine And.intro ?_ ?_ | exact True.intro | exact rfl | (intro rx hrx; rw [ij _ (by omega)] at hrx) | (intro hcx; exfalso; omega) | intro _))
      all_goals (first | (refine ⟨?_⟩; exact vc) | exact cl | skip)
      exact ⟨_, rfl, fun _ => held_of h5 q1⟩
theorem c6 (c : Cas) : PF Tryz.prog 6 [encCas c] fun s => ∃ b : Bool, s = .bool b ∧ (b = true → Held c.tfs ∧ c.flds.length ≤ 6) := by
  have hz := encFlds_len c.flds
  refine PF.of (TF.ev fn_6 (Ev.at ?_))
  (repeat' (first | (refine Ev.go ?_; conv => whnf) | refine And.intro ?_ ?_ | exact True.intro | exact rfl | (intro rx hrx; rw [ij _ (by omega)] at hrx) | (intro hcx; exfalso; omega) | intro _))
  all_goals (first | (refine ⟨?_⟩; exact vc) | exact cl | skip)
  refine TSq.pureQ rfl (c23 c.tfs) (by simp [cloL, clo, encTfs_clo]) rfl (And.intro rfl rfl) ?_
  rintro s ⟨b, rfl, hb⟩ _
  cases b
  · (repeat' (first | (refine Ev.go ?_; conv => whnf) | refine And.intro ?_ ?_ | exact True.intro | exact rfl | (intro rx hrx; rw [ij _ (by omega)] at hrx) | (intro hcx; exfalso; omega) | intro _))
    all_goals (first | (refine ⟨?_⟩; exact vc) | exact cl | skip)
    all_goals (first | exact ⟨_, rfl, fun h => by cases h⟩ | skip)
  · by_cases h6 : c.flds.length ≤ 6
    · (repeat' (first | (refine Ev.go ?_; conv => whnf) | refine And.intro ?_ ?_ | exact True.intro | exact rfl | (intro rx hrx; rw [ij _ (by omega)] at hrx) | (intro hcx; exfalso; omega) | intro _))
      all_goals (first | (refine ⟨?_⟩; exact vc) | exact cl | skip)
      all_goals (try (exfalso; omega))
      all_goals (first | exact ⟨_, rfl, fun _ => ⟨hb rfl, h6⟩⟩ | skip)
    · (repeat' (first | (refine Ev.go ?_; conv => whnf) | refine And.intro ?_ ?_ | exact True.intro | exact rfl | (intro rx hrx; rw [ij _ (by omega)] at hrx) | (intro hcx; exfalso; omega) | intro _))
      all_goals (first | (refine ⟨?_⟩; exact vc) | exact cl | skip)
      all_goals (try (exfalso; omega))
      all_goals (first | exact ⟨_, rfl, fun h => by cases h⟩ | skip)
end Go.Proofs.YtjadiajfbflghaaGreat
