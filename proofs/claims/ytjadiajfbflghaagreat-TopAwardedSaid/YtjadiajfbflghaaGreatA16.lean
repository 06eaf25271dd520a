/- TopAwarded, the walk of the statement. -/
import Derived.Test.YtjadiajfbflghaaGreatA14
import Derived.Test.YtjadiajfbflghaaGreatA15
set_option linter.unusedSimpArgs false
set_option linter.unusedVariables false
set_option linter.unusedSimpArgs false
set_option linter.unusedVariables false
open Go Go.TV
namespace Go.Proofs.YtjadiajfbflghaaGreat
theorem TWq.seq {P : Program} {r : Fr} {x y : TCode} {S : St} {Q : Option Jump → St → Prop} (h : TWq P r x S fun j S' => match j with | none => TWq P r y S' Q | some j => Q (some j) S') : TWq P r (.seq x y) S Q := by
  rw [TWq_iff] at h ⊢
  intro hm k g a w ro Q' hk hs hr hh
  cases k <;> first | (cases hk; done) | skip
  rename_i kx ky
  simp only [comp, TCode.seq.injEq] at hk
  refine wpIn_seq (h hm kx g a w ro _ hk.1 hs hr fun j S' g' a' w' q1 q2 q3 => ?_)
  cases j with
  | none => exact (TWq_iff.1 q1) hm ky g' a' w' ro Q' hk.2 q2 (q3.ro hr) fun j S'' g'' a'' w'' r1 r2 r3 => hh j S'' g'' a'' w'' r1 r2 (q3.trans r3)
  | some j =>
    have := hh (some j) S' g' a' w' q1 q2 q3
    cases j <;> exact this
theorem TWq.go {P : Program} {r : Fr} {c : TCode} {S : St} {Q : Option Jump → St → Prop} (h : Ev (evC P r c S Q)) : TWq P r c S Q := TWq_iff.2 (evC_sound h.at)
theorem TWq.pubW {P : Program} {r : Fr} {c : TCode} {S : St} {Q : Option Jump → St → Prop} (b : Nat) (h : Ev (pubB b S fun S' => TWq P r c S' Q)) : TWq P r c S Q := by
  obtain ⟨S', h1, h2⟩ := pubB_spec h.at
  exact TWq.wk h2 h1
theorem TWq.fitW {P : Program} {r : Fr} {c : TCode} {S : St} {Q : Option Jump → St → Prop} (ch : List (Nat × SV)) (bl : List (Nat × LB)) (h : Ev (mkStK S [] ch bl fun T => Ev (fitS r.base [] S T) ∧ TWq P r c T Q)) : TWq P r c S Q := by
  obtain ⟨h1, h2⟩ := mkStK_eq h.at
  exact TWq.wk (Wk.fit [] h1.at) h2
def awa (ws : List Int) : List SV := ws.map (SV.int .u8)
theorem awa_len (ws : List Int) : (awa ws).length = ws.length := List.length_map _
set_option maxHeartbeats 16000000 in
set_option maxRecDepth 100000 in
theorem c3 (c : Cas) (s : Soc) (ws : List Int) (hw : ∀ n ∈ ws, 0 ≤ n ∧ n ≤ 255) : PF Tryz.prog 3 [encCas c, encSoc s, .sl 1 (awa ws)] (· = .bool true) := by
  have d10 := c10
  have d8 := c8 s
  have d9 := c9 s
  have d6 := c6 c
  refine PF.of (TF.of fn_3 (TWq_iff.1 (TWq.seq (TWq.go ?_))))
  (repeat' (first | (intro ex hex; obtain ⟨mx, hmx, rfl⟩ := hgx1 hex; clear hex) | (intro ex hex; obtain ⟨mx, hmx, rfl⟩ := hgx2 hex; clear hex) | (intro rx hrx; have hq := hres1 hrx (by omega); clear hrx) | (intro ex hex; (first | have hq := hg1 (by omega) hex | have hq := hg2 (by omega) hex); subst hq; clear hex) | (refine Ev.go ?_; conv => whnf) | refine And.intro ?_ ?_ | exact True.intro | exact rfl | (intro rx hrx; rw [ij _ (by omega)] at hrx) | (intro hcx; exfalso; omega) | intro _))
  refine TWq.seq (TWq.go ?_)
  (repeat' (first | (intro ex hex; obtain ⟨mx, hmx, rfl⟩ := hgx1 hex; clear hex) | (intro ex hex; obtain ⟨mx, hmx, rfl⟩ := hgx2 hex; clear hex) | (intro rx hrx; have hq := hres1 hrx (by omega); clear hrx) | (intro ex hex; (first | have hq := hg1 (by omega) hex | have hq := hg2 (by omega) hex); subst hq; clear hex) | (refine Ev.go ?_; conv => whnf) | refine And.intro ?_ ?_ | exact True.intro | exact rfl | (intro rx hrx; rw [ij _ (by omega)] at hrx) | (intro hcx; exfalso; omega) | intro _))
  all_goals (first | (refine ⟨?_⟩; exact vc) | exact cl | skip)
  refine TSq.pureQ rfl d6 (by simp [cloL, encCas_clo]) rfl (And.intro rfl rfl) ?_
  rintro v ⟨b, rfl, hb⟩ _
  cases b
  · (repeat' (first | (intro ex hex; obtain ⟨mx, hmx, rfl⟩ := hgx1 hex; clear hex) | (intro ex hex; obtain ⟨mx, hmx, rfl⟩ := hgx2 hex; clear hex) | (intro rx hrx; have hq := hres1 hrx (by omega); clear hrx) | (intro ex hex; (first | have hq := hg1 (by omega) hex | have hq := hg2 (by omega) hex); subst hq; clear hex) | (refine Ev.go ?_; conv => whnf) | refine And.intro ?_ ?_ | exact True.intro | exact rfl | (intro rx hrx; rw [ij _ (by omega)] at hrx) | (intro hcx; exfalso; omega) | intro _))
    all_goals (first | (refine ⟨?_⟩; exact vc) | exact cl | skip)
    refine TSq.pureC d10 cl rfl (And.intro rfl rfl) ?_
    (repeat' (first | (intro ex hex; obtain ⟨mx, hmx, rfl⟩ := hgx1 hex; clear hex) | (intro ex hex; obtain ⟨mx, hmx, rfl⟩ := hgx2 hex; clear hex) | (intro rx hrx; have hq := hres1 hrx (by omega); clear hrx) | (intro ex hex; (first | have hq := hg1 (by omega) hex | have hq := hg2 (by omega) hex); subst hq; clear hex) | (refine Ev.go ?_; conv => whnf) | refine And.intro ?_ ?_ | exact True.intro | exact rfl | (intro rx hrx; rw [ij _ (by omega)] at hrx) | (intro hcx; exfalso; omega) | intro _))
    try rfl
  obtain ⟨hH, h6⟩ := hb rfl
  (repeat' (first | (intro ex hex; obtain ⟨mx, hmx, rfl⟩ := hgx1 hex; clear hex) | (intro ex hex; obtain ⟨mx, hmx, rfl⟩ := hgx2 hex; clear hex) | (intro rx hrx; have hq := hres1 hrx (by omega); clear hrx) | (intro ex hex; (first | have hq := hg1 (by omega) hex | have hq := hg2 (by omega) hex); subst hq; clear hex) | (refine Ev.go ?_; conv => whnf) | refine And.intro ?_ ?_ | exact True.intro | exact rfl | (intro rx hrx; rw [ij _ (by omega)] at hrx) | (intro hcx; exfalso; omega) | intro _))
  refine TSq.pureQ rfl (c7 c hH (by omega)) (by simp [cloL, encCas_clo]) rfl (And.intro rfl rfl) ?_
  rintro v ⟨r, rfl, hr⟩ _
  by_cases hr0 : r = 0
  rotate_left
  · (repeat' (first | (intro ex hex; obtain ⟨mx, hmx, rfl⟩ := hgx1 hex; clear hex) | (intro ex hex; obtain ⟨mx, hmx, rfl⟩ := hgx2 hex; clear hex) | (intro rx hrx; have hq := hres1 hrx (by omega); clear hrx) | (intro ex hex; (first | have hq := hg1 (by omega) hex | have hq := hg2 (by omega) hex); subst hq; clear hex) | (refine Ev.go ?_; conv => whnf) | refine And.intro ?_ ?_ | exact True.intro | exact rfl | (intro rx hrx; rw [ij _ (by omega)] at hrx) | (intro hcx; exfalso; omega) | intro _))
    all_goals (first | (refine ⟨?_⟩; exact vc) | exact cl | skip)
    refine TSq.pureC d10 cl rfl (And.intro rfl rfl) ?_
    (repeat' (first | (intro ex hex; obtain ⟨mx, hmx, rfl⟩ := hgx1 hex; clear hex) | (intro ex hex; obtain ⟨mx, hmx, rfl⟩ := hgx2 hex; clear hex) | (intro rx hrx; have hq := hres1 hrx (by omega); clear hrx) | (intro ex hex; (first | have hq := hg1 (by omega) hex | have hq := hg2 (by omega) hex); subst hq; clear hex) | (refine Ev.go ?_; conv => whnf) | refine And.intro ?_ ?_ | exact True.intro | exact rfl | (intro rx hrx; rw [ij _ (by omega)] at hrx) | (intro hcx; exfalso; omega) | intro _))
    try rfl
  have hok := hr hr0
  subst hr0
  (repeat' (first | (intro ex hex; obtain ⟨mx, hmx, rfl⟩ := hgx1 hex; clear hex) | (intro ex hex; obtain ⟨mx, hmx, rfl⟩ := hgx2 hex; clear hex) | (intro rx hrx; have hq := hres1 hrx (by omega); clear hrx) | (intro ex hex; (first | have hq := hg1 (by omega) hex | have hq := hg2 (by omega) hex); subst hq; clear hex) | (refine Ev.go ?_; conv => whnf) | refine And.intro ?_ ?_ | exact True.intro | exact rfl | (intro rx hrx; rw [ij _ (by omega)] at hrx) | (intro hcx; exfalso; omega) | intro _))
  all_goals (first | (refine ⟨?_⟩; exact vc) | exact cl | skip)
  refine TSq.pureBC d8 cl rfl (And.intro rfl rfl) ?_ ?_ <;> intro hth
  rotate_left
  · (repeat' (first | (intro ex hex; obtain ⟨mx, hmx, rfl⟩ := hgx1 hex; clear hex) | (intro ex hex; obtain ⟨mx, hmx, rfl⟩ := hgx2 hex; clear hex) | (intro rx hrx; have hq := hres1 hrx (by omega); clear hrx) | (intro ex hex; (first | have hq := hg1 (by omega) hex | have hq := hg2 (by omega) hex); subst hq; clear hex) | (refine Ev.go ?_; conv => whnf) | refine And.intro ?_ ?_ | exact True.intro | exact rfl | (intro rx hrx; rw [ij _ (by omega)] at hrx) | (intro hcx; exfalso; omega) | intro _))
    all_goals (first | (refine ⟨?_⟩; exact vc) | exact cl | skip)
    refine TSq.pureC d10 cl rfl (And.intro rfl rfl) ?_
    (repeat' (first | (intro ex hex; obtain ⟨mx, hmx, rfl⟩ := hgx1 hex; clear hex) | (intro ex hex; obtain ⟨mx, hmx, rfl⟩ := hgx2 hex; clear hex) | (intro rx hrx; have hq := hres1 hrx (by omega); clear hrx) | (intro ex hex; (first | have hq := hg1 (by omega) hex | have hq := hg2 (by omega) hex); subst hq; clear hex) | (refine Ev.go ?_; conv => whnf) | refine And.intro ?_ ?_ | exact True.intro | exact rfl | (intro rx hrx; rw [ij _ (by omega)] at hrx) | (intro hcx; exfalso; omega) | intro _))
    try rfl
  (repeat' (first | (intro ex hex; obtain ⟨mx, hmx, rfl⟩ := hgx1 hex; clear hex) | (intro ex hex; obtain ⟨mx, hmx, rfl⟩ := hgx2 hex; clear hex) | (intro rx hrx; have hq := hres1 hrx (by omega); clear hrx) | (intro ex hex; (first | have hq := hg1 (by omega) hex | have hq := hg2 (by omega) hex); subst hq; clear hex) | (refine Ev.go ?_; conv => whnf) | refine And.intro ?_ ?_ | exact True.intro | exact rfl | (intro rx hrx; rw [ij _ (by omega)] at hrx) | (intro hcx; exfalso; omega) | intro _))
  refine TSq.pureC d9 cl rfl (And.intro rfl rfl) ?_
  by_cases h0 : fault s = 0
  rotate_left
  · (repeat' (first | (intro ex hex; obtain ⟨mx, hmx, rfl⟩ := hgx1 hex; clear hex) | (intro ex hex; obtain ⟨mx, hmx, rfl⟩ := hgx2 hex; clear hex) | (intro rx hrx; have hq := hres1 hrx (by omega); clear hrx) | (intro ex hex; (first | have hq := hg1 (by omega) hex | have hq := hg2 (by omega) hex); subst hq; clear hex) | (refine Ev.go ?_; conv => whnf) | refine And.intro ?_ ?_ | exact True.intro | exact rfl | (intro rx hrx; rw [ij _ (by omega)] at hrx) | (intro hcx; exfalso; omega) | intro _))
    all_goals (first | (refine ⟨?_⟩; exact vc) | exact cl | skip)
    all_goals (try (exfalso; omega))
    refine TSq.pureC d10 cl rfl (And.intro rfl rfl) ?_
    (repeat' (first | (intro ex hex; obtain ⟨mx, hmx, rfl⟩ := hgx1 hex; clear hex) | (intro ex hex; obtain ⟨mx, hmx, rfl⟩ := hgx2 hex; clear hex) | (intro rx hrx; have hq := hres1 hrx (by omega); clear hrx) | (intro ex hex; (first | have hq := hg1 (by omega) hex | have hq := hg2 (by omega) hex); subst hq; clear hex) | (refine Ev.go ?_; conv => whnf) | refine And.intro ?_ ?_ | exact True.intro | exact rfl | (intro rx hrx; rw [ij _ (by omega)] at hrx) | (intro hcx; exfalso; omega) | intro _))
    try rfl
  rw [h0]
  have hl := fault_len h0
  have hfew := hok.few
  have d12 := c12 c hok.tfs (by omega)
  (repeat' (first | (intro ex hex; obtain ⟨mx, hmx, rfl⟩ := hgx1 hex; clear hex) | (intro ex hex; obtain ⟨mx, hmx, rfl⟩ := hgx2 hex; clear hex) | (intro rx hrx; have hq := hres1 hrx (by omega); clear hrx) | (intro ex hex; (first | have hq := hg1 (by omega) hex | have hq := hg2 (by omega) hex); subst hq; clear hex) | (refine Ev.go ?_; conv => whnf) | refine And.intro ?_ ?_ | exact True.intro | exact rfl | (intro rx hrx; rw [ij _ (by omega)] at hrx) | (intro hcx; exfalso; omega) | intro _))
  all_goals (first | (refine ⟨?_⟩; exact vc) | exact cl | skip)
  refine TWq.seq (TWq.go ?_)
  (repeat' (first | (intro ex hex; obtain ⟨mx, hmx, rfl⟩ := hgx1 hex; clear hex) | (intro ex hex; obtain ⟨mx, hmx, rfl⟩ := hgx2 hex; clear hex) | (intro rx hrx; have hq := hres1 hrx (by omega); clear hrx) | (intro ex hex; (first | have hq := hg1 (by omega) hex | have hq := hg2 (by omega) hex); subst hq; clear hex) | (refine Ev.go ?_; conv => whnf) | refine And.intro ?_ ?_ | exact True.intro | exact rfl | (intro rx hrx; rw [ij _ (by omega)] at hrx) | (intro hcx; exfalso; omega) | intro _))
  refine TSq.pureC d12 (by simp [cloL, encCas_clo]) rfl (And.intro rfl rfl) ?_
  (repeat' (first | (intro ex hex; obtain ⟨mx, hmx, rfl⟩ := hgx1 hex; clear hex) | (intro ex hex; obtain ⟨mx, hmx, rfl⟩ := hgx2 hex; clear hex) | (intro rx hrx; have hq := hres1 hrx (by omega); clear hrx) | (intro ex hex; (first | have hq := hg1 (by omega) hex | have hq := hg2 (by omega) hex); subst hq; clear hex) | (refine Ev.go ?_; conv => whnf) | refine And.intro ?_ ?_ | exact True.intro | exact rfl | (intro rx hrx; rw [ij _ (by omega)] at hrx) | (intro hcx; exfalso; omega) | intro _))
  refine TSq.pureQ rfl (c11 c hok) (by simp [cloL, encCas_clo]) rfl (And.intro rfl rfl) ?_
  rintro v ⟨outs, lo, hi, q1, q2, rfl⟩ _
  obtain ⟨ok, hne⟩ := outs_ok hok q1
  have hbd : ∀ x ∈ reachS outs sm0, OkS 3 x := fun x hx => by
    have := reach_ok (fun m hm o ho => (ok.2 m hm o ho).1) okS0 hx
    have h3 := ok.1
    obtain ⟨b1, b2, b3, b4, b5⟩ := this
    exact ⟨by omega, by omega, by omega, by omega, by omega⟩
  have hlh : 0 ≤ lo ∧ lo ≤ hi ∧ hi ≤ 300000 := by
    obtain ⟨⟨x1, e1, e2⟩, ⟨x2, e3, e4⟩, e5⟩ := q2
    have := (hbd x1 e1).aw
    have := (hbd x2 e3).aw
    have := e5 x1 e1
    omega
  (repeat' (first | (intro ex hex; obtain ⟨mx, hmx, rfl⟩ := hgx1 hex; clear hex) | (intro ex hex; obtain ⟨mx, hmx, rfl⟩ := hgx2 hex; clear hex) | (intro rx hrx; have hq := hres1 hrx (by omega); clear hrx) | (intro ex hex; (first | have hq := hg1 (by omega) hex | have hq := hg2 (by omega) hex); subst hq; clear hex) | (refine Ev.go ?_; conv => whnf) | refine And.intro ?_ ?_ | exact True.intro | exact rfl | (intro rx hrx; rw [ij _ (by omega)] at hrx) | (intro hcx; exfalso; omega) | intro _))
  all_goals (first | (refine ⟨?_⟩; exact vc) | exact cl | skip)
  refine TWq.seq (TWq.go ?_)
  (repeat' (first | (intro ex hex; obtain ⟨mx, hmx, rfl⟩ := hgx1 hex; clear hex) | (intro ex hex; obtain ⟨mx, hmx, rfl⟩ := hgx2 hex; clear hex) | (intro rx hrx; have hq := hres1 hrx (by omega); clear hrx) | (intro ex hex; (first | have hq := hg1 (by omega) hex | have hq := hg2 (by omega) hex); subst hq; clear hex) | (refine Ev.go ?_; conv => whnf) | refine And.intro ?_ ?_ | exact True.intro | exact rfl | (intro rx hrx; rw [ij _ (by omega)] at hrx) | (intro hcx; exfalso; omega) | intro _))
  all_goals (try (exfalso; omega))
  all_goals (first | (refine ⟨?_⟩; exact vc) | exact cl | skip)
  refine TWq.seq (TWq.go ?_)
  by_cases hwide : hi - lo ≤ 30 ∧ hi ≤ 100000
  rotate_left
  · (repeat' (first | (intro ex hex; obtain ⟨mx, hmx, rfl⟩ := hgx1 hex; clear hex) | (intro ex hex; obtain ⟨mx, hmx, rfl⟩ := hgx2 hex; clear hex) | (intro rx hrx; have hq := hres1 hrx (by omega); clear hrx) | (intro ex hex; (first | have hq := hg1 (by omega) hex | have hq := hg2 (by omega) hex); subst hq; clear hex) | (refine Ev.go ?_; conv => whnf) | refine And.intro ?_ ?_ | exact True.intro | exact rfl | (intro rx hrx; rw [ij _ (by omega)] at hrx) | (intro hcx; exfalso; omega) | intro _))
    all_goals (try (exfalso; omega))
    all_goals (first | (refine ⟨?_⟩; exact vc) | exact cl | skip)
    all_goals
      refine TSq.pureC d10 cl rfl (And.intro rfl rfl) ?_
      (repeat' (first | (intro ex hex; obtain ⟨mx, hmx, rfl⟩ := hgx1 hex; clear hex) | (intro ex hex; obtain ⟨mx, hmx, rfl⟩ := hgx2 hex; clear hex) | (intro rx hrx; have hq := hres1 hrx (by omega); clear hrx) | (intro ex hex; (first | have hq := hg1 (by omega) hex | have hq := hg2 (by omega) hex); subst hq; clear hex) | (refine Ev.go ?_; conv => whnf) | refine And.intro ?_ ?_ | exact True.intro | exact rfl | (intro rx hrx; rw [ij _ (by omega)] at hrx) | (intro hcx; exfalso; omega) | intro _))
      try rfl
  obtain ⟨hwd, hhi⟩ := hwide
  have hz := encFlds_len c.flds
  have hzw := awa_len ws
  (repeat' (first | (intro ex hex; obtain ⟨mx, hmx, rfl⟩ := hgx1 hex; clear hex) | (intro ex hex; obtain ⟨mx, hmx, rfl⟩ := hgx2 hex; clear hex) | (intro rx hrx; have hq := hres1 hrx (by omega); clear hrx) | (intro ex hex; (first | have hq := hg1 (by omega) hex | have hq := hg2 (by omega) hex); subst hq; clear hex) | (refine Ev.go ?_; conv => whnf) | refine And.intro ?_ ?_ | exact True.intro | exact rfl | (intro rx hrx; rw [ij _ (by omega)] at hrx) | (intro hcx; exfalso; omega) | intro _))
  all_goals (try (exfalso; omega))
  all_goals (first | (refine ⟨?_⟩; exact vc) | exact cl | skip)
  refine TWq.seq (TWq.go ?_)
  (repeat' (first | (intro ex hex; obtain ⟨mx, hmx, rfl⟩ := hgx1 hex; clear hex) | (intro ex hex; obtain ⟨mx, hmx, rfl⟩ := hgx2 hex; clear hex) | (intro rx hrx; have hq := hres1 hrx (by omega); clear hrx) | (intro ex hex; (first | have hq := hg1 (by omega) hex | have hq := hg2 (by omega) hex); subst hq; clear hex) | (refine Ev.go ?_; conv => whnf) | refine And.intro ?_ ?_ | exact True.intro | exact rfl | (intro rx hrx; rw [ij _ (by omega)] at hrx) | (intro hcx; exfalso; omega) | intro _))
  refine TWq.seq (TWq.go ?_)
  (repeat' (first | (intro ex hex; obtain ⟨mx, hmx, rfl⟩ := hgx1 hex; clear hex) | (intro ex hex; obtain ⟨mx, hmx, rfl⟩ := hgx2 hex; clear hex) | (intro rx hrx; have hq := hres1 hrx (by omega); clear hrx) | (intro ex hex; (first | have hq := hg1 (by omega) hex | have hq := hg2 (by omega) hex); subst hq; clear hex) | (refine Ev.go ?_; conv => whnf) | refine And.intro ?_ ?_ | exact True.intro | exact rfl | (intro rx hrx; rw [ij _ (by omega)] at hrx) | (intro hcx; exfalso; omega) | intro _))
  refine TWq.loopP (fun p : Nat × List Thr => [(10, .int .i64 p.1), (9, match p.2 with | [] => .nils | _ :: _ => .own 3)])
    (fun p => [(3, match p.2 with | [] => .dead | _ :: _ => .arr 53 3 (encThrs p.2))])
    (fun p => p.1 ≤ c.flds.length ∧ p.2.length = p.1 ∧ ∀ (i : Nat) (f : Fld) (x : Thr), i < p.1 → c.flds[i]? = some f → p.2[i]? = some x → x ∈ truthsL f) (fun p => c.flds.length - p.1) (0, []) [] ?_ ⟨by omega, rfl, fun i _ _ hi => absurd hi (Nat.not_lt_zero i)⟩ ?_
  · (repeat' (first | (intro ex hex; obtain ⟨mx, hmx, rfl⟩ := hgx1 hex; clear hex) | (intro ex hex; obtain ⟨mx, hmx, rfl⟩ := hgx2 hex; clear hex) | (intro rx hrx; have hq := hres1 hrx (by omega); clear hrx) | (intro ex hex; (first | have hq := hg1 (by omega) hex | have hq := hg2 (by omega) hex); subst hq; clear hex) | (refine Ev.go ?_; conv => whnf) | refine And.intro ?_ ?_ | exact True.intro | exact rfl | (intro rx hrx; rw [ij _ (by omega)] at hrx) | (intro hcx; exfalso; omega) | intro _))
    all_goals (first | (refine ⟨?_⟩; exact vc) | exact cl | skip)
  rintro ⟨k, l⟩ ⟨hk, hll, hpick⟩
  dsimp only at hk hll hpick ⊢
  rcases Nat.lt_or_ge k c.flds.length with hkl | hkl
  · obtain ⟨f, hf⟩ : ∃ v, c.flds[k]? = some v := ⟨_, List.getElem?_eq_getElem hkl⟩
    obtain ⟨a, ha, _⟩ := first_of hok
    have o := hok.flds a ha f (List.mem_of_getElem? hf)
    have hg1 : ∀ {n : Nat} {e : SV}, n = k → (encFlds c.flds)[n]? = some e → e = encFld f := by
      rintro n e rfl he
      obtain ⟨y, hy, rfl⟩ := encFlds_at he
      rw [hf] at hy; cases hy; rfl
    have d13 := c13 f o.fi o.se o.um
    have hTl : 0 < (truthsL f).length ∧ (truthsL f).length ≤ 125 := by
      have e1 := cnt_of o.fi
      have e2 := cnt_of o.se
      have e3 := cnt_of o.um
      have el : ∀ r : Rng, (every r).length = (r.hi - r.lo + 1).toNat := fun r => by simp [every]
      have : (truthsL f).length = (every f.fi).length * ((every f.se).length * (every f.um).length) := flat_len (rowB_len f) _
      rw [this, el, el, el]
      have h1 : 1 ≤ (f.fi.hi - f.fi.lo + 1).toNat ∧ (f.fi.hi - f.fi.lo + 1).toNat ≤ 5 := by omega
      have h2 : 1 ≤ (f.se.hi - f.se.lo + 1).toNat ∧ (f.se.hi - f.se.lo + 1).toNat ≤ 5 := by omega
      have h3 : 1 ≤ (f.um.hi - f.um.lo + 1).toNat ∧ (f.um.hi - f.um.lo + 1).toNat ≤ 5 := by omega
      exact ⟨Nat.mul_pos h1.1 (Nat.mul_pos h2.1 h3.1), Nat.le_trans (Nat.mul_le_mul h1.2 (Nat.mul_le_mul h2.2 h3.2)) (by decide)⟩
    have hnext : ∀ x, x ∈ truthsL f → ∀ (i : Nat) (g : Fld) (y : Thr), i < k + 1 → c.flds[i]? = some g → (l ++ [x])[i]? = some y → y ∈ truthsL g := fun x hx i g y hi hg hy => by
      rcases Nat.lt_or_ge i k with h | h
      · rw [List.getElem?_append_left (by omega)] at hy
        exact hpick i g y h hg hy
      · obtain rfl : i = k := by omega
        rw [hf] at hg; cases hg
        rw [List.getElem?_append_right (by omega), hll] at hy
        simp at hy; subst hy; exact hx
    generalize hT : truthsL f = T at d13 hTl hnext
    have hzt := encThrs_len T
    have hres1 : ∀ {r x y : Int}, r = x.tmod y → 0 ≤ x ∧ 0 < y → 0 ≤ r ∧ r < y := fun h hxy => rem_bd h hxy.1 hxy.2
    have hgx1 : ∀ {n : Nat} {e : SV}, (awa ws)[n]? = some e → ∃ m : Int, (0 ≤ m ∧ m ≤ 255) ∧ e = .int .u8 m := fun he => by
      obtain ⟨x, hx, rfl⟩ := map_at he
      exact ⟨x, hw x (List.mem_of_getElem? hx), rfl⟩
    have hgx2 : ∀ {n : Nat} {e : SV}, (encThrs T)[n]? = some e → ∃ x : Thr, x ∈ T ∧ e = encThr x := fun he => by
      obtain ⟨x, hx, rfl⟩ := encThrs_at he
      exact ⟨x, List.mem_of_getElem? hx, rfl⟩
    rcases l with _ | ⟨l0, l⟩
    all_goals
      simp only [List.length_cons, List.length_nil] at hll
      (repeat' (first | (intro ex hex; obtain ⟨mx, hmx, rfl⟩ := hgx1 hex; clear hex) | (intro ex hex; obtain ⟨mx, hmx, rfl⟩ := hgx2 hex; clear hex) | (intro rx hrx; have hq := hres1 hrx (by omega); clear hrx) | (intro ex hex; (first | have hq := hg1 (by omega) hex | have hq := hg2 (by omega) hex); subst hq; clear hex) | (refine Ev.go ?_; conv => whnf) | refine And.intro ?_ ?_ | exact True.intro | exact rfl | (intro rx hrx; rw [ij _ (by omega)] at hrx) | (intro hcx; exfalso; omega) | intro _))
      all_goals (first | (refine ⟨?_⟩; exact vc) | exact cl | skip)
      refine TSq.pureC d13 (by simp [cloL, encFld_clo]) rfl (And.intro rfl rfl) ?_
      (repeat' (first | (intro ex hex; obtain ⟨mx, hmx, rfl⟩ := hgx1 hex; clear hex) | (intro ex hex; obtain ⟨mx, hmx, rfl⟩ := hgx2 hex; clear hex) | (intro rx hrx; have hq := hres1 hrx (by omega); clear hrx) | (intro ex hex; (first | have hq := hg1 (by omega) hex | have hq := hg2 (by omega) hex); subst hq; clear hex) | (refine Ev.go ?_; conv => whnf) | refine And.intro ?_ ?_ | exact True.intro | exact rfl | (intro rx hrx; rw [ij _ (by omega)] at hrx) | (intro hcx; exfalso; omega) | intro _))
      all_goals (first | (refine ⟨?_⟩; exact vc) | exact cl | skip)
      all_goals (try (refine ⟨?_⟩; simp [encThrs_len, catS, repl, chunks]; omega))
      all_goals (refine ⟨⟨[(3, 5)], (k + 1, _ ++ [mx]), ⟨by dsimp only; omega, by rw [List.length_append, List.length_singleton]; simp; omega, hnext mx hmx⟩, by dsimp only; omega, ?_⟩⟩)
      all_goals
        (repeat' (first | (intro ex hex; obtain ⟨mx, hmx, rfl⟩ := hgx1 hex; clear hex) | (intro ex hex; obtain ⟨mx, hmx, rfl⟩ := hgx2 hex; clear hex) | (intro rx hrx; have hq := hres1 hrx (by omega); clear hrx) | (intro ex hex; (first | have hq := hg1 (by omega) hex | have hq := hg2 (by omega) hex); subst hq; clear hex) | (refine Ev.go ?_; conv => whnf) | refine And.intro ?_ ?_ | exact True.intro | exact rfl | (intro rx hrx; rw [ij _ (by omega)] at hrx) | (intro hcx; exfalso; omega) | intro _))
        all_goals (first | (refine ⟨?_⟩; exact vc) | exact cl | skip)
        all_goals (try (refine ⟨?_⟩; first | exact encThrs_clo _ | (simp [encThrs, encThr, catS, repl, chunks]; done)))
  have hke : k = c.flds.length := by omega
  have ht : TruthF c.flds l := ⟨by omega, fun i f x hf hx => truths_mem.1 (hpick i f x (by have := (List.getElem?_eq_some_iff.1 hf).1; omega) hf hx)⟩
  clear hpick
  have hS := smAt_ok hok ht c.flds.length (Nat.le_refl _)
  have hin := reach_truth q1 ht
  obtain ⟨q3, q4⟩ := q2.2.2 _ hin
  obtain ⟨_, hso⟩ := fees_le hS hok.fee.1
  have haw := hS.aw
  have d15 := c15 l (by omega)
  have d14 := c14 c l hok ht
  have hPQ : PlayQ c l = fun v => ∃ m : List Int, v = .tup [.agg [.sl 1 (ints m), .int .i64 (smAt c l c.flds.length).aw, .int .i64 ((smAt c l c.flds.length).fees c.fee).1, .int .i64 ((smAt c l c.flds.length).fees c.fee).2], .int .i64 0] := rfl
  rw [hPQ] at d14
  clear hPQ
  have hfee := hok.fee
  generalize (smAt c l c.flds.length).aw = aw at *
  generalize ((smAt c l c.flds.length).fees c.fee).1 = fa at *
  generalize ((smAt c l c.flds.length).fees c.fee).2 = so at *
  subst hke
  have hzl := encThrs_len l
  have h1 : 0 ≤ lo ∧ lo ≤ hi ∧ hi ≤ 100000 ∧ hi - lo ≤ 30 := by omega
  have h2 : 0 ≤ so ∧ so ≤ 100000 := by omega
  have hX0 := faultX h0 h1 h2
  have b1 := c17 (socX s lo hi so) (by show s.members.length ≤ _; omega) (by show (2 : Nat) ≤ _; omega)
  have b16 := c16 (socX s lo hi so) ⟨[aw, so], 0⟩ (by show s.members.length ≤ _; omega) (by show (2 : Nat) ≤ _; omega) (by show (2 : Nat) ≤ _; omega)
  rw [needRX h0 h1 h2 ⟨q3, q4⟩] at b16
  have b18 := c18 (socX s lo hi so) (by show s.members.length ≤ _; omega) (by show (2 : Nat) ≤ _; omega)
  simp only [withoutR, if_neg (show ¬ fault (socX s lo hi so) ≠ 0 by simpa using hX0), if_pos (listed_nil (socX s lo hi so))] at b18
  have b19 := c19 (socX s lo hi so) (aw + so) (by show s.members.length ≤ _; omega) (by show (2 : Nat) ≤ _; omega)
  rw [callsR_good hX0 (by omega)] at b19
  obtain ⟨hne2, hbn⟩ := inX h0 h1 h2 ⟨q3, q4⟩
  have hbl := boundsOf_len (out := []) hX0
  have hbl : (boundsOf (socX s lo hi so) []).length = s.members.length := hbl
  have hzy := encYs_len s.members
  have hib := encRs_len (boundsOf (socX s lo hi so) [])
  have hsum := calls_sum hX0 [] (n := aw + so) (by omega)
  have hcb := calls_bd hX0 [] (n := aw + so) (by omega)
  have hcl : (callsOf (socX s lo hi so) [] (aw + so)).1.length = s.members.length := callsOf_len (socX s lo hi so) [] (aw + so)
  have hic := ints_len (callsOf (socX s lo hi so) [] (aw + so)).1
  have hSb := sumL_bd (l := (callsOf (socX s lo hi so) [] (aw + so)).1) (fun x hx => by have := hcb x hx; omega)
  have hq0 := (calls_paid hX0 [] (n := aw + so) (by omega)).nn
  change 0 ≤ (callsOf (socX s lo hi so) [] (aw + so)).2 at hq0
  dsimp only at b16 b18 b19
  generalize boundsOf (socX s lo hi so) [] = B at *
  generalize (callsOf (socX s lo hi so) [] (aw + so)).1 = A at *
  generalize (callsOf (socX s lo hi so) [] (aw + so)).2 = qs at *
  clear hne2
  rcases l with _ | ⟨l0, l⟩
  · (repeat' (first | (intro ex hex; obtain ⟨mx, hmx, rfl⟩ := hgx1 hex; clear hex) | (intro ex hex; obtain ⟨mx, hmx, rfl⟩ := hgx2 hex; clear hex) | (intro rx hrx; have hq := hres1 hrx (by omega); clear hrx) | (intro ex hex; (first | have hq := hg1 (by omega) hex | have hq := hg2 (by omega) hex); subst hq; clear hex) | (refine Ev.go ?_; conv => whnf) | refine And.intro ?_ ?_ | exact True.intro | exact rfl | (intro rx hrx; rw [ij _ (by omega)] at hrx) | (intro hcx; exfalso; omega) | intro _))
    all_goals (first | (refine ⟨?_⟩; exact vc) | exact cl | skip)
    refine TWq.fitW [(9, .sl 3 (encThrs []))] [(3, .dead)] ?_
    (repeat' (first | (intro ex hex; obtain ⟨mx, hmx, rfl⟩ := hgx1 hex; clear hex) | (intro ex hex; obtain ⟨mx, hmx, rfl⟩ := hgx2 hex; clear hex) | (intro rx hrx; have hq := hres1 hrx (by omega); clear hrx) | (intro ex hex; (first | have hq := hg1 (by omega) hex | have hq := hg2 (by omega) hex); subst hq; clear hex) | (refine Ev.go ?_; conv => whnf) | refine And.intro ?_ ?_ | exact True.intro | exact rfl | (intro rx hrx; rw [ij _ (by omega)] at hrx) | (intro hcx; exfalso; omega) | intro _))
    all_goals (first | (refine ⟨?_⟩; exact vc) | exact cl | skip)
    refine TWq.seq (TWq.go ?_)
    (repeat' (first | (intro ex hex; obtain ⟨mx, hmx, rfl⟩ := hgx1 hex; clear hex) | (intro ex hex; obtain ⟨mx, hmx, rfl⟩ := hgx2 hex; clear hex) | (intro rx hrx; have hq := hres1 hrx (by omega); clear hrx) | (intro ex hex; (first | have hq := hg1 (by omega) hex | have hq := hg2 (by omega) hex); subst hq; clear hex) | (refine Ev.go ?_; conv => whnf) | refine And.intro ?_ ?_ | exact True.intro | exact rfl | (intro rx hrx; rw [ij _ (by omega)] at hrx) | (intro hcx; exfalso; omega) | intro _))
    refine TSq.pureC d12 (by simp [cloL, encCas_clo]) rfl (And.intro rfl rfl) ?_
    (repeat' (first | (intro ex hex; obtain ⟨mx, hmx, rfl⟩ := hgx1 hex; clear hex) | (intro ex hex; obtain ⟨mx, hmx, rfl⟩ := hgx2 hex; clear hex) | (intro rx hrx; have hq := hres1 hrx (by omega); clear hrx) | (intro ex hex; (first | have hq := hg1 (by omega) hex | have hq := hg2 (by omega) hex); subst hq; clear hex) | (refine Ev.go ?_; conv => whnf) | refine And.intro ?_ ?_ | exact True.intro | exact rfl | (intro rx hrx; rw [ij _ (by omega)] at hrx) | (intro hcx; exfalso; omega) | intro _))
    refine TSq.pureC d15 (by simp [cloL, clo]) rfl (And.intro rfl rfl) ?_
    (repeat' (first | (intro ex hex; obtain ⟨mx, hmx, rfl⟩ := hgx1 hex; clear hex) | (intro ex hex; obtain ⟨mx, hmx, rfl⟩ := hgx2 hex; clear hex) | (intro rx hrx; have hq := hres1 hrx (by omega); clear hrx) | (intro ex hex; (first | have hq := hg1 (by omega) hex | have hq := hg2 (by omega) hex); subst hq; clear hex) | (refine Ev.go ?_; conv => whnf) | refine And.intro ?_ ?_ | exact True.intro | exact rfl | (intro rx hrx; rw [ij _ (by omega)] at hrx) | (intro hcx; exfalso; omega) | intro _))
    refine TSq.pureQ rfl d14 (by simp [cloL, clo, encCas_clo]) rfl (And.intro rfl rfl) ?_
    rintro v ⟨cm, rfl⟩ _
    (repeat' (first | (intro ex hex; obtain ⟨mx, hmx, rfl⟩ := hgx1 hex; clear hex) | (intro ex hex; obtain ⟨mx, hmx, rfl⟩ := hgx2 hex; clear hex) | (intro rx hrx; have hq := hres1 hrx (by omega); clear hrx) | (intro ex hex; (first | have hq := hg1 (by omega) hex | have hq := hg2 (by omega) hex); subst hq; clear hex) | (refine Ev.go ?_; conv => whnf) | refine And.intro ?_ ?_ | exact True.intro | exact rfl | (intro rx hrx; rw [ij _ (by omega)] at hrx) | (intro hcx; exfalso; omega) | intro _))
    all_goals (first | (refine ⟨?_⟩; exact vc) | exact cl | skip)
    refine TWq.seq (TWq.go ?_)
    (repeat' (first | (intro ex hex; obtain ⟨mx, hmx, rfl⟩ := hgx1 hex; clear hex) | (intro ex hex; obtain ⟨mx, hmx, rfl⟩ := hgx2 hex; clear hex) | (intro rx hrx; have hq := hres1 hrx (by omega); clear hrx) | (intro ex hex; (first | have hq := hg1 (by omega) hex | have hq := hg2 (by omega) hex); subst hq; clear hex) | (refine Ev.go ?_; conv => whnf) | refine And.intro ?_ ?_ | exact True.intro | exact rfl | (intro rx hrx; rw [ij _ (by omega)] at hrx) | (intro hcx; exfalso; omega) | intro _))
    all_goals (try (exfalso; omega))
    all_goals (first | (refine ⟨?_⟩; exact vc) | exact cl | skip)
    refine TWq.seq (TWq.go ?_)
    (repeat' (first | (intro ex hex; obtain ⟨mx, hmx, rfl⟩ := hgx1 hex; clear hex) | (intro ex hex; obtain ⟨mx, hmx, rfl⟩ := hgx2 hex; clear hex) | (intro rx hrx; have hq := hres1 hrx (by omega); clear hrx) | (intro ex hex; (first | have hq := hg1 (by omega) hex | have hq := hg2 (by omega) hex); subst hq; clear hex) | (refine Ev.go ?_; conv => whnf) | refine And.intro ?_ ?_ | exact True.intro | exact rfl | (intro rx hrx; rw [ij _ (by omega)] at hrx) | (intro hcx; exfalso; omega) | intro _))
    all_goals (first | (refine ⟨?_⟩; exact vc) | exact cl | skip)
    refine TWq.pubW 5 ?_
    (repeat' (first | (intro ex hex; obtain ⟨mx, hmx, rfl⟩ := hgx1 hex; clear hex) | (intro ex hex; obtain ⟨mx, hmx, rfl⟩ := hgx2 hex; clear hex) | (intro rx hrx; have hq := hres1 hrx (by omega); clear hrx) | (intro ex hex; (first | have hq := hg1 (by omega) hex | have hq := hg2 (by omega) hex); subst hq; clear hex) | (refine Ev.go ?_; conv => whnf) | refine And.intro ?_ ?_ | exact True.intro | exact rfl | (intro rx hrx; rw [ij _ (by omega)] at hrx) | (intro hcx; exfalso; omega) | intro _))
    all_goals (first | (refine ⟨?_⟩; exact vc) | exact cl | skip)
    all_goals (try (refine ⟨?_⟩; simp [chunks, cloL, clo]; done))
    refine TWq.seq (TWq.go ?_)
    (repeat' (first | (intro ex hex; obtain ⟨mx, hmx, rfl⟩ := hgx1 hex; clear hex) | (intro ex hex; obtain ⟨mx, hmx, rfl⟩ := hgx2 hex; clear hex) | (intro rx hrx; have hq := hres1 hrx (by omega); clear hrx) | (intro ex hex; (first | have hq := hg1 (by omega) hex | have hq := hg2 (by omega) hex); subst hq; clear hex) | (refine Ev.go ?_; conv => whnf) | refine And.intro ?_ ?_ | exact True.intro | exact rfl | (intro rx hrx; rw [ij _ (by omega)] at hrx) | (intro hcx; exfalso; omega) | intro _))
    all_goals (first | (refine ⟨?_⟩; exact vk) | exact cl | skip)
    refine TDq.pureC b1 cl rfl (And.intro rfl rfl) ?_
    (repeat' (first | (intro ex hex; obtain ⟨mx, hmx, rfl⟩ := hgx1 hex; clear hex) | (intro ex hex; obtain ⟨mx, hmx, rfl⟩ := hgx2 hex; clear hex) | (intro rx hrx; have hq := hres1 hrx (by omega); clear hrx) | (intro ex hex; (first | have hq := hg1 (by omega) hex | have hq := hg2 (by omega) hex); subst hq; clear hex) | (refine Ev.go ?_; conv => whnf) | refine And.intro ?_ ?_ | exact True.intro | exact rfl | (intro rx hrx; rw [ij _ (by omega)] at hrx) | (intro hcx; exfalso; omega) | intro _))
    all_goals (first | (refine ⟨?_⟩; exact vk) | exact cl | skip)
    refine TDq.lendC b16 (by simp [scal, scalL]) rfl (And.intro rfl ?_)
    (repeat' (first | (intro ex hex; obtain ⟨mx, hmx, rfl⟩ := hgx1 hex; clear hex) | (intro ex hex; obtain ⟨mx, hmx, rfl⟩ := hgx2 hex; clear hex) | (intro rx hrx; have hq := hres1 hrx (by omega); clear hrx) | (intro ex hex; (first | have hq := hg1 (by omega) hex | have hq := hg2 (by omega) hex); subst hq; clear hex) | (refine Ev.go ?_; conv => whnf) | refine And.intro ?_ ?_ | exact True.intro | exact rfl | (intro rx hrx; rw [ij _ (by omega)] at hrx) | (intro hcx; exfalso; omega) | intro _))
    all_goals (first | (refine ⟨?_⟩; exact vk) | exact cl | skip)
    refine TWq.seq (TWq.go ?_)
    (repeat' (first | (intro ex hex; obtain ⟨mx, hmx, rfl⟩ := hgx1 hex; clear hex) | (intro ex hex; obtain ⟨mx, hmx, rfl⟩ := hgx2 hex; clear hex) | (intro rx hrx; have hq := hres1 hrx (by omega); clear hrx) | (intro ex hex; (first | have hq := hg1 (by omega) hex | have hq := hg2 (by omega) hex); subst hq; clear hex) | (refine Ev.go ?_; conv => whnf) | refine And.intro ?_ ?_ | exact True.intro | exact rfl | (intro rx hrx; rw [ij _ (by omega)] at hrx) | (intro hcx; exfalso; omega) | intro _))
    refine TSq.pureC b1 cl rfl (And.intro rfl rfl) ?_
    (repeat' (first | (intro ex hex; obtain ⟨mx, hmx, rfl⟩ := hgx1 hex; clear hex) | (intro ex hex; obtain ⟨mx, hmx, rfl⟩ := hgx2 hex; clear hex) | (intro rx hrx; have hq := hres1 hrx (by omega); clear hrx) | (intro ex hex; (first | have hq := hg1 (by omega) hex | have hq := hg2 (by omega) hex); subst hq; clear hex) | (refine Ev.go ?_; conv => whnf) | refine And.intro ?_ ?_ | exact True.intro | exact rfl | (intro rx hrx; rw [ij _ (by omega)] at hrx) | (intro hcx; exfalso; omega) | intro _))
    refine TSq.pureC b18 cl rfl (And.intro rfl rfl) ?_
    (repeat' (first | (intro ex hex; obtain ⟨mx, hmx, rfl⟩ := hgx1 hex; clear hex) | (intro ex hex; obtain ⟨mx, hmx, rfl⟩ := hgx2 hex; clear hex) | (intro rx hrx; have hq := hres1 hrx (by omega); clear hrx) | (intro ex hex; (first | have hq := hg1 (by omega) hex | have hq := hg2 (by omega) hex); subst hq; clear hex) | (refine Ev.go ?_; conv => whnf) | refine And.intro ?_ ?_ | exact True.intro | exact rfl | (intro rx hrx; rw [ij _ (by omega)] at hrx) | (intro hcx; exfalso; omega) | intro _))
    all_goals (first | (refine ⟨?_⟩; exact vc) | exact cl | skip)
    refine TWq.seq (TWq.go ?_)
    (repeat' (first | (intro ex hex; obtain ⟨mx, hmx, rfl⟩ := hgx1 hex; clear hex) | (intro ex hex; obtain ⟨mx, hmx, rfl⟩ := hgx2 hex; clear hex) | (intro rx hrx; have hq := hres1 hrx (by omega); clear hrx) | (intro ex hex; (first | have hq := hg1 (by omega) hex | have hq := hg2 (by omega) hex); subst hq; clear hex) | (refine Ev.go ?_; conv => whnf) | refine And.intro ?_ ?_ | exact True.intro | exact rfl | (intro rx hrx; rw [ij _ (by omega)] at hrx) | (intro hcx; exfalso; omega) | intro _))
    all_goals (try (exfalso; omega))
    all_goals (first | (refine ⟨?_⟩; exact vc) | exact cl | skip)
    refine TWq.seq (TWq.go ?_)
    (repeat' (first | (intro ex hex; obtain ⟨mx, hmx, rfl⟩ := hgx1 hex; clear hex) | (intro ex hex; obtain ⟨mx, hmx, rfl⟩ := hgx2 hex; clear hex) | (intro rx hrx; have hq := hres1 hrx (by omega); clear hrx) | (intro ex hex; (first | have hq := hg1 (by omega) hex | have hq := hg2 (by omega) hex); subst hq; clear hex) | (refine Ev.go ?_; conv => whnf) | refine And.intro ?_ ?_ | exact True.intro | exact rfl | (intro rx hrx; rw [ij _ (by omega)] at hrx) | (intro hcx; exfalso; omega) | intro _))
    refine TSq.pureC b1 cl rfl (And.intro rfl rfl) ?_
    (repeat' (first | (intro ex hex; obtain ⟨mx, hmx, rfl⟩ := hgx1 hex; clear hex) | (intro ex hex; obtain ⟨mx, hmx, rfl⟩ := hgx2 hex; clear hex) | (intro rx hrx; have hq := hres1 hrx (by omega); clear hrx) | (intro ex hex; (first | have hq := hg1 (by omega) hex | have hq := hg2 (by omega) hex); subst hq; clear hex) | (refine Ev.go ?_; conv => whnf) | refine And.intro ?_ ?_ | exact True.intro | exact rfl | (intro rx hrx; rw [ij _ (by omega)] at hrx) | (intro hcx; exfalso; omega) | intro _))
    refine TSq.pureC b19 cl rfl (And.intro rfl rfl) ?_
    (repeat' (first | (intro ex hex; obtain ⟨mx, hmx, rfl⟩ := hgx1 hex; clear hex) | (intro ex hex; obtain ⟨mx, hmx, rfl⟩ := hgx2 hex; clear hex) | (intro rx hrx; have hq := hres1 hrx (by omega); clear hrx) | (intro ex hex; (first | have hq := hg1 (by omega) hex | have hq := hg2 (by omega) hex); subst hq; clear hex) | (refine Ev.go ?_; conv => whnf) | refine And.intro ?_ ?_ | exact True.intro | exact rfl | (intro rx hrx; rw [ij _ (by omega)] at hrx) | (intro hcx; exfalso; omega) | intro _))
    all_goals (first | (refine ⟨?_⟩; exact vc) | exact cl | skip)
    refine TWq.seq (TWq.go ?_)
    (repeat' (first | (intro ex hex; obtain ⟨mx, hmx, rfl⟩ := hgx1 hex; clear hex) | (intro ex hex; obtain ⟨mx, hmx, rfl⟩ := hgx2 hex; clear hex) | (intro rx hrx; have hq := hres1 hrx (by omega); clear hrx) | (intro ex hex; (first | have hq := hg1 (by omega) hex | have hq := hg2 (by omega) hex); subst hq; clear hex) | (refine Ev.go ?_; conv => whnf) | refine And.intro ?_ ?_ | exact True.intro | exact rfl | (intro rx hrx; rw [ij _ (by omega)] at hrx) | (intro hcx; exfalso; omega) | intro _))
    all_goals (try (exfalso; omega))
    all_goals (first | (refine ⟨?_⟩; exact vc) | exact cl | skip)
    refine TWq.seq (TWq.go ?_)
    (repeat' (first | (intro ex hex; obtain ⟨mx, hmx, rfl⟩ := hgx1 hex; clear hex) | (intro ex hex; obtain ⟨mx, hmx, rfl⟩ := hgx2 hex; clear hex) | (intro rx hrx; have hq := hres1 hrx (by omega); clear hrx) | (intro ex hex; (first | have hq := hg1 (by omega) hex | have hq := hg2 (by omega) hex); subst hq; clear hex) | (refine Ev.go ?_; conv => whnf) | refine And.intro ?_ ?_ | exact True.intro | exact rfl | (intro rx hrx; rw [ij _ (by omega)] at hrx) | (intro hcx; exfalso; omega) | intro _))
    refine TWq.seq (TWq.go ?_)
    (repeat' (first | (intro ex hex; obtain ⟨mx, hmx, rfl⟩ := hgx1 hex; clear hex) | (intro ex hex; obtain ⟨mx, hmx, rfl⟩ := hgx2 hex; clear hex) | (intro rx hrx; have hq := hres1 hrx (by omega); clear hrx) | (intro ex hex; (first | have hq := hg1 (by omega) hex | have hq := hg2 (by omega) hex); subst hq; clear hex) | (refine Ev.go ?_; conv => whnf) | refine And.intro ?_ ?_ | exact True.intro | exact rfl | (intro rx hrx; rw [ij _ (by omega)] at hrx) | (intro hcx; exfalso; omega) | intro _))
    refine TWq.loop (fun k : Nat => [(24, .int .i64 k), (23, .int .i64 (qs + sumL (A.take k)))]) (fun _ => []) (fun k => k ≤ s.members.length) (fun k => s.members.length - k) 0 [] [] ?_ (by omega) ?_
    · (repeat' (first | (intro ex hex; obtain ⟨mx, hmx, rfl⟩ := hgx1 hex; clear hex) | (intro ex hex; obtain ⟨mx, hmx, rfl⟩ := hgx2 hex; clear hex) | (intro rx hrx; have hq := hres1 hrx (by omega); clear hrx) | (intro ex hex; (first | have hq := hg1 (by omega) hex | have hq := hg2 (by omega) hex); subst hq; clear hex) | (refine Ev.go ?_; conv => whnf) | refine And.intro ?_ ?_ | exact True.intro | exact rfl | (intro rx hrx; rw [ij _ (by omega)] at hrx) | (intro hcx; exfalso; omega) | intro _))
      all_goals (first | (refine ⟨?_⟩; exact vc) | exact cl | skip)
      all_goals (try (refine ⟨?_⟩; simp [sumL]; done))
    intro k hk
    have hSk := hSb k
    have hqs : qs ≤ 200000 := by
      have := hSb A.length
      rw [List.take_length] at this
      omega
    rcases Nat.lt_or_ge k s.members.length with hkl | hkl
    · obtain ⟨r, a, hr1, ha1, hr2, hr3⟩ := hbn k hkl
      have hsk := sumL_take ha1
      have hab := hcb a (List.mem_of_getElem? ha1)
      have hg1 : ∀ {n : Nat} {e : SV}, n = k → (ints A)[n]? = some e → e = .int .i64 a := by
        rintro n e rfl he
        obtain ⟨x, hx, rfl⟩ := ints_at he
        rw [ha1] at hx; cases hx; rfl
      have hg2 : ∀ {n : Nat} {e : SV}, n = k → (encRs B)[n]? = some e → e = encR r := by
        rintro n e rfl he
        obtain ⟨x, hx, rfl⟩ := encRs_at he
        rw [hr1] at hx; cases hx; rfl
      (repeat' (first | (intro ex hex; obtain ⟨mx, hmx, rfl⟩ := hgx1 hex; clear hex) | (intro ex hex; obtain ⟨mx, hmx, rfl⟩ := hgx2 hex; clear hex) | (intro rx hrx; have hq := hres1 hrx (by omega); clear hrx) | (intro ex hex; (first | have hq := hg1 (by omega) hex | have hq := hg2 (by omega) hex); subst hq; clear hex) | (refine Ev.go ?_; conv => whnf) | refine And.intro ?_ ?_ | exact True.intro | exact rfl | (intro rx hrx; rw [ij _ (by omega)] at hrx) | (intro hcx; exfalso; omega) | intro _))
      all_goals (first | (refine ⟨?_⟩; exact vk) | exact cl | skip)
      all_goals (try (exfalso; omega))
      refine ⟨⟨k + 1, by omega, by omega, ?_⟩⟩
      (repeat' (first | (intro ex hex; obtain ⟨mx, hmx, rfl⟩ := hgx1 hex; clear hex) | (intro ex hex; obtain ⟨mx, hmx, rfl⟩ := hgx2 hex; clear hex) | (intro rx hrx; have hq := hres1 hrx (by omega); clear hrx) | (intro ex hex; (first | have hq := hg1 (by omega) hex | have hq := hg2 (by omega) hex); subst hq; clear hex) | (refine Ev.go ?_; conv => whnf) | refine And.intro ?_ ?_ | exact True.intro | exact rfl | (intro rx hrx; rw [ij _ (by omega)] at hrx) | (intro hcx; exfalso; omega) | intro _))
      all_goals (first | (refine ⟨?_⟩; exact vc) | exact cl | skip)
      all_goals (try (refine ⟨?_⟩; rw [hsk]; omega))
    · have hke : k = A.length := by omega
      subst hke
      rw [List.take_length] at hSk
      have hfin : qs + sumL (A.take A.length) = aw + so := by rw [List.take_length]; omega
      (repeat' (first | (intro ex hex; obtain ⟨mx, hmx, rfl⟩ := hgx1 hex; clear hex) | (intro ex hex; obtain ⟨mx, hmx, rfl⟩ := hgx2 hex; clear hex) | (intro rx hrx; have hq := hres1 hrx (by omega); clear hrx) | (intro ex hex; (first | have hq := hg1 (by omega) hex | have hq := hg2 (by omega) hex); subst hq; clear hex) | (refine Ev.go ?_; conv => whnf) | refine And.intro ?_ ?_ | exact True.intro | exact rfl | (intro rx hrx; rw [ij _ (by omega)] at hrx) | (intro hcx; exfalso; omega) | intro _))
      all_goals (first | (refine ⟨?_⟩; exact vc) | exact cl | skip)
      refine TWq.go ?_
      (repeat' (first | (intro ex hex; obtain ⟨mx, hmx, rfl⟩ := hgx1 hex; clear hex) | (intro ex hex; obtain ⟨mx, hmx, rfl⟩ := hgx2 hex; clear hex) | (intro rx hrx; have hq := hres1 hrx (by omega); clear hrx) | (intro ex hex; (first | have hq := hg1 (by omega) hex | have hq := hg2 (by omega) hex); subst hq; clear hex) | (refine Ev.go ?_; conv => whnf) | refine And.intro ?_ ?_ | exact True.intro | exact rfl | (intro rx hrx; rw [ij _ (by omega)] at hrx) | (intro hcx; exfalso; omega) | intro _))
      all_goals (try (exfalso; omega))
      refine TSq.pureC d10 cl rfl (And.intro rfl rfl) ?_
      (repeat' (first | (intro ex hex; obtain ⟨mx, hmx, rfl⟩ := hgx1 hex; clear hex) | (intro ex hex; obtain ⟨mx, hmx, rfl⟩ := hgx2 hex; clear hex) | (intro rx hrx; have hq := hres1 hrx (by omega); clear hrx) | (intro ex hex; (first | have hq := hg1 (by omega) hex | have hq := hg2 (by omega) hex); subst hq; clear hex) | (refine Ev.go ?_; conv => whnf) | refine And.intro ?_ ?_ | exact True.intro | exact rfl | (intro rx hrx; rw [ij _ (by omega)] at hrx) | (intro hcx; exfalso; omega) | intro _))
      try rfl
  · (repeat' (first | (intro ex hex; obtain ⟨mx, hmx, rfl⟩ := hgx1 hex; clear hex) | (intro ex hex; obtain ⟨mx, hmx, rfl⟩ := hgx2 hex; clear hex) | (intro rx hrx; have hq := hres1 hrx (by omega); clear hrx) | (intro ex hex; (first | have hq := hg1 (by omega) hex | have hq := hg2 (by omega) hex); subst hq; clear hex) | (refine Ev.go ?_; conv => whnf) | refine And.intro ?_ ?_ | exact True.intro | exact rfl | (intro rx hrx; rw [ij _ (by omega)] at hrx) | (intro hcx; exfalso; omega) | intro _))
    all_goals (first | (refine ⟨?_⟩; exact vc) | exact cl | skip)
    refine TWq.pubW 3 ?_
    (repeat' (first | (intro ex hex; obtain ⟨mx, hmx, rfl⟩ := hgx1 hex; clear hex) | (intro ex hex; obtain ⟨mx, hmx, rfl⟩ := hgx2 hex; clear hex) | (intro rx hrx; have hq := hres1 hrx (by omega); clear hrx) | (intro ex hex; (first | have hq := hg1 (by omega) hex | have hq := hg2 (by omega) hex); subst hq; clear hex) | (refine Ev.go ?_; conv => whnf) | refine And.intro ?_ ?_ | exact True.intro | exact rfl | (intro rx hrx; rw [ij _ (by omega)] at hrx) | (intro hcx; exfalso; omega) | intro _))
    all_goals (first | (refine ⟨?_⟩; exact vc) | exact cl | skip)
    all_goals (try (refine ⟨?_⟩; exact encThrs_clo _))
    refine TWq.seq (TWq.go ?_)
    (repeat' (first | (intro ex hex; obtain ⟨mx, hmx, rfl⟩ := hgx1 hex; clear hex) | (intro ex hex; obtain ⟨mx, hmx, rfl⟩ := hgx2 hex; clear hex) | (intro rx hrx; have hq := hres1 hrx (by omega); clear hrx) | (intro ex hex; (first | have hq := hg1 (by omega) hex | have hq := hg2 (by omega) hex); subst hq; clear hex) | (refine Ev.go ?_; conv => whnf) | refine And.intro ?_ ?_ | exact True.intro | exact rfl | (intro rx hrx; rw [ij _ (by omega)] at hrx) | (intro hcx; exfalso; omega) | intro _))
    refine TSq.pureC d12 (by simp [cloL, encCas_clo]) rfl (And.intro rfl rfl) ?_
    (repeat' (first | (intro ex hex; obtain ⟨mx, hmx, rfl⟩ := hgx1 hex; clear hex) | (intro ex hex; obtain ⟨mx, hmx, rfl⟩ := hgx2 hex; clear hex) | (intro rx hrx; have hq := hres1 hrx (by omega); clear hrx) | (intro ex hex; (first | have hq := hg1 (by omega) hex | have hq := hg2 (by omega) hex); subst hq; clear hex) | (refine Ev.go ?_; conv => whnf) | refine And.intro ?_ ?_ | exact True.intro | exact rfl | (intro rx hrx; rw [ij _ (by omega)] at hrx) | (intro hcx; exfalso; omega) | intro _))
    refine TSq.pureC d15 (by simp [cloL, clo]) rfl (And.intro rfl rfl) ?_
    (repeat' (first | (intro ex hex; obtain ⟨mx, hmx, rfl⟩ := hgx1 hex; clear hex) | (intro ex hex; obtain ⟨mx, hmx, rfl⟩ := hgx2 hex; clear hex) | (intro rx hrx; have hq := hres1 hrx (by omega); clear hrx) | (intro ex hex; (first | have hq := hg1 (by omega) hex | have hq := hg2 (by omega) hex); subst hq; clear hex) | (refine Ev.go ?_; conv => whnf) | refine And.intro ?_ ?_ | exact True.intro | exact rfl | (intro rx hrx; rw [ij _ (by omega)] at hrx) | (intro hcx; exfalso; omega) | intro _))
    refine TSq.pureQ rfl d14 (by simp [cloL, clo, encCas_clo]) rfl (And.intro rfl rfl) ?_
    rintro v ⟨cm, rfl⟩ _
    (repeat' (first | (intro ex hex; obtain ⟨mx, hmx, rfl⟩ := hgx1 hex; clear hex) | (intro ex hex; obtain ⟨mx, hmx, rfl⟩ := hgx2 hex; clear hex) | (intro rx hrx; have hq := hres1 hrx (by omega); clear hrx) | (intro ex hex; (first | have hq := hg1 (by omega) hex | have hq := hg2 (by omega) hex); subst hq; clear hex) | (refine Ev.go ?_; conv => whnf) | refine And.intro ?_ ?_ | exact True.intro | exact rfl | (intro rx hrx; rw [ij _ (by omega)] at hrx) | (intro hcx; exfalso; omega) | intro _))
    all_goals (first | (refine ⟨?_⟩; exact vc) | exact cl | skip)
    refine TWq.seq (TWq.go ?_)
    (repeat' (first | (intro ex hex; obtain ⟨mx, hmx, rfl⟩ := hgx1 hex; clear hex) | (intro ex hex; obtain ⟨mx, hmx, rfl⟩ := hgx2 hex; clear hex) | (intro rx hrx; have hq := hres1 hrx (by omega); clear hrx) | (intro ex hex; (first | have hq := hg1 (by omega) hex | have hq := hg2 (by omega) hex); subst hq; clear hex) | (refine Ev.go ?_; conv => whnf) | refine And.intro ?_ ?_ | exact True.intro | exact rfl | (intro rx hrx; rw [ij _ (by omega)] at hrx) | (intro hcx; exfalso; omega) | intro _))
    all_goals (try (exfalso; omega))
    all_goals (first | (refine ⟨?_⟩; exact vc) | exact cl | skip)
    refine TWq.seq (TWq.go ?_)
    (repeat' (first | (intro ex hex; obtain ⟨mx, hmx, rfl⟩ := hgx1 hex; clear hex) | (intro ex hex; obtain ⟨mx, hmx, rfl⟩ := hgx2 hex; clear hex) | (intro rx hrx; have hq := hres1 hrx (by omega); clear hrx) | (intro ex hex; (first | have hq := hg1 (by omega) hex | have hq := hg2 (by omega) hex); subst hq; clear hex) | (refine Ev.go ?_; conv => whnf) | refine And.intro ?_ ?_ | exact True.intro | exact rfl | (intro rx hrx; rw [ij _ (by omega)] at hrx) | (intro hcx; exfalso; omega) | intro _))
    all_goals (first | (refine ⟨?_⟩; exact vc) | exact cl | skip)
    refine TWq.pubW 5 ?_
    (repeat' (first | (intro ex hex; obtain ⟨mx, hmx, rfl⟩ := hgx1 hex; clear hex) | (intro ex hex; obtain ⟨mx, hmx, rfl⟩ := hgx2 hex; clear hex) | (intro rx hrx; have hq := hres1 hrx (by omega); clear hrx) | (intro ex hex; (first | have hq := hg1 (by omega) hex | have hq := hg2 (by omega) hex); subst hq; clear hex) | (refine Ev.go ?_; conv => whnf) | refine And.intro ?_ ?_ | exact True.intro | exact rfl | (intro rx hrx; rw [ij _ (by omega)] at hrx) | (intro hcx; exfalso; omega) | intro _))
    all_goals (first | (refine ⟨?_⟩; exact vc) | exact cl | skip)
    all_goals (try (refine ⟨?_⟩; simp [chunks, cloL, clo]; done))
    refine TWq.seq (TWq.go ?_)
    (repeat' (first | (intro ex hex; obtain ⟨mx, hmx, rfl⟩ := hgx1 hex; clear hex) | (intro ex hex; obtain ⟨mx, hmx, rfl⟩ := hgx2 hex; clear hex) | (intro rx hrx; have hq := hres1 hrx (by omega); clear hrx) | (intro ex hex; (first | have hq := hg1 (by omega) hex | have hq := hg2 (by omega) hex); subst hq; clear hex) | (refine Ev.go ?_; conv => whnf) | refine And.intro ?_ ?_ | exact True.intro | exact rfl | (intro rx hrx; rw [ij _ (by omega)] at hrx) | (intro hcx; exfalso; omega) | intro _))
    all_goals (first | (refine ⟨?_⟩; exact vk) | exact cl | skip)
    refine TDq.pureC b1 cl rfl (And.intro rfl rfl) ?_
    (repeat' (first | (intro ex hex; obtain ⟨mx, hmx, rfl⟩ := hgx1 hex; clear hex) | (intro ex hex; obtain ⟨mx, hmx, rfl⟩ := hgx2 hex; clear hex) | (intro rx hrx; have hq := hres1 hrx (by omega); clear hrx) | (intro ex hex; (first | have hq := hg1 (by omega) hex | have hq := hg2 (by omega) hex); subst hq; clear hex) | (refine Ev.go ?_; conv => whnf) | refine And.intro ?_ ?_ | exact True.intro | exact rfl | (intro rx hrx; rw [ij _ (by omega)] at hrx) | (intro hcx; exfalso; omega) | intro _))
    all_goals (first | (refine ⟨?_⟩; exact vk) | exact cl | skip)
    refine TDq.lendC b16 (by simp [scal, scalL]) rfl (And.intro rfl ?_)
    (repeat' (first | (intro ex hex; obtain ⟨mx, hmx, rfl⟩ := hgx1 hex; clear hex) | (intro ex hex; obtain ⟨mx, hmx, rfl⟩ := hgx2 hex; clear hex) | (intro rx hrx; have hq := hres1 hrx (by omega); clear hrx) | (intro ex hex; (first | have hq := hg1 (by omega) hex | have hq := hg2 (by omega) hex); subst hq; clear hex) | (refine Ev.go ?_; conv => whnf) | refine And.intro ?_ ?_ | exact True.intro | exact rfl | (intro rx hrx; rw [ij _ (by omega)] at hrx) | (intro hcx; exfalso; omega) | intro _))
    all_goals (first | (refine ⟨?_⟩; exact vk) | exact cl | skip)
    refine TWq.seq (TWq.go ?_)
    (repeat' (first | (intro ex hex; obtain ⟨mx, hmx, rfl⟩ := hgx1 hex; clear hex) | (intro ex hex; obtain ⟨mx, hmx, rfl⟩ := hgx2 hex; clear hex) | (intro rx hrx; have hq := hres1 hrx (by omega); clear hrx) | (intro ex hex; (first | have hq := hg1 (by omega) hex | have hq := hg2 (by omega) hex); subst hq; clear hex) | (refine Ev.go ?_; conv => whnf) | refine And.intro ?_ ?_ | exact True.intro | exact rfl | (intro rx hrx; rw [ij _ (by omega)] at hrx) | (intro hcx; exfalso; omega) | intro _))
    refine TSq.pureC b1 cl rfl (And.intro rfl rfl) ?_
    (repeat' (first | (intro ex hex; obtain ⟨mx, hmx, rfl⟩ := hgx1 hex; clear hex) | (intro ex hex; obtain ⟨mx, hmx, rfl⟩ := hgx2 hex; clear hex) | (intro rx hrx; have hq := hres1 hrx (by omega); clear hrx) | (intro ex hex; (first | have hq := hg1 (by omega) hex | have hq := hg2 (by omega) hex); subst hq; clear hex) | (refine Ev.go ?_; conv => whnf) | refine And.intro ?_ ?_ | exact True.intro | exact rfl | (intro rx hrx; rw [ij _ (by omega)] at hrx) | (intro hcx; exfalso; omega) | intro _))
    refine TSq.pureC b18 cl rfl (And.intro rfl rfl) ?_
    (repeat' (first | (intro ex hex; obtain ⟨mx, hmx, rfl⟩ := hgx1 hex; clear hex) | (intro ex hex; obtain ⟨mx, hmx, rfl⟩ := hgx2 hex; clear hex) | (intro rx hrx; have hq := hres1 hrx (by omega); clear hrx) | (intro ex hex; (first | have hq := hg1 (by omega) hex | have hq := hg2 (by omega) hex); subst hq; clear hex) | (refine Ev.go ?_; conv => whnf) | refine And.intro ?_ ?_ | exact True.intro | exact rfl | (intro rx hrx; rw [ij _ (by omega)] at hrx) | (intro hcx; exfalso; omega) | intro _))
    all_goals (first | (refine ⟨?_⟩; exact vc) | exact cl | skip)
    refine TWq.seq (TWq.go ?_)
    (repeat' (first | (intro ex hex; obtain ⟨mx, hmx, rfl⟩ := hgx1 hex; clear hex) | (intro ex hex; obtain ⟨mx, hmx, rfl⟩ := hgx2 hex; clear hex) | (intro rx hrx; have hq := hres1 hrx (by omega); clear hrx) | (intro ex hex; (first | have hq := hg1 (by omega) hex | have hq := hg2 (by omega) hex); subst hq; clear hex) | (refine Ev.go ?_; conv => whnf) | refine And.intro ?_ ?_ | exact True.intro | exact rfl | (intro rx hrx; rw [ij _ (by omega)] at hrx) | (intro hcx; exfalso; omega) | intro _))
    all_goals (try (exfalso; omega))
    all_goals (first | (refine ⟨?_⟩; exact vc) | exact cl | skip)
    refine TWq.seq (TWq.go ?_)
    (repeat' (first | (intro ex hex; obtain ⟨mx, hmx, rfl⟩ := hgx1 hex; clear hex) | (intro ex hex; obtain ⟨mx, hmx, rfl⟩ := hgx2 hex; clear hex) | (intro rx hrx; have hq := hres1 hrx (by omega); clear hrx) | (intro ex hex; (first | have hq := hg1 (by omega) hex | have hq := hg2 (by omega) hex); subst hq; clear hex) | (refine Ev.go ?_; conv => whnf) | refine And.intro ?_ ?_ | exact True.intro | exact rfl | (intro rx hrx; rw [ij _ (by omega)] at hrx) | (intro hcx; exfalso; omega) | intro _))
    refine TSq.pureC b1 cl rfl (And.intro rfl rfl) ?_
    (repeat' (first | (intro ex hex; obtain ⟨mx, hmx, rfl⟩ := hgx1 hex; clear hex) | (intro ex hex; obtain ⟨mx, hmx, rfl⟩ := hgx2 hex; clear hex) | (intro rx hrx; have hq := hres1 hrx (by omega); clear hrx) | (intro ex hex; (first | have hq := hg1 (by omega) hex | have hq := hg2 (by omega) hex); subst hq; clear hex) | (refine Ev.go ?_; conv => whnf) | refine And.intro ?_ ?_ | exact True.intro | exact rfl | (intro rx hrx; rw [ij _ (by omega)] at hrx) | (intro hcx; exfalso; omega) | intro _))
    refine TSq.pureC b19 cl rfl (And.intro rfl rfl) ?_
    (repeat' (first | (intro ex hex; obtain ⟨mx, hmx, rfl⟩ := hgx1 hex; clear hex) | (intro ex hex; obtain ⟨mx, hmx, rfl⟩ := hgx2 hex; clear hex) | (intro rx hrx; have hq := hres1 hrx (by omega); clear hrx) | (intro ex hex; (first | have hq := hg1 (by omega) hex | have hq := hg2 (by omega) hex); subst hq; clear hex) | (refine Ev.go ?_; conv => whnf) | refine And.intro ?_ ?_ | exact True.intro | exact rfl | (intro rx hrx; rw [ij _ (by omega)] at hrx) | (intro hcx; exfalso; omega) | intro _))
    all_goals (first | (refine ⟨?_⟩; exact vc) | exact cl | skip)
    refine TWq.seq (TWq.go ?_)
    (repeat' (first | (intro ex hex; obtain ⟨mx, hmx, rfl⟩ := hgx1 hex; clear hex) | (intro ex hex; obtain ⟨mx, hmx, rfl⟩ := hgx2 hex; clear hex) | (intro rx hrx; have hq := hres1 hrx (by omega); clear hrx) | (intro ex hex; (first | have hq := hg1 (by omega) hex | have hq := hg2 (by omega) hex); subst hq; clear hex) | (refine Ev.go ?_; conv => whnf) | refine And.intro ?_ ?_ | exact True.intro | exact rfl | (intro rx hrx; rw [ij _ (by omega)] at hrx) | (intro hcx; exfalso; omega) | intro _))
    all_goals (try (exfalso; omega))
    all_goals (first | (refine ⟨?_⟩; exact vc) | exact cl | skip)
    refine TWq.seq (TWq.go ?_)
    (repeat' (first | (intro ex hex; obtain ⟨mx, hmx, rfl⟩ := hgx1 hex; clear hex) | (intro ex hex; obtain ⟨mx, hmx, rfl⟩ := hgx2 hex; clear hex) | (intro rx hrx; have hq := hres1 hrx (by omega); clear hrx) | (intro ex hex; (first | have hq := hg1 (by omega) hex | have hq := hg2 (by omega) hex); subst hq; clear hex) | (refine Ev.go ?_; conv => whnf) | refine And.intro ?_ ?_ | exact True.intro | exact rfl | (intro rx hrx; rw [ij _ (by omega)] at hrx) | (intro hcx; exfalso; omega) | intro _))
    refine TWq.seq (TWq.go ?_)
    (repeat' (first | (intro ex hex; obtain ⟨mx, hmx, rfl⟩ := hgx1 hex; clear hex) | (intro ex hex; obtain ⟨mx, hmx, rfl⟩ := hgx2 hex; clear hex) | (intro rx hrx; have hq := hres1 hrx (by omega); clear hrx) | (intro ex hex; (first | have hq := hg1 (by omega) hex | have hq := hg2 (by omega) hex); subst hq; clear hex) | (refine Ev.go ?_; conv => whnf) | refine And.intro ?_ ?_ | exact True.intro | exact rfl | (intro rx hrx; rw [ij _ (by omega)] at hrx) | (intro hcx; exfalso; omega) | intro _))
    refine TWq.loop (fun k : Nat => [(24, .int .i64 k), (23, .int .i64 (qs + sumL (A.take k)))]) (fun _ => []) (fun k => k ≤ s.members.length) (fun k => s.members.length - k) 0 [] [] ?_ (by omega) ?_
    · (repeat' (first | (intro ex hex; obtain ⟨mx, hmx, rfl⟩ := hgx1 hex; clear hex) | (intro ex hex; obtain ⟨mx, hmx, rfl⟩ := hgx2 hex; clear hex) | (intro rx hrx; have hq := hres1 hrx (by omega); clear hrx) | (intro ex hex; (first | have hq := hg1 (by omega) hex | have hq := hg2 (by omega) hex); subst hq; clear hex) | (refine Ev.go ?_; conv => whnf) | refine And.intro ?_ ?_ | exact True.intro | exact rfl | (intro rx hrx; rw [ij _ (by omega)] at hrx) | (intro hcx; exfalso; omega) | intro _))
      all_goals (first | (refine ⟨?_⟩; exact vc) | exact cl | skip)
      all_goals (try (refine ⟨?_⟩; simp [sumL]; done))
    intro k hk
    have hSk := hSb k
    have hqs : qs ≤ 200000 := by
      have := hSb A.length
      rw [List.take_length] at this
      omega
    rcases Nat.lt_or_ge k s.members.length with hkl | hkl
    · obtain ⟨r, a, hr1, ha1, hr2, hr3⟩ := hbn k hkl
      have hsk := sumL_take ha1
      have hab := hcb a (List.mem_of_getElem? ha1)
      have hg1 : ∀ {n : Nat} {e : SV}, n = k → (ints A)[n]? = some e → e = .int .i64 a := by
        rintro n e rfl he
        obtain ⟨x, hx, rfl⟩ := ints_at he
        rw [ha1] at hx; cases hx; rfl
      have hg2 : ∀ {n : Nat} {e : SV}, n = k → (encRs B)[n]? = some e → e = encR r := by
        rintro n e rfl he
        obtain ⟨x, hx, rfl⟩ := encRs_at he
        rw [hr1] at hx; cases hx; rfl
      (repeat' (first | (intro ex hex; obtain ⟨mx, hmx, rfl⟩ := hgx1 hex; clear hex) | (intro ex hex; obtain ⟨mx, hmx, rfl⟩ := hgx2 hex; clear hex) | (intro rx hrx; have hq := hres1 hrx (by omega); clear hrx) | (intro ex hex; (first | have hq := hg1 (by omega) hex | have hq := hg2 (by omega) hex); subst hq; clear hex) | (refine Ev.go ?_; conv => whnf) | refine And.intro ?_ ?_ | exact True.intro | exact rfl | (intro rx hrx; rw [ij _ (by omega)] at hrx) | (intro hcx; exfalso; omega) | intro _))
      all_goals (first | (refine ⟨?_⟩; exact vk) | exact cl | skip)
      all_goals (try (exfalso; omega))
      refine ⟨⟨k + 1, by omega, by omega, ?_⟩⟩
      (repeat' (first | (intro ex hex; obtain ⟨mx, hmx, rfl⟩ := hgx1 hex; clear hex) | (intro ex hex; obtain ⟨mx, hmx, rfl⟩ := hgx2 hex; clear hex) | (intro rx hrx; have hq := hres1 hrx (by omega); clear hrx) | (intro ex hex; (first | have hq := hg1 (by omega) hex | have hq := hg2 (by omega) hex); subst hq; clear hex) | (refine Ev.go ?_; conv => whnf) | refine And.intro ?_ ?_ | exact True.intro | exact rfl | (intro rx hrx; rw [ij _ (by omega)] at hrx) | (intro hcx; exfalso; omega) | intro _))
      all_goals (first | (refine ⟨?_⟩; exact vc) | exact cl | skip)
      all_goals (try (refine ⟨?_⟩; rw [hsk]; omega))
    · have hke : k = A.length := by omega
      subst hke
      rw [List.take_length] at hSk
      have hfin : qs + sumL (A.take A.length) = aw + so := by rw [List.take_length]; omega
      (repeat' (first | (intro ex hex; obtain ⟨mx, hmx, rfl⟩ := hgx1 hex; clear hex) | (intro ex hex; obtain ⟨mx, hmx, rfl⟩ := hgx2 hex; clear hex) | (intro rx hrx; have hq := hres1 hrx (by omega); clear hrx) | (intro ex hex; (first | have hq := hg1 (by omega) hex | have hq := hg2 (by omega) hex); subst hq; clear hex) | (refine Ev.go ?_; conv => whnf) | refine And.intro ?_ ?_ | exact True.intro | exact rfl | (intro rx hrx; rw [ij _ (by omega)] at hrx) | (intro hcx; exfalso; omega) | intro _))
      all_goals (first | (refine ⟨?_⟩; exact vc) | exact cl | skip)
      refine TWq.go ?_
      (repeat' (first | (intro ex hex; obtain ⟨mx, hmx, rfl⟩ := hgx1 hex; clear hex) | (intro ex hex; obtain ⟨mx, hmx, rfl⟩ := hgx2 hex; clear hex) | (intro rx hrx; have hq := hres1 hrx (by omega); clear hrx) | (intro ex hex; (first | have hq := hg1 (by omega) hex | have hq := hg2 (by omega) hex); subst hq; clear hex) | (refine Ev.go ?_; conv => whnf) | refine And.intro ?_ ?_ | exact True.intro | exact rfl | (intro rx hrx; rw [ij _ (by omega)] at hrx) | (intro hcx; exfalso; omega) | intro _))
      all_goals (try (exfalso; omega))
      refine TSq.pureC d10 cl rfl (And.intro rfl rfl) ?_
      (repeat' (first | (intro ex hex; obtain ⟨mx, hmx, rfl⟩ := hgx1 hex; clear hex) | (intro ex hex; obtain ⟨mx, hmx, rfl⟩ := hgx2 hex; clear hex) | (intro rx hrx; have hq := hres1 hrx (by omega); clear hrx) | (intro ex hex; (first | have hq := hg1 (by omega) hex | have hq := hg2 (by omega) hex); subst hq; clear hex) | (refine Ev.go ?_; conv => whnf) | refine And.intro ?_ ?_ | exact True.intro | exact rfl | (intro rx hrx; rw [ij _ (by omega)] at hrx) | (intro hcx; exfalso; omega) | intro _))
      try rfl
end Go.Proofs.YtjadiajfbflghaaGreat
