/- An own slice published, also where it lies in records that are elements of another own slice; all aggregates of the state written out. Cases: the small functions. Cases: all over lists of fields (printed by a program). Cases: the error of a case; lists of counts; the award so far, and the fee. Cases: how a field is settled; the award so far, and the fee. Cases: what a truth comes to. Cases: the iterators over ranges and over the three counts of a field. Cases: the outcomes of all fields. -/
import Derived.Test.YtjadiajfbflghaaGreatA6
import Derived.Test.YtjadiajfbflghaaGreatA10
import Derived.Test.YtjadiajfbflghaaGreatA8
set_option linter.unusedSimpArgs false
set_option linter.unusedVariables false
set_option linter.unusedSimpArgs false
set_option linter.unusedVariables false
namespace Go.TV
open Go.RowKit
def subALK (b sz : Nat) (es : List SV) : List SV → (List SV → Prop) → Prop
  | [], k => k []
  | s :: ss, k => forceK (subA b sz es s) fun s' => subALK b sz es ss fun l => k (s' :: l)
theorem subALK_eq {b sz : Nat} {es : List SV} : ∀ {xs : List SV} {k : List SV → Prop}, subALK b sz es xs k → k (subAL b sz es xs)
  | [], _, h => h
  | s :: ss, k, h => subALK_eq (xs := ss) (k := fun l => k (subA b sz es s :: l)) (forceK_iff.1 h)
def deepG (b sz : Nat) (es : List SV) (s : SV) (k : SV → Prop) : Prop :=
  match s with
  | .agg cs => subALK b sz es cs fun l => k (.agg l)
  | .tup cs => subALK b sz es cs fun l => k (.tup l)
  | s => forceK (subT b sz es s) k
theorem deepG_eq {b sz : Nat} {es : List SV} {s : SV} {k : SV → Prop} (h : deepG b sz es s k) : k (subT b sz es s) := by
  unfold deepG at h
  split at h
  · exact subALK_eq (k := fun l => k (.agg l)) h
  · exact subALK_eq (k := fun l => k (.tup l)) h
  · exact forceK_iff.1 h
def subTKD (b sz : Nat) (es : List SV) : List SV → (List SV → Prop) → Prop
  | [], k => k []
  | s :: ss, k => forceK s fun s0 => deepG b sz es s0 fun s' => subTKD b sz es ss fun l => k (s' :: l)
theorem subTKD_eq {b sz : Nat} {es : List SV} : ∀ {σ : List SV} {k : List SV → Prop}, subTKD b sz es σ k → k (σ.map (subT b sz es))
  | [], _, h => h
  | s :: ss, k, h => subTKD_eq (σ := ss) (k := fun l => k (subT b sz es s :: l)) (deepG_eq (forceK_iff.1 h))
def subH2 (b sz : Nat) (es : List SV) : LB → LB
  | .cells cs => .cells (subAL b sz es cs)
  | .arr e s xs => .arr e s (xs.map (subT b sz es))
  | lb => lb
def subHG2 (b sz : Nat) (es : List SV) (x : LB) (k : LB → Prop) : Prop :=
  match x with
  | .cells cs => subALK b sz es cs fun l => k (.cells l)
  | .arr e s xs => subTKD b sz es xs fun l => k (.arr e s l)
  | x => k x
theorem subHG2_eq {b sz : Nat} {es : List SV} {x : LB} {k : LB → Prop} (h : subHG2 b sz es x k) : k (subH2 b sz es x) := by
  cases x with
  | cells cs => exact subALK_eq (k := fun l => k (.cells l)) h
  | arr e s xs => exact subTKD_eq (k := fun l => k (.arr e s l)) h
  | _ => exact h
def subHKD2 (b sz : Nat) (es : List SV) : List LB → (List LB → Prop) → Prop
  | [], k => k []
  | x :: xs, k => subHG2 b sz es x fun x' => subHKD2 b sz es xs fun l => k (x' :: l)
theorem subHKD2_eq {b sz : Nat} {es : List SV} : ∀ {xs : List LB} {k : List LB → Prop}, subHKD2 b sz es xs k → k (xs.map (subH2 b sz es))
  | [], _, h => h
  | x :: xs, k, h => subHKD2_eq (xs := xs) (k := fun l => k (subH2 b sz es x :: l)) (subHG2_eq h)
def pubB2 (b : Nat) (S : St) (k : St → Prop) : Prop :=
  match hget S.h b with
  | .arr _ sz es => Vc (cloL es) ∧ Ev (subTKD b sz es S.σ fun σ' => subHKD2 b sz es S.h fun h1 => updGo h1 b .dead fun h' => k ⟨σ', h', S.mks⟩)
  | _ => False
section
variable {P : Program} {r : Fr}
theorem pubB2_spec {b B : Nat} {S : St} {k : St → Prop} (h : pubB2 b S k) : ∃ S', k S' ∧ Wk P B S S' := by
  unfold pubB2 at h
  split at h
  · rename_i e sz es he
    obtain ⟨⟨hc⟩, h⟩ := h
    have h := updGo_spec (subHKD2_eq (subTKD_eq h.at))
    obtain ⟨h', h1, h2, h3, h4, h5⟩ := h
    refine ⟨_, h1, fun g a w hs => ?_⟩
    have hbb := hs.hp b
    rw [he] at hbb
    obtain ⟨l, hl⟩ : ∃ l, g.ι b = some l := ⟨_, hbb.choose_spec.choose_spec.1⟩
    have hblt : b < S.h.length := hs.lt b (hs.ok.own b l hl).1
    have bk : Bk P g S.h w := ⟨hs.ok, hs.lt, hs.hp⟩
    obtain ⟨r2, r3⟩ := pub_book (h' := S.h.set b .dead) bk hl (by simp) (by rw [hget_setD b hblt]; simp) (fun c hc => by rw [hget_setD c hblt]; simp [hc])
      (bk.nodep (fun es e => by rw [he] at e; cases e) (fun e => by rw [he] at e; cases e) (fun _ e => by rw [he] at e; cases e))
    have hsl : ∀ v, den w (g.pub b l.blk).imm (.own b) g.dom g.ι v → den w (g.pub b l.blk).imm (.sl sz es) g.dom g.ι v := fun v hv => by
      simp only [den] at hv
      exact clo_den _ (by simp only [clo]) (sl_of_own (imm := (g.pub b l.blk).imm) hl hbb hc (v := v) (by simp only [Gh.den, den]; exact hv) (fun r hr => .inl hr) (.inr rfl))
    have himm : ∀ r, g.imm r → (g.pub b l.blk).imm r := fun r hr => .inl hr
    have hι : ∀ c l', g.dom c → (g.pub b l.blk).ι c = some l' → g.ι c = some l' := fun c l' _ hc => by
      simp only [Gh.pub] at hc
      split at hc
      · cases hc
      · exact hc
    refine ⟨g.pub b l.blk, ⟨r2.ok, fun c hc' => ?_, ?_, fun c => ?_, r3.df hs.df⟩, r3.exw B⟩
    · have := r2.lt c hc'
      simp at this h2
      simp only; omega
    · exact denL.mono (fun _ h => h) (fun _ _ => rfl) _ (fun _ h => h) hι (map_denL (subT_den hsl) (denL_imm himm hs.tm))
    · simp only
      by_cases hcb : c = b
      · subst hcb; rw [h4]; trivial
      · rw [h5 c hcb, hget_map rfl]
        have := r2.hp c
        rw [hget_setD c hblt, if_neg hcb] at this
        cases hg : hget S.h c <;> rw [hg] at this <;> try exact this
        · rename_i cs
          have hcc := hs.hp c
          rw [hg] at hcc
          obtain ⟨l', vs, t, q1, q2, q3⟩ := hcc
          refine ⟨l', vs, t, by simp [Gh.pub, hcb, q1], q2, ?_⟩
          exact denL.mono (fun _ h => h) (fun _ _ => rfl) _ (fun _ h => h) hι (subAL_den hsl (denL_imm himm q3))
        · rename_i e1 s1 xs
          have hcc := hs.hp c
          rw [hg] at hcc
          obtain ⟨l', vs, q1, q2, q3, q4, q5⟩ := hcc
          refine ⟨l', vs, by simp [Gh.pub, hcb, q1], by simpa using q2, ?_, q4, q5⟩
          exact denL.mono (fun _ h => h) (fun _ _ => rfl) _ (fun _ h => h) hι (map_denL (subT_den hsl) (denL_imm himm q3))
  · exact h.elim
theorem TSq.pub2 (b : Nat) {ts : List TOper} {S : St} {K : St → Prop} (h : Ev (pubB2 b S fun S' => evR P r ts S' K)) : TSq P r ts S K := by
  obtain ⟨S', h1, h2⟩ := pubB2_spec h.at
  exact TSq.wk h2 (TSq_iff.2 (evR_sound h1))
end
end Go.TV
set_option linter.unusedSimpArgs false
set_option linter.unusedVariables false
open Go Go.TV
namespace Go.Proofs.YtjadiajfbflghaaGreat
theorem c117 (n lo hi : Int) : PF Tryz.prog 117 [.int .i64 n, .int .i64 lo, .int .i64 hi] (· = .bool (within n lo hi)) := by
  refine PF.of (TF.ev fn_117 (Ev.at ?_))
  (repeat' (first | (refine Ev.go ?_; conv => whnf) | refine And.intro ?_ ?_ | exact True.intro | exact rfl | (intro rx hrx; rw [ij _ (by omega)] at hrx) | (intro hcx; exfalso; omega) | intro _))
  all_goals (rw [SV.bool_iff]; simp [within]; omega)
theorem c121 (l : List Int) (h : l ≠ []) (hlen : l.length ≤ 1000000) : PF Tryz.prog 121 [.sl 1 (ints l)] (· = .int .i64 (minL l)) := by
  refine PF.of (TF.ev fn_121 (Ev.at ?_))
  (repeat' (first | (refine Ev.go ?_; conv => whnf) | refine And.intro ?_ ?_ | exact True.intro | exact rfl | (intro rx hrx; rw [ij _ (by omega)] at hrx) | (intro hcx; exfalso; omega) | intro _))
  refine TSq.pureC (c185 l h hlen) cl rfl (And.intro rfl rfl) ?_
  (repeat' (first | (refine Ev.go ?_; conv => whnf) | refine And.intro ?_ ?_ | exact True.intro | exact rfl | (intro rx hrx; rw [ij _ (by omega)] at hrx) | (intro hcx; exfalso; omega) | intro _))
  try rfl
theorem c122 (r : Rng) (n : Int) : PF Tryz.prog 122 [encR r, .int .i64 n] (· = .bool (within n r.lo r.hi)) := by
  refine PF.of (TF.ev fn_122 (Ev.at ?_))
  (repeat' (first | (refine Ev.go ?_; conv => whnf) | refine And.intro ?_ ?_ | exact True.intro | exact rfl | (intro rx hrx; rw [ij _ (by omega)] at hrx) | (intro hcx; exfalso; omega) | intro _))
  all_goals (first | (refine ⟨?_⟩; exact vc) | exact cl | skip)
  refine TSq.pureC (c117 n r.lo r.hi) cl rfl (And.intro rfl rfl) ?_
  (repeat' (first | (refine Ev.go ?_; conv => whnf) | refine And.intro ?_ ?_ | exact True.intro | exact rfl | (intro rx hrx; rw [ij _ (by omega)] at hrx) | (intro hcx; exfalso; omega) | intro _))
  try rfl
theorem c123 (n : Int) (h : -1000 ≤ n ∧ n ≤ 1000) : PF Tryz.prog 123 [.int .i64 n] (· = .int .i64 (absI n)) := by
  refine PF.of (TF.ev fn_123 (Ev.at ?_))
  (repeat' (first | (refine Ev.go ?_; conv => whnf) | refine And.intro ?_ ?_ | exact True.intro | exact rfl | (intro rx hrx; rw [ij _ (by omega)] at hrx) | (intro hcx; exfalso; omega) | intro _))
  all_goals (first | (refine ⟨?_⟩; exact vc) | exact cl | skip)
  all_goals (unfold absI; congr 1; split <;> omega)
theorem c180 (r : Rng) (h : r.cntB = true) : PF Tryz.prog 180 [encR r] (· = .bool true) := by
  have h := cnt_of h
  refine PF.of (TF.ev fn_180 (Ev.at ?_))
  (repeat' (first | (refine Ev.go ?_; conv => whnf) | refine And.intro ?_ ?_ | exact True.intro | exact rfl | (intro rx hrx; rw [ij _ (by omega)] at hrx) | (intro hcx; exfalso; omega) | intro _))
  all_goals (try (exfalso; omega))
  all_goals (try (rw [SV.bool_iff]; simp; omega))
theorem c124 (c : Cas) (f : Fld) (n : Int) : PF Tryz.prog 124 [encCas c, encFld f, .int .i64 n] (· = .tup [encClm ⟨f.crop, f.value, ⟨c.day, c.day⟩, ⟨n, n⟩⟩, .agg [.int .i64 c.day, .int .i64 n]]) := by
  refine PF.of (TF.ev fn_124 (Ev.at ?_))
  (repeat' (first | (refine Ev.go ?_; conv => whnf) | refine And.intro ?_ ?_ | exact True.intro | exact rfl | (intro rx hrx; rw [ij _ (by omega)] at hrx) | (intro hcx; exfalso; omega) | intro _))
  all_goals (first | (refine ⟨?_⟩; exact vk) | exact cl | skip)
  all_goals (try rfl)
set_option maxRecDepth 100000 in
theorem c60 (c : Cas) (f : Fld) (n : Int) (a : Tf) (hv : ValidTs c.tfs) (ha : c.tfs[0]? = some a) (hc : 0 ≤ f.crop ∧ f.crop < a.rates.length) (hva : 0 ≤ f.value ∧ f.value ≤ 100000) (hd : 0 ≤ c.day ∧ c.day ≤ 120) (hn : 0 ≤ n ∧ n ≤ 100) :
    PF Tryz.prog 60 [encCas c, encFld f, .int .i64 n] (· = .tup [.int .i64 (payC c f n), .bool true]) := by
  have d1 := c124 c f n
  have d2 := c76 c.tfs a f.crop f.value c.day n hv ha hc hva hd hn
  rw [show payF c.tfs f.crop f.value c.day n = payC c f n from rfl] at d2
  generalize payC c f n = q at *
  refine PF.of (TF.ev fn_60 (Ev.at ?_))
  (repeat' (first | (refine Ev.go ?_; conv => whnf) | refine And.intro ?_ ?_ | exact True.intro | exact rfl | (intro rx hrx; rw [ij _ (by omega)] at hrx) | (intro hcx; exfalso; omega) | intro _))
  all_goals (first | (refine ⟨?_⟩; exact vc) | exact cl | skip)
  refine TSq.pureC d1 (by simp [cloL, encCas_clo, encFld_clo, clo]) rfl (And.intro rfl rfl) ?_
  (repeat' (first | (refine Ev.go ?_; conv => whnf) | refine And.intro ?_ ?_ | exact True.intro | exact rfl | (intro rx hrx; rw [ij _ (by omega)] at hrx) | (intro hcx; exfalso; omega) | intro _))
  all_goals (first | (refine ⟨?_⟩; exact vc) | exact cl | skip)
  refine TSq.pureC d2 (by simp [cloL, encTfs_clo, encClm, clo]) rfl (And.intro rfl rfl) ?_
  (repeat' (first | (refine Ev.go ?_; conv => whnf) | refine And.intro ?_ ?_ | exact True.intro | exact rfl | (intro rx hrx; rw [ij _ (by omega)] at hrx) | (intro hcx; exfalso; omega) | intro _))
  all_goals (first | (refine ⟨?_⟩; exact vc) | exact cl | skip)
  all_goals (try rfl)
set_option maxRecDepth 100000 in
theorem c116 (c : Cas) (f : Fld) (a : Tf) (hv : ValidTs c.tfs) (ha : c.tfs[0]? = some a) (hd : 0 ≤ c.day ∧ c.day ≤ 120) (hf : OkF a.rates.length f) : PF Tryz.prog 116 [encCas c, encFld f] (· = .bool true) := by
  have d1 := c60 c f 0 a hv ha hf.crop hf.value hd (by omega)
  have d2 := c117 f.near 0 100
  rw [show within f.near 0 100 = true by simp only [within, decide_eq_true_eq]; exact hf.near] at d2
  have d3 := c180 f.fi hf.fi
  have d4 := c180 f.se hf.se
  have d5 := c180 f.um hf.um
  generalize payC c f 0 = q at *
  refine PF.of (TF.ev fn_116 (Ev.at ?_))
  (repeat' (first | (refine Ev.go ?_; conv => whnf) | refine And.intro ?_ ?_ | exact True.intro | exact rfl | (intro rx hrx; rw [ij _ (by omega)] at hrx) | (intro hcx; exfalso; omega) | intro _))
  all_goals (first | (refine ⟨?_⟩; exact vc) | exact cl | skip)
  refine TSq.pureC d1 (by simp [cloL, encCas_clo, encFld_clo, clo]) rfl (And.intro rfl rfl) ?_
  (repeat' (first | (refine Ev.go ?_; conv => whnf) | refine And.intro ?_ ?_ | exact True.intro | exact rfl | (intro rx hrx; rw [ij _ (by omega)] at hrx) | (intro hcx; exfalso; omega) | intro _))
  all_goals (first | (refine ⟨?_⟩; exact vc) | exact cl | skip)
  refine TSq.pureC d2 cl rfl (And.intro rfl rfl) ?_
  (repeat' (first | (refine Ev.go ?_; conv => whnf) | refine And.intro ?_ ?_ | exact True.intro | exact rfl | (intro rx hrx; rw [ij _ (by omega)] at hrx) | (intro hcx; exfalso; omega) | intro _))
  refine TSq.pureC d3 cl rfl (And.intro rfl rfl) ?_
  (repeat' (first | (refine Ev.go ?_; conv => whnf) | refine And.intro ?_ ?_ | exact True.intro | exact rfl | (intro rx hrx; rw [ij _ (by omega)] at hrx) | (intro hcx; exfalso; omega) | intro _))
  refine TSq.pureC d4 cl rfl (And.intro rfl rfl) ?_
  (repeat' (first | (refine Ev.go ?_; conv => whnf) | refine And.intro ?_ ?_ | exact True.intro | exact rfl | (intro rx hrx; rw [ij _ (by omega)] at hrx) | (intro hcx; exfalso; omega) | intro _))
  refine TSq.pureC d5 cl rfl (And.intro rfl rfl) ?_
  (repeat' (first | (refine Ev.go ?_; conv => whnf) | refine And.intro ?_ ?_ | exact True.intro | exact rfl | (intro rx hrx; rw [ij _ (by omega)] at hrx) | (intro hcx; exfalso; omega) | intro _))
  try rfl
end Go.Proofs.YtjadiajfbflghaaGreat
set_option linter.unusedSimpArgs false
set_option linter.unusedVariables false
open Go Go.TV
namespace Go.Proofs.YtjadiajfbflghaaGreat
set_option linter.unusedSimpArgs false
theorem noFld (c0 : Cas) (y : Fld) (b : Bool) (h : PF Tryz.prog 116 [encCas c0, encFld y] (· = .bool b)) : PF Tryz.prog 182 [encFld y, .iptr (.agg [.fn 116 [encCas c0] []]) 0] (· = .bool !b) := by
  refine PF.of (TF.ev fn_182 (Ev.at ?_))
  (repeat' (first | (refine Ev.go ?_; conv => whnf) | refine And.intro ?_ ?_ | exact True.intro | exact rfl | (intro rx hrx; rw [ij _ (by omega)] at hrx) | (intro hcx; exfalso; omega) | intro _))
  all_goals (first | (refine ⟨?_⟩; exact vc) | exact cl | skip)
  refine TSq.pureBC h (by simp [cloL, clo, encFld, encCas_clo, encFlds_clo]) rfl (And.intro rfl rfl) ?_ ?_ <;> intro hb
  all_goals
    subst hb
    (repeat' (first | (refine Ev.go ?_; conv => whnf) | refine And.intro ?_ ?_ | exact True.intro | exact rfl | (intro rx hrx; rw [ij _ (by omega)] at hrx) | (intro hcx; exfalso; omega) | intro _))
    try rfl
theorem ixFld (c0 : Cas) (l : List (Fld)) (p : Fld → Bool) (hp : ∀ y ∈ l, PF Tryz.prog 116 [encCas c0, encFld y] (· = .bool (p y))) (hlen : l.length ≤ 1000000) :
    PF Tryz.prog 232 [.sl 9 (encFlds l), .fn 182 [] [.iptr (.agg [.fn 116 [encCas c0] []]) 0]] fun s => ∃ i : Int, s = .int .i64 i ∧ (0 ≤ i ↔ l.any (fun y => !p y) = true) := by
  have hz := encFlds_len l
  refine PF.of (TF.ev fn_232 (Ev.at ?_))
  (repeat' (first | (intro ex hex; have hq := hg1 (by omega) hex; subst hq; clear hex) | (refine Ev.go ?_; conv => whnf) | refine And.intro ?_ ?_ | exact True.intro | exact rfl | (intro rx hrx; rw [ij _ (by omega)] at hrx) | (intro hcx; exfalso; omega) | intro _))
  refine TWq.loop (fun k : Nat => [(8, .int .i64 k)]) (fun _ => []) (fun k => k ≤ l.length ∧ (l.take k).any (fun y => !p y) = false) (fun k => l.length - k) 0 [] [] ?_ ⟨by omega, by simp⟩ ?_
  · (repeat' (first | (intro ex hex; have hq := hg1 (by omega) hex; subst hq; clear hex) | (refine Ev.go ?_; conv => whnf) | refine And.intro ?_ ?_ | exact True.intro | exact rfl | (intro rx hrx; rw [ij _ (by omega)] at hrx) | (intro hcx; exfalso; omega) | intro _))
    all_goals (first | (refine ⟨?_⟩; exact vc) | exact cl | skip)
  · rintro k ⟨hk, hno⟩
    rcases Nat.lt_or_ge k l.length with hkl | hkl
    · obtain ⟨v, hv⟩ : ∃ v, l[k]? = some v := ⟨_, List.getElem?_eq_getElem hkl⟩
      have hm := List.mem_of_getElem? hv
      have hg1 : ∀ {n : Nat} {e : SV}, n = k → (encFlds l)[n]? = some e → e = encFld v := by
        rintro n e rfl he
        obtain ⟨x, hx, rfl⟩ := encFlds_at he
        rw [hv] at hx; cases hx; rfl
      have hno1 := noFld c0 v _ (hp v hm)
      (repeat' (first | (intro ex hex; have hq := hg1 (by omega) hex; subst hq; clear hex) | (refine Ev.go ?_; conv => whnf) | refine And.intro ?_ ?_ | exact True.intro | exact rfl | (intro rx hrx; rw [ij _ (by omega)] at hrx) | (intro hcx; exfalso; omega) | intro _))
      all_goals (first | (refine ⟨?_⟩; exact vc) | exact cl | skip)
      refine TSq.pureBC hno1 (by simp [cloL, clo, encFld, encCas_clo, encFlds_clo]) rfl (And.intro rfl rfl) ?_ ?_ <;> intro hb
      · (repeat' (first | (intro ex hex; have hq := hg1 (by omega) hex; subst hq; clear hex) | (refine Ev.go ?_; conv => whnf) | refine And.intro ?_ ?_ | exact True.intro | exact rfl | (intro rx hrx; rw [ij _ (by omega)] at hrx) | (intro hcx; exfalso; omega) | intro _))
        all_goals (first | (refine ⟨?_⟩; exact vc) | exact cl | skip)
        exact ⟨k, rfl, ⟨fun _ => List.any_eq_true.2 ⟨v, hm, hb⟩, fun _ => by omega⟩⟩
      · (repeat' (first | (intro ex hex; have hq := hg1 (by omega) hex; subst hq; clear hex) | (refine Ev.go ?_; conv => whnf) | refine And.intro ?_ ?_ | exact True.intro | exact rfl | (intro rx hrx; rw [ij _ (by omega)] at hrx) | (intro hcx; exfalso; omega) | intro _))
        all_goals (first | (refine ⟨?_⟩; exact vc) | exact cl | skip)
        refine ⟨⟨k + 1, ⟨by omega, by rw [take_snoc hv, List.any_append, hno]; simp_all⟩, by omega, ?_⟩⟩
        (repeat' (first | (intro ex hex; have hq := hg1 (by omega) hex; subst hq; clear hex) | (refine Ev.go ?_; conv => whnf) | refine And.intro ?_ ?_ | exact True.intro | exact rfl | (intro rx hrx; rw [ij _ (by omega)] at hrx) | (intro hcx; exfalso; omega) | intro _))
        all_goals (first | (refine ⟨?_⟩; exact vc) | exact cl | skip)
    · have hke : k = l.length := by omega
      subst hke
      rw [List.take_length] at hno
      (repeat' (first | (intro ex hex; have hq := hg1 (by omega) hex; subst hq; clear hex) | (refine Ev.go ?_; conv => whnf) | refine And.intro ?_ ?_ | exact True.intro | exact rfl | (intro rx hrx; rw [ij _ (by omega)] at hrx) | (intro hcx; exfalso; omega) | intro _))
      all_goals (first | (refine ⟨?_⟩; exact vc) | exact cl | skip)
      exact ⟨-1, rfl, by rw [hno]; simp⟩
theorem coFld (c0 : Cas) (l : List (Fld)) (p : Fld → Bool) (hp : ∀ y ∈ l, PF Tryz.prog 116 [encCas c0, encFld y] (· = .bool (p y))) (hlen : l.length ≤ 1000000) :
    PF Tryz.prog 181 [.sl 9 (encFlds l), .fn 182 [] [.iptr (.agg [.fn 116 [encCas c0] []]) 0]] (· = .bool (l.any fun y => !p y)) := by
  refine PF.of (TF.ev fn_181 (Ev.at ?_))
  (repeat' (first | (refine Ev.go ?_; conv => whnf) | refine And.intro ?_ ?_ | exact True.intro | exact rfl | (intro rx hrx; rw [ij _ (by omega)] at hrx) | (intro hcx; exfalso; omega) | intro _))
  refine TSq.pureQ rfl (ixFld c0 l p hp hlen) (by simp [cloL, clo, encFld, encCas_clo, encFlds_clo]) rfl (And.intro rfl rfl) ?_
  rintro s ⟨i, rfl, hi⟩ _
  (repeat' (first | (refine Ev.go ?_; conv => whnf) | refine And.intro ?_ ?_ | exact True.intro | exact rfl | (intro rx hrx; rw [ij _ (by omega)] at hrx) | (intro hcx; exfalso; omega) | intro _))
  all_goals (rw [SV.bool_iff]; rw [← hi]; simp; omega)
theorem alFld (c0 : Cas) (l : List (Fld)) (p : Fld → Bool) (hp : ∀ y ∈ l, PF Tryz.prog 116 [encCas c0, encFld y] (· = .bool (p y))) (hlen : l.length ≤ 1000000) :
    PF Tryz.prog 118 [.sl 9 (encFlds l), .fn 116 [encCas c0] []] (· = .bool (l.all p)) := by
  refine PF.of (TF.ev fn_118 (Ev.at ?_))
  (repeat' (first | (refine Ev.go ?_; conv => whnf) | refine And.intro ?_ ?_ | exact True.intro | exact rfl | (intro rx hrx; rw [ij _ (by omega)] at hrx) | (intro hcx; exfalso; omega) | intro _))
  refine TSq.lendBC (coFld c0 l p hp hlen) rfl (And.intro rfl ?_) ?_ ?_
  · (repeat' (first | (refine Ev.go ?_; conv => whnf) | refine And.intro ?_ ?_ | exact True.intro | exact rfl | (intro rx hrx; rw [ij _ (by omega)] at hrx) | (intro hcx; exfalso; omega) | intro _))
    all_goals (first | (refine ⟨?_⟩; exact vc) | exact cl | skip)
  all_goals
    intro hb
    (repeat' (first | (refine Ev.go ?_; conv => whnf) | refine And.intro ?_ ?_ | exact True.intro | exact rfl | (intro rx hrx; rw [ij _ (by omega)] at hrx) | (intro hcx; exfalso; omega) | intro _))
    all_goals (first | (refine ⟨?_⟩; exact vc) | exact cl | skip)
    all_goals (rw [SV.bool_iff]; simp_all [List.all_eq_not_any_not])
end Go.Proofs.YtjadiajfbflghaaGreat
set_option linter.unusedSimpArgs false
set_option linter.unusedVariables false
open Go Go.TV
namespace Go.Proofs.YtjadiajfbflghaaGreat
theorem first_of {c : Cas} (h : OkC c) : ∃ a, c.tfs[0]? = some a ∧ a.rates.length ≤ 3 := by
  have ha : c.tfs[0]? = some (c.tfs[0]'h.tfs.ne) := List.getElem?_eq_getElem h.tfs.ne
  have hf := h.tfs.few _ (List.mem_of_getElem? ha)
  simp only [Tf.few, Bool.and_eq_true, decide_eq_true_eq] at hf
  exact ⟨_, ha, hf.2.2⟩
set_option maxRecDepth 100000 in
theorem c54 (c : Cas) (h : OkC c) : PF Tryz.prog 54 [encCas c] (· = .int .i64 0) := by
  obtain ⟨a, ha, _⟩ := first_of h
  have hz := encFlds_len c.flds
  have hfew := h.few
  have d1 := c115 c.tfs h.tfs
  have d2 := c117 c.day 0 120
  have d3 := c117 c.fee 0 10000
  rw [show within c.day 0 120 = true by simp only [within, decide_eq_true_eq]; exact h.day] at d2
  rw [show within c.fee 0 10000 = true by simp only [within, decide_eq_true_eq]; exact h.fee] at d3
  have d4 := alFld c c.flds (fun _ => true) (fun f hf => c116 c f a h.tfs ha h.day (h.flds a ha f hf)) (by omega)
  rw [show (c.flds.all fun _ => true) = true from List.all_eq_true.2 fun y hy => rfl] at d4
  refine PF.of (TF.ev fn_54 (Ev.at ?_))
  (repeat' (first | (refine Ev.go ?_; conv => whnf) | refine And.intro ?_ ?_ | exact True.intro | exact rfl | (intro rx hrx; rw [ij _ (by omega)] at hrx) | (intro hcx; exfalso; omega) | intro _))
  all_goals (first | (refine ⟨?_⟩; exact vc) | exact cl | skip)
  refine TSq.pureC d1 (by simp [cloL, clo, encTfs_clo]) rfl (And.intro rfl rfl) ?_
  (repeat' (first | (refine Ev.go ?_; conv => whnf) | refine And.intro ?_ ?_ | exact True.intro | exact rfl | (intro rx hrx; rw [ij _ (by omega)] at hrx) | (intro hcx; exfalso; omega) | intro _))
  all_goals (try (exfalso; omega))
  all_goals (first | (refine ⟨?_⟩; exact vc) | exact cl | skip)
  refine TSq.pureC d2 cl rfl (And.intro rfl rfl) ?_
  (repeat' (first | (refine Ev.go ?_; conv => whnf) | refine And.intro ?_ ?_ | exact True.intro | exact rfl | (intro rx hrx; rw [ij _ (by omega)] at hrx) | (intro hcx; exfalso; omega) | intro _))
  refine TSq.pureC d3 cl rfl (And.intro rfl rfl) ?_
  (repeat' (first | (refine Ev.go ?_; conv => whnf) | refine And.intro ?_ ?_ | exact True.intro | exact rfl | (intro rx hrx; rw [ij _ (by omega)] at hrx) | (intro hcx; exfalso; omega) | intro _))
  refine TSq.pureC d4 (by simp [cloL, clo, encTfs_clo, encFlds_clo, encCas_clo]) rfl (And.intro rfl rfl) ?_
  (repeat' (first | (refine Ev.go ?_; conv => whnf) | refine And.intro ?_ ?_ | exact True.intro | exact rfl | (intro rx hrx; rw [ij _ (by omega)] at hrx) | (intro hcx; exfalso; omega) | intro _))
  try rfl
def TruthF (l : List Fld) (t : List Thr) : Prop := t.length = l.length ∧ ∀ (i : Nat) (f : Fld) (x : Thr), l[i]? = some f → t[i]? = some x → (f.fi.lo ≤ x.a ∧ x.a ≤ f.fi.hi) ∧ (f.se.lo ≤ x.b ∧ x.b ≤ f.se.hi) ∧ f.um.lo ≤ x.u ∧ x.u ≤ f.um.hi
set_option maxRecDepth 100000 in
set_option maxHeartbeats 4000000 in
theorem c58 (c : Cas) (t : List Thr) (hl : c.flds.length ≤ 1000) (ht : TruthF c.flds t) : PF Tryz.prog 58 [encCas c, .sl 3 (encThrs t)] (· = .bool true) := by
  have hz := encFlds_len c.flds
  have hw := encThrs_len t
  have hlen := ht.1
  refine PF.of (TF.ev fn_58 (Ev.at ?_))
  (repeat' (first | (intro ex hex; (first | have hq := hg1 (by omega) hex | have hq := hg2 (by omega) hex); subst hq; clear hex) | (refine Ev.go ?_; conv => whnf) | refine And.intro ?_ ?_ | exact True.intro | exact rfl | (intro rx hrx; rw [ij _ (by omega)] at hrx) | (intro hcx; exfalso; omega) | intro _))
  all_goals (first | (refine ⟨?_⟩; exact vc) | exact cl | skip)
  all_goals (try (exfalso; omega))
  refine TWq.loop (fun k : Nat => [(16, .int .i64 k), (6, .junk)]) (fun _ => []) (fun k => k ≤ c.flds.length) (fun k => c.flds.length - k) 0 [] [] ?_ (by omega) ?_
  · (repeat' (first | (intro ex hex; (first | have hq := hg1 (by omega) hex | have hq := hg2 (by omega) hex); subst hq; clear hex) | (refine Ev.go ?_; conv => whnf) | refine And.intro ?_ ?_ | exact True.intro | exact rfl | (intro rx hrx; rw [ij _ (by omega)] at hrx) | (intro hcx; exfalso; omega) | intro _))
    all_goals (first | (refine ⟨?_⟩; exact vc) | exact cl | skip)
  · intro k hk
    rcases Nat.lt_or_ge k c.flds.length with hkl | hkl
    · obtain ⟨f, hf⟩ : ∃ v, c.flds[k]? = some v := ⟨_, List.getElem?_eq_getElem hkl⟩
      obtain ⟨x, hx⟩ : ∃ v, t[k]? = some v := ⟨_, List.getElem?_eq_getElem (by omega)⟩
      obtain ⟨h1, h2, h3⟩ := ht.2 k f x hf hx
      have d1 := c122 f.fi x.a
      have d2 := c122 f.se x.b
      have d3 := c122 f.um x.u
      rw [show within x.a f.fi.lo f.fi.hi = true by simp only [within, decide_eq_true_eq]; exact h1] at d1
      rw [show within x.b f.se.lo f.se.hi = true by simp only [within, decide_eq_true_eq]; exact h2] at d2
      rw [show within x.u f.um.lo f.um.hi = true by simp only [within, decide_eq_true_eq]; exact h3] at d3
      have hg1 : ∀ {n : Nat} {e : SV}, n = k → (encFlds c.flds)[n]? = some e → e = encFld f := by
        rintro n e rfl he
        obtain ⟨y, hy, rfl⟩ := encFlds_at he
        rw [hf] at hy; cases hy; rfl
      have hg2 : ∀ {n : Nat} {e : SV}, n = k → (encThrs t)[n]? = some e → e = encThr x := by
        rintro n e rfl he
        obtain ⟨y, hy, rfl⟩ := encThrs_at he
        rw [hx] at hy; cases hy; rfl
      (repeat' (first | (intro ex hex; (first | have hq := hg1 (by omega) hex | have hq := hg2 (by omega) hex); subst hq; clear hex) | (refine Ev.go ?_; conv => whnf) | refine And.intro ?_ ?_ | exact True.intro | exact rfl | (intro rx hrx; rw [ij _ (by omega)] at hrx) | (intro hcx; exfalso; omega) | intro _))
      all_goals (first | (refine ⟨?_⟩; exact vk) | exact cl | skip)
      refine TDq.pureC d1 cl rfl (And.intro rfl rfl) ?_
      (repeat' (first | (intro ex hex; (first | have hq := hg1 (by omega) hex | have hq := hg2 (by omega) hex); subst hq; clear hex) | (refine Ev.go ?_; conv => whnf) | refine And.intro ?_ ?_ | exact True.intro | exact rfl | (intro rx hrx; rw [ij _ (by omega)] at hrx) | (intro hcx; exfalso; omega) | intro _))
      all_goals (first | (refine ⟨?_⟩; exact vk) | exact cl | skip)
      refine TDq.pureC d2 cl rfl (And.intro rfl rfl) ?_
      (repeat' (first | (intro ex hex; (first | have hq := hg1 (by omega) hex | have hq := hg2 (by omega) hex); subst hq; clear hex) | (refine Ev.go ?_; conv => whnf) | refine And.intro ?_ ?_ | exact True.intro | exact rfl | (intro rx hrx; rw [ij _ (by omega)] at hrx) | (intro hcx; exfalso; omega) | intro _))
      all_goals (first | (refine ⟨?_⟩; exact vk) | exact cl | skip)
      refine TDq.pureC d3 cl rfl (And.intro rfl rfl) ?_
      (repeat' (first | (intro ex hex; (first | have hq := hg1 (by omega) hex | have hq := hg2 (by omega) hex); subst hq; clear hex) | (refine Ev.go ?_; conv => whnf) | refine And.intro ?_ ?_ | exact True.intro | exact rfl | (intro rx hrx; rw [ij _ (by omega)] at hrx) | (intro hcx; exfalso; omega) | intro _))
      all_goals (first | (refine ⟨?_⟩; exact vk) | exact cl | skip)
      refine ⟨⟨k + 1, by omega, by omega, ?_⟩⟩
      (repeat' (first | (intro ex hex; (first | have hq := hg1 (by omega) hex | have hq := hg2 (by omega) hex); subst hq; clear hex) | (refine Ev.go ?_; conv => whnf) | refine And.intro ?_ ?_ | exact True.intro | exact rfl | (intro rx hrx; rw [ij _ (by omega)] at hrx) | (intro hcx; exfalso; omega) | intro _))
      all_goals (first | (refine ⟨?_⟩; exact vc) | exact cl | skip)
    · have hke : k = c.flds.length := by omega
      subst hke
      (repeat' (first | (intro ex hex; (first | have hq := hg1 (by omega) hex | have hq := hg2 (by omega) hex); subst hq; clear hex) | (refine Ev.go ?_; conv => whnf) | refine And.intro ?_ ?_ | exact True.intro | exact rfl | (intro rx hrx; rw [ij _ (by omega)] at hrx) | (intro hcx; exfalso; omega) | intro _))
      all_goals (first | (refine ⟨?_⟩; exact vc) | exact cl | skip)
      all_goals (try rfl)
theorem c125 (s : Sm) (h : (0 ≤ s.l1 ∧ s.l1 ≤ 1000) ∧ (0 ≤ s.l2 ∧ s.l2 ≤ 1000) ∧ 0 ≤ s.l3 ∧ s.l3 ≤ 1000) : PF Tryz.prog 125 [encSm s] (· = .bool (decide (s.l1 + s.l2 + s.l3 > 0))) := by
  refine PF.of (TF.ev fn_125 (Ev.at ?_))
  (repeat' (first | (refine Ev.go ?_; conv => whnf) | refine And.intro ?_ ?_ | exact True.intro | exact rfl | (intro rx hrx; rw [ij _ (by omega)] at hrx) | (intro hcx; exfalso; omega) | intro _))
  all_goals (first | (refine ⟨?_⟩; exact vc) | exact cl | skip)
  all_goals (rw [SV.bool_iff]; simp; omega)
theorem c61 (s : Sm) (x : Int × Int) (h1 : 0 ≤ s.aw ∧ s.aw ≤ 10000000) (h2 : (0 ≤ s.l0 ∧ s.l0 ≤ 1000) ∧ (0 ≤ s.l1 ∧ s.l1 ≤ 1000) ∧ (0 ≤ s.l2 ∧ s.l2 ≤ 1000) ∧ 0 ≤ s.l3 ∧ s.l3 ≤ 1000) (hx1 : 0 ≤ x.1 ∧ x.1 ≤ 10000000) (hx2 : 0 ≤ x.2 ∧ x.2 ≤ 3) :
    PF Tryz.prog 61 [encSm s, .agg [.int .i64 x.1, .int .i64 x.2]] (· = encSm (s.plus x)) := by
  obtain ⟨p, q⟩ := x
  dsimp only at hx1 hx2 ⊢
  have hq : q = 0 ∨ q = 1 ∨ q = 2 ∨ q = 3 := by omega
  rcases hq with rfl | rfl | rfl | rfl
  all_goals
    refine PF.of (TF.ev fn_61 (Ev.at ?_))
    (repeat' (first | (refine Ev.go ?_; conv => whnf) | refine And.intro ?_ ?_ | exact True.intro | exact rfl | (intro rx hrx; rw [ij _ (by omega)] at hrx) | (intro hcx; exfalso; omega) | intro _))
    all_goals (first | (refine ⟨?_⟩; exact vc) | exact cl | skip)
    all_goals (subst_vars; rfl)
theorem c62 (s : Sm) (fee : Int) (h : (0 ≤ s.l1 ∧ s.l1 ≤ 1000) ∧ (0 ≤ s.l2 ∧ s.l2 ≤ 1000) ∧ 0 ≤ s.l3 ∧ s.l3 ≤ 1000) (hf : 0 ≤ fee ∧ fee ≤ 10000) : PF Tryz.prog 62 [encSm s, .int .i64 fee] (· = .tup [.int .i64 (s.fees fee).1, .int .i64 (s.fees fee).2]) := by
  have d1 := c125 s h
  have hF : s.fees fee = if ¬ s.l1 + s.l2 + s.l3 > 0 then (0, 0) else if s.l2 > s.l3 then (fee, 0) else if s.l3 > s.l2 then (0, fee) else (fee - fee / 2, fee / 2) := rfl
  have hsub1 : ∀ {r y : Int}, r = IntKind.i64.wrap (y.tdiv 2) → y = fee → fee / 2 = r := fun h e => by
    rw [h, e, Int.tdiv_eq_ediv_of_nonneg hf.1, IntWalk.i64_in _ (by omega)]
  have hd : 0 ≤ fee / 2 ∧ fee / 2 ≤ fee := by omega
  generalize fee / 2 = half at *
  generalize s.fees fee = w at *
  refine PF.of (TF.ev fn_62 (Ev.at ?_))
  by_cases hc : s.l1 + s.l2 + s.l3 > 0
  · rw [decide_eq_true hc] at d1
    rw [if_neg (by omega)] at hF
    (repeat' (first | (intro rx hrx; have hq := hsub1 hrx (by omega); subst hq; clear hrx) | (refine Ev.go ?_; conv => whnf) | refine And.intro ?_ ?_ | exact True.intro | exact rfl | (intro rx hrx; rw [ij _ (by omega)] at hrx) | (intro hcx; exfalso; omega) | intro _))
    all_goals (first | (refine ⟨?_⟩; exact vc) | exact cl | skip)
    refine TSq.pureC d1 (by simp [cloL, clo, encSm]) rfl (And.intro rfl rfl) ?_
    (repeat' (first | (intro rx hrx; have hq := hsub1 hrx (by omega); subst hq; clear hrx) | (refine Ev.go ?_; conv => whnf) | refine And.intro ?_ ?_ | exact True.intro | exact rfl | (intro rx hrx; rw [ij _ (by omega)] at hrx) | (intro hcx; exfalso; omega) | intro _))
    all_goals (first | (refine ⟨?_⟩; exact vc) | exact cl | skip)
    all_goals (first | (rw [if_pos (by omega)] at hF; subst hF; rfl) | (rw [if_neg (by omega), if_pos (by omega)] at hF; subst hF; rfl) | (rw [if_neg (by omega), if_neg (by omega)] at hF; subst hF; subst_vars; rfl))
  · rw [decide_eq_false hc] at d1
    rw [if_pos hc] at hF
    subst hF
    (repeat' (first | (intro rx hrx; have hq := hsub1 hrx (by omega); subst hq; clear hrx) | (refine Ev.go ?_; conv => whnf) | refine And.intro ?_ ?_ | exact True.intro | exact rfl | (intro rx hrx; rw [ij _ (by omega)] at hrx) | (intro hcx; exfalso; omega) | intro _))
    all_goals (first | (refine ⟨?_⟩; exact vc) | exact cl | skip)
    refine TSq.pureC d1 (by simp [cloL, clo, encSm]) rfl (And.intro rfl rfl) ?_
    (repeat' (first | (intro rx hrx; have hq := hsub1 hrx (by omega); subst hq; clear hrx) | (refine Ev.go ?_; conv => whnf) | refine And.intro ?_ ?_ | exact True.intro | exact rfl | (intro rx hrx; rw [ij _ (by omega)] at hrx) | (intro hcx; exfalso; omega) | intro _))
    try rfl
end Go.Proofs.YtjadiajfbflghaaGreat
set_option linter.unusedSimpArgs false
set_option linter.unusedVariables false
open Go Go.TV
namespace Go.Proofs.YtjadiajfbflghaaGreat
theorem min2 (a b : Int) : minL [a, b] = min a b := by simp only [minL, List.foldl_cons, List.foldl_nil]
set_option maxRecDepth 100000 in
set_option maxHeartbeats 4000000 in
theorem c59 (f : Fld) (x : Thr) (ha : 0 ≤ x.a ∧ x.a ≤ 100) (hb : 0 ≤ x.b ∧ x.b ≤ 100) (hu : 0 ≤ x.u ∧ x.u ≤ 100) : PF Tryz.prog 59 [encFld f, encThr x] (· = .tup [.int .i64 (settleF f x).1, .int .i64 (settleF f x).2]) := by
  have d1 := c123 (x.a - x.b) (by omega)
  have d2 := c121 [x.a, x.b] (by simp) (by simp)
  have d3 := c121 [max x.u (min x.a x.b), max x.a x.b] (by simp) (by simp)
  rw [min2] at d2 d3
  have hS : settleF f x = if absI (x.a - x.b) ≤ f.near then ((x.a + x.b) / 2, 0) else
    (if absI (x.a - min (max x.u (min x.a x.b)) (max x.a x.b)) > absI (x.b - min (max x.u (min x.a x.b)) (max x.a x.b)) then (min (max x.u (min x.a x.b)) (max x.a x.b), 2)
      else if absI (x.b - min (max x.u (min x.a x.b)) (max x.a x.b)) > absI (x.a - min (max x.u (min x.a x.b)) (max x.a x.b)) then (min (max x.u (min x.a x.b)) (max x.a x.b), 3) else (min (max x.u (min x.a x.b)) (max x.a x.b), 1)) := rfl
  have hM : 0 ≤ min (max x.u (min x.a x.b)) (max x.a x.b) ∧ min (max x.u (min x.a x.b)) (max x.a x.b) ≤ 100 := by omega
  have d4 := c123 (x.a - min (max x.u (min x.a x.b)) (max x.a x.b)) (by omega)
  have d5 := c123 (x.b - min (max x.u (min x.a x.b)) (max x.a x.b)) (by omega)
  have hL : min x.a x.b = min x.a x.b := rfl
  have hH : max x.a x.b = max x.a x.b := rfl
  have hU : max x.u (min x.a x.b) = max x.u (min x.a x.b) := rfl
  generalize min (max x.u (min x.a x.b)) (max x.a x.b) = m at *
  generalize hlo : min x.a x.b = lo at *
  generalize hhi : max x.a x.b = hi at *
  generalize hml : max x.u lo = ml at *
  generalize settleF f x = w at *
  generalize absI (x.a - x.b) = n1 at *
  generalize absI (x.a - m) = n2 at *
  generalize absI (x.b - m) = n3 at *
  have hsub1 : ∀ {r y : Int}, r = IntKind.i64.wrap (y.tdiv 2) → y = x.a + x.b → r = (x.a + x.b) / 2 := fun h e => by
    rw [h, e, Int.tdiv_eq_ediv_of_nonneg (by omega), IntWalk.i64_in _ (by omega)]
  have hsub2 : ∀ {r : Int}, r = max x.a x.b → (0 : Int) ≤ 0 → hi = r := fun h _ => by rw [h, hhi]
  have hsub3 : ∀ {r : Int}, r = max x.u lo → (0 : Int) ≤ 0 → ml = r := fun h _ => by rw [h, hml]
  refine PF.of (TF.ev fn_59 (Ev.at ?_))
  (repeat' (first | (intro rx hrx; have hq := hsub1 hrx (by omega); subst hq; clear hrx) | (intro rx hrx; have hq := hsub2 hrx (by omega); subst hq; clear hrx) | (intro rx hrx; have hq := hsub3 hrx (by omega); subst hq; clear hrx) | (refine Ev.go ?_; conv => whnf) | refine And.intro ?_ ?_ | exact True.intro | exact rfl | (intro rx hrx; rw [ij _ (by omega)] at hrx) | (intro hcx; exfalso; omega) | intro _))
  all_goals (first | (refine ⟨?_⟩; exact vk) | exact cl | skip)
  obtain rfl : rx = x.a - x.b := by omega
  refine TDq.pureC d1 cl rfl (And.intro rfl rfl) ?_
  (repeat' (first | (intro rx hrx; have hq := hsub1 hrx (by omega); subst hq; clear hrx) | (intro rx hrx; have hq := hsub2 hrx (by omega); subst hq; clear hrx) | (intro rx hrx; have hq := hsub3 hrx (by omega); subst hq; clear hrx) | (refine Ev.go ?_; conv => whnf) | refine And.intro ?_ ?_ | exact True.intro | exact rfl | (intro rx hrx; rw [ij _ (by omega)] at hrx) | (intro hcx; exfalso; omega) | intro _))
  all_goals (first | (refine ⟨?_⟩; exact vk) | exact cl | skip)
  · rw [if_pos (by omega)] at hS
    rw [hS]
  · rw [if_neg (by omega)] at hS
    refine TDq.lendC d2 (by simp [scal]) rfl (And.intro rfl ?_)
    (repeat' (first | (intro rx hrx; have hq := hsub1 hrx (by omega); subst hq; clear hrx) | (intro rx hrx; have hq := hsub2 hrx (by omega); subst hq; clear hrx) | (intro rx hrx; have hq := hsub3 hrx (by omega); subst hq; clear hrx) | (refine Ev.go ?_; conv => whnf) | refine And.intro ?_ ?_ | exact True.intro | exact rfl | (intro rx hrx; rw [ij _ (by omega)] at hrx) | (intro hcx; exfalso; omega) | intro _))
    all_goals (first | (refine ⟨?_⟩; exact vk) | exact cl | skip)
    refine TSq.lendC d3 (by simp [scal]) rfl (And.intro rfl ?_) ?_
    · (repeat' (first | (intro rx hrx; have hq := hsub1 hrx (by omega); subst hq; clear hrx) | (intro rx hrx; have hq := hsub2 hrx (by omega); subst hq; clear hrx) | (intro rx hrx; have hq := hsub3 hrx (by omega); subst hq; clear hrx) | (refine Ev.go ?_; conv => whnf) | refine And.intro ?_ ?_ | exact True.intro | exact rfl | (intro rx hrx; rw [ij _ (by omega)] at hrx) | (intro hcx; exfalso; omega) | intro _))
      all_goals (first | (refine ⟨?_⟩; exact vc) | exact cl | skip)
    · (repeat' (first | (intro rx hrx; have hq := hsub1 hrx (by omega); subst hq; clear hrx) | (intro rx hrx; have hq := hsub2 hrx (by omega); subst hq; clear hrx) | (intro rx hrx; have hq := hsub3 hrx (by omega); subst hq; clear hrx) | (refine Ev.go ?_; conv => whnf) | refine And.intro ?_ ?_ | exact True.intro | exact rfl | (intro rx hrx; rw [ij _ (by omega)] at hrx) | (intro hcx; exfalso; omega) | intro _))
      all_goals (first | (refine ⟨?_⟩; exact vk) | exact cl | skip)
      obtain rfl : rx = x.a - m := by omega
      refine TDq.pureC d4 cl rfl (And.intro rfl rfl) ?_
      (repeat' (first | (intro rx hrx; have hq := hsub1 hrx (by omega); subst hq; clear hrx) | (intro rx hrx; have hq := hsub2 hrx (by omega); subst hq; clear hrx) | (intro rx hrx; have hq := hsub3 hrx (by omega); subst hq; clear hrx) | (refine Ev.go ?_; conv => whnf) | refine And.intro ?_ ?_ | exact True.intro | exact rfl | (intro rx hrx; rw [ij _ (by omega)] at hrx) | (intro hcx; exfalso; omega) | intro _))
      all_goals (first | (refine ⟨?_⟩; exact vk) | exact cl | skip)
      obtain rfl : rx = x.b - m := by omega
      refine TDq.pureC d5 cl rfl (And.intro rfl rfl) ?_
      (repeat' (first | (intro rx hrx; have hq := hsub1 hrx (by omega); subst hq; clear hrx) | (intro rx hrx; have hq := hsub2 hrx (by omega); subst hq; clear hrx) | (intro rx hrx; have hq := hsub3 hrx (by omega); subst hq; clear hrx) | (refine Ev.go ?_; conv => whnf) | refine And.intro ?_ ?_ | exact True.intro | exact rfl | (intro rx hrx; rw [ij _ (by omega)] at hrx) | (intro hcx; exfalso; omega) | intro _))
      all_goals (first | (refine ⟨?_⟩; exact vk) | exact cl | skip)
      · rw [if_pos (by omega)] at hS
        rw [hS]
      · rw [if_neg (by omega), if_pos (by omega)] at hS
        rw [hS]
      · rw [if_neg (by omega), if_neg (by omega)] at hS
        rw [hS]
end Go.Proofs.YtjadiajfbflghaaGreat
set_option linter.unusedSimpArgs false
set_option linter.unusedVariables false
open Go Go.TV
namespace Go.Proofs.YtjadiajfbflghaaGreat
def outF (c : Cas) (f : Fld) (x : Thr) : Int × Int := (payC c f (settleF f x).1, (settleF f x).2)
def smAt (c : Cas) (t : List Thr) : Nat → Sm
  | 0 => sm0
  | k + 1 => match c.flds[k]?, t[k]? with
    | some f, some x => (smAt c t k).plus (outF c f x)
    | _, _ => smAt c t k
theorem smAt_succ {c : Cas} {t : List Thr} {k : Nat} {f : Fld} {x : Thr} (hf : c.flds[k]? = some f) (hx : t[k]? = some x) : smAt c t (k + 1) = (smAt c t k).plus (outF c f x) := by
  simp only [smAt, hf, hx]
theorem settle_le {f : Fld} {x : Thr} (ha : 0 ≤ x.a ∧ x.a ≤ 100) (hb : 0 ≤ x.b ∧ x.b ≤ 100) : (0 ≤ (settleF f x).1 ∧ (settleF f x).1 ≤ 100) ∧ 0 ≤ (settleF f x).2 ∧ (settleF f x).2 ≤ 3 := by
  unfold settleF
  split
  · dsimp only; omega
  · dsimp only
    split
    · dsimp only; omega
    · split <;> (dsimp only; omega)
theorem pay_le {c : Cas} {f : Fld} {n : Int} {a : Tf} (hv : ValidTs c.tfs) (ha : c.tfs[0]? = some a) (hc : 0 ≤ f.crop ∧ f.crop < a.rates.length) (hva : 0 ≤ f.value ∧ f.value ≤ 100000) (hd : 0 ≤ c.day ∧ c.day ≤ 120) (hn : 0 ≤ n ∧ n ≤ 100) : 0 ≤ payC c f n ∧ payC c f n ≤ 100000 := by
  obtain ⟨t, ht⟩ := at_some hv.first hd.1 hv.ne (Nat.le_refl _)
  obtain ⟨i, hi⟩ := at_mem ht
  have hm := List.mem_of_getElem? hi
  have o := okT (hv.few t hm) (hv.valid t hm)
  have hr := hv.crops i a t ha hi
  obtain ⟨p1, p2⟩ := partF_le (day := c.day) o (crop := f.crop) (by omega) hn
  have hP : payC c f n = f.value * partF t f.crop c.day n / 100 := by simp only [payC, payF, ht]
  rw [hP]
  have m1 : 0 ≤ f.value * partF t f.crop c.day n := Int.mul_nonneg hva.1 p1
  have m2 : f.value * partF t f.crop c.day n ≤ 100000 * 100 := Int.mul_le_mul hva.2 p2 p1 (by omega)
  omega
structure OkS (k : Nat) (s : Sm) : Prop where
  aw : 0 ≤ s.aw ∧ s.aw ≤ k * 100000
  l0 : 0 ≤ s.l0 ∧ s.l0 ≤ k
  l1 : 0 ≤ s.l1 ∧ s.l1 ≤ k
  l2 : 0 ≤ s.l2 ∧ s.l2 ≤ k
  l3 : 0 ≤ s.l3 ∧ s.l3 ≤ k
theorem OkS.plus {k : Nat} {s : Sm} (h : OkS k s) {x : Int × Int} (hx : 0 ≤ x.1 ∧ x.1 ≤ 100000) : OkS (k + 1) (s.plus x) := by
  obtain ⟨h1, h2, h3, h4, h5⟩ := h
  refine ⟨?_, ?_, ?_, ?_, ?_⟩ <;> (simp only [Sm.plus]; push_cast) <;> first | omega | (split <;> omega)
theorem okS0 : OkS 0 sm0 := by constructor <;> simp [sm0]
theorem out_ok {c : Cas} (h : OkC c) {f : Fld} (hf : f ∈ c.flds) {x : Thr} (hx : (f.fi.lo ≤ x.a ∧ x.a ≤ f.fi.hi) ∧ (f.se.lo ≤ x.b ∧ x.b ≤ f.se.hi) ∧ f.um.lo ≤ x.u ∧ x.u ≤ f.um.hi) :
    ((0 ≤ x.a ∧ x.a ≤ 100) ∧ (0 ≤ x.b ∧ x.b ≤ 100) ∧ 0 ≤ x.u ∧ x.u ≤ 100) ∧ (0 ≤ (settleF f x).1 ∧ (settleF f x).1 ≤ 100) ∧ (0 ≤ (outF c f x).1 ∧ (outF c f x).1 ≤ 100000) ∧ 0 ≤ (outF c f x).2 ∧ (outF c f x).2 ≤ 3 := by
  obtain ⟨a, ha, _⟩ := first_of h
  have o := h.flds a ha f hf
  have c1 := cnt_of o.fi
  have c2 := cnt_of o.se
  have c3 := cnt_of o.um
  have s1 := settle_le (f := f) (x := x) (by omega) (by omega)
  exact ⟨⟨by omega, by omega, by omega⟩, s1.1, pay_le h.tfs ha o.crop o.value h.day s1.1, s1.2⟩
theorem smAt_ok {c : Cas} (h : OkC c) {t : List Thr} (ht : TruthF c.flds t) : ∀ k, k ≤ c.flds.length → OkS k (smAt c t k)
  | 0, _ => okS0
  | k + 1, hk => by
    obtain ⟨f, hf⟩ : ∃ v, c.flds[k]? = some v := ⟨_, List.getElem?_eq_getElem (by omega)⟩
    obtain ⟨x, hx⟩ : ∃ v, t[k]? = some v := ⟨_, List.getElem?_eq_getElem (by have := ht.1; omega)⟩
    rw [smAt_succ hf hx]
    exact (smAt_ok h ht k (by omega)).plus (out_ok h (List.mem_of_getElem? hf) (ht.2 k f x hf hx)).2.2.1
end Go.Proofs.YtjadiajfbflghaaGreat
set_option linter.unusedSimpArgs false
set_option linter.unusedVariables false
open Go Go.TV
namespace Go.Proofs.YtjadiajfbflghaaGreat
theorem c234 (r : Rng) : PF Tryz.prog 234 [encR r] (· = .fn 259 [] [.iptr (encR r) 0]) := by
  refine PF.of (TF.ev fn_234 (Ev.at ?_))
  (repeat' (first | (refine Ev.go ?_; conv => whnf) | refine And.intro ?_ ?_ | exact True.intro | exact rfl | (intro rx hrx; rw [ij _ (by omega)] at hrx) | (intro hcx; exfalso; omega) | intro _))
theorem it259 (r : Rng) (h : r.cntB = true) : IT Tryz.prog 259 [] [.iptr (encR r) 0] ((every r).map fun n => [.int .i64 n]) := by
  have h := cnt_of h
  refine IT.ev fn_259 cl cl fun Φ Ψ hy => ?_
  have hlen : (every r).length = (r.hi - r.lo + 1).toNat := by simp [every]
  have hget : ∀ k : Nat, k < (r.hi - r.lo + 1).toNat → (every r)[k]? = some (r.lo + k) := fun k hk => by simp [every, List.getElem?_map, List.getElem?_range hk]
  (repeat' (first | (refine Ev.go ?_; conv => whnf) | refine And.intro ?_ ?_ | exact True.intro | exact rfl | (intro rx hrx; rw [ij _ (by omega)] at hrx) | (intro hcx; exfalso; omega) | intro _))
  subst_vars
  refine TWq.loop (fun k : Nat => [(10, .int .i64 k)]) (fun k => [(0, .tok (Φ k))]) (fun k => k ≤ (r.hi - r.lo + 1).toNat) (fun k => (r.hi - r.lo + 1).toNat - k) 0 [] [] ?_ (by omega) ?_
  · (repeat' (first | (refine Ev.go ?_; conv => whnf) | refine And.intro ?_ ?_ | exact True.intro | exact rfl | (intro rx hrx; rw [ij _ (by omega)] at hrx) | (intro hcx; exfalso; omega) | intro _))
    all_goals (first | (refine ⟨?_⟩; exact vc) | exact cl | skip)
  · intro k hk
    (repeat' (first | (refine Ev.go ?_; conv => whnf) | refine And.intro ?_ ?_ | exact True.intro | exact rfl | (intro rx hrx; rw [ij _ (by omega)] at hrx) | (intro hcx; exfalso; omega) | intro _))
    · subst hrx
      refine TSq.yield rfl rfl rfl rfl trivial rfl cl (hy k _ (hget k (by omega))) ?_ ?_
      · (repeat' (first | (refine Ev.go ?_; conv => whnf) | refine And.intro ?_ ?_ | exact True.intro | exact rfl | (intro rx hrx; rw [ij _ (by omega)] at hrx) | (intro hcx; exfalso; omega) | intro _))
        all_goals (first | (refine ⟨?_⟩; exact vc) | exact cl | skip)
        refine ⟨⟨k + 1, by omega, by omega, ?_⟩⟩
        (repeat' (first | (refine Ev.go ?_; conv => whnf) | refine And.intro ?_ ?_ | exact True.intro | exact rfl | (intro rx hrx; rw [ij _ (by omega)] at hrx) | (intro hcx; exfalso; omega) | intro _))
        all_goals (first | (refine ⟨?_⟩; exact vc) | exact cl | skip)
      · (repeat' (first | (refine Ev.go ?_; conv => whnf) | refine And.intro ?_ ?_ | exact True.intro | exact rfl | (intro rx hrx; rw [ij _ (by omega)] at hrx) | (intro hcx; exfalso; omega) | intro _))
        exact ⟨.inr rfl⟩
    · have : k = (every r).length := by omega
      subst this
      exact ⟨.inl rfl⟩
theorem c183 (f : Fld) : PF Tryz.prog 183 [encFld f] (· = .fn 233 [] [.iptr (encFld f) 0]) := by
  refine PF.of (TF.ev fn_183 (Ev.at ?_))
  (repeat' (first | (refine Ev.go ?_; conv => whnf) | refine And.intro ?_ ?_ | exact True.intro | exact rfl | (intro rx hrx; rw [ij _ (by omega)] at hrx) | (intro hcx; exfalso; omega) | intro _))
def rowU (f : Fld) (a b : Int) : List Thr := (every f.um).map fun u => ⟨a, b, u⟩
def rowB (f : Fld) (a : Int) : List Thr := (every f.se).flatMap (rowU f a)
def truthsL (f : Fld) : List Thr := (every f.fi).flatMap (rowB f)
theorem flat_at {α β : Type} {g : α → List β} {m : Nat} (hm : ∀ x, (g x).length = m) : ∀ {l : List α} {i j : Nat} {x : α} {y : β}, l[i]? = some x → (g x)[j]? = some y → (l.flatMap g)[i * m + j]? = some y
  | [], i, j, x, y, h, _ => by simp at h
  | a :: l, 0, j, x, y, h, hy => by
    simp at h; subst h
    rw [List.flatMap_cons, Nat.zero_mul, Nat.zero_add, List.getElem?_append_left (List.getElem?_eq_some_iff.1 hy).1]
    exact hy
  | a :: l, i + 1, j, x, y, h, hy => by
    have ih := flat_at hm (l := l) (i := i) (j := j) (by simpa using h) hy
    rw [List.flatMap_cons, List.getElem?_append_right (by rw [hm, Nat.succ_mul]; omega), hm, show (i + 1) * m + j - m = i * m + j by rw [Nat.succ_mul]; omega]
    exact ih
theorem flat_len {α β : Type} {g : α → List β} {m : Nat} (hm : ∀ x, (g x).length = m) : ∀ (l : List α), (l.flatMap g).length = l.length * m
  | [] => by simp
  | a :: l => by rw [List.flatMap_cons, List.length_append, hm, flat_len hm l, List.length_cons, Nat.succ_mul]; omega
theorem rowU_len (f : Fld) (a b : Int) : (rowU f a b).length = (every f.um).length := List.length_map _
theorem rowB_len (f : Fld) (a : Int) : (rowB f a).length = (every f.se).length * (every f.um).length := flat_len (rowU_len f a) _
theorem truths_at {f : Fld} {i j k : Nat} {a b u : Int} (ha : (every f.fi)[i]? = some a) (hb : (every f.se)[j]? = some b) (hu : (every f.um)[k]? = some u) :
    (truthsL f)[i * ((every f.se).length * (every f.um).length) + j * (every f.um).length + k]? = some ⟨a, b, u⟩ := by
  rw [Nat.add_assoc]
  refine flat_at (rowB_len f) ha (flat_at (rowU_len f a) hb ?_)
  simp [rowU, hu]
theorem truths_mem {f : Fld} {x : Thr} : x ∈ truthsL f ↔ (f.fi.lo ≤ x.a ∧ x.a ≤ f.fi.hi) ∧ (f.se.lo ≤ x.b ∧ x.b ≤ f.se.hi) ∧ f.um.lo ≤ x.u ∧ x.u ≤ f.um.hi := by
  have he : ∀ (r : Rng) (n : Int), n ∈ every r ↔ r.lo ≤ n ∧ n ≤ r.hi := fun r n => by
    simp only [every, List.mem_map, List.mem_range]
    constructor
    · rintro ⟨k, h1, rfl⟩; omega
    · intro h; exact ⟨(n - r.lo).toNat, by omega, by omega⟩
  simp only [truthsL, rowB, rowU, List.mem_flatMap, List.mem_map, he]
  constructor
  · rintro ⟨a, ha, b, hb, u, hu, rfl⟩; exact ⟨ha, hb, hu⟩
  · rintro ⟨ha, hb, hu⟩; exact ⟨_, ha, _, hb, _, hu, rfl⟩
set_option maxRecDepth 100000 in
set_option maxHeartbeats 4000000 in
theorem it233 (f : Fld) (h1 : f.fi.cntB = true) (h2 : f.se.cntB = true) (h3 : f.um.cntB = true) : IT Tryz.prog 233 [] [.iptr (encFld f) 0] ((truthsL f).map fun x => [encThr x]) := by
  refine IT.ev fn_233 cl (by simp [cloL, clo]) fun Φ Ψ hy => ?_
  have hT := @truths_at f
  have hL : (truthsL f).length = (every f.fi).length * ((every f.se).length * (every f.um).length) := flat_len (rowB_len f) _
  have e1 := it259 f.fi h1
  have e2 := it259 f.se h2
  have e3 := it259 f.um h3
  rw [hL]
  generalize truthsL f = T at *
  (repeat' (first | (refine Ev.go ?_; conv => whnf) | refine And.intro ?_ ?_ | exact True.intro | exact rfl | (intro rx hrx; rw [ij _ (by omega)] at hrx) | (intro hcx; exfalso; omega) | intro _))
  refine TSq.pureC (c234 f.fi) cl rfl (And.intro rfl rfl) ?_
  (repeat' (first | (refine Ev.go ?_; conv => whnf) | refine And.intro ?_ ?_ | exact True.intro | exact rfl | (intro rx hrx; rw [ij _ (by omega)] at hrx) | (intro hcx; exfalso; omega) | intro _))
  refine TWq.rng (α := Unit) (β := Unit) true (every f.fi) (fun n => [.int .i64 n]) (fun i _ => [(0, .tok (Φ (i * ((every f.se).length * (every f.um).length))))]) (fun _ _ => True) () (fun _ => .ret) (fun _ => [(0, .tok Ψ)]) (fun _ => True) [] [] [] rfl e1 cl cl (fun _ => rfl) trivial ?_ ?_ ?_ ?_ ?_ ?_
  · (repeat' (first | (refine Ev.go ?_; conv => whnf) | refine And.intro ?_ ?_ | exact True.intro | exact rfl | (intro rx hrx; rw [ij _ (by omega)] at hrx) | (intro hcx; exfalso; omega) | intro _))
    all_goals (first | (refine ⟨?_⟩; exact vc) | exact cl | skip)
    all_goals (refine ⟨?_⟩; rw [Nat.zero_mul])
  · (repeat' (first | (refine Ev.go ?_; conv => whnf) | refine And.intro ?_ ?_ | exact True.intro | exact rfl | (intro rx hrx; rw [ij _ (by omega)] at hrx) | (intro hcx; exfalso; omega) | intro _))
    all_goals (first | (refine ⟨?_⟩; exact vc) | exact cl | skip)
  · intro i _ _
    (repeat' (first | (refine Ev.go ?_; conv => whnf) | refine And.intro ?_ ?_ | exact True.intro | exact rfl | (intro rx hrx; rw [ij _ (by omega)] at hrx) | (intro hcx; exfalso; omega) | intro _))
  · intro i a _ ha _
    (repeat' (first | (refine Ev.go ?_; conv => whnf) | refine And.intro ?_ ?_ | exact True.intro | exact rfl | (intro rx hrx; rw [ij _ (by omega)] at hrx) | (intro hcx; exfalso; omega) | intro _))
    refine TSq.pureC (c234 f.se) cl rfl (And.intro rfl rfl) ?_
    (repeat' (first | (refine Ev.go ?_; conv => whnf) | refine And.intro ?_ ?_ | exact True.intro | exact rfl | (intro rx hrx; rw [ij _ (by omega)] at hrx) | (intro hcx; exfalso; omega) | intro _))
    refine TWq.rng (α := Unit) (β := Unit) false (every f.se) (fun n => [.int .i64 n]) (fun j _ => [(0, .tok (Φ (i * ((every f.se).length * (every f.um).length) + j * (every f.um).length)))]) (fun _ _ => True) () (fun _ => .ret) (fun _ => [(0, .tok Ψ)]) (fun _ => True) [] [] [] rfl e2 cl cl (fun _ => rfl) trivial ?_ ?_ ?_ ?_ ?_ ?_
    · (repeat' (first | (refine Ev.go ?_; conv => whnf) | refine And.intro ?_ ?_ | exact True.intro | exact rfl | (intro rx hrx; rw [ij _ (by omega)] at hrx) | (intro hcx; exfalso; omega) | intro _))
      all_goals (first | (refine ⟨?_⟩; exact vc) | exact cl | skip)
      all_goals (refine ⟨?_⟩; rw [Nat.zero_mul]; rfl)
    · (repeat' (first | (refine Ev.go ?_; conv => whnf) | refine And.intro ?_ ?_ | exact True.intro | exact rfl | (intro rx hrx; rw [ij _ (by omega)] at hrx) | (intro hcx; exfalso; omega) | intro _))
      all_goals (first | (refine ⟨?_⟩; exact vc) | exact cl | skip)
    · intro j _ _
      (repeat' (first | (refine Ev.go ?_; conv => whnf) | refine And.intro ?_ ?_ | exact True.intro | exact rfl | (intro rx hrx; rw [ij _ (by omega)] at hrx) | (intro hcx; exfalso; omega) | intro _))
    · intro j b _ hb _
      (repeat' (first | (refine Ev.go ?_; conv => whnf) | refine And.intro ?_ ?_ | exact True.intro | exact rfl | (intro rx hrx; rw [ij _ (by omega)] at hrx) | (intro hcx; exfalso; omega) | intro _))
      refine TSq.pureC (c234 f.um) cl rfl (And.intro rfl rfl) ?_
      (repeat' (first | (refine Ev.go ?_; conv => whnf) | refine And.intro ?_ ?_ | exact True.intro | exact rfl | (intro rx hrx; rw [ij _ (by omega)] at hrx) | (intro hcx; exfalso; omega) | intro _))
      refine TWq.rng (α := Unit) (β := Unit) false (every f.um) (fun n => [.int .i64 n]) (fun k _ => [(0, .tok (Φ (i * ((every f.se).length * (every f.um).length) + j * (every f.um).length + k)))]) (fun _ _ => True) () (fun _ => .ret) (fun _ => [(0, .tok Ψ)]) (fun _ => True) [] [] [] rfl e3 cl cl (fun _ => rfl) trivial ?_ ?_ ?_ ?_ ?_ ?_
      · (repeat' (first | (refine Ev.go ?_; conv => whnf) | refine And.intro ?_ ?_ | exact True.intro | exact rfl | (intro rx hrx; rw [ij _ (by omega)] at hrx) | (intro hcx; exfalso; omega) | intro _))
        all_goals (first | (refine ⟨?_⟩; exact vc) | exact cl | skip)
      · (repeat' (first | (refine Ev.go ?_; conv => whnf) | refine And.intro ?_ ?_ | exact True.intro | exact rfl | (intro rx hrx; rw [ij _ (by omega)] at hrx) | (intro hcx; exfalso; omega) | intro _))
        all_goals (first | (refine ⟨?_⟩; exact vc) | exact cl | skip)
      · intro k _ _
        (repeat' (first | (refine Ev.go ?_; conv => whnf) | refine And.intro ?_ ?_ | exact True.intro | exact rfl | (intro rx hrx; rw [ij _ (by omega)] at hrx) | (intro hcx; exfalso; omega) | intro _))
      · intro k u _ hu _
        (repeat' (first | (refine Ev.go ?_; conv => whnf) | refine And.intro ?_ ?_ | exact True.intro | exact rfl | (intro rx hrx; rw [ij _ (by omega)] at hrx) | (intro hcx; exfalso; omega) | intro _))
        refine TSq.yield rfl rfl rfl rfl trivial rfl (by simp [cloL, clo]) (hy _ _ (hT ha hb hu)) ?_ ?_
        · (repeat' (first | (refine Ev.go ?_; conv => whnf) | refine And.intro ?_ ?_ | exact True.intro | exact rfl | (intro rx hrx; rw [ij _ (by omega)] at hrx) | (intro hcx; exfalso; omega) | intro _))
          all_goals (first | (refine ⟨?_⟩; exact vc) | exact cl | skip)
          refine ⟨⟨(), trivial, ?_⟩⟩
          (repeat' (first | (refine Ev.go ?_; conv => whnf) | refine And.intro ?_ ?_ | exact True.intro | exact rfl | (intro rx hrx; rw [ij _ (by omega)] at hrx) | (intro hcx; exfalso; omega) | intro _))
          all_goals (first | (refine ⟨?_⟩; exact vc) | exact cl | skip)
        · (repeat' (first | (refine Ev.go ?_; conv => whnf) | refine And.intro ?_ ?_ | exact True.intro | exact rfl | (intro rx hrx; rw [ij _ (by omega)] at hrx) | (intro hcx; exfalso; omega) | intro _))
          all_goals (first | (refine ⟨?_⟩; exact vc) | exact cl | skip)
          refine ⟨⟨(), rfl, trivial, ?_⟩⟩
          (repeat' (first | (refine Ev.go ?_; conv => whnf) | refine And.intro ?_ ?_ | exact True.intro | exact rfl | (intro rx hrx; rw [ij _ (by omega)] at hrx) | (intro hcx; exfalso; omega) | intro _))
          all_goals (first | (refine ⟨?_⟩; exact vc) | exact cl | skip)
      · intro _ _
        (repeat' (first | (refine Ev.go ?_; conv => whnf) | refine And.intro ?_ ?_ | exact True.intro | exact rfl | (intro rx hrx; rw [ij _ (by omega)] at hrx) | (intro hcx; exfalso; omega) | intro _))
        all_goals (first | (refine ⟨?_⟩; exact vc) | exact cl | skip)
        refine ⟨⟨(), trivial, ?_⟩⟩
        (repeat' (first | (refine Ev.go ?_; conv => whnf) | refine And.intro ?_ ?_ | exact True.intro | exact rfl | (intro rx hrx; rw [ij _ (by omega)] at hrx) | (intro hcx; exfalso; omega) | intro _))
        all_goals (first | (refine ⟨?_⟩; exact vc) | exact cl | skip)
        all_goals (refine ⟨?_⟩; rw [Nat.succ_mul, Nat.add_assoc])
      · intro _ _
        (repeat' (first | (refine Ev.go ?_; conv => whnf) | refine And.intro ?_ ?_ | exact True.intro | exact rfl | (intro rx hrx; rw [ij _ (by omega)] at hrx) | (intro hcx; exfalso; omega) | intro _))
        all_goals (first | (refine ⟨?_⟩; exact vc) | exact cl | skip)
        refine ⟨⟨(), rfl, trivial, ?_⟩⟩
        (repeat' (first | (refine Ev.go ?_; conv => whnf) | refine And.intro ?_ ?_ | exact True.intro | exact rfl | (intro rx hrx; rw [ij _ (by omega)] at hrx) | (intro hcx; exfalso; omega) | intro _))
        all_goals (first | (refine ⟨?_⟩; exact vc) | exact cl | skip)
    · intro _ _
      (repeat' (first | (refine Ev.go ?_; conv => whnf) | refine And.intro ?_ ?_ | exact True.intro | exact rfl | (intro rx hrx; rw [ij _ (by omega)] at hrx) | (intro hcx; exfalso; omega) | intro _))
      all_goals (first | (refine ⟨?_⟩; exact vc) | exact cl | skip)
      refine ⟨⟨(), trivial, ?_⟩⟩
      (repeat' (first | (refine Ev.go ?_; conv => whnf) | refine And.intro ?_ ?_ | exact True.intro | exact rfl | (intro rx hrx; rw [ij _ (by omega)] at hrx) | (intro hcx; exfalso; omega) | intro _))
      all_goals (first | (refine ⟨?_⟩; exact vc) | exact cl | skip)
      all_goals (refine ⟨?_⟩; rw [Nat.succ_mul])
    · intro _ _
      (repeat' (first | (refine Ev.go ?_; conv => whnf) | refine And.intro ?_ ?_ | exact True.intro | exact rfl | (intro rx hrx; rw [ij _ (by omega)] at hrx) | (intro hcx; exfalso; omega) | intro _))
      all_goals (first | (refine ⟨?_⟩; exact vc) | exact cl | skip)
      refine ⟨⟨(), rfl, trivial, ?_⟩⟩
      (repeat' (first | (refine Ev.go ?_; conv => whnf) | refine And.intro ?_ ?_ | exact True.intro | exact rfl | (intro rx hrx; rw [ij _ (by omega)] at hrx) | (intro hcx; exfalso; omega) | intro _))
      all_goals (first | (refine ⟨?_⟩; exact vc) | exact cl | skip)
  · intro _ _
    (repeat' (first | (refine Ev.go ?_; conv => whnf) | refine And.intro ?_ ?_ | exact True.intro | exact rfl | (intro rx hrx; rw [ij _ (by omega)] at hrx) | (intro hcx; exfalso; omega) | intro _))
    exact ⟨.inl rfl⟩
  · intro _ _
    (repeat' (first | (refine Ev.go ?_; conv => whnf) | refine And.intro ?_ ?_ | exact True.intro | exact rfl | (intro rx hrx; rw [ij _ (by omega)] at hrx) | (intro hcx; exfalso; omega) | intro _))
    exact ⟨.inr rfl⟩
end Go.Proofs.YtjadiajfbflghaaGreat
set_option linter.unusedSimpArgs false
set_option linter.unusedVariables false
open Go Go.TV
namespace Go.Proofs.YtjadiajfbflghaaGreat
def encO (x : Int × Int) : SV := .agg [.int .i64 x.1, .int .i64 x.2]
def encOM (m : List (Int × Int)) : List (SV × SV) := m.map fun x => (encO x, .bool true)
def encOuts (l : List (List (Int × Int))) : List SV := l.map fun m => .imap (encOM m)
theorem encOuts_len (l : List (List (Int × Int))) : (encOuts l).length = l.length := List.length_map _
theorem encOM_clo (m : List (Int × Int)) : cloM (encOM m) := by
  intro e he
  obtain ⟨x, _, rfl⟩ := List.mem_map.1 he
  simp [encO, clo, cloL]
theorem encOuts_clo (l : List (List (Int × Int))) : cloL (encOuts l) := by
  rw [cloL_iff]; intro s hs; obtain ⟨x, _, rfl⟩ := List.mem_map.1 hs; simp only [clo]
theorem shOM (m : List (Int × Int)) : ∀ e ∈ encOM m, shOK (.st [(0, 1, false, .int .i64), (1, 1, false, .int .i64)]) e.1 := by
  intro e he
  obtain ⟨x, _, rfl⟩ := List.mem_map.1 he
  exact shS _ _
theorem encO_inj {x y : Int × Int} (h : encO x = encO y) : x = y := encS_inj h
theorem encOM_nodup {m : List (Int × Int)} (h : m.Nodup) : ((encOM m).map (·.1)).Nodup := by
  have e : (encOM m).map (·.1) = m.map encO := by simp [encOM]
  rw [e]
  exact List.Pairwise.map _ (fun a b hab e => hab (encO_inj e)) h
theorem encOM_split {m : List (Int × Int)} {pre post : List (SV × SV)} {k v : SV} (h : encOM m = pre ++ (k, v) :: post) : ∃ a x b, m = a ++ x :: b ∧ pre = encOM a ∧ k = encO x ∧ v = .bool true ∧ post = encOM b := by
  obtain ⟨a, c, rfl, rfl, h2⟩ := List.map_eq_append_iff.1 h
  obtain ⟨x, b, rfl, h3, rfl⟩ := List.map_eq_cons_iff.1 h2
  cases h3
  exact ⟨a, x, b, rfl, rfl, rfl, rfl, rfl⟩
def OutsOf (c : Cas) (f : Fld) (m : List (Int × Int)) : Prop := m.Nodup ∧ ∀ o, o ∈ m ↔ ∃ x ∈ truthsL f, o = outF c f x
def OutsAll (c : Cas) (n : Nat) (outs : List (List (Int × Int))) : Prop := outs.length = n ∧ ∀ (i : Nat) (f : Fld) (m : List (Int × Int)), i < n → c.flds[i]? = some f → outs[i]? = some m → OutsOf c f m
theorem OutsAll.snoc {c : Cas} {n : Nat} {outs : List (List (Int × Int))} (h : OutsAll c n outs) {f : Fld} (hf : c.flds[n]? = some f) {m : List (Int × Int)} (hm : OutsOf c f m) : OutsAll c (n + 1) (outs ++ [m]) := by
  refine ⟨by simp [h.1], fun i f' m' hi hf' hm' => ?_⟩
  rcases Nat.lt_or_ge i n with h1 | h1
  · rw [List.getElem?_append_left (by rw [h.1]; exact h1)] at hm'
    exact h.2 i f' m' h1 hf' hm'
  · have e : i = outs.length := by have := h.1; omega
    subst e
    have e2 : outs.length = n := h.1
    rw [e2, hf] at hf'
    cases hf'
    simp at hm'
    subst hm'
    exact hm
def encWk (c : Cas) (outs : List (List (Int × Int))) : SV := .iptr (.agg [.sl 6 (encTfs c.tfs), .int .i64 c.day, .int .i64 c.fee, .sl 9 (encFlds c.flds), match outs with | [] => .nils | _ :: _ => .sl 1 (encOuts outs)]) 0
def WorkQ (c : Cas) (s : SV) : Prop := ∃ outs, s = encWk c outs ∧ OutsAll c c.flds.length outs
set_option maxRecDepth 100000 in
set_option maxHeartbeats 8000000 in
theorem c119 (c : Cas) (h : OkC c) : PF Tryz.prog 119 [encCas c] (WorkQ c) := by
  obtain ⟨a, ha, _⟩ := first_of h
  have hz := encFlds_len c.flds
  have hfew := h.few
  refine PF.of (TF.ev fn_119 (Ev.at ?_))
  (repeat' (first | (intro ex hex; have hq := hg1 (by omega) hex; subst hq; clear hex) | (refine Ev.go ?_; conv => whnf) | refine And.intro ?_ ?_ | exact True.intro | exact rfl | (intro rx hrx; rw [ij _ (by omega)] at hrx) | (intro hcx; exfalso; omega) | intro _))
  all_goals (first | (refine ⟨?_⟩; exact vc) | exact cl | skip)
  refine TWq.loopP (fun p : Nat × List (List (Int × Int)) => [(21, .int .i64 p.1)])
    (fun p => [(1, .cells [.sl 6 (encTfs c.tfs), .int .i64 c.day, .int .i64 c.fee, .sl 9 (encFlds c.flds), match p.2 with | [] => .nils | _ :: _ => .own 3]), (3, match p.2 with | [] => .dead | _ :: _ => .arr 348 1 (encOuts p.2))])
    (fun p => p.1 ≤ c.flds.length ∧ OutsAll c p.1 p.2) (fun p => c.flds.length - p.1) (0, []) [] ?_ ⟨by omega, ⟨rfl, fun i _ _ hi => absurd hi (Nat.not_lt_zero i)⟩⟩ ?_
  · (repeat' (first | (intro ex hex; have hq := hg1 (by omega) hex; subst hq; clear hex) | (refine Ev.go ?_; conv => whnf) | refine And.intro ?_ ?_ | exact True.intro | exact rfl | (intro rx hrx; rw [ij _ (by omega)] at hrx) | (intro hcx; exfalso; omega) | intro _))
    all_goals (first | (refine ⟨?_⟩; exact vc) | exact cl | skip)
  · rintro ⟨k, l⟩ ⟨hk, hl⟩
    dsimp only at hk hl ⊢
    rcases Nat.lt_or_ge k c.flds.length with hkl | hkl
    · obtain ⟨f, hf⟩ : ∃ v, c.flds[k]? = some v := ⟨_, List.getElem?_eq_getElem hkl⟩
      have hfm := List.mem_of_getElem? hf
      have o := h.flds a ha f hfm
      have hg1 : ∀ {n : Nat} {e : SV}, n = k → (encFlds c.flds)[n]? = some e → e = encFld f := by
        rintro n e rfl he
        obtain ⟨y, hy, rfl⟩ := encFlds_at he
        rw [hf] at hy; cases hy; rfl
      rcases l with _ | ⟨b, l⟩
      all_goals
        (repeat' (first | (intro ex hex; have hq := hg1 (by omega) hex; subst hq; clear hex) | (refine Ev.go ?_; conv => whnf) | refine And.intro ?_ ?_ | exact True.intro | exact rfl | (intro rx hrx; rw [ij _ (by omega)] at hrx) | (intro hcx; exfalso; omega) | intro _))
        all_goals (first | (refine ⟨?_⟩; exact vc) | exact cl | skip)
        refine TSq.pureC (c183 f) (by simp [cloL, encFld_clo]) rfl (And.intro rfl rfl) ?_
        (repeat' (first | (intro ex hex; have hq := hg1 (by omega) hex; subst hq; clear hex) | (refine Ev.go ?_; conv => whnf) | refine And.intro ?_ ?_ | exact True.intro | exact rfl | (intro rx hrx; rw [ij _ (by omega)] at hrx) | (intro hcx; exfalso; omega) | intro _))
        all_goals (first | (refine ⟨?_⟩; exact vc) | exact cl | skip)
        refine TWq.postM 5 ?_
        refine TWq.rng (α := List (Int × Int)) (β := Empty) true (truthsL f) (fun x => [encThr x]) (fun _ m => [(5, .map (encOM m))]) (fun j m => m.Nodup ∧ ∀ o, o ∈ m ↔ ∃ x ∈ (truthsL f).take j, o = outF c f x) [] (fun e => e.elim) (fun e => e.elim) (fun _ => False) [] [] [] rfl (it233 f o.fi o.se o.um) cl (by simp [cloL, clo, encFld_clo]) (fun _ => rfl) ⟨by simp, by simp⟩ ?_ ?_ ?_ ?_ ?_ ?_
        · (repeat' (first | (intro ex hex; have hq := hg1 (by omega) hex; subst hq; clear hex) | (refine Ev.go ?_; conv => whnf) | refine And.intro ?_ ?_ | exact True.intro | exact rfl | (intro rx hrx; rw [ij _ (by omega)] at hrx) | (intro hcx; exfalso; omega) | intro _))
          all_goals (first | (refine ⟨?_⟩; exact vc) | exact cl | skip)
          all_goals (try (refine ⟨?_⟩; first | exact encOM_clo _ | exact encOuts_clo _))
        · (repeat' (first | (intro ex hex; have hq := hg1 (by omega) hex; subst hq; clear hex) | (refine Ev.go ?_; conv => whnf) | refine And.intro ?_ ?_ | exact True.intro | exact rfl | (intro rx hrx; rw [ij _ (by omega)] at hrx) | (intro hcx; exfalso; omega) | intro _))
          all_goals (first | (refine ⟨?_⟩; exact vc) | exact cl | skip)
        · intro _ _ _
          (repeat' (first | (intro ex hex; have hq := hg1 (by omega) hex; subst hq; clear hex) | (refine Ev.go ?_; conv => whnf) | refine And.intro ?_ ?_ | exact True.intro | exact rfl | (intro rx hrx; rw [ij _ (by omega)] at hrx) | (intro hcx; exfalso; omega) | intro _))
        · rintro j x m hx ⟨q1, q2⟩
          have hxm := truths_mem.1 (List.mem_of_getElem? hx)
          obtain ⟨⟨b1, b2, b3⟩, b4, b5, b6⟩ := out_ok h hfm hxm
          have d1 := c59 f x b1 b2 b3
          have d2 := c60 c f (settleF f x).1 a h.tfs ha o.crop o.value h.day b4
          (repeat' (first | (intro ex hex; have hq := hg1 (by omega) hex; subst hq; clear hex) | (refine Ev.go ?_; conv => whnf) | refine And.intro ?_ ?_ | exact True.intro | exact rfl | (intro rx hrx; rw [ij _ (by omega)] at hrx) | (intro hcx; exfalso; omega) | intro _))
          all_goals (first | (refine ⟨?_⟩; exact vc) | exact cl | skip)
          refine TSq.pureC d1 (by simp [cloL, encFld_clo, clo, encThr]) rfl (And.intro rfl rfl) ?_
          (repeat' (first | (intro ex hex; have hq := hg1 (by omega) hex; subst hq; clear hex) | (refine Ev.go ?_; conv => whnf) | refine And.intro ?_ ?_ | exact True.intro | exact rfl | (intro rx hrx; rw [ij _ (by omega)] at hrx) | (intro hcx; exfalso; omega) | intro _))
          all_goals (first | (refine ⟨?_⟩; exact vc) | exact cl | skip)
          refine TDq.pureC d2 (by simp [cloL, encFld_clo, encCas_clo, clo]) rfl (And.intro rfl rfl) ?_
          (repeat' (first | (intro ex hex; have hq := hg1 (by omega) hex; subst hq; clear hex) | (refine Ev.go ?_; conv => whnf) | refine And.intro ?_ ?_ | exact True.intro | exact rfl | (intro rx hrx; rw [ij _ (by omega)] at hrx) | (intro hcx; exfalso; omega) | intro _))
          all_goals (first | (refine ⟨?_⟩; exact vk) | exact cl | skip)
          all_goals (first | exact ⟨shS _ _⟩ | exact ⟨shOM _⟩ | skip)
          have hts : ∀ o, (∃ x ∈ (truthsL f).take (j + 1), o = outF c f x) ↔ (∃ x ∈ (truthsL f).take j, o = outF c f x) ∨ o = outF c f x := fun o => by
            rw [take_snoc hx]
            constructor
            · rintro ⟨y, hy, rfl⟩
              rcases List.mem_append.1 hy with h1 | h1
              · exact .inl ⟨y, h1, rfl⟩
              · simp at h1; subst h1; exact .inr rfl
            · rintro (⟨y, hy, rfl⟩ | rfl)
              · exact ⟨y, List.mem_append_left _ hy, rfl⟩
              · exact ⟨x, by simp, rfl⟩
          refine upd_cases (encOM_nodup q1) ?_ ?_
          · intro pre v0 post he
            obtain ⟨a', x', b', hm', rfl, hx', rfl, rfl⟩ := encOM_split he
            have hx' : outF c f x = x' := encO_inj hx'
            (repeat' (first | (intro ex hex; have hq := hg1 (by omega) hex; subst hq; clear hex) | (refine Ev.go ?_; conv => whnf) | refine And.intro ?_ ?_ | exact True.intro | exact rfl | (intro rx hrx; rw [ij _ (by omega)] at hrx) | (intro hcx; exfalso; omega) | intro _))
            all_goals (first | (refine ⟨?_⟩; exact vc) | exact cl | skip)
            refine ⟨⟨m, ⟨q1, fun o => ?_⟩, ?_⟩⟩
            · rw [hts, q2]
              constructor
              · exact .inl
              · rintro (h1 | rfl)
                · exact h1
                · rw [← q2, hm', hx']; simp
            · (repeat' (first | (intro ex hex; have hq := hg1 (by omega) hex; subst hq; clear hex) | (refine Ev.go ?_; conv => whnf) | refine And.intro ?_ ?_ | exact True.intro | exact rfl | (intro rx hrx; rw [ij _ (by omega)] at hrx) | (intro hcx; exfalso; omega) | intro _))
              all_goals (first | (refine ⟨?_⟩; exact vc) | exact cl | skip)
              all_goals (try (refine ⟨?_⟩; first | exact encOM_clo _ | exact encOuts_clo _))
              all_goals (try (refine ⟨?_⟩; rw [hm']; simp only [encOM, List.map_append, List.map_cons, ← hx']; rfl))
          · intro hno
            have hno' : ¬ outF c f x ∈ m := fun hm => hno _ (List.mem_map.2 ⟨_, hm, rfl⟩) rfl
            (repeat' (first | (intro ex hex; have hq := hg1 (by omega) hex; subst hq; clear hex) | (refine Ev.go ?_; conv => whnf) | refine And.intro ?_ ?_ | exact True.intro | exact rfl | (intro rx hrx; rw [ij _ (by omega)] at hrx) | (intro hcx; exfalso; omega) | intro _))
            all_goals (first | (refine ⟨?_⟩; exact vc) | exact cl | skip)
            refine ⟨⟨m ++ [outF c f x], ⟨?_, fun o => ?_⟩, ?_⟩⟩
            · rw [List.nodup_append]
              exact ⟨q1, by simp, fun p hp q hq e => by simp at hq; subst hq; subst e; exact hno' hp⟩
            · rw [hts, List.mem_append, q2]; simp
            · (repeat' (first | (intro ex hex; have hq := hg1 (by omega) hex; subst hq; clear hex) | (refine Ev.go ?_; conv => whnf) | refine And.intro ?_ ?_ | exact True.intro | exact rfl | (intro rx hrx; rw [ij _ (by omega)] at hrx) | (intro hcx; exfalso; omega) | intro _))
              all_goals (first | (refine ⟨?_⟩; exact vc) | exact cl | skip)
              all_goals (try (refine ⟨?_⟩; first | exact encOM_clo _ | exact encOuts_clo _))
              all_goals (try (refine ⟨?_⟩; simp only [encOM, List.map_append, List.map_cons, List.map_nil]; rfl))
        · rintro m ⟨q1, q2⟩
          rw [List.take_length] at q2
          (repeat' (first | (intro ex hex; have hq := hg1 (by omega) hex; subst hq; clear hex) | (refine Ev.go ?_; conv => whnf) | refine And.intro ?_ ?_ | exact True.intro | exact rfl | (intro rx hrx; rw [ij _ (by omega)] at hrx) | (intro hcx; exfalso; omega) | intro _))
          all_goals (first | (refine ⟨?_⟩; exact vc) | exact cl | skip)
          all_goals (try (refine ⟨?_⟩; exact encOM_clo _))
          all_goals (try (refine ⟨?_⟩; simp [subMAL_len, encOuts_len, catS, repl]; have := hl.1; simp at this; omega))
          all_goals (refine ⟨⟨[(3, 9)], (k + 1, _ ++ [m]), ⟨by dsimp only; omega, hl.snoc hf ⟨q1, q2⟩⟩, by dsimp only; omega, ?_⟩⟩)
          (repeat' (first | (intro ex hex; have hq := hg1 (by omega) hex; subst hq; clear hex) | (refine Ev.go ?_; conv => whnf) | refine And.intro ?_ ?_ | exact True.intro | exact rfl | (intro rx hrx; rw [ij _ (by omega)] at hrx) | (intro hcx; exfalso; omega) | intro _))
          all_goals (first | (refine ⟨?_⟩; exact vc) | exact cl | skip)
          all_goals (try (refine ⟨?_⟩; first | exact encOuts_clo _ | (simp [encOuts, catS, repl, chunks]; done) | (rw [subMAL_keep _ (fun s hs n e => by obtain ⟨y, _, rfl⟩ := List.mem_map.1 hs; cases e)]; simp [encOuts, catS, repl, chunks]; done)))
        · exact fun e => e.elim
    · have hke : k = c.flds.length := by omega
      subst hke
      cases l with
      | nil =>
        (repeat' (first | (intro ex hex; have hq := hg1 (by omega) hex; subst hq; clear hex) | (refine Ev.go ?_; conv => whnf) | refine And.intro ?_ ?_ | exact True.intro | exact rfl | (intro rx hrx; rw [ij _ (by omega)] at hrx) | (intro hcx; exfalso; omega) | intro _))
        all_goals (first | (refine ⟨?_⟩; exact vc) | exact cl | skip)
        exact ⟨[], rfl, hl⟩
      | cons b l =>
        (repeat' (first | (intro ex hex; have hq := hg1 (by omega) hex; subst hq; clear hex) | (refine Ev.go ?_; conv => whnf) | refine And.intro ?_ ?_ | exact True.intro | exact rfl | (intro rx hrx; rw [ij _ (by omega)] at hrx) | (intro hcx; exfalso; omega) | intro _))
        all_goals (first | (refine ⟨?_⟩; exact vc) | exact cl | skip)
        all_goals (try (refine ⟨?_⟩; exact encOuts_clo _))
        exact ⟨b :: l, rfl, hl⟩
end Go.Proofs.YtjadiajfbflghaaGreat
