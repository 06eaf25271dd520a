/- Cases for the program: tariffs copied. Cases for the program: cases and truths copied; all three counts of a field. The words' answer for cases: all three counts of a field. Functions of the program in the calculus' compact form: the form is found by reduction, and shown to be the program's. -/
import Derived.Test.YtjadiajfbflghaaGreatA10
import Derived.Test.YtjadiajfbflghaaGreatA11
import Derived.Test.YtjadiajfbflghaaGreatProg
import Derived.Test.YtjadiajfbflghaaGreatA4
import Derived.Test.YtjadiajfbflghaaGreatA5
import Derived.Test.YtjadiajfbflghaaGreatA14
set_option linter.unusedSimpArgs false
set_option linter.unusedVariables false
set_option linter.unusedSimpArgs false
set_option linter.unusedVariables false
open Go Go.TV
namespace Go.Proofs.YtjadiajfbflghaaGreat
def pubO (b : Nat) (S : St) (k : St → Prop) : Prop :=
  match hget S.h b with
  | .arr _ _ _ => pubB' b S k
  | _ => k S
theorem TWq.postX {P : Program} {r : Fr} (b : Nat) {c : TCode} {S : St} {Q : Option Jump → St → Prop} (h : TWq P r c S fun j S' => match j with
    | some (.exit n) => pubO b S' (Q (some (.exit n)))
    | some .ret => Q (some .ret) S'
    | none => Q none S') : TWq P r c S Q := by
  refine TWq.post ?_
  rw [TWq_iff] at h ⊢
  refine TW.mono h fun j S' hq => ?_
  cases j with
  | none => exact ⟨S', Wk.refl _ _, hq⟩
  | some j =>
    cases j with
    | ret => exact ⟨S', Wk.refl _ _, hq⟩
    | exit n =>
      simp only [pubO] at hq
      split at hq
      · obtain ⟨S'', h1, h2⟩ := pubB'_spec (P := P) (B := r.base) hq
        exact ⟨S'', h2, h1⟩
      · exact ⟨S', Wk.refl _ _, hq⟩
theorem c86 (l : List Int) (h : l.length ≤ 1000000) : PF Tryz.prog 86 [.sl 1 (ints l)] (· = .sl 1 (ints l)) := by
  have hz := ints_len l
  refine PF.of (TF.ev fn_86 (Ev.at ?_))
  (repeat' (first | (refine Ev.go ?_; conv => whnf) | refine And.intro ?_ ?_ | exact True.intro | exact rfl | (intro rx hrx; rw [ij _ (by omega)] at hrx) | (intro hcx; exfalso; omega) | intro _))
  all_goals (try (refine ⟨?_⟩; first | (simp [repl, ints_len, chunks, catS]; omega) | (simp [repl, chunks, catS]; exact ints_clo _) | (simp [repl, chunks, catS]; done)))
  all_goals (first | (refine ⟨?_⟩; exact vc) | exact cl | skip)
  all_goals (try (simp [repl, chunks, catS]; done))
set_option maxRecDepth 100000 in
set_option maxHeartbeats 8000000 in
theorem c33 (l : List Tf) (hv : ValidTs l) : PF Tryz.prog 33 [.sl 6 (encTfs l)] (· = .sl 6 (encTfs l)) := by
  have hz := encTfs_len l
  have hl3 := hv.len
  have hok := fun t ht => okT (hv.few t ht) (hv.valid t ht)
  refine PF.of (TF.ev fn_33 (Ev.at ?_))
  (repeat' (first | (intro ex hex; (first | have hq := hg1 (by omega) hex | have hq := hg2 (by omega) hex | have hq := hg3 (by omega) hex); subst hq; clear hex) | (refine Ev.go ?_; conv => whnf) | refine And.intro ?_ ?_ | exact True.intro | exact rfl | (intro rx hrx; rw [ij _ (by omega)] at hrx) | (intro hcx; exfalso; omega) | intro _))
  all_goals (first | (refine ⟨?_⟩; exact vc) | exact cl | skip)
  refine TWq.loopP (fun p : Nat × List Tf => [(4, .int .i64 p.1), (3, match p.2 with | [] => .nils | _ :: _ => .own 0)])
    (fun p => [(0, match p.2 with | [] => .dead | _ :: _ => .arr 152 6 (encTfs p.2))])
    (fun p => p.1 ≤ l.length ∧ p.2 = l.take p.1) (fun p => l.length - p.1) (0, []) [] ?_ ⟨by omega, by simp⟩ ?_
  · (repeat' (first | (intro ex hex; (first | have hq := hg1 (by omega) hex | have hq := hg2 (by omega) hex | have hq := hg3 (by omega) hex); subst hq; clear hex) | (refine Ev.go ?_; conv => whnf) | refine And.intro ?_ ?_ | exact True.intro | exact rfl | (intro rx hrx; rw [ij _ (by omega)] at hrx) | (intro hcx; exfalso; omega) | intro _))
    all_goals (first | (refine ⟨?_⟩; exact vc) | exact cl | skip)
  · rintro ⟨k, out⟩ ⟨hk, hout⟩
    dsimp only at hk hout ⊢
    have holen : out.length = k := by rw [hout]; simp; omega
    rcases Nat.lt_or_ge k l.length with hkl | hkl
    · obtain ⟨t, ht⟩ : ∃ v, l[k]? = some v := ⟨_, List.getElem?_eq_getElem hkl⟩
      have htm := List.mem_of_getElem? ht
      have o := hok t htm
      have hg1 : ∀ {n : Nat} {e : SV}, n = k → (encTfs l)[n]? = some e → e = encTf t := by
        rintro n e rfl he
        obtain ⟨y, hy, rfl⟩ := encTfs_at he
        rw [ht] at hy; cases hy; rfl
      have hw3 := encCrs_len t.rates
      have hf := o.few
      have d1 := c86 t.weeks (by omega)
      have d2 := c86 t.counts (by omega)
      rcases out with _ | ⟨u, out⟩
      all_goals
        (repeat' (first | (intro ex hex; (first | have hq := hg1 (by omega) hex | have hq := hg2 (by omega) hex | have hq := hg3 (by omega) hex); subst hq; clear hex) | (refine Ev.go ?_; conv => whnf) | refine And.intro ?_ ?_ | exact True.intro | exact rfl | (intro rx hrx; rw [ij _ (by omega)] at hrx) | (intro hcx; exfalso; omega) | intro _))
        all_goals (first | (refine ⟨?_⟩; exact vk) | exact cl | skip)
        refine TDq.pureC d1 cl rfl (And.intro rfl rfl) ?_
        (repeat' (first | (intro ex hex; (first | have hq := hg1 (by omega) hex | have hq := hg2 (by omega) hex | have hq := hg3 (by omega) hex); subst hq; clear hex) | (refine Ev.go ?_; conv => whnf) | refine And.intro ?_ ?_ | exact True.intro | exact rfl | (intro rx hrx; rw [ij _ (by omega)] at hrx) | (intro hcx; exfalso; omega) | intro _))
        all_goals (first | (refine ⟨?_⟩; exact vk) | exact cl | skip)
        refine TDq.pureC d2 cl rfl (And.intro rfl rfl) ?_
        (repeat' (first | (intro ex hex; (first | have hq := hg1 (by omega) hex | have hq := hg2 (by omega) hex | have hq := hg3 (by omega) hex); subst hq; clear hex) | (refine Ev.go ?_; conv => whnf) | refine And.intro ?_ ?_ | exact True.intro | exact rfl | (intro rx hrx; rw [ij _ (by omega)] at hrx) | (intro hcx; exfalso; omega) | intro _))
        all_goals (first | (refine ⟨?_⟩; exact vk) | exact cl | skip)
        refine TWq.postX 2 ?_
        refine TWq.loopP (fun q : Nat × List (List (List Int)) => [(6, .int .i64 q.1)])
          (fun q => [(1, .cells [.int .i64 t.frm, .bool t.whole, .int .i64 t.least, .sl 1 (ints t.weeks), .sl 1 (ints t.counts), match q.2 with | [] => .nils | _ :: _ => .own 2]), (2, match q.2 with | [] => .dead | _ :: _ => .arr 116 1 (encCrs q.2))])
          (fun q => q.1 ≤ t.rates.length ∧ q.2 = t.rates.take q.1) (fun q => t.rates.length - q.1) (0, []) [] ?_ ⟨by omega, by simp⟩ ?_
        · (repeat' (first | (intro ex hex; (first | have hq := hg1 (by omega) hex | have hq := hg2 (by omega) hex | have hq := hg3 (by omega) hex); subst hq; clear hex) | (refine Ev.go ?_; conv => whnf) | refine And.intro ?_ ?_ | exact True.intro | exact rfl | (intro rx hrx; rw [ij _ (by omega)] at hrx) | (intro hcx; exfalso; omega) | intro _))
          all_goals (first | (refine ⟨?_⟩; exact vc) | exact cl | skip)
          all_goals (try (refine ⟨?_⟩; exact encTfs_clo _))
        · rintro ⟨j, rs⟩ ⟨hj, hrs⟩
          dsimp only at hj hrs ⊢
          have hrl : rs.length = j := by rw [hrs]; simp; omega
          rcases Nat.lt_or_ge j t.rates.length with hjl | hjl
          · obtain ⟨cr, hcr⟩ : ∃ v, t.rates[j]? = some v := ⟨_, List.getElem?_eq_getElem hjl⟩
            have hg2 : ∀ {n : Nat} {e : SV}, n = j → (encCrs t.rates)[n]? = some e → e = encCr cr := by
              rintro n e rfl he
              obtain ⟨y, hy, rfl⟩ := encCrs_at he
              rw [hcr] at hy; cases hy; rfl
            have hw4 := encIss_len cr
            obtain ⟨o1, o2⟩ := o.crops cr (List.mem_of_getElem? hcr)
            have hwp : 0 < t.weeks.length := (List.getElem?_eq_some_iff.1 (rise_of o.weeks).2.1).1
            rcases rs with _ | ⟨rs0, rs⟩
            all_goals
              (repeat' (first | (intro ex hex; (first | have hq := hg1 (by omega) hex | have hq := hg2 (by omega) hex | have hq := hg3 (by omega) hex); subst hq; clear hex) | (refine Ev.go ?_; conv => whnf) | refine And.intro ?_ ?_ | exact True.intro | exact rfl | (intro rx hrx; rw [ij _ (by omega)] at hrx) | (intro hcx; exfalso; omega) | intro _))
              all_goals (first | (refine ⟨?_⟩; exact vc) | exact cl | skip)
              refine TWq.postX 3 ?_
              refine TWq.loopP (fun q : Nat × List (List Int) => [(8, .int .i64 q.1), (7, match q.2 with | [] => .nils | _ :: _ => .own 3)])
                (fun q => [(3, match q.2 with | [] => .dead | _ :: _ => .arr 54 1 (encIss q.2))])
                (fun q => q.1 ≤ cr.length ∧ q.2 = cr.take q.1) (fun q => cr.length - q.1) (0, []) [] ?_ ⟨by omega, by simp⟩ ?_
              · (repeat' (first | (intro ex hex; (first | have hq := hg1 (by omega) hex | have hq := hg2 (by omega) hex | have hq := hg3 (by omega) hex); subst hq; clear hex) | (refine Ev.go ?_; conv => whnf) | refine And.intro ?_ ?_ | exact True.intro | exact rfl | (intro rx hrx; rw [ij _ (by omega)] at hrx) | (intro hcx; exfalso; omega) | intro _))
                all_goals (first | (refine ⟨?_⟩; exact vc) | exact cl | skip)
                all_goals (try (refine ⟨?_⟩; first | exact encTfs_clo _ | exact encCrs_clo _))
              · rintro ⟨i, cs⟩ ⟨hi, hcs⟩
                dsimp only at hi hcs ⊢
                have hcl : cs.length = i := by rw [hcs]; simp; omega
                rcases Nat.lt_or_ge i cr.length with hil | hil
                · obtain ⟨r, hr⟩ : ∃ v, cr[i]? = some v := ⟨_, List.getElem?_eq_getElem hil⟩
                  have hg3 : ∀ {n : Nat} {e : SV}, n = i → (encIss cr)[n]? = some e → e = encIs r := by
                    rintro n e rfl he
                    obtain ⟨y, hy, rfl⟩ := encIss_at he
                    rw [hr] at hy; cases hy; rfl
                  have d3 := c86 r (by have := (o2 r (List.mem_of_getElem? hr)).1; omega)
                  rcases cs with _ | ⟨cs0, cs⟩
                  all_goals
                    simp only [List.length_cons, List.length_nil] at hcl
                    (repeat' (first | (intro ex hex; (first | have hq := hg1 (by omega) hex | have hq := hg2 (by omega) hex | have hq := hg3 (by omega) hex); subst hq; clear hex) | (refine Ev.go ?_; conv => whnf) | refine And.intro ?_ ?_ | exact True.intro | exact rfl | (intro rx hrx; rw [ij _ (by omega)] at hrx) | (intro hcx; exfalso; omega) | intro _))
                    all_goals (first | (refine ⟨?_⟩; exact vc) | exact cl | skip)
                    refine TSq.pureC d3 cl rfl (And.intro rfl rfl) ?_
                    (repeat' (first | (intro ex hex; (first | have hq := hg1 (by omega) hex | have hq := hg2 (by omega) hex | have hq := hg3 (by omega) hex); subst hq; clear hex) | (refine Ev.go ?_; conv => whnf) | refine And.intro ?_ ?_ | exact True.intro | exact rfl | (intro rx hrx; rw [ij _ (by omega)] at hrx) | (intro hcx; exfalso; omega) | intro _))
                    all_goals (first | (refine ⟨?_⟩; exact vc) | exact cl | skip)
                    all_goals (try (refine ⟨?_⟩; simp [encIss_len, catS, repl]; omega))
                    refine ⟨⟨[(3, 5)], (i + 1, _ ++ [r]), ⟨by dsimp only; omega, by rw [take_snoc hr, ← hcs]⟩, by dsimp only; omega, ?_⟩⟩
                    (repeat' (first | (intro ex hex; (first | have hq := hg1 (by omega) hex | have hq := hg2 (by omega) hex | have hq := hg3 (by omega) hex); subst hq; clear hex) | (refine Ev.go ?_; conv => whnf) | refine And.intro ?_ ?_ | exact True.intro | exact rfl | (intro rx hrx; rw [ij _ (by omega)] at hrx) | (intro hcx; exfalso; omega) | intro _))
                    all_goals (first | (refine ⟨?_⟩; exact vc) | exact cl | skip)
                    all_goals (try (refine ⟨?_⟩; first | exact encIss_clo _ | exact encTfs_clo _ | exact encCrs_clo _ | (simp [encIss, catS, repl, chunks]; rfl)))
                · have hie : i = cr.length := by omega
                  subst hie
                  rw [List.take_length] at hcs
                  subst hcs
                  rcases cs with _ | ⟨cs0, cs⟩
                  · simp at o1; omega
                  · (repeat' (first | (intro ex hex; (first | have hq := hg1 (by omega) hex | have hq := hg2 (by omega) hex | have hq := hg3 (by omega) hex); subst hq; clear hex) | (refine Ev.go ?_; conv => whnf) | refine And.intro ?_ ?_ | exact True.intro | exact rfl | (intro rx hrx; rw [ij _ (by omega)] at hrx) | (intro hcx; exfalso; omega) | intro _))
                    all_goals (first | (refine ⟨?_⟩; exact vc) | exact cl | skip)
                    all_goals (try (refine ⟨?_⟩; first | exact encIss_clo _ | (simp [subAL_len, encCrs_len, catS, repl]; simp at hrl; omega)))
                    refine ⟨⟨[(2, 5)], (j + 1, _ ++ [cs0 :: cs]), ⟨by dsimp only; omega, by rw [take_snoc hcr, ← hrs]⟩, by dsimp only; omega, ?_⟩⟩
                    (repeat' (first | (intro ex hex; (first | have hq := hg1 (by omega) hex | have hq := hg2 (by omega) hex | have hq := hg3 (by omega) hex); subst hq; clear hex) | (refine Ev.go ?_; conv => whnf) | refine And.intro ?_ ?_ | exact True.intro | exact rfl | (intro rx hrx; rw [ij _ (by omega)] at hrx) | (intro hcx; exfalso; omega) | intro _))
                    all_goals (first | (refine ⟨?_⟩; exact vc) | exact cl | skip)
                    all_goals (try (refine ⟨?_⟩; exact subAL_keep _ (fun s hs n e => by obtain ⟨y, _, rfl⟩ := List.mem_map.1 hs; cases e)))
                    all_goals (try (refine ⟨?_⟩; first | exact encTfs_clo _ | exact encCrs_clo _ | (simp [encCrs, encCr, catS, repl, chunks]; done) | (rw [subAL_keep _ (fun s hs n e => by obtain ⟨y, _, rfl⟩ := List.mem_map.1 hs; cases e)]; simp [encCrs, encCr, catS, repl, chunks]; done)))
          · have hje : j = t.rates.length := by omega
            subst hje
            rw [List.take_length] at hrs
            have hsome := o.some_
            rcases rs with _ | ⟨rs0, rs⟩
            · simp at hrl; omega
            · have het : encTf t = .agg [.int .i64 t.frm, .bool t.whole, .int .i64 t.least, .sl 1 (ints t.weeks), .sl 1 (ints t.counts), .sl 1 (encCrs (rs0 :: rs))] := by rw [hrs]; rfl
              (repeat' (first | (intro ex hex; (first | have hq := hg1 (by omega) hex | have hq := hg2 (by omega) hex | have hq := hg3 (by omega) hex); subst hq; clear hex) | (refine Ev.go ?_; conv => whnf) | refine And.intro ?_ ?_ | exact True.intro | exact rfl | (intro rx hrx; rw [ij _ (by omega)] at hrx) | (intro hcx; exfalso; omega) | intro _))
              all_goals (first | (refine ⟨?_⟩; exact vc) | exact cl | skip)
              all_goals (try (refine ⟨?_⟩; first | exact encCrs_clo _ | (simp [subAL_len, encTfs_len, catS, repl, chunks]; simp at holen; omega)))
              refine ⟨⟨[(0, 4)], (k + 1, _ ++ [t]), ⟨by dsimp only; omega, by rw [take_snoc ht, ← hout]⟩, by dsimp only; omega, ?_⟩⟩
              (repeat' (first | (intro ex hex; (first | have hq := hg1 (by omega) hex | have hq := hg2 (by omega) hex | have hq := hg3 (by omega) hex); subst hq; clear hex) | (refine Ev.go ?_; conv => whnf) | refine And.intro ?_ ?_ | exact True.intro | exact rfl | (intro rx hrx; rw [ij _ (by omega)] at hrx) | (intro hcx; exfalso; omega) | intro _))
              all_goals (first | (refine ⟨?_⟩; exact vc) | exact cl | skip)
              all_goals (try (refine ⟨?_⟩; first | exact encTfs_clo _ | (simp only [encTfs, List.map_append, List.map_cons, List.map_nil, List.nil_append, het]; rfl) | (rw [subAL_keep _ (fun s hs n e => by obtain ⟨y, _, rfl⟩ := List.mem_map.1 hs; cases e)]; simp only [encTfs, List.map_append, List.map_cons, List.map_nil, List.nil_append, het]; rfl)))
    · have hke : k = l.length := by omega
      subst hke
      rw [List.take_length] at hout
      have hne := hv.ne
      rcases out with _ | ⟨u, out⟩
      · simp at holen; omega
      · (repeat' (first | (intro ex hex; (first | have hq := hg1 (by omega) hex | have hq := hg2 (by omega) hex | have hq := hg3 (by omega) hex); subst hq; clear hex) | (refine Ev.go ?_; conv => whnf) | refine And.intro ?_ ?_ | exact True.intro | exact rfl | (intro rx hrx; rw [ij _ (by omega)] at hrx) | (intro hcx; exfalso; omega) | intro _))
        all_goals (first | (refine ⟨?_⟩; exact vc) | exact cl | skip)
        all_goals (try (refine ⟨?_⟩; exact encTfs_clo _))
        rw [hout]
end Go.Proofs.YtjadiajfbflghaaGreat
set_option linter.unusedSimpArgs false
set_option linter.unusedVariables false
open Go Go.TV
namespace Go.Proofs.YtjadiajfbflghaaGreat
theorem c57 (r : Rng) : PF Tryz.prog 57 [encR r] (· = encR r) := by
  refine PF.of (TF.ev fn_57 (Ev.at ?_))
  (repeat' (first | (refine Ev.go ?_; conv => whnf) | refine And.intro ?_ ?_ | exact True.intro | exact rfl | (intro rx hrx; rw [ij _ (by omega)] at hrx) | (intro hcx; exfalso; omega) | intro _))
  try rfl
def CN (c : Cas) (v : SV) : Prop := ∃ a, v = .agg [.sl 6 (encTfs c.tfs), .int .i64 c.day, .int .i64 c.fee, a] ∧ (a = .sl 9 (encFlds c.flds) ∨ (c.flds = [] ∧ a = .nils))
theorem CN.pf {f : FuncId} {args : List SV} {c : Cas} (h : PF Tryz.prog f args (CN c)) : PF Tryz.prog f args (· = encCas c) := by
  refine PF.res h fun v hv _ => ?_
  refine ⟨_, rfl, encCas_clo c, ?_⟩
  obtain ⟨a, rfl, ha⟩ := hv
  unfold encCas
  rcases ha with rfl | ⟨h1, rfl⟩
  · (repeat' (first | (refine Ev.go ?_; conv => whnf) | refine And.intro ?_ ?_ | exact True.intro | exact rfl | (intro rx hrx; rw [ij _ (by omega)] at hrx) | (intro hcx; exfalso; omega) | intro _))
    all_goals (first | (refine ⟨?_⟩; exact vc) | exact cl | skip)
  · rw [h1]
    (repeat' (first | (refine Ev.go ?_; conv => whnf) | refine And.intro ?_ ?_ | exact True.intro | exact rfl | (intro rx hrx; rw [ij _ (by omega)] at hrx) | (intro hcx; exfalso; omega) | intro _))
    all_goals (first | (refine ⟨?_⟩; exact vc) | exact cl | skip)
def TN (t : List Thr) (v : SV) : Prop := v = .sl 3 (encThrs t) ∨ (t = [] ∧ v = .nils)
theorem TN.pf {f : FuncId} {args : List SV} {t : List Thr} (h : PF Tryz.prog f args (TN t)) : PF Tryz.prog f args (· = .sl 3 (encThrs t)) := by
  refine PF.res h fun v hv _ => ?_
  refine ⟨_, rfl, by simp [clo], ?_⟩
  rcases hv with rfl | ⟨h1, rfl⟩
  · (repeat' (first | (refine Ev.go ?_; conv => whnf) | refine And.intro ?_ ?_ | exact True.intro | exact rfl | (intro rx hrx; rw [ij _ (by omega)] at hrx) | (intro hcx; exfalso; omega) | intro _))
    all_goals (first | (refine ⟨?_⟩; exact vc) | exact cl | skip)
  · rw [h1]
    (repeat' (first | (refine Ev.go ?_; conv => whnf) | refine And.intro ?_ ?_ | exact True.intro | exact rfl | (intro rx hrx; rw [ij _ (by omega)] at hrx) | (intro hcx; exfalso; omega) | intro _))
    all_goals (first | (refine ⟨?_⟩; exact vc) | exact cl | skip)
set_option maxRecDepth 100000 in
set_option maxHeartbeats 8000000 in
theorem c12 (c : Cas) (hv : ValidTs c.tfs) (hF : c.flds.length ≤ 1000) : PF Tryz.prog 12 [encCas c] (· = encCas c) := by
  have hz := encFlds_len c.flds
  have d0 := c33 c.tfs hv
  refine CN.pf (PF.of (TF.ev fn_12 (Ev.at ?_)))
  (repeat' (first | (intro ex hex; have hq := hg1 (by omega) hex; subst hq; clear hex) | (refine Ev.go ?_; conv => whnf) | refine And.intro ?_ ?_ | exact True.intro | exact rfl | (intro rx hrx; rw [ij _ (by omega)] at hrx) | (intro hcx; exfalso; omega) | intro _))
  all_goals (first | (refine ⟨?_⟩; exact vk) | exact cl | skip)
  refine TDq.pureC d0 (by simp [cloL, clo]) rfl (And.intro rfl rfl) ?_
  (repeat' (first | (intro ex hex; have hq := hg1 (by omega) hex; subst hq; clear hex) | (refine Ev.go ?_; conv => whnf) | refine And.intro ?_ ?_ | exact True.intro | exact rfl | (intro rx hrx; rw [ij _ (by omega)] at hrx) | (intro hcx; exfalso; omega) | intro _))
  all_goals (first | (refine ⟨?_⟩; exact vk) | exact cl | skip)
  refine TWq.loopP (fun p : Nat × List Fld => [(4, .int .i64 p.1)])
    (fun p => [(2, .cells [.sl 6 (encTfs c.tfs), .int .i64 c.day, .int .i64 c.fee, match p.2 with | [] => .nils | _ :: _ => .own 3]), (3, match p.2 with | [] => .dead | _ :: _ => .arr 154 9 (encFlds p.2))])
    (fun p => p.1 ≤ c.flds.length ∧ p.2 = c.flds.take p.1) (fun p => c.flds.length - p.1) (0, []) [] ?_ ⟨by omega, by simp⟩ ?_
  · (repeat' (first | (intro ex hex; have hq := hg1 (by omega) hex; subst hq; clear hex) | (refine Ev.go ?_; conv => whnf) | refine And.intro ?_ ?_ | exact True.intro | exact rfl | (intro rx hrx; rw [ij _ (by omega)] at hrx) | (intro hcx; exfalso; omega) | intro _))
    all_goals (first | (refine ⟨?_⟩; exact vc) | exact cl | skip)
  · rintro ⟨k, l⟩ ⟨hk, hl⟩
    dsimp only at hk hl ⊢
    have hll : l.length = k := by rw [hl]; simp; omega
    rcases Nat.lt_or_ge k c.flds.length with hkl | hkl
    · obtain ⟨f, hf⟩ : ∃ v, c.flds[k]? = some v := ⟨_, List.getElem?_eq_getElem hkl⟩
      have hg1 : ∀ {n : Nat} {e : SV}, n = k → (encFlds c.flds)[n]? = some e → e = encFld f := by
        rintro n e rfl he
        obtain ⟨y, hy, rfl⟩ := encFlds_at he
        rw [hf] at hy; cases hy; rfl
      have d1 := c57 f.fi
      have d2 := c57 f.se
      have d3 := c57 f.um
      rcases l with _ | ⟨b, l⟩
      all_goals
        simp only [List.length_cons, List.length_nil] at hll
        (repeat' (first | (intro ex hex; have hq := hg1 (by omega) hex; subst hq; clear hex) | (refine Ev.go ?_; conv => whnf) | refine And.intro ?_ ?_ | exact True.intro | exact rfl | (intro rx hrx; rw [ij _ (by omega)] at hrx) | (intro hcx; exfalso; omega) | intro _))
        all_goals (first | (refine ⟨?_⟩; exact vk) | exact cl | skip)
        refine TDq.pureC d1 cl rfl (And.intro rfl rfl) ?_
        (repeat' (first | (intro ex hex; have hq := hg1 (by omega) hex; subst hq; clear hex) | (refine Ev.go ?_; conv => whnf) | refine And.intro ?_ ?_ | exact True.intro | exact rfl | (intro rx hrx; rw [ij _ (by omega)] at hrx) | (intro hcx; exfalso; omega) | intro _))
        all_goals (first | (refine ⟨?_⟩; exact vk) | exact cl | skip)
        refine TDq.pureC d2 cl rfl (And.intro rfl rfl) ?_
        (repeat' (first | (intro ex hex; have hq := hg1 (by omega) hex; subst hq; clear hex) | (refine Ev.go ?_; conv => whnf) | refine And.intro ?_ ?_ | exact True.intro | exact rfl | (intro rx hrx; rw [ij _ (by omega)] at hrx) | (intro hcx; exfalso; omega) | intro _))
        all_goals (first | (refine ⟨?_⟩; exact vk) | exact cl | skip)
        refine TDq.pureC d3 cl rfl (And.intro rfl rfl) ?_
        (repeat' (first | (intro ex hex; have hq := hg1 (by omega) hex; subst hq; clear hex) | (refine Ev.go ?_; conv => whnf) | refine And.intro ?_ ?_ | exact True.intro | exact rfl | (intro rx hrx; rw [ij _ (by omega)] at hrx) | (intro hcx; exfalso; omega) | intro _))
        all_goals (first | (refine ⟨?_⟩; exact vk) | exact cl | skip)
        all_goals (try (refine ⟨?_⟩; simp [encFlds_len, catS, repl, chunks]; omega))
        refine ⟨⟨[(3, 6)], (k + 1, _ ++ [f]), ⟨by dsimp only; omega, by rw [take_snoc hf, ← hl]⟩, by dsimp only; omega, ?_⟩⟩
        (repeat' (first | (intro ex hex; have hq := hg1 (by omega) hex; subst hq; clear hex) | (refine Ev.go ?_; conv => whnf) | refine And.intro ?_ ?_ | exact True.intro | exact rfl | (intro rx hrx; rw [ij _ (by omega)] at hrx) | (intro hcx; exfalso; omega) | intro _))
        all_goals (first | (refine ⟨?_⟩; exact vc) | exact cl | skip)
        all_goals (try (refine ⟨?_⟩; first | exact encFlds_clo _ | (simp [encFlds, encFld, catS, repl, chunks]; done)))
    · have hke : k = c.flds.length := by omega
      subst hke
      rw [List.take_length] at hl
      rcases l with _ | ⟨b, l⟩
      · (repeat' (first | (intro ex hex; have hq := hg1 (by omega) hex; subst hq; clear hex) | (refine Ev.go ?_; conv => whnf) | refine And.intro ?_ ?_ | exact True.intro | exact rfl | (intro rx hrx; rw [ij _ (by omega)] at hrx) | (intro hcx; exfalso; omega) | intro _))
        all_goals (first | (refine ⟨?_⟩; exact vc) | exact cl | skip)
        exact ⟨_, rfl, .inr ⟨hl.symm, rfl⟩⟩
      · (repeat' (first | (intro ex hex; have hq := hg1 (by omega) hex; subst hq; clear hex) | (refine Ev.go ?_; conv => whnf) | refine And.intro ?_ ?_ | exact True.intro | exact rfl | (intro rx hrx; rw [ij _ (by omega)] at hrx) | (intro hcx; exfalso; omega) | intro _))
        all_goals (first | (refine ⟨?_⟩; exact vc) | exact cl | skip)
        all_goals (try (refine ⟨?_⟩; exact encFlds_clo _))
        exact ⟨_, rfl, .inl (by rw [hl])⟩
set_option maxRecDepth 100000 in
set_option maxHeartbeats 8000000 in
theorem c15 (t : List Thr) (hF : t.length ≤ 1000) : PF Tryz.prog 15 [.sl 3 (encThrs t)] (· = .sl 3 (encThrs t)) := by
  have hz := encThrs_len t
  refine TN.pf (PF.of (TF.ev fn_15 (Ev.at ?_)))
  (repeat' (first | (intro ex hex; have hq := hg1 (by omega) hex; subst hq; clear hex) | (refine Ev.go ?_; conv => whnf) | refine And.intro ?_ ?_ | exact True.intro | exact rfl | (intro rx hrx; rw [ij _ (by omega)] at hrx) | (intro hcx; exfalso; omega) | intro _))
  all_goals (first | (refine ⟨?_⟩; exact vc) | exact cl | skip)
  refine TWq.loopP (fun p : Nat × List Thr => [(4, .int .i64 p.1), (3, match p.2 with | [] => .nils | _ :: _ => .own 0)])
    (fun p => [(0, match p.2 with | [] => .dead | _ :: _ => .arr 169 3 (encThrs p.2))])
    (fun p => p.1 ≤ t.length ∧ p.2 = t.take p.1) (fun p => t.length - p.1) (0, []) [] ?_ ⟨by omega, by simp⟩ ?_
  · (repeat' (first | (intro ex hex; have hq := hg1 (by omega) hex; subst hq; clear hex) | (refine Ev.go ?_; conv => whnf) | refine And.intro ?_ ?_ | exact True.intro | exact rfl | (intro rx hrx; rw [ij _ (by omega)] at hrx) | (intro hcx; exfalso; omega) | intro _))
    all_goals (first | (refine ⟨?_⟩; exact vc) | exact cl | skip)
  · rintro ⟨k, l⟩ ⟨hk, hl⟩
    dsimp only at hk hl ⊢
    have hll : l.length = k := by rw [hl]; simp; omega
    rcases Nat.lt_or_ge k t.length with hkl | hkl
    · obtain ⟨x, hx⟩ : ∃ v, t[k]? = some v := ⟨_, List.getElem?_eq_getElem hkl⟩
      have hg1 : ∀ {n : Nat} {e : SV}, n = k → (encThrs t)[n]? = some e → e = encThr x := by
        rintro n e rfl he
        obtain ⟨y, hy, rfl⟩ := encThrs_at he
        rw [hx] at hy; cases hy; rfl
      rcases l with _ | ⟨b, l⟩
      all_goals
        simp only [List.length_cons, List.length_nil] at hll
        (repeat' (first | (intro ex hex; have hq := hg1 (by omega) hex; subst hq; clear hex) | (refine Ev.go ?_; conv => whnf) | refine And.intro ?_ ?_ | exact True.intro | exact rfl | (intro rx hrx; rw [ij _ (by omega)] at hrx) | (intro hcx; exfalso; omega) | intro _))
        all_goals (first | (refine ⟨?_⟩; exact vk) | exact cl | skip)
        all_goals (try (refine ⟨?_⟩; simp [encThrs_len, catS, repl, chunks]; omega))
        refine ⟨⟨[(0, 2)], (k + 1, _ ++ [x]), ⟨by dsimp only; omega, by rw [take_snoc hx, ← hl]⟩, by dsimp only; omega, ?_⟩⟩
        (repeat' (first | (intro ex hex; have hq := hg1 (by omega) hex; subst hq; clear hex) | (refine Ev.go ?_; conv => whnf) | refine And.intro ?_ ?_ | exact True.intro | exact rfl | (intro rx hrx; rw [ij _ (by omega)] at hrx) | (intro hcx; exfalso; omega) | intro _))
        all_goals (first | (refine ⟨?_⟩; exact vc) | exact cl | skip)
        all_goals (try (refine ⟨?_⟩; first | exact encThrs_clo _ | (simp [encThrs, encThr, catS, repl, chunks]; done)))
    · have hke : k = t.length := by omega
      subst hke
      rw [List.take_length] at hl
      rcases l with _ | ⟨b, l⟩
      · (repeat' (first | (intro ex hex; have hq := hg1 (by omega) hex; subst hq; clear hex) | (refine Ev.go ?_; conv => whnf) | refine And.intro ?_ ?_ | exact True.intro | exact rfl | (intro rx hrx; rw [ij _ (by omega)] at hrx) | (intro hcx; exfalso; omega) | intro _))
        all_goals (first | (refine ⟨?_⟩; exact vc) | exact cl | skip)
        exact .inr ⟨hl.symm, rfl⟩
      · (repeat' (first | (intro ex hex; have hq := hg1 (by omega) hex; subst hq; clear hex) | (refine Ev.go ?_; conv => whnf) | refine And.intro ?_ ?_ | exact True.intro | exact rfl | (intro rx hrx; rw [ij _ (by omega)] at hrx) | (intro hcx; exfalso; omega) | intro _))
        all_goals (first | (refine ⟨?_⟩; exact vc) | exact cl | skip)
        all_goals (try (refine ⟨?_⟩; exact encThrs_clo _))
        exact .inl (by rw [hl])
end Go.Proofs.YtjadiajfbflghaaGreat
set_option linter.unusedSimpArgs false
set_option linter.unusedVariables false
open Go Go.TV
namespace Go.Proofs.YtjadiajfbflghaaGreat
theorem every_at {r : Rng} {k : Nat} (h : (r.lo : Int) + k ≤ r.hi) : (every r)[k]? = some (r.lo + k) := by
  have : k < (r.hi - r.lo + 1).toNat := by omega
  simp [every, List.getElem?_map, List.getElem?_range this]
theorem flat_snoc {α β : Type} {g : α → List β} {l : List α} {k : Nat} {x : α} (h : l[k]? = some x) : (l.take (k + 1)).flatMap g = (l.take k).flatMap g ++ g x := by
  rw [take_snoc h, List.flatMap_append]; simp
def ownT (l : List Thr) : SV := match l with | [] => .nils | _ :: _ => .own 1
def arrT (l : List Thr) : LB := match l with | [] => .dead | _ :: _ => .arr 53 3 (encThrs l)
set_option maxRecDepth 100000 in
set_option maxHeartbeats 8000000 in
theorem c13 (f : Fld) (h1 : f.fi.cntB = true) (h2 : f.se.cntB = true) (h3 : f.um.cntB = true) : PF Tryz.prog 13 [encFld f] (· = .sl 3 (encThrs (truthsL f))) := by
  have c1 := cnt_of h1
  have c2 := cnt_of h2
  have c3 := cnt_of h3
  have el : ∀ r : Rng, (every r).length = (r.hi - r.lo + 1).toNat := fun r => by simp [every]
  have e1 := el f.fi
  have e2 := el f.se
  have e3 := el f.um
  refine TN.pf (PF.of (TF.ev fn_13 (Ev.at ?_)))
  (repeat' (first | (refine Ev.go ?_; conv => whnf) | refine And.intro ?_ ?_ | exact True.intro | exact rfl | (intro rx hrx; rw [ij _ (by omega)] at hrx) | (intro hcx; exfalso; omega) | intro _))
  all_goals (first | (refine ⟨?_⟩; exact vc) | exact cl | skip)
  refine TWq.loopP (fun p : Nat × List Thr => [(4, .int .i64 (f.fi.lo + p.1)), (3, ownT p.2)]) (fun p => [(1, arrT p.2)])
    (fun p => p.1 ≤ (every f.fi).length ∧ p.2 = ((every f.fi).take p.1).flatMap (rowB f) ∧ p.2.length ≤ 25 * p.1) (fun p => (every f.fi).length - p.1) (0, []) [] ?_ ⟨by omega, by simp, by simp⟩ ?_
  · (repeat' (first | (refine Ev.go ?_; conv => whnf) | refine And.intro ?_ ?_ | exact True.intro | exact rfl | (intro rx hrx; rw [ij _ (by omega)] at hrx) | (intro hcx; exfalso; omega) | intro _))
    all_goals (first | (refine ⟨?_⟩; exact vc) | exact cl | skip)
    all_goals (try (refine ⟨?_⟩; simp; done))
  · rintro ⟨i, l⟩ ⟨hi, hl, hn⟩
    dsimp only at hi hl hn ⊢
    rcases Nat.lt_or_ge i (every f.fi).length with hil | hil
    · have ha := every_at (r := f.fi) (k := i) (by omega)
      rcases l with _ | ⟨b, l⟩
      all_goals
        (repeat' (first | (refine Ev.go ?_; conv => whnf) | refine And.intro ?_ ?_ | exact True.intro | exact rfl | (intro rx hrx; rw [ij _ (by omega)] at hrx) | (intro hcx; exfalso; omega) | intro _))
        all_goals (try (exfalso; omega))
        all_goals (first | (refine ⟨?_⟩; exact vc) | exact cl | skip)
        refine TWq.loopP (fun p : Nat × List Thr => [(5, .int .i64 (f.se.lo + p.1)), (3, ownT p.2)]) (fun p => [(1, arrT p.2)])
          (fun p => p.1 ≤ (every f.se).length ∧ p.2 = ((every f.fi).take i).flatMap (rowB f) ++ ((every f.se).take p.1).flatMap (rowU f (f.fi.lo + i)) ∧ p.2.length ≤ 25 * i + 5 * p.1) (fun p => (every f.se).length - p.1) (0, _) [] ?_ ⟨by omega, by rw [← hl]; simp; rfl, by dsimp only; omega⟩ ?_
        · (repeat' (first | (refine Ev.go ?_; conv => whnf) | refine And.intro ?_ ?_ | exact True.intro | exact rfl | (intro rx hrx; rw [ij _ (by omega)] at hrx) | (intro hcx; exfalso; omega) | intro _))
          all_goals (first | (refine ⟨?_⟩; exact vc) | exact cl | skip)
          all_goals (try (refine ⟨?_⟩; first | (simp; done) | exact encThrs_clo _))
        · rintro ⟨j, m⟩ ⟨hj, hm, hmn⟩
          dsimp only at hj hm hmn ⊢
          rcases Nat.lt_or_ge j (every f.se).length with hjl | hjl
          · have hb := every_at (r := f.se) (k := j) (by omega)
            rcases m with _ | ⟨b', m⟩
            all_goals
              (repeat' (first | (refine Ev.go ?_; conv => whnf) | refine And.intro ?_ ?_ | exact True.intro | exact rfl | (intro rx hrx; rw [ij _ (by omega)] at hrx) | (intro hcx; exfalso; omega) | intro _))
              all_goals (try (exfalso; omega))
              all_goals (first | (refine ⟨?_⟩; exact vc) | exact cl | skip)
              refine TWq.loopP (fun p : Nat × List Thr => [(6, .int .i64 (f.um.lo + p.1)), (3, ownT p.2)]) (fun p => [(1, arrT p.2)])
                (fun p => p.1 ≤ (every f.um).length ∧ p.2 = (((every f.fi).take i).flatMap (rowB f) ++ ((every f.se).take j).flatMap (rowU f (f.fi.lo + i))) ++ ((every f.um).take p.1).map (fun u => ⟨f.fi.lo + i, f.se.lo + j, u⟩) ∧ p.2.length ≤ 25 * i + 5 * j + p.1) (fun p => (every f.um).length - p.1) (0, _) [] ?_ ⟨by omega, by rw [← hm]; simp; rfl, by dsimp only; omega⟩ ?_
              · (repeat' (first | (refine Ev.go ?_; conv => whnf) | refine And.intro ?_ ?_ | exact True.intro | exact rfl | (intro rx hrx; rw [ij _ (by omega)] at hrx) | (intro hcx; exfalso; omega) | intro _))
                all_goals (first | (refine ⟨?_⟩; exact vc) | exact cl | skip)
                all_goals (try (refine ⟨?_⟩; first | (simp; done) | exact encThrs_clo _))
              · rintro ⟨k, o⟩ ⟨hk, ho, hon⟩
                dsimp only at hk ho hon ⊢
                rcases Nat.lt_or_ge k (every f.um).length with hkl | hkl
                · have hu := every_at (r := f.um) (k := k) (by omega)
                  rcases o with _ | ⟨o0, o⟩
                  all_goals
                    simp only [List.length_cons, List.length_nil] at hon
                    (repeat' (first | (refine Ev.go ?_; conv => whnf) | refine And.intro ?_ ?_ | exact True.intro | exact rfl | (intro rx hrx; rw [ij _ (by omega)] at hrx) | (intro hcx; exfalso; omega) | intro _))
                    all_goals (try (exfalso; omega))
                    all_goals (first | (refine ⟨?_⟩; exact vc) | exact cl | skip)
                    all_goals (try (refine ⟨?_⟩; simp [encThrs_len, catS, repl, chunks]; omega))
                    refine ⟨⟨[(1, 3)], (k + 1, _ ++ [⟨f.fi.lo + i, f.se.lo + j, f.um.lo + k⟩]), ⟨by dsimp only; omega, by dsimp only; rw [take_snoc hu, List.map_append, ← List.append_assoc, ← ho]; rfl, by dsimp only; simp; omega⟩, by dsimp only; omega, ?_⟩⟩
                    (repeat' (first | (refine Ev.go ?_; conv => whnf) | refine And.intro ?_ ?_ | exact True.intro | exact rfl | (intro rx hrx; rw [ij _ (by omega)] at hrx) | (intro hcx; exfalso; omega) | intro _))
                    all_goals (first | (refine ⟨?_⟩; exact vc) | exact cl | skip)
                    all_goals (try (refine ⟨?_⟩; first | exact encThrs_clo _ | (simp [encThrs, encThr, catS, repl, chunks]; done)))
                · have hke : k = (every f.um).length := by omega
                  rw [hke, List.take_length] at ho
                  have hnext : o = ((every f.fi).take i).flatMap (rowB f) ++ ((every f.se).take (j + 1)).flatMap (rowU f (f.fi.lo + i)) := by
                    rw [flat_snoc hb, ← List.append_assoc]; exact ho
                  rcases o with _ | ⟨o0, o⟩
                  all_goals
                    (repeat' (first | (refine Ev.go ?_; conv => whnf) | refine And.intro ?_ ?_ | exact True.intro | exact rfl | (intro rx hrx; rw [ij _ (by omega)] at hrx) | (intro hcx; exfalso; omega) | intro _))
                    all_goals (try (exfalso; omega))
                    all_goals (first | (refine ⟨?_⟩; exact vc) | exact cl | skip)
                    refine ⟨⟨[], (j + 1, _), ⟨by dsimp only; omega, hnext, by dsimp only; omega⟩, by dsimp only; omega, ?_⟩⟩
                    (repeat' (first | (refine Ev.go ?_; conv => whnf) | refine And.intro ?_ ?_ | exact True.intro | exact rfl | (intro rx hrx; rw [ij _ (by omega)] at hrx) | (intro hcx; exfalso; omega) | intro _))
                    all_goals (first | (refine ⟨?_⟩; exact vc) | exact cl | skip)
                    all_goals (try (refine ⟨?_⟩; first | exact encThrs_clo _ | (simp; done)))
          · have hje : j = (every f.se).length := by omega
            rw [hje, List.take_length] at hm
            have hnext : m = ((every f.fi).take (i + 1)).flatMap (rowB f) := by
              rw [flat_snoc ha]; exact hm
            rcases m with _ | ⟨b', m⟩
            all_goals
              (repeat' (first | (refine Ev.go ?_; conv => whnf) | refine And.intro ?_ ?_ | exact True.intro | exact rfl | (intro rx hrx; rw [ij _ (by omega)] at hrx) | (intro hcx; exfalso; omega) | intro _))
              all_goals (try (exfalso; omega))
              all_goals (first | (refine ⟨?_⟩; exact vc) | exact cl | skip)
              refine ⟨⟨[], (i + 1, _), ⟨by dsimp only; omega, hnext, by dsimp only; omega⟩, by dsimp only; omega, ?_⟩⟩
              (repeat' (first | (refine Ev.go ?_; conv => whnf) | refine And.intro ?_ ?_ | exact True.intro | exact rfl | (intro rx hrx; rw [ij _ (by omega)] at hrx) | (intro hcx; exfalso; omega) | intro _))
              all_goals (first | (refine ⟨?_⟩; exact vc) | exact cl | skip)
              all_goals (try (refine ⟨?_⟩; first | exact encThrs_clo _ | (simp; done)))
    · have hie : i = (every f.fi).length := by omega
      rw [hie, List.take_length] at hl
      have hT : l = truthsL f := hl
      rcases l with _ | ⟨b, l⟩
      all_goals
        (repeat' (first | (refine Ev.go ?_; conv => whnf) | refine And.intro ?_ ?_ | exact True.intro | exact rfl | (intro rx hrx; rw [ij _ (by omega)] at hrx) | (intro hcx; exfalso; omega) | intro _))
        all_goals (try (exfalso; omega))
        all_goals (first | (refine ⟨?_⟩; exact vc) | exact cl | skip)
        all_goals (try (refine ⟨?_⟩; exact encThrs_clo _))
        first | exact .inr ⟨hT.symm, rfl⟩ | exact .inl (by rw [← hT])
end Go.Proofs.YtjadiajfbflghaaGreat
set_option linter.unusedSimpArgs false
set_option linter.unusedVariables false
open Go Go.TV
namespace Go.Proofs.YtjadiajfbflghaaGreat
set_option maxRecDepth 100000
set_option maxHeartbeats 4000000
def tg3 : { t : TFn // fnOf Tryz.prog 3 = some t } := by
  refine ⟨?_, ?_⟩
  rotate_left
  conv => lhs; reduce; (try dsimp only [Int.ofNat_eq_natCast, Int.cast_ofNat_Int])
def tf3 : TFn := tg3.1
theorem fn_3 : fnOf Tryz.prog 3 = some tf3 := tg3.2
end Go.Proofs.YtjadiajfbflghaaGreat
