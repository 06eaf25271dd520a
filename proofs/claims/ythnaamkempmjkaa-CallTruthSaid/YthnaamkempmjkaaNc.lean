/- A truth picked by words. -/
import Derived.Test.YthnaamkempmjkaaNb
import Derived.Test.YthnaamkempmjkaaKfY
set_option linter.unusedSimpArgs false
set_option linter.unusedVariables false
open Go Go.TV
namespace Go.Proofs.Ythnaamkempmjkaa

/-- A truth whose list may be nil. -/
def TN (t : Truth) (v : SV) : Prop := ∃ a, v = .agg [a, .int .i64 t.treaty] ∧ LN t.losses a
theorem TN.pf {f : FuncId} {args : List SV} {t : Truth} (h : PF Try.prog f args (TN t)) : PF Try.prog f args (· = encT t) := by
  refine PF.res h fun v hv _ => ?_
  obtain ⟨a, rfl, ha⟩ := hv
  refine ⟨_, rfl, by simp [encT, clo, cloL, ints_clo], ?_⟩
  unfold encT
  rcases ha with rfl | ⟨h1, rfl⟩
  · (repeat' (first | (refine Ev.go ?_; conv => whnf) | refine And.intro ?_ ?_ | exact True.intro | exact rfl | (intro rx hrx; rw [IntWalk.i64_in _ (by omega)] at hrx) | (intro hcx; exfalso; omega) | (intro hcx; exfalso; simp only [lz] at hcx; omega) | (intro ex hex; (first | obtain ⟨xx, hxx, rfl⟩ := ints_at hex | obtain ⟨xx, hxx, rfl⟩ := encYs_at hex | obtain ⟨xx, hxx, rfl⟩ := encRs_at hex); clear hex; try simp only [Int.toNat_natCast] at hxx) | intro _))
    all_goals (first | (refine ⟨?_⟩; first | rfl | exact List.cons_ne_nil _ _ | (show (_ : Nat) * _ ≤ _; simp [catS, repl, chunks, lz] <;> omega) | exact ⟨rfl, rfl⟩ | exact ⟨rfl, rfl, rfl⟩ | omega | (simp only [lz]; omega) | (simp; omega) | (simp [cloL, clo, catS, repl, cz, encR, encY]; done) | (show chkGo _ _ _ _ _ = true; kernel_rfl)) | (simp [cloL, clo, catS, repl, cz, encR, encY]; done) | skip)
  · rw [h1]
    (repeat' (first | (refine Ev.go ?_; conv => whnf) | refine And.intro ?_ ?_ | exact True.intro | exact rfl | (intro rx hrx; rw [IntWalk.i64_in _ (by omega)] at hrx) | (intro hcx; exfalso; omega) | (intro hcx; exfalso; simp only [lz] at hcx; omega) | (intro ex hex; (first | obtain ⟨xx, hxx, rfl⟩ := ints_at hex | obtain ⟨xx, hxx, rfl⟩ := encYs_at hex | obtain ⟨xx, hxx, rfl⟩ := encRs_at hex); clear hex; try simp only [Int.toNat_natCast] at hxx) | intro _))
    all_goals (first | (refine ⟨?_⟩; first | rfl | exact List.cons_ne_nil _ _ | (show (_ : Nat) * _ ≤ _; simp [catS, repl, chunks, lz] <;> omega) | exact ⟨rfl, rfl⟩ | exact ⟨rfl, rfl, rfl⟩ | omega | (simp only [lz]; omega) | (simp; omega) | (simp [cloL, clo, catS, repl, cz, encR, encY]; done) | (show chkGo _ _ _ _ _ = true; kernel_rfl)) | (simp [cloL, clo, catS, repl, cz, encR, encY]; done) | skip)
/-- A word, and what it picks of a range. -/
def wordA (ws : List Int) (k : Nat) : Int := ws.getD (k % ws.length) 0
def pickV (ws : List Int) (r : Rng) (k : Nat) : Int := r.lo + wordA ws k % (r.hi - r.lo + 1)
def pickL (s : Soc) (ws : List Int) (n : Nat) : List Int := (List.range n).map fun i => pickV ws (s.losses.getD i ⟨0, 0⟩) i
def pickT (s : Soc) (ws : List Int) : Truth := ⟨pickL s ws s.losses.length, pickV ws s.treaty s.losses.length⟩
theorem pickL_len (s : Soc) (ws : List Int) (n : Nat) : (pickL s ws n).length = n := by simp [pickL]
theorem pickL_succ {s : Soc} {ws : List Int} {n : Nat} {r : Rng} (h : s.losses[n]? = some r) : pickL s ws (n + 1) = pickL s ws n ++ [pickV ws r n] := by
  simp [pickL, List.range_succ, List.getD_eq_getElem?_getD, h]
theorem pickV_in {ws : List Int} {r : Rng} {k : Nat} (h : r.lo ≤ r.hi) : r.lo ≤ pickV ws r k ∧ pickV ws r k ≤ r.hi := by
  have h1 := Int.emod_nonneg (wordA ws k) (show r.hi - r.lo + 1 ≠ 0 by omega)
  have h2 := Int.emod_lt_of_pos (wordA ws k) (show 0 < r.hi - r.lo + 1 by omega)
  unfold pickV; omega
theorem wordA_bd {ws : List Int} (hw : ∀ n ∈ ws, 0 ≤ n ∧ n ≤ 255) (k : Nat) : 0 ≤ wordA ws k ∧ wordA ws k ≤ 255 := by
  unfold wordA
  rw [List.getD_eq_getElem?_getD]
  cases h : ws[k % ws.length]? with
  | none => simp
  | some x => have := hw x (List.mem_of_getElem? h); exact ⟨this.1, this.2⟩
theorem pickT_ok {s : Soc} (ws : List Int) (h0 : fault s = 0) : isTruth s (pickT s ws) = true := by
  obtain ⟨_, hr, ht, _, _⟩ := fault_ok h0
  refine isTruth_at.2 ⟨pickL_len _ _ _, ?_, fun i r v h1 h2 => ?_⟩
  · have := pickV_in (ws := ws) (k := s.losses.length) ht.2.1
    exact decide_eq_true this
  · simp only [pickT, pickL, List.getElem?_map, Option.map_eq_some_iff] at h2
    obtain ⟨j, hj, rfl⟩ := h2
    have := (List.getElem?_eq_some_iff.1 hj)
    obtain ⟨hj1, hj2⟩ := this
    simp at hj1 hj2
    subst hj2
    rw [List.getD_eq_getElem?_getD, h1]
    have := pickV_in (ws := ws) (k := i) (hr r (List.mem_of_getElem? h1)).2.1
    simp only [Rng.has, within, decide_eq_true_eq, Option.getD_some]; exact this
theorem wmod {ws : List Int} {x m : Int} {k n : Nat} (hn : n = ws.length) (h : x = m.tmod (n : Int)) (hm : m = (k : Int)) : x = ((k % ws.length : Nat) : Int) := by
  subst hn; rw [h, hm, Int.tmod_eq_emod_of_nonneg (Int.natCast_nonneg _)]; rfl

set_option maxHeartbeats 8000000 in
set_option maxRecDepth 100000 in
theorem c58 (s : Soc) (ws : List Int) (h0 : fault s = 0) (hw : ∀ n ∈ ws, 0 ≤ n ∧ n ≤ 255) (hwl : (ws.length : Int) ≤ 9223372036854775807) : PF Try.prog 58 [encSoc s, .sl 1 (ws.map (SV.int .u8))] (· = encT (pickT s ws)) := by
  have hz := encRs_len s.losses
  have hl3 := (fault_len h0).2
  obtain ⟨_, hr, ht, _, _⟩ := fault_ok h0
  have hwm : (ws.map (SV.int .u8)).length = ws.length := List.length_map ..
  refine TN.pf (PF.of (TF.ev fn_58 (Ev.at ?_)))
  (repeat' (first | (intro rx hrx; have hq := hsub1 hrx (by omega); subst hq; clear hrx) | (intro rx hrx; have hq := hsub2 hrx (by omega); subst hq; clear hrx) | (intro ex hex; have hq := hg1 (by omega) hex; subst hq; clear hex) | (intro ex hex; have hq := hg2 (by omega) hex; subst hq; clear hex) | (refine Ev.go ?_; conv => whnf) | refine And.intro ?_ ?_ | exact True.intro | exact rfl | (intro rx hrx; rw [IntWalk.i64_in _ (by omega)] at hrx) | (intro hcx; exfalso; omega) | intro _))
  all_goals (first | (refine ⟨?_⟩; first | rfl | exact List.cons_ne_nil _ _ | (show (_ : Nat) * _ ≤ _; simp [catS, repl, chunks, lz] <;> omega) | exact shS _ _ | exact shM _ | exact shN | exact encM_clo _ | exact ⟨rfl, rfl⟩ | exact ⟨rfl, rfl, rfl⟩ | omega | (simp only [lz]; omega) | (simp; omega) | (simp [cloL, clo, catS, repl, cz, encR, encY, encS]; done) | (show chkGo _ _ _ _ _ = true; kernel_rfl)) | (simp [cloL, clo, catS, repl, cz, encR, encY, encS]; done) | skip)
  refine TWq.loopP (fun p : Nat × List Int × Int => [(6, .int .i64 p.1)])
    (fun p => [(2, .cells [match p.2.1 with | [] => .nils | _ :: _ => .own 3, .int .i64 p.2.2]), (3, match p.2.1 with | [] => .dead | _ :: _ => .arr 3 1 (ints p.2.1))])
    (fun p => p.1 ≤ s.losses.length + 1 ∧ p.2.1 = pickL s ws (min p.1 s.losses.length) ∧ (p.1 = s.losses.length + 1 → p.2.2 = pickV ws s.treaty s.losses.length)) (fun p => s.losses.length + 1 - p.1) (0, [], 0) [] ?_ ⟨by omega, by simp [pickL], fun h => by simp at h⟩ ?_
  · (repeat' (first | (intro rx hrx; have hq := hsub1 hrx (by omega); subst hq; clear hrx) | (intro rx hrx; have hq := hsub2 hrx (by omega); subst hq; clear hrx) | (intro ex hex; have hq := hg1 (by omega) hex; subst hq; clear hex) | (intro ex hex; have hq := hg2 (by omega) hex; subst hq; clear hex) | (refine Ev.go ?_; conv => whnf) | refine And.intro ?_ ?_ | exact True.intro | exact rfl | (intro rx hrx; rw [IntWalk.i64_in _ (by omega)] at hrx) | (intro hcx; exfalso; omega) | intro _))
    all_goals (first | (refine ⟨?_⟩; first | rfl | exact List.cons_ne_nil _ _ | (show (_ : Nat) * _ ≤ _; simp [catS, repl, chunks, lz] <;> omega) | exact shS _ _ | exact shM _ | exact shN | exact encM_clo _ | exact ⟨rfl, rfl⟩ | exact ⟨rfl, rfl, rfl⟩ | omega | (simp only [lz]; omega) | (simp; omega) | (simp [cloL, clo, catS, repl, cz, encR, encY, encS]; done) | (show chkGo _ _ _ _ _ = true; kernel_rfl)) | (simp [cloL, clo, catS, repl, cz, encR, encY, encS]; done) | skip)
  · rintro ⟨k, l, tr⟩ ⟨hk, hl, htr⟩
    dsimp only at hk hl htr ⊢
    have hwb := wordA_bd hw k
    have hlen : l.length = min k s.losses.length := by rw [hl, pickL_len]
    have hsub1 : ∀ {x m : Int}, x = m.tmod ((ws.map (SV.int .u8)).length : Int) → m = k → x = ((k % ws.length : Nat) : Int) := fun h e => wmod hwm h e
    have hg2 : ∀ {n : Nat} {e : SV}, n = k % ws.length → (ws.map (SV.int .u8))[n]? = some e → e = .int .u8 (wordA ws k) := by
      rintro n e rfl he
      rw [List.getElem?_map, Option.map_eq_some_iff] at he
      obtain ⟨x, hx, rfl⟩ := he
      simp [wordA, List.getD_eq_getElem?_getD, hx]
    have hnw : ws.length = 0 → wordA ws k = 0 := fun h => by rw [List.length_eq_zero_iff.1 h]; rfl
    have hmw : 0 < ws.length → k % ws.length < ws.length := fun h => Nat.mod_lt _ h
    have hpick : ∀ r : Rng, pickV ws r k = r.lo + wordA ws k % (r.hi - r.lo + 1) := fun r => rfl
    generalize k % ws.length = kw at *
    generalize hW : wordA ws k = W at *
    rcases Nat.lt_trichotomy k s.losses.length with hkl | hkl | hkl
    · obtain ⟨y, hy⟩ : ∃ y, s.losses[k]? = some y := ⟨_, List.getElem?_eq_getElem hkl⟩
      have hyb := hr y (List.mem_of_getElem? hy)
      have hlk : l.length = k := by omega
      have hps := pickL_succ (ws := ws) hy
      have hpy := hpick y
      have hpb := pickV_in (ws := ws) (k := k) hyb.2.1
      rw [show min k s.losses.length = k by omega] at hl
      have hsub2 : ∀ {x m z : Int}, x = m.tmod z → m = W ∧ z = y.hi - y.lo + 1 → x = W % (y.hi - y.lo + 1) := fun h e => by rw [h, e.1, e.2, Int.tmod_eq_emod_of_nonneg (by omega)]
      have hg1 : ∀ {n : Nat} {e : SV}, n = k → (encRs s.losses)[n]? = some e → e = encR y := by
        rintro n e rfl he
        obtain ⟨x, hx, rfl⟩ := encRs_at he
        rw [hy] at hx; cases hx; rfl
      generalize W % (y.hi - y.lo + 1) = M at *
      rcases Nat.eq_zero_or_pos ws.length with hw0 | hw0
      all_goals
        (try (have hW0 : W = 0 := hnw hw0; subst hW0))
        cases l with
        | nil => ?_
        | cons a l => ?_
      all_goals
        (try simp only [List.length_cons, List.length_nil] at hlk)
        (repeat' (first | (intro rx hrx; have hq := hsub1 hrx (by omega); subst hq; clear hrx) | (intro rx hrx; have hq := hsub2 hrx (by omega); subst hq; clear hrx) | (intro ex hex; have hq := hg1 (by omega) hex; subst hq; clear hex) | (intro ex hex; have hq := hg2 (by omega) hex; subst hq; clear hex) | (refine Ev.go ?_; conv => whnf) | refine And.intro ?_ ?_ | exact True.intro | exact rfl | (intro rx hrx; rw [IntWalk.i64_in _ (by omega)] at hrx) | (intro hcx; exfalso; omega) | intro _))
        all_goals (first | (refine ⟨?_⟩; show chkGo _ _ _ _ _ = true; kernel_rfl) | (refine ⟨?_⟩; first | rfl | exact List.cons_ne_nil _ _ | (show (_ : Nat) * _ ≤ _; simp [catS, repl, chunks, lz] <;> omega) | exact shS _ _ | exact shM _ | exact shN | exact encM_clo _ | exact ⟨rfl, rfl⟩ | exact ⟨rfl, rfl, rfl⟩ | omega | (simp only [lz]; omega) | (simp; omega) | (simp [cloL, clo, catS, repl, cz, encR, encY, encS]; done) | (show chkGo _ _ _ _ _ = true; kernel_rfl)) | (simp [cloL, clo, catS, repl, cz, encR, encY, encS]; done) | skip)
        all_goals (try (refine ⟨?_⟩; show (_ : Nat) * _ ≤ _; simp [catS, repl, ints_len]; omega))
        rename_i v hv _
        obtain rfl : v = pickV ws y k := by omega
        refine ⟨⟨[(3, 6)], (k + 1, _ ++ [pickV ws y k], tr), ⟨by omega, by dsimp only; rw [show min (k + 1) s.losses.length = k + 1 by omega, hps, ← hl], fun h => by omega⟩, by dsimp only; omega, ?_⟩⟩
        (repeat' (first | (intro rx hrx; have hq := hsub1 hrx (by omega); subst hq; clear hrx) | (intro rx hrx; have hq := hsub2 hrx (by omega); subst hq; clear hrx) | (intro ex hex; have hq := hg1 (by omega) hex; subst hq; clear hex) | (intro ex hex; have hq := hg2 (by omega) hex; subst hq; clear hex) | (refine Ev.go ?_; conv => whnf) | refine And.intro ?_ ?_ | exact True.intro | exact rfl | (intro rx hrx; rw [IntWalk.i64_in _ (by omega)] at hrx) | (intro hcx; exfalso; omega) | intro _))
        all_goals (first | (refine ⟨?_⟩; first | rfl | exact List.cons_ne_nil _ _ | (show (_ : Nat) * _ ≤ _; simp [catS, repl, chunks, lz] <;> omega) | exact shS _ _ | exact shM _ | exact shN | exact encM_clo _ | exact ⟨rfl, rfl⟩ | exact ⟨rfl, rfl, rfl⟩ | omega | (simp only [lz]; omega) | (simp; omega) | (simp [cloL, clo, catS, repl, cz, encR, encY, encS]; done) | (show chkGo _ _ _ _ _ = true; kernel_rfl)) | (simp [cloL, clo, catS, repl, cz, encR, encY, encS]; done) | skip)
        all_goals (try (refine ⟨?_⟩; simp [ints, catS, repl]; done))
    · have hpy := hpick s.treaty
      have hpb := pickV_in (ws := ws) (k := k) ht.2.1
      have hsub2 : ∀ {x m z : Int}, x = m.tmod z → m = W ∧ z = s.treaty.hi - s.treaty.lo + 1 → x = W % (s.treaty.hi - s.treaty.lo + 1) := fun h e => by rw [h, e.1, e.2, Int.tmod_eq_emod_of_nonneg (by omega)]
      generalize W % (s.treaty.hi - s.treaty.lo + 1) = M at *
      rcases Nat.eq_zero_or_pos ws.length with hw0 | hw0
      all_goals
        (try (have hW0 : W = 0 := hnw hw0; subst hW0))
        cases l with
        | nil => ?_
        | cons a l => ?_
      all_goals
        (repeat' (first | (intro rx hrx; have hq := hsub1 hrx (by omega); subst hq; clear hrx) | (intro rx hrx; have hq := hsub2 hrx (by omega); subst hq; clear hrx) | (intro ex hex; have hq := hg1 (by omega) hex; subst hq; clear hex) | (intro ex hex; have hq := hg2 (by omega) hex; subst hq; clear hex) | (refine Ev.go ?_; conv => whnf) | refine And.intro ?_ ?_ | exact True.intro | exact rfl | (intro rx hrx; rw [IntWalk.i64_in _ (by omega)] at hrx) | (intro hcx; exfalso; omega) | intro _))
        all_goals (first | (refine ⟨?_⟩; show chkGo _ _ _ _ _ = true; kernel_rfl) | (refine ⟨?_⟩; first | rfl | exact List.cons_ne_nil _ _ | (show (_ : Nat) * _ ≤ _; simp [catS, repl, chunks, lz] <;> omega) | exact shS _ _ | exact shM _ | exact shN | exact encM_clo _ | exact ⟨rfl, rfl⟩ | exact ⟨rfl, rfl, rfl⟩ | omega | (simp only [lz]; omega) | (simp; omega) | (simp [cloL, clo, catS, repl, cz, encR, encY, encS]; done) | (show chkGo _ _ _ _ _ = true; kernel_rfl)) | (simp [cloL, clo, catS, repl, cz, encR, encY, encS]; done) | skip)
        rename_i v hv _
        have hl' := hl.trans (congrArg (pickL s ws) (show min k s.losses.length = min (k + 1) s.losses.length by omega))
        have hv' : v = pickV ws s.treaty s.losses.length := by rw [← hkl]; omega
        first
          | refine ⟨⟨[], (k + 1, [], v), ⟨by omega, hl', fun _ => hv'⟩, by dsimp only; omega, ?_⟩⟩
          | refine ⟨⟨[], (k + 1, a :: l, v), ⟨by omega, hl', fun _ => hv'⟩, by dsimp only; omega, ?_⟩⟩
        (repeat' (first | (intro rx hrx; have hq := hsub1 hrx (by omega); subst hq; clear hrx) | (intro rx hrx; have hq := hsub2 hrx (by omega); subst hq; clear hrx) | (intro ex hex; have hq := hg1 (by omega) hex; subst hq; clear hex) | (intro ex hex; have hq := hg2 (by omega) hex; subst hq; clear hex) | (refine Ev.go ?_; conv => whnf) | refine And.intro ?_ ?_ | exact True.intro | exact rfl | (intro rx hrx; rw [IntWalk.i64_in _ (by omega)] at hrx) | (intro hcx; exfalso; omega) | intro _))
        all_goals (first | (refine ⟨?_⟩; first | rfl | exact List.cons_ne_nil _ _ | (show (_ : Nat) * _ ≤ _; simp [catS, repl, chunks, lz] <;> omega) | exact shS _ _ | exact shM _ | exact shN | exact encM_clo _ | exact ⟨rfl, rfl⟩ | exact ⟨rfl, rfl, rfl⟩ | omega | (simp only [lz]; omega) | (simp; omega) | (simp [cloL, clo, catS, repl, cz, encR, encY, encS]; done) | (show chkGo _ _ _ _ _ = true; kernel_rfl)) | (simp [cloL, clo, catS, repl, cz, encR, encY, encS]; done) | skip)
    · have hke : k = s.losses.length + 1 := by omega
      have hT : pickT s ws = ⟨l, tr⟩ := by rw [htr hke, hl, pickT]; congr 2; omega
      rw [hT]
      cases l with
      | nil =>
        (repeat' (first | (intro rx hrx; have hq := hsub1 hrx (by omega); subst hq; clear hrx) | (intro rx hrx; have hq := hsub2 hrx (by omega); subst hq; clear hrx) | (intro ex hex; have hq := hg1 (by omega) hex; subst hq; clear hex) | (intro ex hex; have hq := hg2 (by omega) hex; subst hq; clear hex) | (refine Ev.go ?_; conv => whnf) | refine And.intro ?_ ?_ | exact True.intro | exact rfl | (intro rx hrx; rw [IntWalk.i64_in _ (by omega)] at hrx) | (intro hcx; exfalso; omega) | intro _))
        all_goals (first | (refine ⟨?_⟩; first | rfl | exact List.cons_ne_nil _ _ | (show (_ : Nat) * _ ≤ _; simp [catS, repl, chunks, lz] <;> omega) | exact shS _ _ | exact shM _ | exact shN | exact encM_clo _ | exact ⟨rfl, rfl⟩ | exact ⟨rfl, rfl, rfl⟩ | omega | (simp only [lz]; omega) | (simp; omega) | (simp [cloL, clo, catS, repl, cz, encR, encY, encS]; done) | (show chkGo _ _ _ _ _ = true; kernel_rfl)) | (simp [cloL, clo, catS, repl, cz, encR, encY, encS]; done) | skip)
        exact ⟨_, rfl, .inr ⟨rfl, rfl⟩⟩
      | cons a l =>
        (repeat' (first | (intro rx hrx; have hq := hsub1 hrx (by omega); subst hq; clear hrx) | (intro rx hrx; have hq := hsub2 hrx (by omega); subst hq; clear hrx) | (intro ex hex; have hq := hg1 (by omega) hex; subst hq; clear hex) | (intro ex hex; have hq := hg2 (by omega) hex; subst hq; clear hex) | (refine Ev.go ?_; conv => whnf) | refine And.intro ?_ ?_ | exact True.intro | exact rfl | (intro rx hrx; rw [IntWalk.i64_in _ (by omega)] at hrx) | (intro hcx; exfalso; omega) | intro _))
        all_goals (first | (refine ⟨?_⟩; first | rfl | exact List.cons_ne_nil _ _ | (show (_ : Nat) * _ ≤ _; simp [catS, repl, chunks, lz] <;> omega) | exact shS _ _ | exact shM _ | exact shN | exact encM_clo _ | exact ⟨rfl, rfl⟩ | exact ⟨rfl, rfl, rfl⟩ | omega | (simp only [lz]; omega) | (simp; omega) | (simp [cloL, clo, catS, repl, cz, encR, encY, encS]; done) | (show chkGo _ _ _ _ _ = true; kernel_rfl)) | (simp [cloL, clo, catS, repl, cz, encR, encY, encS]; done) | skip)
        exact ⟨_, rfl, .inl rfl⟩
end Go.Proofs.Ythnaamkempmjkaa
