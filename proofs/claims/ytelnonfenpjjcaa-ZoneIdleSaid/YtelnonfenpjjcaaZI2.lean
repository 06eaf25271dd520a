/- The document's classes in a truth; whether the last one is some class. -/
import Derived.Test.YtelnonfenpjjcaaZH2
set_option linter.unusedSimpArgs false
set_option linter.unusedVariables false
open Go Go.TV
namespace Go.Proofs.Ytelnonfenpjjcaa

theorem c44 (t : Truth) (h1 : t.losses.length ≤ 1000000) (h2 : t.premiums.length ≤ 1000000) : PF Try.prog 44 [encT t] (· = encT t) := by
  refine PF.of (TF.ev fn_44 (Ev.at ?_))
  (repeat' (first | (refine Ev.go ?_; conv => whnf) | refine And.intro ?_ ?_ | exact True.intro | exact rfl | (intro rx hrx; rw [IntWalk.i64_in _ (by omega)] at hrx) | (intro hcx; exfalso; omega) | (intro hcx; exfalso; simp only [ints_len, encYs_len] at hcx; omega) | (intro ex hex; (first | obtain ⟨xx, hxx, rfl⟩ := ints_at hex | obtain ⟨xx, hxx, rfl⟩ := encYs_at hex | obtain ⟨xx, hxx, rfl⟩ := encYs_cut hex); clear hex; try simp only [Int.toNat_natCast] at hxx) | intro _))
  refine TDq.pureC (c42 t.losses h1) (by simp [cloL, clo, encR, encY, encRule, encZ, encS, ints_clo, encYs_clo]) rfl (And.intro rfl rfl) ?_
  (repeat' (first | (refine Ev.go ?_; conv => whnf) | refine And.intro ?_ ?_ | exact True.intro | exact rfl | (intro rx hrx; rw [IntWalk.i64_in _ (by omega)] at hrx) | (intro hcx; exfalso; omega) | (intro hcx; exfalso; simp only [ints_len, encYs_len] at hcx; omega) | (intro ex hex; (first | obtain ⟨xx, hxx, rfl⟩ := ints_at hex | obtain ⟨xx, hxx, rfl⟩ := encYs_at hex | obtain ⟨xx, hxx, rfl⟩ := encYs_cut hex); clear hex; try simp only [Int.toNat_natCast] at hxx) | intro _))
  refine TDq.pureC (c42 t.premiums h2) (by simp [cloL, clo, encR, encY, encRule, encZ, encS, ints_clo, encYs_clo]) rfl (And.intro rfl rfl) ?_
  (repeat' (first | (refine Ev.go ?_; conv => whnf) | refine And.intro ?_ ?_ | exact True.intro | exact rfl | (intro rx hrx; rw [IntWalk.i64_in _ (by omega)] at hrx) | (intro hcx; exfalso; omega) | (intro hcx; exfalso; simp only [ints_len, encYs_len] at hcx; omega) | (intro ex hex; (first | obtain ⟨xx, hxx, rfl⟩ := ints_at hex | obtain ⟨xx, hxx, rfl⟩ := encYs_at hex | obtain ⟨xx, hxx, rfl⟩ := encYs_cut hex); clear hex; try simp only [Int.toNat_natCast] at hxx) | intro _))
  all_goals (first | (refine ⟨?_⟩; first | rfl | exact List.cons_ne_nil _ _ | (show (_ : Nat) * _ ≤ _; simp [catS, repl, chunks, ints_len, encYs_len] <;> omega) | exact shS _ _ | exact shM _ | exact shN | exact encM_clo _ | exact ⟨rfl, rfl⟩ | exact ⟨rfl, rfl, rfl⟩ | omega | (simp only [ints_len, encYs_len]; omega) | (simp; omega) | (simp [cloL, clo, catS, repl, ints_clo, encYs_clo, encR, encY, encS]; done) | (show chkGo _ _ _ _ _ = true; kernel_rfl)) | (simp [cloL, clo, catS, repl, ints_clo, encYs_clo, encR, encY, encS]; done) | skip)
  try rfl

/-- Whether the last class is some class. -/
def proveR (r : Rule) (z : Zone) (t : Truth) (c : Int) : Bool := decide ((playR r z t).2 = 0) && decide ((spotT r z.first z.years t z.years.length).class_ = c)
theorem playT_last {r : Rule} {z : Zone} {t : Truth} {n : Nat} {x : Int} (h : (ints (z.first :: playT r z t n))[n]? = some (.int .i64 x)) : x = (spotT r z.first z.years t n).class_ := by
  obtain ⟨y, hy, e⟩ := ints_at h
  cases e
  cases n with
  | zero => simp at hy; rw [← hy]; rfl
  | succ n =>
    simp only [List.getElem?_cons_succ, playT, List.getElem?_map, List.getElem?_range (Nat.lt_succ_self n)] at hy
    cases hy; rfl

set_option maxHeartbeats 4000000 in
set_option maxRecDepth 100000 in
theorem c46 (r : Rule) (z : Zone) (t : Truth) (c : Int) (h1 : r.price.length ≤ 1000000) (h2 : z.years.length ≤ 1000000) (h3 : t.losses.length ≤ 1000000) (h4 : t.premiums.length ≤ 1000000) :
    PF Try.prog 46 [encRule r, encZ z, encT t, .int .i64 c] (· = .bool (proveR r z t c)) := by
  have d := c43 r z t h1 h2 h3 h4
  refine PF.of (TF.ev fn_46 (Ev.at ?_))
  by_cases he : (playR r z t).2 = 0
  · have hp : playR r z t = (playT r z t z.years.length, 0) := by
      unfold playR at he ⊢
      split at he
      · rename_i hf; exact absurd he hf
      · rename_i hf
        rw [if_neg hf]
        split at he
        · rename_i ht; rw [if_pos ht]
        · simp at he
    have hpr : proveR r z t c = decide ((spotT r z.first z.years t z.years.length).class_ = c) := by unfold proveR; rw [decide_eq_true he]; simp
    rw [hpr]
    rw [hp] at d
    dsimp only at d
    have hlen := playT_len r z t z.years.length
    have hll := ints_len (playT r z t z.years.length)
    have hle : z.years.length ≤ 1000000 := h2
    have hlast : ∀ x, (ints (z.first :: playT r z t z.years.length))[z.years.length]? = some (.int .i64 x) → x = (spotT r z.first z.years t z.years.length).class_ := fun x h => playT_last h
    generalize playT r z t z.years.length = L at *
    generalize (spotT r z.first z.years t z.years.length).class_ = last at *
    have hLe : (SV.int .i64 z.first :: catS [] (repl 0 [SV.int .i64 0]) ++ ints L) = ints (z.first :: L) := by simp [catS, repl, ints]
    have hLc : (SV.int .i64 z.first :: catS [] (repl 0 [SV.int .i64 0]) ++ ints L).length = L.length + 1 := by rw [hLe, ints_len]; rfl
    have hgetY : ∀ {n : Nat} {e : SV}, n = z.years.length → (SV.int .i64 z.first :: catS [] (repl 0 [SV.int .i64 0]) ++ ints L)[n]? = some e → e = .int .i64 last := by
      rintro n e rfl he
      rw [hLe] at he
      obtain ⟨x, hx, rfl⟩ := ints_at he
      have := hlast x (by rw [← he])
      rw [this]
    have hor : ∀ {x : Int}, x = IntKind.i64.wrap (((SV.int .i64 z.first :: catS [] (repl 0 [SV.int .i64 0]) ++ ints L).length : Int) - 1) → (0 : Nat) ≤ 0 → x = (z.years.length : Int) := by
      rintro x rfl _
      rw [hLc, IntWalk.i64_in _ (by omega)]; omega
    (repeat' (first | (refine Ev.go ?_; conv => whnf) | refine And.intro ?_ ?_ | exact True.intro | exact rfl | (intro rx hrx; rw [IntWalk.i64_in _ (by omega)] at hrx) | (intro hcx; exfalso; omega) | (intro hcx; exfalso; simp only [ints_len, encYs_len] at hcx; omega) | (intro ex hex; (first | obtain ⟨xx, hxx, rfl⟩ := ints_at hex | obtain ⟨xx, hxx, rfl⟩ := encYs_at hex | obtain ⟨xx, hxx, rfl⟩ := encYs_cut hex); clear hex; try simp only [Int.toNat_natCast] at hxx) | intro _))
    refine TSq.pureC d (by simp [cloL, clo, encR, encY, encRule, encT, encZ, encS, ints_clo, encYs_clo]) rfl (And.intro rfl rfl) ?_
    (repeat' (first | (intro ex hex; have hq := hgetY (by omega) hex; subst hq; clear hex) | (intro ex hex; have hq := hgetS (by omega) hex; obtain ⟨W, rfl, hW⟩ := hq; clear hex) | (intro rx hrx; have hq := hor hrx (by omega); subst hq; clear hrx) | (intro rx hrx; have hq := hwrp hrx (by omega); subst hq; clear hrx) | (intro rx hrx; have hq := hshr hrx (by omega); subst hq; clear hrx) | (refine Ev.go ?_; conv => whnf) | refine And.intro ?_ ?_ | exact True.intro | exact rfl | (intro rx hrx; rw [IntWalk.i64_in _ (by omega)] at hrx) | (intro hcx; exfalso; omega) | (intro hcx; exfalso; simp only [ints_len, encYs_len] at hcx; omega) | (intro ex hex; (first | obtain ⟨xx, hxx, rfl⟩ := ints_at hex | obtain ⟨xx, hxx, rfl⟩ := encYs_at hex | obtain ⟨xx, hxx, rfl⟩ := encYs_cut hex); clear hex; try simp only [Int.toNat_natCast] at hxx) | intro _))
    all_goals (first | (refine ⟨?_⟩; first | rfl | exact List.cons_ne_nil _ _ | (show (_ : Nat) * _ ≤ _; simp [catS, repl, chunks, ints_len, encYs_len] <;> omega) | exact shS _ _ | exact shM _ | exact shN | exact encM_clo _ | exact ⟨rfl, rfl⟩ | exact ⟨rfl, rfl, rfl⟩ | omega | (simp only [ints_len, encYs_len]; omega) | (simp; omega) | (simp [cloL, clo, catS, repl, ints_clo, encYs_clo, encR, encY, encS]; done) | (show chkGo _ _ _ _ _ = true; kernel_rfl)) | (simp [cloL, clo, catS, repl, ints_clo, encYs_clo, encR, encY, encS]; done) | skip)
    all_goals (try (refine ⟨?_⟩; simp [catS, repl, ints_len]; omega))
    all_goals (try (rw [SV.bool_iff]; simp; try omega))
  · have hpr : proveR r z t c = false := by unfold proveR; rw [decide_eq_false he]; simp
    have hp : playR r z t = ([], (playR r z t).2) := by
      unfold playR at he ⊢
      split
      · rfl
      · rename_i hf
        rw [if_neg hf] at he
        split
        · rename_i ht; rw [if_pos ht] at he; simp at he
        · rfl
    rw [hpr]
    rw [hp] at d
    generalize (playR r z t).2 = E at *
    dsimp only at d
    (repeat' (first | (refine Ev.go ?_; conv => whnf) | refine And.intro ?_ ?_ | exact True.intro | exact rfl | (intro rx hrx; rw [IntWalk.i64_in _ (by omega)] at hrx) | (intro hcx; exfalso; omega) | (intro hcx; exfalso; simp only [ints_len, encYs_len] at hcx; omega) | (intro ex hex; (first | obtain ⟨xx, hxx, rfl⟩ := ints_at hex | obtain ⟨xx, hxx, rfl⟩ := encYs_at hex | obtain ⟨xx, hxx, rfl⟩ := encYs_cut hex); clear hex; try simp only [Int.toNat_natCast] at hxx) | intro _))
    refine TSq.pureC d (by simp [cloL, clo, encR, encY, encRule, encT, encZ, encS, ints_clo, encYs_clo]) rfl (And.intro rfl rfl) ?_
    (repeat' (first | (refine Ev.go ?_; conv => whnf) | refine And.intro ?_ ?_ | exact True.intro | exact rfl | (intro rx hrx; rw [IntWalk.i64_in _ (by omega)] at hrx) | (intro hcx; exfalso; omega) | (intro hcx; exfalso; simp only [ints_len, encYs_len] at hcx; omega) | (intro ex hex; (first | obtain ⟨xx, hxx, rfl⟩ := ints_at hex | obtain ⟨xx, hxx, rfl⟩ := encYs_at hex | obtain ⟨xx, hxx, rfl⟩ := encYs_cut hex); clear hex; try simp only [Int.toNat_natCast] at hxx) | intro _))
    all_goals (first | (refine ⟨?_⟩; first | rfl | exact List.cons_ne_nil _ _ | (show (_ : Nat) * _ ≤ _; simp [catS, repl, chunks, ints_len, encYs_len] <;> omega) | exact shS _ _ | exact shM _ | exact shN | exact encM_clo _ | exact ⟨rfl, rfl⟩ | exact ⟨rfl, rfl, rfl⟩ | omega | (simp only [ints_len, encYs_len]; omega) | (simp; omega) | (simp [cloL, clo, catS, repl, ints_clo, encYs_clo, encR, encY, encS]; done) | (show chkGo _ _ _ _ _ = true; kernel_rfl)) | (simp [cloL, clo, catS, repl, ints_clo, encYs_clo, encR, encY, encS]; done) | skip)
    all_goals (try (exfalso; omega))
    all_goals (try rfl)

/-- The kinds in a truth, in the document's words. -/
def kindsT (r : Rule) (z : Zone) (t : Truth) (n : Nat) : List Int := (List.range n).map fun i => match z.years[i]? with
  | some y => rkind r y (t.losses.getD i 0) (t.premiums.getD i 0)
  | none => 0
theorem kindsT_succ {r : Rule} {z : Zone} {t : Truth} {n : Nat} {y : Year} (h : z.years[n]? = some y) : kindsT r z t (n + 1) = kindsT r z t n ++ [rkind r y (t.losses.getD n 0) (t.premiums.getD n 0)] := by
  simp [kindsT, List.range_succ, h]
theorem kindsT_len (r : Rule) (z : Zone) (t : Truth) (n : Nat) : (kindsT r z t n).length = n := by simp [kindsT]
theorem kindsT_at {r : Rule} {z : Zone} {t : Truth} {m n : Nat} {y : Year} (h : z.years[n]? = some y) (hn : n < m) : (kindsT r z t m)[n]? = some (rkind r y (t.losses.getD n 0) (t.premiums.getD n 0)) := by
  simp [kindsT, List.getElem?_map, List.getElem?_range hn, h]
theorem spotC_spotT {r : Rule} {z : Zone} {t : Truth} (h0 : fault r z = 0) (ht : isTruth z t = true) : ∀ n, n ≤ z.years.length → spotC r z.first (kindsT r z t z.years.length) n = spotT r z.first z.years t n
  | 0, _ => by simp [spotC, spotT, nowC, sinceL]
  | n + 1, hn => by
    have hy : z.years[n]? = some z.years[n] := List.getElem?_eq_getElem (by omega)
    obtain ⟨a, b, ha, hb, q1, q2, q3, q4⟩ := isTruth_at ht hy
    have hyx := fault_okY h0 _ (List.mem_of_getElem? hy)
    have hk := kindsT_at (r := r) (t := t) (m := z.years.length) hy (by omega)
    rw [spotC_succ (fault_okR h0).r1 hk (rkind_lt _ _ _ _), spotT_succ hy, spotC_spotT h0 ht n (by omega)]
    simp only [List.getD_eq_getElem?_getD, hb, Option.getD_some]
    rw [rkind_kind (fault_gb h0).2 (by have := hyx.p1; omega)]
theorem play_eq {r : Rule} {z : Zone} {t : Truth} (h0 : fault r z = 0) (ht : isTruth z t = true) : classesL r z.first (kindsT r z t z.years.length) = playT r z t z.years.length := by
  unfold classesL classC playT
  rw [kindsT_len]
  apply List.map_congr_left
  intro i hi
  have := spotC_spotT h0 ht (i + 1) (by have := List.mem_range.1 hi; omega)
  rw [← this]; rfl

set_option maxHeartbeats 4000000 in
set_option maxRecDepth 100000 in
theorem c48 (z : Zone) (t : Truth) (h1 : z.years.length ≤ 1000000) (h2 : t.losses.length ≤ 1000000) (h3 : t.premiums.length ≤ 1000000) : PF Try.prog 48 [encZ z, encT t] (· = .bool (isTruth z t)) := by
  have hz := encYs_len z.years
  have hl := ints_len t.losses
  have hp := ints_len t.premiums
  refine PF.of (TF.ev fn_48 (Ev.at ?_))
  (repeat' (first | (refine Ev.go ?_; conv => whnf) | refine And.intro ?_ ?_ | exact True.intro | exact rfl | (intro rx hrx; rw [IntWalk.i64_in _ (by omega)] at hrx) | (intro hcx; exfalso; omega) | (intro hcx; exfalso; simp only [ints_len, encYs_len] at hcx; omega) | (intro ex hex; (first | obtain ⟨xx, hxx, rfl⟩ := ints_at hex | obtain ⟨xx, hxx, rfl⟩ := encYs_at hex | obtain ⟨xx, hxx, rfl⟩ := encYs_cut hex); clear hex; try simp only [Int.toNat_natCast] at hxx) | intro _))
  all_goals (try (rw [SV.bool_iff]; simp [isTruth]; omega))
  all_goals (first | (refine ⟨?_⟩; first | rfl | exact List.cons_ne_nil _ _ | (show (_ : Nat) * _ ≤ _; simp [catS, repl, chunks, ints_len, encYs_len] <;> omega) | exact shS _ _ | exact shM _ | exact shN | exact encM_clo _ | exact ⟨rfl, rfl⟩ | exact ⟨rfl, rfl, rfl⟩ | omega | (simp only [ints_len, encYs_len]; omega) | (simp; omega) | (simp [cloL, clo, catS, repl, ints_clo, encYs_clo, encR, encY, encS]; done) | (show chkGo _ _ _ _ _ = true; kernel_rfl)) | (simp [cloL, clo, catS, repl, ints_clo, encYs_clo, encR, encY, encS]; done) | skip)
  refine TWq.loop (fun k : Nat => [(5, .int .i64 k), (6, .junk)]) (fun _ => []) (fun k => k ≤ z.years.length ∧ ∀ i, i < k → (match z.years[i]? with
    | some y => y.l.has (t.losses.getD i 0) && y.p.has (t.premiums.getD i 0)
    | none => true) = true) (fun k => z.years.length - k) 0 [] [] ?_ ⟨by omega, fun i hi => by omega⟩ ?_
  · (repeat' (first | (refine Ev.go ?_; conv => whnf) | refine And.intro ?_ ?_ | exact True.intro | exact rfl | (intro rx hrx; rw [IntWalk.i64_in _ (by omega)] at hrx) | (intro hcx; exfalso; omega) | (intro hcx; exfalso; simp only [ints_len, encYs_len] at hcx; omega) | (intro ex hex; (first | obtain ⟨xx, hxx, rfl⟩ := ints_at hex | obtain ⟨xx, hxx, rfl⟩ := encYs_at hex | obtain ⟨xx, hxx, rfl⟩ := encYs_cut hex); clear hex; try simp only [Int.toNat_natCast] at hxx) | intro _))
    all_goals (first | (refine ⟨?_⟩; first | rfl | exact List.cons_ne_nil _ _ | (show (_ : Nat) * _ ≤ _; simp [catS, repl, chunks, ints_len, encYs_len] <;> omega) | exact shS _ _ | exact shM _ | exact shN | exact encM_clo _ | exact ⟨rfl, rfl⟩ | exact ⟨rfl, rfl, rfl⟩ | omega | (simp only [ints_len, encYs_len]; omega) | (simp; omega) | (simp [cloL, clo, catS, repl, ints_clo, encYs_clo, encR, encY, encS]; done) | (show chkGo _ _ _ _ _ = true; kernel_rfl)) | (simp [cloL, clo, catS, repl, ints_clo, encYs_clo, encR, encY, encS]; done) | skip)
  · rintro k ⟨hk, hall⟩
    rcases Nat.lt_or_ge k z.years.length with hkl | hkl
    · obtain ⟨y, hy⟩ : ∃ y, z.years[k]? = some y := ⟨_, List.getElem?_eq_getElem hkl⟩
      obtain ⟨a, ha⟩ : ∃ a, t.losses[k]? = some a := ⟨_, List.getElem?_eq_getElem (by omega)⟩
      obtain ⟨b, hb⟩ : ∃ b, t.premiums[k]? = some b := ⟨_, List.getElem?_eq_getElem (by omega)⟩
      have hgetY : ∀ {n : Nat} {e : SV}, n = k → (encYs z.years)[n]? = some e → e = encY y := by
        rintro n e rfl he
        obtain ⟨x, hx, rfl⟩ := encYs_at he
        rw [hy] at hx; cases hx; rfl
      have hat : (match z.years[k]? with
        | some y => y.l.has (t.losses.getD k 0) && y.p.has (t.premiums.getD k 0)
        | none => true) = (y.l.has a && y.p.has b) := by
        rw [hy]; simp [List.getD_eq_getElem?_getD, ha, hb]
      have hbad : (y.l.has a && y.p.has b) = false → isTruth z t = false := by
        intro hf
        cases hi : isTruth z t with
        | false => rfl
        | true =>
          obtain ⟨l, p, q1, q2, q3, q4, q5, q6⟩ := isTruth_at hi hy
          rw [ha] at q1; rw [hb] at q2
          cases q1; cases q2
          simp [Rng.has, within] at hf
          omega
      have hgetS : ∀ {n : Nat} {e : SV}, n = k → (ints t.losses)[n]? = some e → ∃ W : Int, e = .int .i64 W ∧ W = a := by
        rintro n e rfl he
        obtain ⟨x, hx, rfl⟩ := ints_at he
        rw [ha] at hx; cases hx; exact ⟨_, rfl, rfl⟩
      (repeat' (first | (intro ex hex; have hq := hgetY (by omega) hex; subst hq; clear hex) | (intro ex hex; have hq := hgetS (by omega) hex; obtain ⟨W, rfl, hW⟩ := hq; clear hex) | (intro rx hrx; have hq := hor hrx (by omega); subst hq; clear hrx) | (intro rx hrx; have hq := hwrp hrx (by omega); subst hq; clear hrx) | (intro rx hrx; have hq := hshr hrx (by omega); subst hq; clear hrx) | (refine Ev.go ?_; conv => whnf) | refine And.intro ?_ ?_ | exact True.intro | exact rfl | (intro rx hrx; rw [IntWalk.i64_in _ (by omega)] at hrx) | (intro hcx; exfalso; omega) | (intro hcx; exfalso; simp only [ints_len, encYs_len] at hcx; omega) | (intro ex hex; (first | obtain ⟨xx, hxx, rfl⟩ := ints_at hex | obtain ⟨xx, hxx, rfl⟩ := encYs_at hex | obtain ⟨xx, hxx, rfl⟩ := encYs_cut hex); clear hex; try simp only [Int.toNat_natCast] at hxx) | intro _))
      all_goals (first | (refine ⟨?_⟩; first | rfl | exact List.cons_ne_nil _ _ | (show (_ : Nat) * _ ≤ _; simp [catS, repl, chunks, ints_len, encYs_len] <;> omega) | exact shS _ _ | exact shM _ | exact shN | exact encM_clo _ | exact ⟨rfl, rfl⟩ | exact ⟨rfl, rfl, rfl⟩ | omega | (simp only [ints_len, encYs_len]; omega) | (simp; omega) | (simp [cloL, clo, catS, repl, ints_clo, encYs_clo, encR, encY, encS]; done) | (show chkGo _ _ _ _ _ = true; kernel_rfl)) | (simp [cloL, clo, catS, repl, ints_clo, encYs_clo, encR, encY, encS]; done) | skip)
      subst hW
      refine TDq.pureBC (c34 W y.l.lo y.l.hi) (by simp [cloL, clo, encR, encY, encRule, encZ, encS, ints_clo, encYs_clo]) rfl (And.intro rfl rfl) ?_ ?_ <;> intro hb1
      · (repeat' (first | (intro ex hex; have hq := hgetY (by omega) hex; subst hq; clear hex) | (intro ex hex; have hq := hgetS (by omega) hex; obtain ⟨W, rfl, hW⟩ := hq; clear hex) | (intro rx hrx; have hq := hor hrx (by omega); subst hq; clear hrx) | (intro rx hrx; have hq := hwrp hrx (by omega); subst hq; clear hrx) | (intro rx hrx; have hq := hshr hrx (by omega); subst hq; clear hrx) | (refine Ev.go ?_; conv => whnf) | refine And.intro ?_ ?_ | exact True.intro | exact rfl | (intro rx hrx; rw [IntWalk.i64_in _ (by omega)] at hrx) | (intro hcx; exfalso; omega) | (intro hcx; exfalso; simp only [ints_len, encYs_len] at hcx; omega) | (intro ex hex; (first | obtain ⟨xx, hxx, rfl⟩ := ints_at hex | obtain ⟨xx, hxx, rfl⟩ := encYs_at hex | obtain ⟨xx, hxx, rfl⟩ := encYs_cut hex); clear hex; try simp only [Int.toNat_natCast] at hxx) | intro _))
        all_goals (first | (refine ⟨?_⟩; first | rfl | exact List.cons_ne_nil _ _ | (show (_ : Nat) * _ ≤ _; simp [catS, repl, chunks, ints_len, encYs_len] <;> omega) | exact shS _ _ | exact shM _ | exact shN | exact encM_clo _ | exact ⟨rfl, rfl⟩ | exact ⟨rfl, rfl, rfl⟩ | omega | (simp only [ints_len, encYs_len]; omega) | (simp; omega) | (simp [cloL, clo, catS, repl, ints_clo, encYs_clo, encR, encY, encS]; done) | (show chkGo _ _ _ _ _ = true; kernel_rfl)) | (simp [cloL, clo, catS, repl, ints_clo, encYs_clo, encR, encY, encS]; done) | skip)
        cases hb.symm.trans hxx
        refine TDq.pureBC (c34 b y.p.lo y.p.hi) (by simp [cloL, clo, encR, encY, encRule, encZ, encS, ints_clo, encYs_clo]) rfl (And.intro rfl rfl) ?_ ?_ <;> intro hb2
        · (repeat' (first | (intro ex hex; have hq := hgetY (by omega) hex; subst hq; clear hex) | (intro ex hex; have hq := hgetS (by omega) hex; obtain ⟨W, rfl, hW⟩ := hq; clear hex) | (intro rx hrx; have hq := hor hrx (by omega); subst hq; clear hrx) | (intro rx hrx; have hq := hwrp hrx (by omega); subst hq; clear hrx) | (intro rx hrx; have hq := hshr hrx (by omega); subst hq; clear hrx) | (refine Ev.go ?_; conv => whnf) | refine And.intro ?_ ?_ | exact True.intro | exact rfl | (intro rx hrx; rw [IntWalk.i64_in _ (by omega)] at hrx) | (intro hcx; exfalso; omega) | (intro hcx; exfalso; simp only [ints_len, encYs_len] at hcx; omega) | (intro ex hex; (first | obtain ⟨xx, hxx, rfl⟩ := ints_at hex | obtain ⟨xx, hxx, rfl⟩ := encYs_at hex | obtain ⟨xx, hxx, rfl⟩ := encYs_cut hex); clear hex; try simp only [Int.toNat_natCast] at hxx) | intro _))
          all_goals (first | (refine ⟨?_⟩; first | rfl | exact List.cons_ne_nil _ _ | (show (_ : Nat) * _ ≤ _; simp [catS, repl, chunks, ints_len, encYs_len] <;> omega) | exact shS _ _ | exact shM _ | exact shN | exact encM_clo _ | exact ⟨rfl, rfl⟩ | exact ⟨rfl, rfl, rfl⟩ | omega | (simp only [ints_len, encYs_len]; omega) | (simp; omega) | (simp [cloL, clo, catS, repl, ints_clo, encYs_clo, encR, encY, encS]; done) | (show chkGo _ _ _ _ _ = true; kernel_rfl)) | (simp [cloL, clo, catS, repl, ints_clo, encYs_clo, encR, encY, encS]; done) | skip)
          refine ⟨⟨k + 1, ⟨by omega, fun i hi => ?_⟩, by omega, ?_⟩⟩
          · by_cases e : i = k
            · subst e; rw [hat]; simp only [Rng.has, hb1, hb2]; rfl
            · exact hall i (by omega)
          · (repeat' (first | (refine Ev.go ?_; conv => whnf) | refine And.intro ?_ ?_ | exact True.intro | exact rfl | (intro rx hrx; rw [IntWalk.i64_in _ (by omega)] at hrx) | (intro hcx; exfalso; omega) | (intro hcx; exfalso; simp only [ints_len, encYs_len] at hcx; omega) | (intro ex hex; (first | obtain ⟨xx, hxx, rfl⟩ := ints_at hex | obtain ⟨xx, hxx, rfl⟩ := encYs_at hex | obtain ⟨xx, hxx, rfl⟩ := encYs_cut hex); clear hex; try simp only [Int.toNat_natCast] at hxx) | intro _))
            all_goals (first | (refine ⟨?_⟩; first | rfl | exact List.cons_ne_nil _ _ | (show (_ : Nat) * _ ≤ _; simp [catS, repl, chunks, ints_len, encYs_len] <;> omega) | exact shS _ _ | exact shM _ | exact shN | exact encM_clo _ | exact ⟨rfl, rfl⟩ | exact ⟨rfl, rfl, rfl⟩ | omega | (simp only [ints_len, encYs_len]; omega) | (simp; omega) | (simp [cloL, clo, catS, repl, ints_clo, encYs_clo, encR, encY, encS]; done) | (show chkGo _ _ _ _ _ = true; kernel_rfl)) | (simp [cloL, clo, catS, repl, ints_clo, encYs_clo, encR, encY, encS]; done) | skip)
        · (repeat' (first | (intro ex hex; have hq := hgetY (by omega) hex; subst hq; clear hex) | (intro ex hex; have hq := hgetS (by omega) hex; obtain ⟨W, rfl, hW⟩ := hq; clear hex) | (intro rx hrx; have hq := hor hrx (by omega); subst hq; clear hrx) | (intro rx hrx; have hq := hwrp hrx (by omega); subst hq; clear hrx) | (intro rx hrx; have hq := hshr hrx (by omega); subst hq; clear hrx) | (refine Ev.go ?_; conv => whnf) | refine And.intro ?_ ?_ | exact True.intro | exact rfl | (intro rx hrx; rw [IntWalk.i64_in _ (by omega)] at hrx) | (intro hcx; exfalso; omega) | (intro hcx; exfalso; simp only [ints_len, encYs_len] at hcx; omega) | (intro ex hex; (first | obtain ⟨xx, hxx, rfl⟩ := ints_at hex | obtain ⟨xx, hxx, rfl⟩ := encYs_at hex | obtain ⟨xx, hxx, rfl⟩ := encYs_cut hex); clear hex; try simp only [Int.toNat_natCast] at hxx) | intro _))
          all_goals (first | (refine ⟨?_⟩; first | rfl | exact List.cons_ne_nil _ _ | (show (_ : Nat) * _ ≤ _; simp [catS, repl, chunks, ints_len, encYs_len] <;> omega) | exact shS _ _ | exact shM _ | exact shN | exact encM_clo _ | exact ⟨rfl, rfl⟩ | exact ⟨rfl, rfl, rfl⟩ | omega | (simp only [ints_len, encYs_len]; omega) | (simp; omega) | (simp [cloL, clo, catS, repl, ints_clo, encYs_clo, encR, encY, encS]; done) | (show chkGo _ _ _ _ _ = true; kernel_rfl)) | (simp [cloL, clo, catS, repl, ints_clo, encYs_clo, encR, encY, encS]; done) | skip)
          rw [hbad (by simp only [Rng.has, hb1, hb2]; rfl)]
      · (repeat' (first | (intro ex hex; have hq := hgetY (by omega) hex; subst hq; clear hex) | (intro ex hex; have hq := hgetS (by omega) hex; obtain ⟨W, rfl, hW⟩ := hq; clear hex) | (intro rx hrx; have hq := hor hrx (by omega); subst hq; clear hrx) | (intro rx hrx; have hq := hwrp hrx (by omega); subst hq; clear hrx) | (intro rx hrx; have hq := hshr hrx (by omega); subst hq; clear hrx) | (refine Ev.go ?_; conv => whnf) | refine And.intro ?_ ?_ | exact True.intro | exact rfl | (intro rx hrx; rw [IntWalk.i64_in _ (by omega)] at hrx) | (intro hcx; exfalso; omega) | (intro hcx; exfalso; simp only [ints_len, encYs_len] at hcx; omega) | (intro ex hex; (first | obtain ⟨xx, hxx, rfl⟩ := ints_at hex | obtain ⟨xx, hxx, rfl⟩ := encYs_at hex | obtain ⟨xx, hxx, rfl⟩ := encYs_cut hex); clear hex; try simp only [Int.toNat_natCast] at hxx) | intro _))
        all_goals (first | (refine ⟨?_⟩; first | rfl | exact List.cons_ne_nil _ _ | (show (_ : Nat) * _ ≤ _; simp [catS, repl, chunks, ints_len, encYs_len] <;> omega) | exact shS _ _ | exact shM _ | exact shN | exact encM_clo _ | exact ⟨rfl, rfl⟩ | exact ⟨rfl, rfl, rfl⟩ | omega | (simp only [ints_len, encYs_len]; omega) | (simp; omega) | (simp [cloL, clo, catS, repl, ints_clo, encYs_clo, encR, encY, encS]; done) | (show chkGo _ _ _ _ _ = true; kernel_rfl)) | (simp [cloL, clo, catS, repl, ints_clo, encYs_clo, encR, encY, encS]; done) | skip)
        rw [hbad (by simp only [Rng.has, hb1]; rfl)]
    · have hke : k = z.years.length := by omega
      subst hke
      (repeat' (first | (refine Ev.go ?_; conv => whnf) | refine And.intro ?_ ?_ | exact True.intro | exact rfl | (intro rx hrx; rw [IntWalk.i64_in _ (by omega)] at hrx) | (intro hcx; exfalso; omega) | (intro hcx; exfalso; simp only [ints_len, encYs_len] at hcx; omega) | (intro ex hex; (first | obtain ⟨xx, hxx, rfl⟩ := ints_at hex | obtain ⟨xx, hxx, rfl⟩ := encYs_at hex | obtain ⟨xx, hxx, rfl⟩ := encYs_cut hex); clear hex; try simp only [Int.toNat_natCast] at hxx) | intro _))
      all_goals (first | (refine ⟨?_⟩; first | rfl | exact List.cons_ne_nil _ _ | (show (_ : Nat) * _ ≤ _; simp [catS, repl, chunks, ints_len, encYs_len] <;> omega) | exact shS _ _ | exact shM _ | exact shN | exact encM_clo _ | exact ⟨rfl, rfl⟩ | exact ⟨rfl, rfl, rfl⟩ | omega | (simp only [ints_len, encYs_len]; omega) | (simp; omega) | (simp [cloL, clo, catS, repl, ints_clo, encYs_clo, encR, encY, encS]; done) | (show chkGo _ _ _ _ _ = true; kernel_rfl)) | (simp [cloL, clo, catS, repl, ints_clo, encYs_clo, encR, encY, encS]; done) | skip)
      rw [SV.bool_iff]
      simp only [isTruth, Bool.and_eq_true, decide_eq_true_eq, List.all_eq_true, List.mem_range, true_iff]
      exact ⟨by omega, by omega, fun i hi => hall i hi⟩
end Go.Proofs.Ytelnonfenpjjcaa
