/- The classes in a truth, by the program and by the document. -/
import Derived.Test.YtelnonfenpjjcaaZy
import Derived.Test.YtelnonfenpjjcaaZfP
set_option linter.unusedSimpArgs false
set_option linter.unusedVariables false
open Go Go.TV
namespace Go.Proofs.Ytelnonfenpjjcaa

def encT (t : Truth) : SV := .agg [.sl 1 (ints t.losses), .sl 1 (ints t.premiums)]
/-- Whether a truth has one number of each range. -/
def isTruth (z : Zone) (t : Truth) : Bool := decide (t.losses.length = z.years.length) && (decide (t.premiums.length = z.years.length) &&
  (List.range z.years.length).all fun i => match z.years[i]? with
    | some y => y.l.has (t.losses.getD i 0) && y.p.has (t.premiums.getD i 0)
    | none => true)
/-- The spot after some years of a truth. -/
def spotT (r : Rule) (first : Int) (ys : List Year) (t : Truth) : Nat → Spot
  | 0 => ⟨first, r.rest⟩
  | n + 1 => match ys[n]? with
    | some y => move r (kind r y (t.losses.getD n 0) (t.premiums.getD n 0)) (spotT r first ys t n)
    | none => spotT r first ys t n
theorem spotT_succ {r : Rule} {first : Int} {ys : List Year} {t : Truth} {n : Nat} {y : Year} (h : ys[n]? = some y) : spotT r first ys t (n + 1) = move r (kind r y (t.losses.getD n 0) (t.premiums.getD n 0)) (spotT r first ys t n) := by
  simp only [spotT, h]
theorem spotT_ok {r : Rule} {first : Int} (hr : OkR r) (h1 : 0 ≤ first) (h2 : first < r.classes) (ys : List Year) (t : Truth) : ∀ n, OkS r (spotT r first ys t n)
  | 0 => ⟨h1, h2, hr.r1, Int.le_refl _⟩
  | n + 1 => by
    simp only [spotT]
    split
    · exact move_ok hr (spotT_ok hr h1 h2 ys t n) _
    · exact spotT_ok hr h1 h2 ys t n
def playT (r : Rule) (z : Zone) (t : Truth) (n : Nat) : List Int := (List.range n).map fun i => (spotT r z.first z.years t (i + 1)).class_
theorem playT_succ (r : Rule) (z : Zone) (t : Truth) (n : Nat) : playT r z t (n + 1) = playT r z t n ++ [(spotT r z.first z.years t (n + 1)).class_] := by simp [playT, List.range_succ]
theorem playT_len (r : Rule) (z : Zone) (t : Truth) (n : Nat) : (playT r z t n).length = n := by simp [playT]
/-- What Play returns. -/
def playR (r : Rule) (z : Zone) (t : Truth) : List Int × Int := if fault r z ≠ 0 then ([], fault r z) else if isTruth z t = true then (playT r z t z.years.length, 0) else ([], 2)

theorem isTruth_at {z : Zone} {t : Truth} (h : isTruth z t = true) {i : Nat} {y : Year} (hy : z.years[i]? = some y) : ∃ l p, t.losses[i]? = some l ∧ t.premiums[i]? = some p ∧ y.l.lo ≤ l ∧ l ≤ y.l.hi ∧ y.p.lo ≤ p ∧ p ≤ y.p.hi := by
  simp only [isTruth, Bool.and_eq_true, decide_eq_true_eq, List.all_eq_true, List.mem_range] at h
  obtain ⟨h1, h2, h3⟩ := h
  have hi := (List.getElem?_eq_some_iff.1 hy).1
  have h4 := h3 i hi
  rw [hy] at h4
  have e1 : t.losses[i]? = some (t.losses[i]'(by omega)) := List.getElem?_eq_getElem (by omega)
  have e2 : t.premiums[i]? = some (t.premiums[i]'(by omega)) := List.getElem?_eq_getElem (by omega)
  refine ⟨_, _, e1, e2, ?_⟩
  simp only [List.getD_eq_getElem?_getD, e1, e2, Option.getD_some, Rng.has, within, Bool.and_eq_true, decide_eq_true_eq] at h4
  omega

set_option maxHeartbeats 4000000 in
set_option maxRecDepth 100000 in
theorem c68 (z : Zone) (t : Truth) (h1 : z.years.length ≤ 1000000) (h2 : t.losses.length ≤ 1000000) (h3 : t.premiums.length ≤ 1000000) : PF Try.prog 68 [encZ z, encT t] (· = .bool (isTruth z t)) := by
  have hz := encYs_len z.years
  have hl := ints_len t.losses
  have hp := ints_len t.premiums
  refine PF.of (TF.ev fn_68 (Ev.at ?_))
  (repeat' (first | (refine Ev.go ?_; conv => whnf) | refine And.intro ?_ ?_ | exact True.intro | exact rfl | (intro rx hrx; rw [IntWalk.i64_in _ (by omega)] at hrx) | (intro hcx; exfalso; omega) | (intro hcx; exfalso; simp only [ints_len, encYs_len] at hcx; omega) | (intro ex hex; (first | obtain ⟨xx, hxx, rfl⟩ := ints_at hex | obtain ⟨xx, hxx, rfl⟩ := encYs_at hex | obtain ⟨xx, hxx, rfl⟩ := encYs_cut hex); clear hex; try simp only [Int.toNat_natCast] at hxx) | intro _))
  all_goals (try (rw [SV.bool_iff]; simp [isTruth]; omega))
  all_goals (first | (refine ⟨?_⟩; first | rfl | exact List.cons_ne_nil _ _ | (show (_ : Nat) * _ ≤ _; simp [catS, repl, chunks, ints_len, encYs_len] <;> omega) | exact shS _ _ | exact shM _ | exact shN | exact encM_clo _ | exact ⟨rfl, rfl⟩ | exact ⟨rfl, rfl, rfl⟩ | omega | (simp only [ints_len, encYs_len]; omega) | (simp; omega) | (simp [cloL, clo, catS, repl, ints_clo, encYs_clo, encR, encY, encS]; done) | (show chkGo _ _ _ _ _ = true; kernel_rfl)) | (simp [cloL, clo, catS, repl, ints_clo, encYs_clo, encR, encY, encS]; done) | skip)
  refine TWq.loop (fun k : Nat => [(26, .int .i64 k), (5, .junk), (6, .junk)]) (fun _ => []) (fun k => k ≤ z.years.length ∧ ∀ i, i < k → (match z.years[i]? with
    | some y => y.l.has (t.losses.getD i 0) && y.p.has (t.premiums.getD i 0)
    | none => true) = true) (fun k => z.years.length - k) 0 [] [] ?_ ⟨by omega, fun i hi => by omega⟩ ?_
  · (repeat' (first | (refine Ev.go ?_; conv => whnf) | refine And.intro ?_ ?_ | exact True.intro | exact rfl | (intro rx hrx; rw [IntWalk.i64_in _ (by omega)] at hrx) | (intro hcx; exfalso; omega) | (intro hcx; exfalso; simp only [ints_len, encYs_len] at hcx; omega) | (intro ex hex; (first | obtain ⟨xx, hxx, rfl⟩ := ints_at hex | obtain ⟨xx, hxx, rfl⟩ := encYs_at hex | obtain ⟨xx, hxx, rfl⟩ := encYs_cut hex); clear hex; try simp only [Int.toNat_natCast] at hxx) | intro _))
    all_goals (first | (refine ⟨?_⟩; first | rfl | exact List.cons_ne_nil _ _ | (show (_ : Nat) * _ ≤ _; simp [catS, repl, chunks, ints_len, encYs_len] <;> omega) | exact shS _ _ | exact shM _ | exact shN | exact encM_clo _ | exact ⟨rfl, rfl⟩ | exact ⟨rfl, rfl, rfl⟩ | omega | (simp only [ints_len, encYs_len]; omega) | (simp; omega) | (simp [cloL, clo, catS, repl, ints_clo, encYs_clo, encR, encY, encS]; done) | (show chkGo _ _ _ _ _ = true; kernel_rfl)) | (simp [cloL, clo, catS, repl, ints_clo, encYs_clo, encR, encY, encS]; done) | skip)
  · rintro k ⟨hk, hall⟩
    rcases Nat.lt_or_ge k z.years.length with hkl | hkl
    · obtain ⟨y, hy⟩ : ∃ y, z.years[k]? = some y := ⟨_, List.getElem?_eq_getElem hkl⟩
      obtain ⟨a, ha⟩ : ∃ a, t.losses[k]? = some a := ⟨_, List.getElem?_eq_getElem (by omega)⟩
      obtain ⟨b, hb⟩ : ∃ b, t.premiums[k]? = some b := ⟨_, List.getElem?_eq_getElem (by omega)⟩
      have hgetY : ∀ {n : Nat} {e : SV}, n = k → (encYs z.years)[n]? = some e → e = encY y := by
        rintro n e rfl he
        obtain ⟨x, hx, rfl⟩ := encYs_at he
        rw [hy] at hx; cases hx; rfl
      have hat : (match z.years[k]? with
        | some y => y.l.has (t.losses.getD k 0) && y.p.has (t.premiums.getD k 0)
        | none => true) = (y.l.has a && y.p.has b) := by
        rw [hy]; simp [List.getD_eq_getElem?_getD, ha, hb]
      have hbad : (y.l.has a && y.p.has b) = false → isTruth z t = false := by
        intro hf
        cases hi : isTruth z t with
        | false => rfl
        | true =>
          obtain ⟨l, p, q1, q2, q3, q4, q5, q6⟩ := isTruth_at hi hy
          rw [ha] at q1; rw [hb] at q2
          cases q1; cases q2
          simp [Rng.has, within] at hf
          omega
      have hgetS : ∀ {n : Nat} {e : SV}, n = k → (ints t.losses)[n]? = some e → ∃ W : Int, e = .int .i64 W ∧ W = a := by
        rintro n e rfl he
        obtain ⟨x, hx, rfl⟩ := ints_at he
        rw [ha] at hx; cases hx; exact ⟨_, rfl, rfl⟩
      (repeat' (first | (intro ex hex; have hq := hgetY (by omega) hex; subst hq; clear hex) | (intro ex hex; have hq := hgetS (by omega) hex; obtain ⟨W, rfl, hW⟩ := hq; clear hex) | (intro rx hrx; have hq := hor hrx (by omega); subst hq; clear hrx) | (intro rx hrx; have hq := hwrp hrx (by omega); subst hq; clear hrx) | (intro rx hrx; have hq := hshr hrx (by omega); subst hq; clear hrx) | (refine Ev.go ?_; conv => whnf) | refine And.intro ?_ ?_ | exact True.intro | exact rfl | (intro rx hrx; rw [IntWalk.i64_in _ (by omega)] at hrx) | (intro hcx; exfalso; omega) | (intro hcx; exfalso; simp only [ints_len, encYs_len] at hcx; omega) | (intro ex hex; (first | obtain ⟨xx, hxx, rfl⟩ := ints_at hex | obtain ⟨xx, hxx, rfl⟩ := encYs_at hex | obtain ⟨xx, hxx, rfl⟩ := encYs_cut hex); clear hex; try simp only [Int.toNat_natCast] at hxx) | intro _))
      all_goals (first | (refine ⟨?_⟩; first | rfl | exact List.cons_ne_nil _ _ | (show (_ : Nat) * _ ≤ _; simp [catS, repl, chunks, ints_len, encYs_len] <;> omega) | exact shS _ _ | exact shM _ | exact shN | exact encM_clo _ | exact ⟨rfl, rfl⟩ | exact ⟨rfl, rfl, rfl⟩ | omega | (simp only [ints_len, encYs_len]; omega) | (simp; omega) | (simp [cloL, clo, catS, repl, ints_clo, encYs_clo, encR, encY, encS]; done) | (show chkGo _ _ _ _ _ = true; kernel_rfl)) | (simp [cloL, clo, catS, repl, ints_clo, encYs_clo, encR, encY, encS]; done) | skip)
      subst hW
      refine TDq.pureBC (c81 y.l W) (by simp [cloL, clo, encR, encY, encRule, encZ, encS, ints_clo, encYs_clo]) rfl (And.intro rfl rfl) ?_ ?_ <;> intro hb1
      · (repeat' (first | (intro ex hex; have hq := hgetY (by omega) hex; subst hq; clear hex) | (intro ex hex; have hq := hgetS (by omega) hex; obtain ⟨W, rfl, hW⟩ := hq; clear hex) | (intro rx hrx; have hq := hor hrx (by omega); subst hq; clear hrx) | (intro rx hrx; have hq := hwrp hrx (by omega); subst hq; clear hrx) | (intro rx hrx; have hq := hshr hrx (by omega); subst hq; clear hrx) | (refine Ev.go ?_; conv => whnf) | refine And.intro ?_ ?_ | exact True.intro | exact rfl | (intro rx hrx; rw [IntWalk.i64_in _ (by omega)] at hrx) | (intro hcx; exfalso; omega) | (intro hcx; exfalso; simp only [ints_len, encYs_len] at hcx; omega) | (intro ex hex; (first | obtain ⟨xx, hxx, rfl⟩ := ints_at hex | obtain ⟨xx, hxx, rfl⟩ := encYs_at hex | obtain ⟨xx, hxx, rfl⟩ := encYs_cut hex); clear hex; try simp only [Int.toNat_natCast] at hxx) | intro _))
        all_goals (first | (refine ⟨?_⟩; first | rfl | exact List.cons_ne_nil _ _ | (show (_ : Nat) * _ ≤ _; simp [catS, repl, chunks, ints_len, encYs_len] <;> omega) | exact shS _ _ | exact shM _ | exact shN | exact encM_clo _ | exact ⟨rfl, rfl⟩ | exact ⟨rfl, rfl, rfl⟩ | omega | (simp only [ints_len, encYs_len]; omega) | (simp; omega) | (simp [cloL, clo, catS, repl, ints_clo, encYs_clo, encR, encY, encS]; done) | (show chkGo _ _ _ _ _ = true; kernel_rfl)) | (simp [cloL, clo, catS, repl, ints_clo, encYs_clo, encR, encY, encS]; done) | skip)
        cases hb.symm.trans hxx
        refine TDq.pureBC (c81 y.p b) (by simp [cloL, clo, encR, encY, encRule, encZ, encS, ints_clo, encYs_clo]) rfl (And.intro rfl rfl) ?_ ?_ <;> intro hb2
        · (repeat' (first | (intro ex hex; have hq := hgetY (by omega) hex; subst hq; clear hex) | (intro ex hex; have hq := hgetS (by omega) hex; obtain ⟨W, rfl, hW⟩ := hq; clear hex) | (intro rx hrx; have hq := hor hrx (by omega); subst hq; clear hrx) | (intro rx hrx; have hq := hwrp hrx (by omega); subst hq; clear hrx) | (intro rx hrx; have hq := hshr hrx (by omega); subst hq; clear hrx) | (refine Ev.go ?_; conv => whnf) | refine And.intro ?_ ?_ | exact True.intro | exact rfl | (intro rx hrx; rw [IntWalk.i64_in _ (by omega)] at hrx) | (intro hcx; exfalso; omega) | (intro hcx; exfalso; simp only [ints_len, encYs_len] at hcx; omega) | (intro ex hex; (first | obtain ⟨xx, hxx, rfl⟩ := ints_at hex | obtain ⟨xx, hxx, rfl⟩ := encYs_at hex | obtain ⟨xx, hxx, rfl⟩ := encYs_cut hex); clear hex; try simp only [Int.toNat_natCast] at hxx) | intro _))
          all_goals (first | (refine ⟨?_⟩; first | rfl | exact List.cons_ne_nil _ _ | (show (_ : Nat) * _ ≤ _; simp [catS, repl, chunks, ints_len, encYs_len] <;> omega) | exact shS _ _ | exact shM _ | exact shN | exact encM_clo _ | exact ⟨rfl, rfl⟩ | exact ⟨rfl, rfl, rfl⟩ | omega | (simp only [ints_len, encYs_len]; omega) | (simp; omega) | (simp [cloL, clo, catS, repl, ints_clo, encYs_clo, encR, encY, encS]; done) | (show chkGo _ _ _ _ _ = true; kernel_rfl)) | (simp [cloL, clo, catS, repl, ints_clo, encYs_clo, encR, encY, encS]; done) | skip)
          refine ⟨⟨k + 1, ⟨by omega, fun i hi => ?_⟩, by omega, ?_⟩⟩
          · by_cases e : i = k
            · subst e; rw [hat, hb1, hb2]; rfl
            · exact hall i (by omega)
          · (repeat' (first | (refine Ev.go ?_; conv => whnf) | refine And.intro ?_ ?_ | exact True.intro | exact rfl | (intro rx hrx; rw [IntWalk.i64_in _ (by omega)] at hrx) | (intro hcx; exfalso; omega) | (intro hcx; exfalso; simp only [ints_len, encYs_len] at hcx; omega) | (intro ex hex; (first | obtain ⟨xx, hxx, rfl⟩ := ints_at hex | obtain ⟨xx, hxx, rfl⟩ := encYs_at hex | obtain ⟨xx, hxx, rfl⟩ := encYs_cut hex); clear hex; try simp only [Int.toNat_natCast] at hxx) | intro _))
            all_goals (first | (refine ⟨?_⟩; first | rfl | exact List.cons_ne_nil _ _ | (show (_ : Nat) * _ ≤ _; simp [catS, repl, chunks, ints_len, encYs_len] <;> omega) | exact shS _ _ | exact shM _ | exact shN | exact encM_clo _ | exact ⟨rfl, rfl⟩ | exact ⟨rfl, rfl, rfl⟩ | omega | (simp only [ints_len, encYs_len]; omega) | (simp; omega) | (simp [cloL, clo, catS, repl, ints_clo, encYs_clo, encR, encY, encS]; done) | (show chkGo _ _ _ _ _ = true; kernel_rfl)) | (simp [cloL, clo, catS, repl, ints_clo, encYs_clo, encR, encY, encS]; done) | skip)
        · (repeat' (first | (intro ex hex; have hq := hgetY (by omega) hex; subst hq; clear hex) | (intro ex hex; have hq := hgetS (by omega) hex; obtain ⟨W, rfl, hW⟩ := hq; clear hex) | (intro rx hrx; have hq := hor hrx (by omega); subst hq; clear hrx) | (intro rx hrx; have hq := hwrp hrx (by omega); subst hq; clear hrx) | (intro rx hrx; have hq := hshr hrx (by omega); subst hq; clear hrx) | (refine Ev.go ?_; conv => whnf) | refine And.intro ?_ ?_ | exact True.intro | exact rfl | (intro rx hrx; rw [IntWalk.i64_in _ (by omega)] at hrx) | (intro hcx; exfalso; omega) | (intro hcx; exfalso; simp only [ints_len, encYs_len] at hcx; omega) | (intro ex hex; (first | obtain ⟨xx, hxx, rfl⟩ := ints_at hex | obtain ⟨xx, hxx, rfl⟩ := encYs_at hex | obtain ⟨xx, hxx, rfl⟩ := encYs_cut hex); clear hex; try simp only [Int.toNat_natCast] at hxx) | intro _))
          all_goals (first | (refine ⟨?_⟩; first | rfl | exact List.cons_ne_nil _ _ | (show (_ : Nat) * _ ≤ _; simp [catS, repl, chunks, ints_len, encYs_len] <;> omega) | exact shS _ _ | exact shM _ | exact shN | exact encM_clo _ | exact ⟨rfl, rfl⟩ | exact ⟨rfl, rfl, rfl⟩ | omega | (simp only [ints_len, encYs_len]; omega) | (simp; omega) | (simp [cloL, clo, catS, repl, ints_clo, encYs_clo, encR, encY, encS]; done) | (show chkGo _ _ _ _ _ = true; kernel_rfl)) | (simp [cloL, clo, catS, repl, ints_clo, encYs_clo, encR, encY, encS]; done) | skip)
          rw [hbad (by rw [hb1, hb2]; rfl)]
      · (repeat' (first | (intro ex hex; have hq := hgetY (by omega) hex; subst hq; clear hex) | (intro ex hex; have hq := hgetS (by omega) hex; obtain ⟨W, rfl, hW⟩ := hq; clear hex) | (intro rx hrx; have hq := hor hrx (by omega); subst hq; clear hrx) | (intro rx hrx; have hq := hwrp hrx (by omega); subst hq; clear hrx) | (intro rx hrx; have hq := hshr hrx (by omega); subst hq; clear hrx) | (refine Ev.go ?_; conv => whnf) | refine And.intro ?_ ?_ | exact True.intro | exact rfl | (intro rx hrx; rw [IntWalk.i64_in _ (by omega)] at hrx) | (intro hcx; exfalso; omega) | (intro hcx; exfalso; simp only [ints_len, encYs_len] at hcx; omega) | (intro ex hex; (first | obtain ⟨xx, hxx, rfl⟩ := ints_at hex | obtain ⟨xx, hxx, rfl⟩ := encYs_at hex | obtain ⟨xx, hxx, rfl⟩ := encYs_cut hex); clear hex; try simp only [Int.toNat_natCast] at hxx) | intro _))
        all_goals (first | (refine ⟨?_⟩; first | rfl | exact List.cons_ne_nil _ _ | (show (_ : Nat) * _ ≤ _; simp [catS, repl, chunks, ints_len, encYs_len] <;> omega) | exact shS _ _ | exact shM _ | exact shN | exact encM_clo _ | exact ⟨rfl, rfl⟩ | exact ⟨rfl, rfl, rfl⟩ | omega | (simp only [ints_len, encYs_len]; omega) | (simp; omega) | (simp [cloL, clo, catS, repl, ints_clo, encYs_clo, encR, encY, encS]; done) | (show chkGo _ _ _ _ _ = true; kernel_rfl)) | (simp [cloL, clo, catS, repl, ints_clo, encYs_clo, encR, encY, encS]; done) | skip)
        rw [hbad (by rw [hb1]; rfl)]
    · have hke : k = z.years.length := by omega
      subst hke
      (repeat' (first | (refine Ev.go ?_; conv => whnf) | refine And.intro ?_ ?_ | exact True.intro | exact rfl | (intro rx hrx; rw [IntWalk.i64_in _ (by omega)] at hrx) | (intro hcx; exfalso; omega) | (intro hcx; exfalso; simp only [ints_len, encYs_len] at hcx; omega) | (intro ex hex; (first | obtain ⟨xx, hxx, rfl⟩ := ints_at hex | obtain ⟨xx, hxx, rfl⟩ := encYs_at hex | obtain ⟨xx, hxx, rfl⟩ := encYs_cut hex); clear hex; try simp only [Int.toNat_natCast] at hxx) | intro _))
      all_goals (first | (refine ⟨?_⟩; first | rfl | exact List.cons_ne_nil _ _ | (show (_ : Nat) * _ ≤ _; simp [catS, repl, chunks, ints_len, encYs_len] <;> omega) | exact shS _ _ | exact shM _ | exact shN | exact encM_clo _ | exact ⟨rfl, rfl⟩ | exact ⟨rfl, rfl, rfl⟩ | omega | (simp only [ints_len, encYs_len]; omega) | (simp; omega) | (simp [cloL, clo, catS, repl, ints_clo, encYs_clo, encR, encY, encS]; done) | (show chkGo _ _ _ _ _ = true; kernel_rfl)) | (simp [cloL, clo, catS, repl, ints_clo, encYs_clo, encR, encY, encS]; done) | skip)
      rw [SV.bool_iff]
      simp only [isTruth, Bool.and_eq_true, decide_eq_true_eq, List.all_eq_true, List.mem_range, true_iff]
      exact ⟨by omega, by omega, fun i hi => hall i hi⟩

theorem SlE.of {l : List Int} {e : Int} {x : SV} (h : SlN l x) : SlE l e (.tup [x, .int .i64 e]) := ⟨x, rfl, h⟩

set_option maxHeartbeats 8000000 in
set_option maxRecDepth 100000 in
theorem c43 (r : Rule) (z : Zone) (t : Truth) (h1 : r.price.length ≤ 1000000) (h2 : z.years.length ≤ 1000000) (h3 : t.losses.length ≤ 1000000) (h4 : t.premiums.length ≤ 1000000) :
    PF Try.prog 43 [encRule r, encZ z, encT t] (· = .tup [.sl 1 (ints (playR r z t).1), .int .i64 (playR r z t).2]) := by
  have hz := encYs_len z.years
  refine SlE.pf (PF.of (TF.ev fn_43 (Ev.at ?_)))
  (repeat' (first | (refine Ev.go ?_; conv => whnf) | refine And.intro ?_ ?_ | exact True.intro | exact rfl | (intro rx hrx; rw [IntWalk.i64_in _ (by omega)] at hrx) | (intro hcx; exfalso; omega) | (intro hcx; exfalso; simp only [ints_len, encYs_len] at hcx; omega) | (intro ex hex; (first | obtain ⟨xx, hxx, rfl⟩ := ints_at hex | obtain ⟨xx, hxx, rfl⟩ := encYs_at hex | obtain ⟨xx, hxx, rfl⟩ := encYs_cut hex); clear hex; try simp only [Int.toNat_natCast] at hxx) | intro _))
  refine TSq.pureC (c47 r z h1 h2) (by simp [cloL, clo, encR, encY, encRule, encZ, encS, ints_clo, encYs_clo]) rfl (And.intro rfl rfl) ?_
  (repeat' (first | (refine Ev.go ?_; conv => whnf) | refine And.intro ?_ ?_ | exact True.intro | exact rfl | (intro rx hrx; rw [IntWalk.i64_in _ (by omega)] at hrx) | (intro hcx; exfalso; omega) | (intro hcx; exfalso; simp only [ints_len, encYs_len] at hcx; omega) | (intro ex hex; (first | obtain ⟨xx, hxx, rfl⟩ := ints_at hex | obtain ⟨xx, hxx, rfl⟩ := encYs_at hex | obtain ⟨xx, hxx, rfl⟩ := encYs_cut hex); clear hex; try simp only [Int.toNat_natCast] at hxx) | intro _))
  · rename_i hf
    have h0 := hf
    have hl6 := fault_len h0
    have hok := fault_okR h0
    have hok1 := hok.c1
    have hok2 := hok.c2
    have hok4 := hok.r2
    refine TSq.pureBC (c68 z t h2 h3 h4) (by simp [cloL, clo, encR, encY, encRule, encT, encZ, encS, ints_clo, encYs_clo]) rfl (And.intro rfl rfl) ?_ ?_ <;> intro ht
    · have hR : playR r z t = (playT r z t z.years.length, 0) := by unfold playR; rw [if_neg (by simpa using hf), if_pos ht]
      rw [hR]
      (repeat' (first | (refine Ev.go ?_; conv => whnf) | refine And.intro ?_ ?_ | exact True.intro | exact rfl | (intro rx hrx; rw [IntWalk.i64_in _ (by omega)] at hrx) | (intro hcx; exfalso; omega) | (intro hcx; exfalso; simp only [ints_len, encYs_len] at hcx; omega) | (intro ex hex; (first | obtain ⟨xx, hxx, rfl⟩ := ints_at hex | obtain ⟨xx, hxx, rfl⟩ := encYs_at hex | obtain ⟨xx, hxx, rfl⟩ := encYs_cut hex); clear hex; try simp only [Int.toNat_natCast] at hxx) | intro _))
      refine TSq.pureC (c69 r z) (by simp [cloL, clo, encR, encY, encRule, encZ, encS, ints_clo, encYs_clo]) rfl (And.intro rfl rfl) ?_
      (repeat' (first | (refine Ev.go ?_; conv => whnf) | refine And.intro ?_ ?_ | exact True.intro | exact rfl | (intro rx hrx; rw [IntWalk.i64_in _ (by omega)] at hrx) | (intro hcx; exfalso; omega) | (intro hcx; exfalso; simp only [ints_len, encYs_len] at hcx; omega) | (intro ex hex; (first | obtain ⟨xx, hxx, rfl⟩ := ints_at hex | obtain ⟨xx, hxx, rfl⟩ := encYs_at hex | obtain ⟨xx, hxx, rfl⟩ := encYs_cut hex); clear hex; try simp only [Int.toNat_natCast] at hxx) | intro _))
      all_goals (first | (refine ⟨?_⟩; first | rfl | exact List.cons_ne_nil _ _ | (show (_ : Nat) * _ ≤ _; simp [catS, repl, chunks, ints_len, encYs_len] <;> omega) | exact shS _ _ | exact shM _ | exact shN | exact encM_clo _ | exact ⟨rfl, rfl⟩ | exact ⟨rfl, rfl, rfl⟩ | omega | (simp only [ints_len, encYs_len]; omega) | (simp; omega) | (simp [cloL, clo, catS, repl, ints_clo, encYs_clo, encR, encY, encS]; done) | (show chkGo _ _ _ _ _ = true; kernel_rfl)) | (simp [cloL, clo, catS, repl, ints_clo, encYs_clo, encR, encY, encS]; done) | skip)
      refine TWq.loopP (fun p : Nat × List Int => [(29, .int .i64 p.1), (10, match p.2 with | [] => .nils | _ :: _ => .own 4), (11, .junk), (12, .junk)])
        (fun p => [(3, .cells [.int .i64 (spotT r z.first z.years t p.1).class_, .int .i64 (spotT r z.first z.years t p.1).since]), (4, match p.2 with | [] => .dead | _ :: _ => .arr 3 1 (ints p.2))])
        (fun p => p.1 ≤ z.years.length ∧ p.2 = playT r z t p.1) (fun p => z.years.length - p.1) (0, []) [] ?_ ⟨by omega, by simp [playT]⟩ ?_
      · (repeat' (first | (refine Ev.go ?_; conv => whnf) | refine And.intro ?_ ?_ | exact True.intro | exact rfl | (intro rx hrx; rw [IntWalk.i64_in _ (by omega)] at hrx) | (intro hcx; exfalso; omega) | (intro hcx; exfalso; simp only [ints_len, encYs_len] at hcx; omega) | (intro ex hex; (first | obtain ⟨xx, hxx, rfl⟩ := ints_at hex | obtain ⟨xx, hxx, rfl⟩ := encYs_at hex | obtain ⟨xx, hxx, rfl⟩ := encYs_cut hex); clear hex; try simp only [Int.toNat_natCast] at hxx) | intro _))
        all_goals (first | (refine ⟨?_⟩; first | rfl | exact List.cons_ne_nil _ _ | (show (_ : Nat) * _ ≤ _; simp [catS, repl, chunks, ints_len, encYs_len] <;> omega) | exact shS _ _ | exact shM _ | exact shN | exact encM_clo _ | exact ⟨rfl, rfl⟩ | exact ⟨rfl, rfl, rfl⟩ | omega | (simp only [ints_len, encYs_len]; omega) | (simp; omega) | (simp [cloL, clo, catS, repl, ints_clo, encYs_clo, encR, encY, encS]; done) | (show chkGo _ _ _ _ _ = true; kernel_rfl)) | (simp [cloL, clo, catS, repl, ints_clo, encYs_clo, encR, encY, encS]; done) | skip)
      · rintro ⟨k, out⟩ ⟨hk, hout⟩
        dsimp only at hk hout ⊢
        have hol : out.length ≤ k ∧ k ≤ out.length := by rw [hout, playT_len]; omega
        have hps := playT_succ r z t k
        have hS := spotT_ok hok (fault_first h0).1 (fault_first h0).2 z.years t k
        rcases Nat.lt_or_ge k z.years.length with hkl | hkl
        · obtain ⟨y, hy⟩ : ∃ y, z.years[k]? = some y := ⟨_, List.getElem?_eq_getElem hkl⟩
          have hyx := fault_okY h0 y (List.mem_of_getElem? hy)
          obtain ⟨l1, l2, l3, p1, p2, p3, g1, g2, g3, g4⟩ := hyx
          obtain ⟨a, b, ha, hb, q1, q2, q3, q4⟩ := isTruth_at ht hy
          have hgetY : ∀ {n : Nat} {e : SV}, n = k → (encYs z.years)[n]? = some e → e = encY y := by
            rintro n e rfl he
            obtain ⟨x, hx, rfl⟩ := encYs_at he
            rw [hy] at hx; cases hx; rfl
          have hgetS : ∀ {n : Nat} {e : SV}, n = k → (ints t.losses)[n]? = some e → ∃ W : Int, e = .int .i64 W ∧ W = a := by
            rintro n e rfl he
            obtain ⟨x, hx, rfl⟩ := ints_at he
            rw [ha] at hx; cases hx; exact ⟨_, rfl, rfl⟩
          have hsp := spotT_succ (r := r) (first := z.first) (t := t) hy
          simp only [List.getD_eq_getElem?_getD, ha, hb, Option.getD_some] at hsp
          have d := c71 r y a b (by omega) (by omega) (by omega) (by omega) g1 g2 g3 g4
          rw [hsp] at hps
          have hb1 := hS.b1
          have hb2 := hS.b2
          have ha1 := hS.a1
          have ha2 := hS.a2
          have hlp : t.losses.length = z.years.length ∧ t.premiums.length = z.years.length := by
            simp only [isTruth, Bool.and_eq_true, decide_eq_true_eq] at ht
            exact ⟨ht.1, ht.2.1⟩
          have hll := ints_len t.losses
          have hpl := ints_len t.premiums
          generalize hS1 : spotT r z.first z.years t (k + 1) = S1 at *
          generalize spotT r z.first z.years t k = S0 at *
          have hkk : kind r y a b = 0 ∨ kind r y a b = 1 ∨ kind r y a b = 2 ∨ kind r y a b = 3 := by have := kind_le r y a b; omega
          rcases hkk with hK | hK | hK | hK
          all_goals
            rw [hK] at d hsp hps
            rcases out with _ | ⟨o1, os⟩
            all_goals
              (try simp only [List.length_cons] at hol)
              (repeat' (first | (intro ex hex; have hq := hgetY (by omega) hex; subst hq; clear hex) | (intro ex hex; have hq := hgetS (by omega) hex; obtain ⟨W, rfl, hW⟩ := hq; clear hex) | (intro rx hrx; have hq := hor hrx (by omega); subst hq; clear hrx) | (intro rx hrx; have hq := hwrp hrx (by omega); subst hq; clear hrx) | (intro rx hrx; have hq := hshr hrx (by omega); subst hq; clear hrx) | (refine Ev.go ?_; conv => whnf) | refine And.intro ?_ ?_ | exact True.intro | exact rfl | (intro rx hrx; rw [IntWalk.i64_in _ (by omega)] at hrx) | (intro hcx; exfalso; omega) | (intro hcx; exfalso; simp only [ints_len, encYs_len] at hcx; omega) | (intro ex hex; (first | obtain ⟨xx, hxx, rfl⟩ := ints_at hex | obtain ⟨xx, hxx, rfl⟩ := encYs_at hex | obtain ⟨xx, hxx, rfl⟩ := encYs_cut hex); clear hex; try simp only [Int.toNat_natCast] at hxx) | intro _))
              all_goals (first | (refine ⟨?_⟩; first | rfl | exact List.cons_ne_nil _ _ | (show (_ : Nat) * _ ≤ _; simp [catS, repl, chunks, ints_len, encYs_len] <;> omega) | exact shS _ _ | exact shM _ | exact shN | exact encM_clo _ | exact ⟨rfl, rfl⟩ | exact ⟨rfl, rfl, rfl⟩ | omega | (simp only [ints_len, encYs_len]; omega) | (simp; omega) | (simp [cloL, clo, catS, repl, ints_clo, encYs_clo, encR, encY, encS]; done) | (show chkGo _ _ _ _ _ = true; kernel_rfl)) | (simp [cloL, clo, catS, repl, ints_clo, encYs_clo, encR, encY, encS]; done) | skip)
              refine TDq.pureC c70 (by simp [cloL, clo, encR, encY, encRule, encZ, encS, ints_clo, encYs_clo]) rfl (And.intro rfl rfl) ?_
              (repeat' (first | (intro ex hex; have hq := hgetY (by omega) hex; subst hq; clear hex) | (intro ex hex; have hq := hgetS (by omega) hex; obtain ⟨W, rfl, hW⟩ := hq; clear hex) | (intro rx hrx; have hq := hor hrx (by omega); subst hq; clear hrx) | (intro rx hrx; have hq := hwrp hrx (by omega); subst hq; clear hrx) | (intro rx hrx; have hq := hshr hrx (by omega); subst hq; clear hrx) | (refine Ev.go ?_; conv => whnf) | refine And.intro ?_ ?_ | exact True.intro | exact rfl | (intro rx hrx; rw [IntWalk.i64_in _ (by omega)] at hrx) | (intro hcx; exfalso; omega) | (intro hcx; exfalso; simp only [ints_len, encYs_len] at hcx; omega) | (intro ex hex; (first | obtain ⟨xx, hxx, rfl⟩ := ints_at hex | obtain ⟨xx, hxx, rfl⟩ := encYs_at hex | obtain ⟨xx, hxx, rfl⟩ := encYs_cut hex); clear hex; try simp only [Int.toNat_natCast] at hxx) | intro _))
              all_goals (first | (refine ⟨?_⟩; first | rfl | exact List.cons_ne_nil _ _ | (show (_ : Nat) * _ ≤ _; simp [catS, repl, chunks, ints_len, encYs_len] <;> omega) | exact shS _ _ | exact shM _ | exact shN | exact encM_clo _ | exact ⟨rfl, rfl⟩ | exact ⟨rfl, rfl, rfl⟩ | omega | (simp only [ints_len, encYs_len]; omega) | (simp; omega) | (simp [cloL, clo, catS, repl, ints_clo, encYs_clo, encR, encY, encS]; done) | (show chkGo _ _ _ _ _ = true; kernel_rfl)) | (simp [cloL, clo, catS, repl, ints_clo, encYs_clo, encR, encY, encS]; done) | skip)
              subst hW
              cases hb.symm.trans hxx
              refine TDq.pureC d (by simp [cloL, clo, encR, encY, encRule, encZ, encS, ints_clo, encYs_clo]) rfl (And.intro rfl rfl) ?_
              (repeat' (first | (intro ex hex; have hq := hgetY (by omega) hex; subst hq; clear hex) | (intro ex hex; have hq := hgetS (by omega) hex; obtain ⟨W, rfl, hW⟩ := hq; clear hex) | (intro rx hrx; have hq := hor hrx (by omega); subst hq; clear hrx) | (intro rx hrx; have hq := hwrp hrx (by omega); subst hq; clear hrx) | (intro rx hrx; have hq := hshr hrx (by omega); subst hq; clear hrx) | (refine Ev.go ?_; conv => whnf) | refine And.intro ?_ ?_ | exact True.intro | exact rfl | (intro rx hrx; rw [IntWalk.i64_in _ (by omega)] at hrx) | (intro hcx; exfalso; omega) | (intro hcx; exfalso; simp only [ints_len, encYs_len] at hcx; omega) | (intro ex hex; (first | obtain ⟨xx, hxx, rfl⟩ := ints_at hex | obtain ⟨xx, hxx, rfl⟩ := encYs_at hex | obtain ⟨xx, hxx, rfl⟩ := encYs_cut hex); clear hex; try simp only [Int.toNat_natCast] at hxx) | intro _))
              all_goals (first | (refine ⟨?_⟩; first | rfl | exact List.cons_ne_nil _ _ | (show (_ : Nat) * _ ≤ _; simp [catS, repl, chunks, ints_len, encYs_len] <;> omega) | exact shS _ _ | exact shM _ | exact shN | exact encM_clo _ | exact ⟨rfl, rfl⟩ | exact ⟨rfl, rfl, rfl⟩ | omega | (simp only [ints_len, encYs_len]; omega) | (simp; omega) | (simp [cloL, clo, catS, repl, ints_clo, encYs_clo, encR, encY, encS]; done) | (show chkGo _ _ _ _ _ = true; kernel_rfl)) | (simp [cloL, clo, catS, repl, ints_clo, encYs_clo, encR, encY, encS]; done) | skip)
              first
                | refine TDq.pureC (c82 r S0) (by simp [cloL, clo, encR, encY, encRule, encZ, encS, ints_clo, encYs_clo]) rfl (And.intro rfl rfl) ?_
                | refine TDq.pureC (c83 r S0 hb1 (by omega) ha1 (by omega)) (by simp [cloL, clo, encR, encY, encRule, encZ, encS, ints_clo, encYs_clo]) rfl (And.intro rfl rfl) ?_
                | refine TDq.pureC (c84 r S0 hb1 (by omega)) (by simp [cloL, clo, encR, encY, encRule, encZ, encS, ints_clo, encYs_clo]) rfl (And.intro rfl rfl) ?_
                | refine TDq.pureC (c85 r S0 ha1 (by omega) hok1 hok2) (by simp [cloL, clo, encR, encY, encRule, encZ, encS, ints_clo, encYs_clo]) rfl (And.intro rfl rfl) ?_
              (repeat' (first | (intro ex hex; have hq := hgetY (by omega) hex; subst hq; clear hex) | (intro ex hex; have hq := hgetS (by omega) hex; obtain ⟨W, rfl, hW⟩ := hq; clear hex) | (intro rx hrx; have hq := hor hrx (by omega); subst hq; clear hrx) | (intro rx hrx; have hq := hwrp hrx (by omega); subst hq; clear hrx) | (intro rx hrx; have hq := hshr hrx (by omega); subst hq; clear hrx) | (refine Ev.go ?_; conv => whnf) | refine And.intro ?_ ?_ | exact True.intro | exact rfl | (intro rx hrx; rw [IntWalk.i64_in _ (by omega)] at hrx) | (intro hcx; exfalso; omega) | (intro hcx; exfalso; simp only [ints_len, encYs_len] at hcx; omega) | (intro ex hex; (first | obtain ⟨xx, hxx, rfl⟩ := ints_at hex | obtain ⟨xx, hxx, rfl⟩ := encYs_at hex | obtain ⟨xx, hxx, rfl⟩ := encYs_cut hex); clear hex; try simp only [Int.toNat_natCast] at hxx) | intro _))
              all_goals (first | (refine ⟨?_⟩; first | rfl | exact List.cons_ne_nil _ _ | (show (_ : Nat) * _ ≤ _; simp [catS, repl, chunks, ints_len, encYs_len] <;> omega) | exact shS _ _ | exact shM _ | exact shN | exact encM_clo _ | exact ⟨rfl, rfl⟩ | exact ⟨rfl, rfl, rfl⟩ | omega | (simp only [ints_len, encYs_len]; omega) | (simp; omega) | (simp [cloL, clo, catS, repl, ints_clo, encYs_clo, encR, encY, encS]; done) | (show chkGo _ _ _ _ _ = true; kernel_rfl)) | (simp [cloL, clo, catS, repl, ints_clo, encYs_clo, encR, encY, encS]; done) | skip)
              have hc : _ ++ [S1.class_] = playT r z t (k + 1) := (congrArg (· ++ [S1.class_]) hout).trans (by rw [hps, hsp])
              refine ⟨⟨[(4, 7)], (k + 1, _), ⟨by dsimp only; omega, hc⟩, by dsimp only; omega, ?_⟩⟩
              (repeat' (first | (refine Ev.go ?_; conv => whnf) | refine And.intro ?_ ?_ | exact True.intro | exact rfl | (intro rx hrx; rw [IntWalk.i64_in _ (by omega)] at hrx) | (intro hcx; exfalso; omega) | (intro hcx; exfalso; simp only [ints_len, encYs_len] at hcx; omega) | (intro ex hex; (first | obtain ⟨xx, hxx, rfl⟩ := ints_at hex | obtain ⟨xx, hxx, rfl⟩ := encYs_at hex | obtain ⟨xx, hxx, rfl⟩ := encYs_cut hex); clear hex; try simp only [Int.toNat_natCast] at hxx) | intro _))
              all_goals (first | (refine ⟨?_⟩; first | rfl | exact List.cons_ne_nil _ _ | (show (_ : Nat) * _ ≤ _; simp [catS, repl, chunks, ints_len, encYs_len] <;> omega) | exact shS _ _ | exact shM _ | exact shN | exact encM_clo _ | exact ⟨rfl, rfl⟩ | exact ⟨rfl, rfl, rfl⟩ | omega | (simp only [ints_len, encYs_len]; omega) | (simp; omega) | (simp [cloL, clo, catS, repl, ints_clo, encYs_clo, encR, encY, encS]; done) | (show chkGo _ _ _ _ _ = true; kernel_rfl)) | (simp [cloL, clo, catS, repl, ints_clo, encYs_clo, encR, encY, encS]; done) | skip)
              all_goals (try (refine ⟨?_⟩; first | (rw [hS1, hsp]; done) | (simp [ints, catS, repl, hsp]; done)))
        · have hke : k = z.years.length := by omega
          subst hke
          rcases out with _ | ⟨o1, os⟩
          all_goals
            (try simp only [List.length_cons] at hol)
            (repeat' (first | (refine Ev.go ?_; conv => whnf) | refine And.intro ?_ ?_ | exact True.intro | exact rfl | (intro rx hrx; rw [IntWalk.i64_in _ (by omega)] at hrx) | (intro hcx; exfalso; omega) | (intro hcx; exfalso; simp only [ints_len, encYs_len] at hcx; omega) | (intro ex hex; (first | obtain ⟨xx, hxx, rfl⟩ := ints_at hex | obtain ⟨xx, hxx, rfl⟩ := encYs_at hex | obtain ⟨xx, hxx, rfl⟩ := encYs_cut hex); clear hex; try simp only [Int.toNat_natCast] at hxx) | intro _))
            all_goals (first | (refine ⟨?_⟩; first | rfl | exact List.cons_ne_nil _ _ | (show (_ : Nat) * _ ≤ _; simp [catS, repl, chunks, ints_len, encYs_len] <;> omega) | exact shS _ _ | exact shM _ | exact shN | exact encM_clo _ | exact ⟨rfl, rfl⟩ | exact ⟨rfl, rfl, rfl⟩ | omega | (simp only [ints_len, encYs_len]; omega) | (simp; omega) | (simp [cloL, clo, catS, repl, ints_clo, encYs_clo, encR, encY, encS]; done) | (show chkGo _ _ _ _ _ = true; kernel_rfl)) | (simp [cloL, clo, catS, repl, ints_clo, encYs_clo, encR, encY, encS]; done) | skip)
            rw [← hout]
          · exact SlE.of (.inr ⟨rfl, rfl⟩)
          · exact SlE.of (.inl rfl)
    · have hR : playR r z t = ([], 2) := by unfold playR; rw [if_neg (by simpa using hf), if_neg (by rw [ht]; simp)]
      rw [hR]
      (repeat' (first | (refine Ev.go ?_; conv => whnf) | refine And.intro ?_ ?_ | exact True.intro | exact rfl | (intro rx hrx; rw [IntWalk.i64_in _ (by omega)] at hrx) | (intro hcx; exfalso; omega) | (intro hcx; exfalso; simp only [ints_len, encYs_len] at hcx; omega) | (intro ex hex; (first | obtain ⟨xx, hxx, rfl⟩ := ints_at hex | obtain ⟨xx, hxx, rfl⟩ := encYs_at hex | obtain ⟨xx, hxx, rfl⟩ := encYs_cut hex); clear hex; try simp only [Int.toNat_natCast] at hxx) | intro _))
      exact SlE.of (.inr ⟨rfl, rfl⟩)
  · rename_i hf
    have hR : playR r z t = ([], fault r z) := by unfold playR; rw [if_pos hf]
    rw [hR]
    exact SlE.of (.inr ⟨rfl, rfl⟩)
end Go.Proofs.Ytelnonfenpjjcaa
