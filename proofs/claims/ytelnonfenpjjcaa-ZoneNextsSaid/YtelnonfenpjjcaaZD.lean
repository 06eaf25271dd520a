/- ZoneNexts: the bounds of the next price, and the deciding years, are as the document says. -/
import Derived.Test.YtelnonfenpjjcaaZB
set_option linter.unusedSimpArgs false
set_option linter.unusedVariables false
open Go Go.TV
namespace Go.Proofs.Ytelnonfenpjjcaa

theorem nextR_good {r : Rule} {z : Zone} (h : fault r z = 0) : nextR r z = (⟨pr r (loL (endL r z)), pr r (hiL (endL r z))⟩, 0) := by
  unfold nextR; rw [if_neg (by simpa using h)]; rfl

set_option maxHeartbeats 4000000 in
set_option maxRecDepth 100000 in
theorem c31 (r : Rule) (z : Zone) (h0 : fault r z = 0) : PF Try.prog 31 [encRule r, encZ z] (· = encR (nextR r z).1) := by
  have hz := encYs_len z.years
  have hl := fault_len h0
  have hp := fault_price h0
  have hc6 := (fault_okR h0).c2
  have d := c25 r z z.years.length 0 h0 (Nat.le_refl _) (by omega)
  have e4 : refR r z z.years.length 0 = endL r z := refR_eq h0 (out := []) (fun i _ => bit_zero i) (Nat.le_refl _)
  rw [e4] at d
  have hL := endL_ne h0
  rw [nextR_good h0]
  have hm : ∀ c ∈ endL r z, 0 ≤ c ∧ c < r.classes := fun c h => ⟨(mem_classes.1 h).1, (mem_classes.1 h).2.1⟩
  generalize endL r z = L at *
  have hLl := ints_len L
  have hP := ints_len r.price
  refine PF.of (TF.ev fn_31 (Ev.at ?_))
  (repeat' (first | (refine Ev.go ?_; conv => whnf) | refine And.intro ?_ ?_ | exact True.intro | exact rfl | (intro rx hrx; rw [IntWalk.i64_in _ (by omega)] at hrx) | (intro hcx; exfalso; omega) | (intro hcx; exfalso; simp only [ints_len, encYs_len] at hcx; omega) | (intro ex hex; (first | obtain ⟨xx, hxx, rfl⟩ := ints_at hex | obtain ⟨xx, hxx, rfl⟩ := encYs_at hex | obtain ⟨xx, hxx, rfl⟩ := encYs_cut hex); clear hex; try simp only [Int.toNat_natCast] at hxx) | intro _))
  obtain rfl : rx = (z.years.length : Int) - 1 := by omega
  refine TSq.pureC d (by simp [cloL, clo, encR, encY, encRule, encZ, encS, ints_clo, encYs_clo]) rfl (And.intro rfl rfl) ?_
  (repeat' (first | (refine Ev.go ?_; conv => whnf) | refine And.intro ?_ ?_ | exact True.intro | exact rfl | (intro rx hrx; rw [IntWalk.i64_in _ (by omega)] at hrx) | (intro hcx; exfalso; omega) | (intro hcx; exfalso; simp only [ints_len, encYs_len] at hcx; omega) | (intro ex hex; (first | obtain ⟨xx, hxx, rfl⟩ := ints_at hex | obtain ⟨xx, hxx, rfl⟩ := encYs_at hex | obtain ⟨xx, hxx, rfl⟩ := encYs_cut hex); clear hex; try simp only [Int.toNat_natCast] at hxx) | intro _))
  all_goals (try (refine ⟨?_⟩; first | omega | (have := hm _ (List.mem_of_getElem? hxx); omega)))
  all_goals (first | (refine ⟨?_⟩; first | rfl | exact List.cons_ne_nil _ _ | (show (_ : Nat) * _ ≤ _; simp [catS, repl, chunks, ints_len, encYs_len] <;> omega) | exact shS _ _ | exact shM _ | exact shN | exact encM_clo _ | exact ⟨rfl, rfl⟩ | exact ⟨rfl, rfl, rfl⟩ | omega | (simp only [ints_len, encYs_len]; omega) | (simp; omega) | (simp [cloL, clo, catS, repl, ints_clo, encYs_clo, encR, encY, encS]; done) | (show chkGo _ _ _ _ _ = true; kernel_rfl)) | (simp [cloL, clo, catS, repl, ints_clo, encYs_clo, encR, encY, encS]; done) | skip)
  rename_i a ha b hb d hd
  have hr : rx.toNat = L.length - 1 := by omega
  rw [hr] at hd
  simp only [Int.toNat_zero] at ha
  have e1 : loL L = a := by simp [loL, List.getD_eq_getElem?_getD, ha]
  have e2 : hiL L = d := by simp [hiL, List.getD_eq_getElem?_getD, hd]
  simp only [encR, e1, e2, pr, List.getD_eq_getElem?_getD, hb, hxx, Option.getD_some]

theorem seen_rseen {r : Rule} {y : Year} (h : OkY r y) (hg : r.good ≤ r.bad) {k : Int} (hk : k = 0 ∨ k = 1 ∨ k = 2 ∨ k = 3) : seen r y false (mk k) = rseen r y k := by
  have h1 := rcan_can h hg false hk
  have h2 : rcan r y false k = rseen r y k := by unfold rcan; rw [if_neg (by simp)]
  rw [h2] at h1
  have h3 : mk k ∈ can r y false ↔ seen r y false (mk k) = true := by
    simp only [can, List.mem_filter]
    refine ⟨fun h => h.2, fun h => ⟨?_, h⟩⟩
    rcases hk with rfl | rfl | rfl | rfl <;> decide
  rw [Bool.eq_iff_iff, h1, h3]
theorem rseen_one {r : Rule} {y : Year} (h : OkY r y) (h0 : rseen r y 0 = true) {k : Int} (hk : k ≠ 0) : rseen r y k = false := by
  have hc : y.exempt = true ∨ y.parcels < r.fewest := by
    apply Classical.byContradiction
    intro hn
    rw [(rseen_zero h).2 hn] at h0; cases h0
  cases hs : rseen r y k with
  | false => rfl
  | true =>
    obtain ⟨l, _, h2⟩ := List.any_eq_true.1 hs
    obtain ⟨p, _, h4⟩ := List.any_eq_true.1 h2
    simp only [beq_iff_eq] at h4
    unfold rkind at h4
    rw [if_pos hc] at h4
    exact absurd h4.symm hk
theorem two_kinds {r : Rule} {y : Year} (h : OkY r y) (hg : r.good ≤ r.bad) : 1 < (can r y false).length ↔ ((rseen r y 1 && rseen r y 2) || ((rseen r y 1 && rseen r y 3) || (rseen r y 2 && rseen r y 3))) = true := by
  have e0 : seen r y false 0 = rseen r y 0 := seen_rseen h hg (k := 0) (by simp)
  have e1 : seen r y false 1 = rseen r y 1 := seen_rseen h hg (k := 1) (by simp)
  have e2 : seen r y false 3 = rseen r y 2 := seen_rseen h hg (k := 2) (by simp)
  have e3 : seen r y false 2 = rseen r y 3 := seen_rseen h hg (k := 3) (by simp)
  have q1 := fun h' => rseen_one h h' (k := 1) (by omega)
  have q2 := fun h' => rseen_one h h' (k := 2) (by omega)
  have q3 := fun h' => rseen_one h h' (k := 3) (by omega)
  simp only [can, List.filter, e0, e1, e2, e3]
  cases h0 : rseen r y 0 with
  | true => rw [q1 h0, q2 h0, q3 h0]; simp
  | false =>
    cases rseen r y 1 <;> cases rseen r y 2 <;> cases rseen r y 3 <;> simp

set_option maxHeartbeats 4000000 in
set_option maxRecDepth 100000 in
theorem c32 (r : Rule) (z : Zone) (h0 : fault r z = 0) : PF Try.prog 32 [encRule r, encZ z] (· = .sl 1 (ints (decUp r z.years z.years.length))) := by
  have hz := encYs_len z.years
  have hl6 := fault_len h0
  have hy := fault_okY h0
  have hg := (fault_gb h0).2
  refine SlN.pf (PF.of (TF.ev fn_32 (Ev.at ?_)))
  (repeat' (first | (refine Ev.go ?_; conv => whnf) | refine And.intro ?_ ?_ | exact True.intro | exact rfl | (intro rx hrx; rw [IntWalk.i64_in _ (by omega)] at hrx) | (intro hcx; exfalso; omega) | (intro hcx; exfalso; simp only [ints_len, encYs_len] at hcx; omega) | (intro ex hex; (first | obtain ⟨xx, hxx, rfl⟩ := ints_at hex | obtain ⟨xx, hxx, rfl⟩ := encYs_at hex | obtain ⟨xx, hxx, rfl⟩ := encYs_cut hex); clear hex; try simp only [Int.toNat_natCast] at hxx) | intro _))
  refine TWq.loopP (fun p : Nat × List Int => [(6, .int .i64 p.1), (5, match p.2 with | [] => .nils | _ :: _ => .own 2), (7, .junk)])
    (fun p => [(2, match p.2 with | [] => .dead | _ :: _ => .arr 3 1 (ints p.2))])
    (fun p => p.1 ≤ z.years.length ∧ p.2 = decUp r z.years p.1) (fun p => z.years.length - p.1) (0, []) [] ?_ ⟨by omega, by simp [decUp]⟩ ?_
  · (repeat' (first | (refine Ev.go ?_; conv => whnf) | refine And.intro ?_ ?_ | exact True.intro | exact rfl | (intro rx hrx; rw [IntWalk.i64_in _ (by omega)] at hrx) | (intro hcx; exfalso; omega) | (intro hcx; exfalso; simp only [ints_len, encYs_len] at hcx; omega) | (intro ex hex; (first | obtain ⟨xx, hxx, rfl⟩ := ints_at hex | obtain ⟨xx, hxx, rfl⟩ := encYs_at hex | obtain ⟨xx, hxx, rfl⟩ := encYs_cut hex); clear hex; try simp only [Int.toNat_natCast] at hxx) | intro _))
    all_goals (first | (refine ⟨?_⟩; first | rfl | exact List.cons_ne_nil _ _ | (show (_ : Nat) * _ ≤ _; simp [catS, repl, chunks, ints_len, encYs_len] <;> omega) | exact shS _ _ | exact shM _ | exact shN | exact encM_clo _ | exact ⟨rfl, rfl⟩ | exact ⟨rfl, rfl, rfl⟩ | omega | (simp only [ints_len, encYs_len]; omega) | (simp; omega) | (simp [cloL, clo, catS, repl, ints_clo, encYs_clo, encR, encY, encS]; done) | (show chkGo _ _ _ _ _ = true; kernel_rfl)) | (simp [cloL, clo, catS, repl, ints_clo, encYs_clo, encR, encY, encS]; done) | skip)
  · rintro ⟨k, out⟩ ⟨hk, hout⟩
    dsimp only at hk hout ⊢
    have hol := decUp_len r z.years k
    rw [← hout] at hol
    rcases out with _ | ⟨a, out⟩
    all_goals
      (try simp only [List.length_cons] at hol)
      (repeat' (first | (refine Ev.go ?_; conv => whnf) | refine And.intro ?_ ?_ | exact True.intro | exact rfl | (intro rx hrx; rw [IntWalk.i64_in _ (by omega)] at hrx) | (intro hcx; exfalso; omega) | (intro hcx; exfalso; simp only [ints_len, encYs_len] at hcx; omega) | (intro ex hex; (first | obtain ⟨xx, hxx, rfl⟩ := ints_at hex | obtain ⟨xx, hxx, rfl⟩ := encYs_at hex | obtain ⟨xx, hxx, rfl⟩ := encYs_cut hex); clear hex; try simp only [Int.toNat_natCast] at hxx) | intro _))
      all_goals (try (refine ⟨?_⟩; first | omega | exact List.cons_ne_nil _ _ | (show (_ : Nat) * _ ≤ _; simp [catS, repl, chunks, ints_len, encYs_len] <;> omega)))
      · have hyx := hy xx (List.mem_of_getElem? hxx)
        have cK := c61 r xx hyx
        have h2 := two_kinds hyx hg
        have hsu := decUp_succ (r := r) hxx
        unfold flR at cK
        have fin : ∀ b : Bool, ((rseen r xx 1 && rseen r xx 2) || ((rseen r xx 1 && rseen r xx 3) || (rseen r xx 2 && rseen r xx 3))) = b → decUp r z.years (k + 1) = if b = true then decUp r z.years k ++ [(k : Int)] else decUp r z.years k := by
          intro b hb
          rw [hsu, ← hb]
          simp only [h2]
        cases f1 : rseen r xx 1 <;> cases f2 : rseen r xx 2 <;> cases f3 : rseen r xx 3
        all_goals
          rw [f1, f2, f3] at cK fin
          have fin := fin _ rfl
          simp only [Bool.and_true, Bool.and_false, Bool.or_true, Bool.or_false, Bool.and_self, Bool.or_self, if_true, Bool.false_eq_true, if_false] at fin
          refine TDq.pureC cK (by simp [cloL, clo, encR, encY, encRule, encZ, encS, ints_clo, encYs_clo]) rfl (And.intro rfl rfl) ?_
          (repeat' (first | (refine Ev.go ?_; conv => whnf) | refine And.intro ?_ ?_ | exact True.intro | exact rfl | (intro rx hrx; rw [IntWalk.i64_in _ (by omega)] at hrx) | (intro hcx; exfalso; omega) | (intro hcx; exfalso; simp only [ints_len, encYs_len] at hcx; omega) | (intro ex hex; (first | obtain ⟨xx, hxx, rfl⟩ := ints_at hex | obtain ⟨xx, hxx, rfl⟩ := encYs_at hex | obtain ⟨xx, hxx, rfl⟩ := encYs_cut hex); clear hex; try simp only [Int.toNat_natCast] at hxx) | intro _))
          all_goals (first | (refine ⟨?_⟩; first | rfl | exact List.cons_ne_nil _ _ | (show (_ : Nat) * _ ≤ _; simp [catS, repl, chunks, ints_len, encYs_len] <;> omega) | exact shS _ _ | exact shM _ | exact shN | exact encM_clo _ | exact ⟨rfl, rfl⟩ | exact ⟨rfl, rfl, rfl⟩ | omega | (simp only [ints_len, encYs_len]; omega) | (simp; omega) | (simp [cloL, clo, catS, repl, ints_clo, encYs_clo, encR, encY, encS]; done) | (show chkGo _ _ _ _ _ = true; kernel_rfl)) | (simp [cloL, clo, catS, repl, ints_clo, encYs_clo, encR, encY, encS]; done) | skip)
          first
            | (have hc : _ = decUp r z.years (k + 1) := hout.trans fin.symm
               refine ⟨⟨[], (k + 1, _), ⟨by dsimp only; omega, hc⟩, by dsimp only; omega, ?_⟩⟩)
            | (have hc : _ ++ [(k : Int)] = decUp r z.years (k + 1) := (congrArg (· ++ [(k : Int)]) hout).trans fin.symm
               refine ⟨⟨[(2, 5)], (k + 1, _), ⟨by dsimp only; omega, hc⟩, by dsimp only; omega, ?_⟩⟩)
          (repeat' (first | (refine Ev.go ?_; conv => whnf) | refine And.intro ?_ ?_ | exact True.intro | exact rfl | (intro rx hrx; rw [IntWalk.i64_in _ (by omega)] at hrx) | (intro hcx; exfalso; omega) | (intro hcx; exfalso; simp only [ints_len, encYs_len] at hcx; omega) | (intro ex hex; (first | obtain ⟨xx, hxx, rfl⟩ := ints_at hex | obtain ⟨xx, hxx, rfl⟩ := encYs_at hex | obtain ⟨xx, hxx, rfl⟩ := encYs_cut hex); clear hex; try simp only [Int.toNat_natCast] at hxx) | intro _))
          all_goals (first | (refine ⟨?_⟩; first | rfl | exact List.cons_ne_nil _ _ | (show (_ : Nat) * _ ≤ _; simp [catS, repl, chunks, ints_len, encYs_len] <;> omega) | exact shS _ _ | exact shM _ | exact shN | exact encM_clo _ | exact ⟨rfl, rfl⟩ | exact ⟨rfl, rfl, rfl⟩ | omega | (simp only [ints_len, encYs_len]; omega) | (simp; omega) | (simp [cloL, clo, catS, repl, ints_clo, encYs_clo, encR, encY, encS]; done) | (show chkGo _ _ _ _ _ = true; kernel_rfl)) | (simp [cloL, clo, catS, repl, ints_clo, encYs_clo, encR, encY, encS]; done) | skip)
          all_goals (try (refine ⟨?_⟩; simp [ints, catS, repl]; done))
      all_goals (first | (refine ⟨?_⟩; first | rfl | exact List.cons_ne_nil _ _ | (show (_ : Nat) * _ ≤ _; simp [catS, repl, chunks, ints_len, encYs_len] <;> omega) | exact shS _ _ | exact shM _ | exact shN | exact encM_clo _ | exact ⟨rfl, rfl⟩ | exact ⟨rfl, rfl, rfl⟩ | omega | (simp only [ints_len, encYs_len]; omega) | (simp; omega) | (simp [cloL, clo, catS, repl, ints_clo, encYs_clo, encR, encY, encS]; done) | (show chkGo _ _ _ _ _ = true; kernel_rfl)) | (simp [cloL, clo, catS, repl, ints_clo, encYs_clo, encR, encY, encS]; done) | skip)
      have hke : k = z.years.length := by omega
      rw [hke] at hout
      first | exact .inr ⟨hout.symm, rfl⟩ | exact .inl (by rw [← hout]; first | done | rfl)
end Go.Proofs.Ytelnonfenpjjcaa
