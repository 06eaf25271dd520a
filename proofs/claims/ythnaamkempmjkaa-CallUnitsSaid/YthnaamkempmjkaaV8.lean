/- CallUnits, the walk of the statement. -/
import Derived.Test.YthnaamkempmjkaaKv
import Derived.Test.YthnaamkempmjkaaKz
import Derived.Test.YthnaamkempmjkaaKfL8
set_option linter.unusedSimpArgs false
set_option linter.unusedVariables false
open Go Go.TV
namespace Go.Proofs.Ythnaamkempmjkaa

/-- A society with all sums multiplied. -/
def mulS (s : Soc) (c : Int) : Soc := ⟨s.members.map (mulM c), s.losses, s.treaty, s.reserve⟩
theorem mulS_calls {s : Soc} {c n : Int} (hc : 0 < c) : (callsOf (mulS s c) [] n).1 = (callsOf s [] n).1 := by
  have hl : (mulS s c).members.length = s.members.length := by simp [mulS]
  have ha : askF (mulS s c).members [] = askF s.members [] := by funext i; simp only [askF, hl]
  simp only [callsOf, hl, ha]
  rw [show (mulS s c).members = s.members.map (mulM c) from rfl, mul_calls hc]
theorem un_bd {s : Soc} (h : fault s = 0) {i : Nat} (hi : i < s.members.length) : 1 ≤ un s.members i ∧ un s.members i ≤ 10000 := by
  have hm : s.members[i]? = some s.members[i] := List.getElem?_eq_getElem hi
  rw [un_at hm]; exact ((fault_ok h).1 _ (List.mem_of_getElem? hm)).units
theorem units_bd {s : Soc} (h : fault s = 0) : ∀ x ∈ s.members.map Mem.units, 0 ≤ x ∧ x ≤ 1000000 := by
  intro x hx
  obtain ⟨m, hm, rfl⟩ := List.mem_map.1 hx
  have := ((fault_ok h).1 m hm).units
  omega

set_option maxHeartbeats 8000000 in
set_option maxRecDepth 100000 in
theorem c8 (s : Soc) (need by_ : Int) (hn : 0 ≤ need ∧ need ≤ 4294967295) (hb : 0 ≤ by_ ∧ by_ ≤ 255) : PF Try.prog 8 [encSoc s, .int .u32 need, .int .u8 by_] (· = .bool true) := by
  refine PF.of (TF.ev fn_8 (Ev.at ?_))
  (repeat' (first | (refine Ev.go ?_; conv => whnf) | refine And.intro ?_ ?_ | exact True.intro | exact rfl | (intro rx hrx; rw [IntWalk.i64_in _ (by omega)] at hrx) | (intro hcx; exfalso; omega) | (intro hcx; exfalso; simp only [lz] at hcx; omega) | (intro ex hex; (first | obtain ⟨xx, hxx, rfl⟩ := ints_at hex | obtain ⟨xx, hxx, rfl⟩ := encYs_at hex | obtain ⟨xx, hxx, rfl⟩ := encRs_at hex); clear hex; try simp only [Int.toNat_natCast] at hxx) | intro _))
  refine TSq.pureBC (c27 s) (by simp [cloL, clo, encR, encY, encSoc, encT, encS, cz]) rfl (And.intro rfl rfl) ?_ ?_
  · intro hr
    have h0 : fault s = 0 := by simpa [ready] using hr
    have hres1 : ∀ {x r : Int}, r = x.tmod 100001 → 0 ≤ x → 0 ≤ r ∧ r < 100001 := fun h hx => rem_bd h hx (by omega)
    have hres2 : ∀ {x r : Int}, r = x.tmod 4 → 0 ≤ x → 0 ≤ r ∧ r < 4 := fun h hx => rem_bd h hx (by omega)
    (repeat' (first | (intro rx hrx; have hq := hres1 hrx (by omega); clear hrx) | (intro rx hrx; have hq := hres2 hrx (by omega); clear hrx) | (intro ex hex; have hq := hg1 (by omega) hex; subst hq; clear hex) | (intro ex hex; have hq := hg2 (by omega) hex; subst hq; clear hex) | (refine Ev.go ?_; conv => whnf) | refine And.intro ?_ ?_ | exact True.intro | exact rfl | (intro rx hrx; rw [IntWalk.i64_in _ (by omega)] at hrx) | (intro hcx; exfalso; omega) | intro _))
    all_goals (first | (refine ⟨?_⟩; first | rfl | exact List.cons_ne_nil _ _ | (show (_ : Nat) * _ ≤ _; simp [catS, repl, chunks, lz] <;> omega) | exact shS _ _ | exact shM _ | exact shN | exact encM_clo _ | exact ⟨rfl, rfl⟩ | exact ⟨rfl, rfl, rfl⟩ | omega | (simp only [lz]; omega) | (simp; omega) | (simp [cloL, clo, catS, repl, cz, encR, encY, encS]; done) | (show chkGo _ _ _ _ _ = true; kernel_rfl)) | (simp [cloL, clo, catS, repl, cz, encR, encY, encS]; done) | skip)
    rename_i w0 hw0 N hN w1 hw1 K0
    obtain ⟨c, hc⟩ : ∃ c : Int, c = rx := ⟨_, rfl⟩
    have hcb : 1 ≤ c ∧ c ≤ 4 := by omega
    have b0 := c37 s N (by have := fault_len h0; omega)
    have hX0 := freeS_fault (n := N) h0 (by omega)
    have hXf := freeS_free s N
    generalize freeS s N = X at *
    have hl := fault_len hX0
    have hz := encYs_len X.members
    have hOk := fault_ms hX0
    have hmm := (fault_ok hX0).1
    have hpos := (fault_ok hX0).2.2.2.2
    have hub := sumL_bd (units_bd hX0)
    have b1 := c21 X (by omega) (by omega)
    have d1 := c35 X N (by omega) (by omega)
    rw [callsR_good hX0 (by omega)] at d1
    have hlA := callsOf_len X [] N
    have hiA := ints_len (callsOf X [] N).1
    have hAb := calls_bd hX0 [] (n := N) hN.1
    have hAat := fun i (hi : i < X.members.length) => calls_at (s := X) (out := []) (n := N) hi
    have hnear := fun i (hi : i < X.members.length) => (free_near hOk hN.1 hXf hi).2
    have hUp := allU_pos hOk hpos
    have hUl : allU X.members = sumL (X.members.map Mem.units) := rfl
    have hUb := hub X.members.length
    rw [List.take_of_length_le (by simp)] at hUb
    dsimp only at d1
    subst hc
    refine TSq.pureC b0 (by simp [cloL, clo, encR, encY, encSoc, encT, encS, cz]) rfl (And.intro rfl rfl) ?_
    (repeat' (first | (intro rx hrx; have hq := hres1 hrx (by omega); clear hrx) | (intro rx hrx; have hq := hres2 hrx (by omega); clear hrx) | (intro ex hex; have hq := hg1 (by omega) hex; subst hq; clear hex) | (intro ex hex; have hq := hg2 (by omega) hex; subst hq; clear hex) | (refine Ev.go ?_; conv => whnf) | refine And.intro ?_ ?_ | exact True.intro | exact rfl | (intro rx hrx; rw [IntWalk.i64_in _ (by omega)] at hrx) | (intro hcx; exfalso; omega) | intro _))
    all_goals (first | (refine ⟨?_⟩; first | rfl | exact List.cons_ne_nil _ _ | (show (_ : Nat) * _ ≤ _; simp [catS, repl, chunks, lz] <;> omega) | exact shS _ _ | exact shM _ | exact shN | exact encM_clo _ | exact ⟨rfl, rfl⟩ | exact ⟨rfl, rfl, rfl⟩ | omega | (simp only [lz]; omega) | (simp; omega) | (simp [cloL, clo, catS, repl, cz, encR, encY, encS]; done) | (show chkGo _ _ _ _ _ = true; kernel_rfl)) | (simp [cloL, clo, catS, repl, cz, encR, encY, encS]; done) | skip)
    refine TWq.loop (fun k : Nat => [(11, .int .i64 (sumL ((X.members.map Mem.units).take k))), (12, .int .i64 k)]) (fun k => [(4, .arr 62 3 (encYs (upK (mulM c) X.members k)))]) (fun k => k ≤ X.members.length) (fun k => X.members.length - k) 0 [] [] ?_ (by omega) ?_
    · (repeat' (first | (intro rx hrx; have hq := hres1 hrx (by omega); clear hrx) | (intro rx hrx; have hq := hres2 hrx (by omega); clear hrx) | (intro ex hex; have hq := hg1 (by omega) hex; subst hq; clear hex) | (intro ex hex; have hq := hg2 (by omega) hex; subst hq; clear hex) | (refine Ev.go ?_; conv => whnf) | refine And.intro ?_ ?_ | exact True.intro | exact rfl | (intro rx hrx; rw [IntWalk.i64_in _ (by omega)] at hrx) | (intro hcx; exfalso; omega) | intro _))
      all_goals (first | (refine ⟨?_⟩; first | rfl | exact List.cons_ne_nil _ _ | (show (_ : Nat) * _ ≤ _; simp [catS, repl, chunks, lz] <;> omega) | exact shS _ _ | exact shM _ | exact shN | exact encM_clo _ | exact ⟨rfl, rfl⟩ | exact ⟨rfl, rfl, rfl⟩ | omega | (simp only [lz]; omega) | (simp; omega) | (simp [cloL, clo, catS, repl, cz, encR, encY, encS]; done) | (show chkGo _ _ _ _ _ = true; kernel_rfl)) | (simp [cloL, clo, catS, repl, cz, encR, encY, encS]; done) | skip)
    · intro k hk
      have hK := encYs_len (upK (mulM c) X.members k)
      rw [upK_len] at hK
      rcases Nat.lt_or_ge k X.members.length with hkl | hkl
      · obtain ⟨m, hmk⟩ : ∃ m, X.members[k]? = some m := ⟨_, List.getElem?_eq_getElem hkl⟩
        have om := hmm m (List.mem_of_getElem? hmk)
        have d38 := c38 m (by have := om.1; omega) (by have := om.2.1; omega)
        have hfk := upK_at (g := mulM c) hmk
        have hsk : sumL ((X.members.map Mem.units).take (k + 1)) = sumL ((X.members.map Mem.units).take k) + m.units := sumL_take (by simp [hmk])
        have hb1 := hub k
        have hb2 := hub (k + 1)
        have hpm : 0 ≤ m.sum * c ∧ m.sum * c ≤ 4000 := ⟨Int.mul_nonneg (by have := om.1; omega) (by omega), by have := Int.mul_le_mul (a := m.sum) (b := c) (c := 1000) (d := 4) om.1.2 hcb.2 (by omega) (by omega); omega⟩
        have hg1 : ∀ {n : Nat} {e : SV}, n = k → (encYs X.members)[n]? = some e → e = encY m := by
          rintro n e rfl he
          obtain ⟨x, hx, rfl⟩ := encYs_at he
          rw [hmk] at hx; cases hx; rfl
        have hg2 : ∀ {n : Nat} {e : SV}, n = k → (encYs (upK (mulM c) X.members k))[n]? = some e → e = encY m := by
          rintro n e rfl he
          obtain ⟨x, hx, rfl⟩ := encYs_at he
          rw [hfk] at hx; cases hx; rfl
        (repeat' (first | (intro rx hrx; have hq := hres1 hrx (by omega); clear hrx) | (intro rx hrx; have hq := hres2 hrx (by omega); clear hrx) | (intro ex hex; have hq := hg1 (by omega) hex; subst hq; clear hex) | (intro ex hex; have hq := hg2 (by omega) hex; subst hq; clear hex) | (refine Ev.go ?_; conv => whnf) | refine And.intro ?_ ?_ | exact True.intro | exact rfl | (intro rx hrx; rw [IntWalk.i64_in _ (by omega)] at hrx) | (intro hcx; exfalso; omega) | intro _))
        all_goals (first | (refine ⟨?_⟩; first | rfl | exact List.cons_ne_nil _ _ | (show (_ : Nat) * _ ≤ _; simp [catS, repl, chunks, lz] <;> omega) | exact shS _ _ | exact shM _ | exact shN | exact encM_clo _ | exact ⟨rfl, rfl⟩ | exact ⟨rfl, rfl, rfl⟩ | omega | (simp only [lz]; omega) | (simp; omega) | (simp [cloL, clo, catS, repl, cz, encR, encY, encS]; done) | (show chkGo _ _ _ _ _ = true; kernel_rfl)) | (simp [cloL, clo, catS, repl, cz, encR, encY, encS]; done) | skip)
        refine TSq.pureC d38 (by simp [cloL, clo, encR, encY, encSoc, encT, encS, cz]) rfl (And.intro rfl rfl) ?_
        (repeat' (first | (intro rx hrx; have hq := hres1 hrx (by omega); clear hrx) | (intro rx hrx; have hq := hres2 hrx (by omega); clear hrx) | (intro ex hex; have hq := hg1 (by omega) hex; subst hq; clear hex) | (intro ex hex; have hq := hg2 (by omega) hex; subst hq; clear hex) | (refine Ev.go ?_; conv => whnf) | refine And.intro ?_ ?_ | exact True.intro | exact rfl | (intro rx hrx; rw [IntWalk.i64_in _ (by omega)] at hrx) | (intro hcx; exfalso; omega) | intro _))
        all_goals (first | (refine ⟨?_⟩; first | rfl | exact List.cons_ne_nil _ _ | (show (_ : Nat) * _ ≤ _; simp [catS, repl, chunks, lz] <;> omega) | exact shS _ _ | exact shM _ | exact shN | exact encM_clo _ | exact ⟨rfl, rfl⟩ | exact ⟨rfl, rfl, rfl⟩ | omega | (simp only [lz]; omega) | (simp; omega) | (simp [cloL, clo, catS, repl, cz, encR, encY, encS]; done) | (show chkGo _ _ _ _ _ = true; kernel_rfl)) | (simp [cloL, clo, catS, repl, cz, encR, encY, encS]; done) | skip)
        refine ⟨⟨k + 1, by omega, by omega, ?_⟩⟩
        (repeat' (first | (intro rx hrx; have hq := hres1 hrx (by omega); clear hrx) | (intro rx hrx; have hq := hres2 hrx (by omega); clear hrx) | (intro ex hex; have hq := hg1 (by omega) hex; subst hq; clear hex) | (intro ex hex; have hq := hg2 (by omega) hex; subst hq; clear hex) | (refine Ev.go ?_; conv => whnf) | refine And.intro ?_ ?_ | exact True.intro | exact rfl | (intro rx hrx; rw [IntWalk.i64_in _ (by omega)] at hrx) | (intro hcx; exfalso; omega) | intro _))
        all_goals (first | (refine ⟨?_⟩; first | rfl | exact List.cons_ne_nil _ _ | (show (_ : Nat) * _ ≤ _; simp [catS, repl, chunks, lz] <;> omega) | exact shS _ _ | exact shM _ | exact shN | exact encM_clo _ | exact ⟨rfl, rfl⟩ | exact ⟨rfl, rfl, rfl⟩ | omega | (simp only [lz]; omega) | (simp; omega) | (simp [cloL, clo, catS, repl, cz, encR, encY, encS]; done) | (show chkGo _ _ _ _ _ = true; kernel_rfl)) | (simp [cloL, clo, catS, repl, cz, encR, encY, encS]; done) | skip)
        all_goals (first | (refine ⟨upK_set hmk ?_⟩; simp only [encY, mulM, SV.agg.injEq, List.cons.injEq, SV.int.injEq, true_and, and_true]; omega) | (refine ⟨?_⟩; rw [hsk]; omega))
      · have hke : k = X.members.length := by omega
        subst hke
        rw [upK_all, List.take_of_length_le (by simp), ← hUl]
        rw [← hUl] at hUb
        generalize hY : mulS X c = Y at *
        have hYm : X.members.map (mulM c) = Y.members := by rw [← hY]; rfl
        rw [hYm]
        (repeat' (first | (intro rx hrx; have hq := hres1 hrx (by omega); clear hrx) | (intro rx hrx; have hq := hres2 hrx (by omega); clear hrx) | (intro ex hex; have hq := hg1 (by omega) hex; subst hq; clear hex) | (intro ex hex; have hq := hg2 (by omega) hex; subst hq; clear hex) | (refine Ev.go ?_; conv => whnf) | refine And.intro ?_ ?_ | exact True.intro | exact rfl | (intro rx hrx; rw [IntWalk.i64_in _ (by omega)] at hrx) | (intro hcx; exfalso; omega) | intro _))
        all_goals (first | (refine ⟨?_⟩; first | rfl | exact List.cons_ne_nil _ _ | (show (_ : Nat) * _ ≤ _; simp [catS, repl, chunks, lz] <;> omega) | exact shS _ _ | exact shM _ | exact shN | exact encM_clo _ | exact ⟨rfl, rfl⟩ | exact ⟨rfl, rfl, rfl⟩ | omega | (simp only [lz]; omega) | (simp; omega) | (simp [cloL, clo, catS, repl, cz, encR, encY, encS]; done) | (show chkGo _ _ _ _ _ = true; kernel_rfl)) | (simp [cloL, clo, catS, repl, cz, encR, encY, encS]; done) | skip)
        have hYe : encYs Y.members = encYs Y.members ∧ Y.losses = X.losses ∧ Y.treaty = X.treaty ∧ Y.reserve = X.reserve := by rw [← hY]; exact ⟨rfl, rfl, rfl, rfl⟩
        have hYl : Y.members.length = X.members.length := by rw [← hYm]; simp
        have hYcl := encYs_clo Y.members
        have c23Y := c23 Y
        have b2 := c21 Y (by omega) (by rw [hYe.2.1]; omega)
        have d2 := c35 Y N (by omega) (by rw [hYe.2.1]; omega)
        have hYc : (callsOf Y [] N).1 = (callsOf X [] N).1 := by rw [← hY]; exact mulS_calls (by omega)
        have hYgood := fun h => callsR_good (s := Y) (n := N) h (by omega)
        rw [hYc] at hYgood
        have eY : encSoc Y = .agg [.sl 3 (encYs Y.members), .sl 2 (encRs X.losses), .int .i64 X.treaty.lo, .int .i64 X.treaty.hi, .int .i64 X.reserve] := by
          unfold encSoc; rw [hYe.2.1, hYe.2.2.1, hYe.2.2.2]
        rw [eY] at c23Y b2 d2
        have s1 := c26s (callsOf X [] N).1 (by omega)
        clear hK hub hY hYe hYm eY hYc
        generalize (callsOf X [] N).1 = A at *
        generalize (callsOf X [] N).2 = p at *
        refine TSq.pubS 4 ?_
        (repeat' (first | (intro rx hrx; have hq := hres1 hrx (by omega); clear hrx) | (intro rx hrx; have hq := hres2 hrx (by omega); clear hrx) | (intro ex hex; have hq := hg1 (by omega) hex; subst hq; clear hex) | (intro ex hex; have hq := hg2 (by omega) hex; subst hq; clear hex) | (refine Ev.go ?_; conv => whnf) | refine And.intro ?_ ?_ | exact True.intro | exact rfl | (intro rx hrx; rw [IntWalk.i64_in _ (by omega)] at hrx) | (intro hcx; exfalso; omega) | intro _))
        all_goals (first | (refine ⟨?_⟩; first | rfl | exact List.cons_ne_nil _ _ | (show (_ : Nat) * _ ≤ _; simp [catS, repl, chunks, lz] <;> omega) | exact shS _ _ | exact shM _ | exact shN | exact encM_clo _ | exact ⟨rfl, rfl⟩ | exact ⟨rfl, rfl, rfl⟩ | omega | (simp only [lz]; omega) | (simp; omega) | (simp [cloL, clo, catS, repl, cz, encR, encY, encS]; done) | (show chkGo _ _ _ _ _ = true; kernel_rfl)) | (simp [cloL, clo, catS, repl, cz, encR, encY, encS]; done) | skip)
        all_goals (try exact ⟨hYcl⟩)
        refine TSq.pureC b1 (by simp [cloL, clo, encR, encY, encSoc, encT, encS, cz]) rfl (And.intro rfl rfl) ?_
        (repeat' (first | (intro rx hrx; have hq := hres1 hrx (by omega); clear hrx) | (intro rx hrx; have hq := hres2 hrx (by omega); clear hrx) | (intro ex hex; have hq := hg1 (by omega) hex; subst hq; clear hex) | (intro ex hex; have hq := hg2 (by omega) hex; subst hq; clear hex) | (refine Ev.go ?_; conv => whnf) | refine And.intro ?_ ?_ | exact True.intro | exact rfl | (intro rx hrx; rw [IntWalk.i64_in _ (by omega)] at hrx) | (intro hcx; exfalso; omega) | intro _))
        refine TSq.pureC d1 (by simp [cloL, clo, encR, encY, encSoc, encT, encS, cz]) rfl (And.intro rfl rfl) ?_
        (repeat' (first | (intro rx hrx; have hq := hres1 hrx (by omega); clear hrx) | (intro rx hrx; have hq := hres2 hrx (by omega); clear hrx) | (intro ex hex; have hq := hg1 (by omega) hex; subst hq; clear hex) | (intro ex hex; have hq := hg2 (by omega) hex; subst hq; clear hex) | (refine Ev.go ?_; conv => whnf) | refine And.intro ?_ ?_ | exact True.intro | exact rfl | (intro rx hrx; rw [IntWalk.i64_in _ (by omega)] at hrx) | (intro hcx; exfalso; omega) | intro _))
        all_goals (first | (refine ⟨?_⟩; first | rfl | exact List.cons_ne_nil _ _ | (show (_ : Nat) * _ ≤ _; simp [catS, repl, chunks, lz] <;> omega) | exact shS _ _ | exact shM _ | exact shN | exact encM_clo _ | exact ⟨rfl, rfl⟩ | exact ⟨rfl, rfl, rfl⟩ | omega | (simp only [lz]; omega) | (simp; omega) | (simp [cloL, clo, catS, repl, cz, encR, encY, encS]; done) | (show chkGo _ _ _ _ _ = true; kernel_rfl)) | (simp [cloL, clo, catS, repl, cz, encR, encY, encS]; done) | skip)
        all_goals (try (exfalso; omega))
        refine TWq.loop (fun k : Nat => [(16, .int .i64 k), (17, .junk)]) (fun k => []) (fun k => k ≤ X.members.length) (fun k => X.members.length - k) 0 [] [] ?_ (by omega) ?_
        · (repeat' (first | (intro rx hrx; have hq := hres1 hrx (by omega); clear hrx) | (intro rx hrx; have hq := hres2 hrx (by omega); clear hrx) | (intro ex hex; have hq := hg1 (by omega) hex; subst hq; clear hex) | (intro ex hex; have hq := hg2 (by omega) hex; subst hq; clear hex) | (refine Ev.go ?_; conv => whnf) | refine And.intro ?_ ?_ | exact True.intro | exact rfl | (intro rx hrx; rw [IntWalk.i64_in _ (by omega)] at hrx) | (intro hcx; exfalso; omega) | intro _))
          all_goals (first | (refine ⟨?_⟩; first | rfl | exact List.cons_ne_nil _ _ | (show (_ : Nat) * _ ≤ _; simp [catS, repl, chunks, lz] <;> omega) | exact shS _ _ | exact shM _ | exact shN | exact encM_clo _ | exact ⟨rfl, rfl⟩ | exact ⟨rfl, rfl, rfl⟩ | omega | (simp only [lz]; omega) | (simp; omega) | (simp [cloL, clo, catS, repl, cz, encR, encY, encS]; done) | (show chkGo _ _ _ _ _ = true; kernel_rfl)) | (simp [cloL, clo, catS, repl, cz, encR, encY, encS]; done) | skip)
        · intro k hk
          rcases Nat.lt_or_ge k X.members.length with hkl | hkl
          · obtain ⟨m, hmk⟩ : ∃ m, X.members[k]? = some m := ⟨_, List.getElem?_eq_getElem hkl⟩
            have om := hmm m (List.mem_of_getElem? hmk)
            have d38 := c38 m (by have := om.1; omega) (by have := om.2.1; omega)
            have hn1 := hnear k hkl
            have hA1 := hAat k hkl
            have hA2 := hAb _ (List.mem_of_getElem? hA1)
            rw [un_at hmk] at hn1
            have hu := om.units
            generalize (callsF X.members 6 (askF X.members []) N fun _ => 0).1 k = a at *
            have hg1 : ∀ {n : Nat} {e : SV}, n = k → (encYs X.members)[n]? = some e → e = encY m := by
              rintro n e rfl he
              obtain ⟨x, hx, rfl⟩ := encYs_at he
              rw [hmk] at hx; cases hx; rfl
            have hg2 : ∀ {n : Nat} {e : SV}, n = k → (ints A)[n]? = some e → e = .int .i64 a := by
              rintro n e rfl he
              obtain ⟨x, hx, rfl⟩ := ints_at he
              rw [hA1] at hx; cases hx; rfl
            have hp2 : 0 ≤ N * m.units ∧ N * m.units ≤ 1000010000 := ⟨Int.mul_nonneg hN.1 (by omega), by have := Int.mul_le_mul (a := N) (b := m.units) (c := 100001) (d := 10000) (by omega) (by omega) (by omega) (by omega); omega⟩
            (repeat' (first | (intro rx hrx; have hq := hres1 hrx (by omega); clear hrx) | (intro rx hrx; have hq := hres2 hrx (by omega); clear hrx) | (intro ex hex; have hq := hg1 (by omega) hex; subst hq; clear hex) | (intro ex hex; have hq := hg2 (by omega) hex; subst hq; clear hex) | (refine Ev.go ?_; conv => whnf) | refine And.intro ?_ ?_ | exact True.intro | exact rfl | (intro rx hrx; rw [IntWalk.i64_in _ (by omega)] at hrx) | (intro hcx; exfalso; omega) | intro _))
            all_goals (first | (refine ⟨?_⟩; first | rfl | exact List.cons_ne_nil _ _ | (show (_ : Nat) * _ ≤ _; simp [catS, repl, chunks, lz] <;> omega) | exact shS _ _ | exact shM _ | exact shN | exact encM_clo _ | exact ⟨rfl, rfl⟩ | exact ⟨rfl, rfl, rfl⟩ | omega | (simp only [lz]; omega) | (simp; omega) | (simp [cloL, clo, catS, repl, cz, encR, encY, encS]; done) | (show chkGo _ _ _ _ _ = true; kernel_rfl)) | (simp [cloL, clo, catS, repl, cz, encR, encY, encS]; done) | skip)
            refine TDq.pureC d38 (by simp [cloL, clo, encR, encY, encSoc, encT, encS, cz]) rfl (And.intro rfl rfl) ?_
            (repeat' (first | (intro rx hrx; have hq := hres1 hrx (by omega); clear hrx) | (intro rx hrx; have hq := hres2 hrx (by omega); clear hrx) | (intro ex hex; have hq := hg1 (by omega) hex; subst hq; clear hex) | (intro ex hex; have hq := hg2 (by omega) hex; subst hq; clear hex) | (refine Ev.go ?_; conv => whnf) | refine And.intro ?_ ?_ | exact True.intro | exact rfl | (intro rx hrx; rw [IntWalk.i64_in _ (by omega)] at hrx) | (intro hcx; exfalso; omega) | intro _))
            all_goals (first | (refine ⟨?_⟩; show chkGo _ _ _ _ _ = true; kernel_rfl) | (refine ⟨?_⟩; first | rfl | exact List.cons_ne_nil _ _ | (show (_ : Nat) * _ ≤ _; simp [catS, repl, chunks, lz] <;> omega) | exact shS _ _ | exact shM _ | exact shN | exact encM_clo _ | exact ⟨rfl, rfl⟩ | exact ⟨rfl, rfl, rfl⟩ | omega | (simp only [lz]; omega) | (simp; omega) | (simp [cloL, clo, catS, repl, cz, encR, encY, encS]; done) | (show chkGo _ _ _ _ _ = true; kernel_rfl)) | (simp [cloL, clo, catS, repl, cz, encR, encY, encS]; done) | skip)
            refine ⟨⟨k + 1, by omega, by omega, ?_⟩⟩
            (repeat' (first | (intro rx hrx; have hq := hres1 hrx (by omega); clear hrx) | (intro rx hrx; have hq := hres2 hrx (by omega); clear hrx) | (intro ex hex; have hq := hg1 (by omega) hex; subst hq; clear hex) | (intro ex hex; have hq := hg2 (by omega) hex; subst hq; clear hex) | (refine Ev.go ?_; conv => whnf) | refine And.intro ?_ ?_ | exact True.intro | exact rfl | (intro rx hrx; rw [IntWalk.i64_in _ (by omega)] at hrx) | (intro hcx; exfalso; omega) | intro _))
            all_goals (first | (refine ⟨?_⟩; first | rfl | exact List.cons_ne_nil _ _ | (show (_ : Nat) * _ ≤ _; simp [catS, repl, chunks, lz] <;> omega) | exact shS _ _ | exact shM _ | exact shN | exact encM_clo _ | exact ⟨rfl, rfl⟩ | exact ⟨rfl, rfl, rfl⟩ | omega | (simp only [lz]; omega) | (simp; omega) | (simp [cloL, clo, catS, repl, cz, encR, encY, encS]; done) | (show chkGo _ _ _ _ _ = true; kernel_rfl)) | (simp [cloL, clo, catS, repl, cz, encR, encY, encS]; done) | skip)
          · have hke : k = X.members.length := by omega
            subst hke
            (repeat' (first | (intro rx hrx; have hq := hres1 hrx (by omega); clear hrx) | (intro rx hrx; have hq := hres2 hrx (by omega); clear hrx) | (intro ex hex; have hq := hg1 (by omega) hex; subst hq; clear hex) | (intro ex hex; have hq := hg2 (by omega) hex; subst hq; clear hex) | (refine Ev.go ?_; conv => whnf) | refine And.intro ?_ ?_ | exact True.intro | exact rfl | (intro rx hrx; rw [IntWalk.i64_in _ (by omega)] at hrx) | (intro hcx; exfalso; omega) | intro _))
            all_goals (first | (refine ⟨?_⟩; first | rfl | exact List.cons_ne_nil _ _ | (show (_ : Nat) * _ ≤ _; simp [catS, repl, chunks, lz] <;> omega) | exact shS _ _ | exact shM _ | exact shN | exact encM_clo _ | exact ⟨rfl, rfl⟩ | exact ⟨rfl, rfl, rfl⟩ | omega | (simp only [lz]; omega) | (simp; omega) | (simp [cloL, clo, catS, repl, cz, encR, encY, encS]; done) | (show chkGo _ _ _ _ _ = true; kernel_rfl)) | (simp [cloL, clo, catS, repl, cz, encR, encY, encS]; done) | skip)
            by_cases hfY : fault Y = 0
            · rw [hfY] at c23Y
              rw [hYgood hfY] at d2
              dsimp only at d2
              refine TSq.pureC c23Y (by simp [cloL, clo, encYs_clo, encRs_clo]) rfl (And.intro rfl rfl) ?_
              (repeat' (first | (intro rx hrx; have hq := hres1 hrx (by omega); clear hrx) | (intro rx hrx; have hq := hres2 hrx (by omega); clear hrx) | (intro ex hex; have hq := hg1 (by omega) hex; subst hq; clear hex) | (intro ex hex; have hq := hg2 (by omega) hex; subst hq; clear hex) | (refine Ev.go ?_; conv => whnf) | refine And.intro ?_ ?_ | exact True.intro | exact rfl | (intro rx hrx; rw [IntWalk.i64_in _ (by omega)] at hrx) | (intro hcx; exfalso; omega) | intro _))
              refine TSq.pureC b2 (by simp [cloL, clo, encYs_clo, encRs_clo]) rfl (And.intro rfl rfl) ?_
              (repeat' (first | (intro rx hrx; have hq := hres1 hrx (by omega); clear hrx) | (intro rx hrx; have hq := hres2 hrx (by omega); clear hrx) | (intro ex hex; have hq := hg1 (by omega) hex; subst hq; clear hex) | (intro ex hex; have hq := hg2 (by omega) hex; subst hq; clear hex) | (refine Ev.go ?_; conv => whnf) | refine And.intro ?_ ?_ | exact True.intro | exact rfl | (intro rx hrx; rw [IntWalk.i64_in _ (by omega)] at hrx) | (intro hcx; exfalso; omega) | intro _))
              refine TSq.pureC d2 (by simp [cloL, clo, encYs_clo, encRs_clo]) rfl (And.intro rfl rfl) ?_
              (repeat' (first | (intro rx hrx; have hq := hres1 hrx (by omega); clear hrx) | (intro rx hrx; have hq := hres2 hrx (by omega); clear hrx) | (intro ex hex; have hq := hg1 (by omega) hex; subst hq; clear hex) | (intro ex hex; have hq := hg2 (by omega) hex; subst hq; clear hex) | (refine Ev.go ?_; conv => whnf) | refine And.intro ?_ ?_ | exact True.intro | exact rfl | (intro rx hrx; rw [IntWalk.i64_in _ (by omega)] at hrx) | (intro hcx; exfalso; omega) | intro _))
              refine TSq.pureC s1 (by simp [cloL, clo, encR, encY, encSoc, encT, encS, cz]) rfl (And.intro rfl rfl) ?_
              (repeat' (first | (intro rx hrx; have hq := hres1 hrx (by omega); clear hrx) | (intro rx hrx; have hq := hres2 hrx (by omega); clear hrx) | (intro ex hex; have hq := hg1 (by omega) hex; subst hq; clear hex) | (intro ex hex; have hq := hg2 (by omega) hex; subst hq; clear hex) | (refine Ev.go ?_; conv => whnf) | refine And.intro ?_ ?_ | exact True.intro | exact rfl | (intro rx hrx; rw [IntWalk.i64_in _ (by omega)] at hrx) | (intro hcx; exfalso; omega) | intro _))
              refine TSq.pureC c19 (by simp [cloL, clo, encR, encY, encSoc, encT, encS, cz]) rfl (And.intro rfl rfl) ?_
              (repeat' (first | (intro rx hrx; have hq := hres1 hrx (by omega); clear hrx) | (intro rx hrx; have hq := hres2 hrx (by omega); clear hrx) | (intro ex hex; have hq := hg1 (by omega) hex; subst hq; clear hex) | (intro ex hex; have hq := hg2 (by omega) hex; subst hq; clear hex) | (refine Ev.go ?_; conv => whnf) | refine And.intro ?_ ?_ | exact True.intro | exact rfl | (intro rx hrx; rw [IntWalk.i64_in _ (by omega)] at hrx) | (intro hcx; exfalso; omega) | intro _))
              try rfl
            · generalize fault Y = ft at *
              refine TSq.pureC c23Y (by simp [cloL, clo, encYs_clo, encRs_clo]) rfl (And.intro rfl rfl) ?_
              (repeat' (first | (intro rx hrx; have hq := hres1 hrx (by omega); clear hrx) | (intro rx hrx; have hq := hres2 hrx (by omega); clear hrx) | (intro ex hex; have hq := hg1 (by omega) hex; subst hq; clear hex) | (intro ex hex; have hq := hg2 (by omega) hex; subst hq; clear hex) | (refine Ev.go ?_; conv => whnf) | refine And.intro ?_ ?_ | exact True.intro | exact rfl | (intro rx hrx; rw [IntWalk.i64_in _ (by omega)] at hrx) | (intro hcx; exfalso; omega) | intro _))
              refine TSq.pureC c19 (by simp [cloL, clo, encR, encY, encSoc, encT, encS, cz]) rfl (And.intro rfl rfl) ?_
              (repeat' (first | (intro rx hrx; have hq := hres1 hrx (by omega); clear hrx) | (intro rx hrx; have hq := hres2 hrx (by omega); clear hrx) | (intro ex hex; have hq := hg1 (by omega) hex; subst hq; clear hex) | (intro ex hex; have hq := hg2 (by omega) hex; subst hq; clear hex) | (refine Ev.go ?_; conv => whnf) | refine And.intro ?_ ?_ | exact True.intro | exact rfl | (intro rx hrx; rw [IntWalk.i64_in _ (by omega)] at hrx) | (intro hcx; exfalso; omega) | intro _))
              try rfl
  · intro hr
    (repeat' (first | (refine Ev.go ?_; conv => whnf) | refine And.intro ?_ ?_ | exact True.intro | exact rfl | (intro rx hrx; rw [IntWalk.i64_in _ (by omega)] at hrx) | (intro hcx; exfalso; omega) | (intro hcx; exfalso; simp only [lz] at hcx; omega) | (intro ex hex; (first | obtain ⟨xx, hxx, rfl⟩ := ints_at hex | obtain ⟨xx, hxx, rfl⟩ := encYs_at hex | obtain ⟨xx, hxx, rfl⟩ := encRs_at hex); clear hex; try simp only [Int.toNat_natCast] at hxx) | intro _))
    refine TSq.pureC c19 (by simp [cloL, clo, encR, encY, encSoc, encT, encS, cz]) rfl (And.intro rfl rfl) ?_
    (repeat' (first | (refine Ev.go ?_; conv => whnf) | refine And.intro ?_ ?_ | exact True.intro | exact rfl | (intro rx hrx; rw [IntWalk.i64_in _ (by omega)] at hrx) | (intro hcx; exfalso; omega) | (intro hcx; exfalso; simp only [lz] at hcx; omega) | (intro ex hex; (first | obtain ⟨xx, hxx, rfl⟩ := ints_at hex | obtain ⟨xx, hxx, rfl⟩ := encYs_at hex | obtain ⟨xx, hxx, rfl⟩ := encRs_at hex); clear hex; try simp only [Int.toNat_natCast] at hxx) | intro _))
    try rfl
end Go.Proofs.Ythnaamkempmjkaa
