/- ZoneFalse: the false years for any class are as the document says. -/
import Derived.Test.YtelnonfenpjjcaaZA
import Derived.Test.YtelnonfenpjjcaaZB
import Derived.Test.YtelnonfenpjjcaaZw
set_option linter.unusedSimpArgs false
set_option linter.unusedVariables false
open Go Go.TV
namespace Go.Proofs.Ytelnonfenpjjcaa

theorem c67 (a b : List Int) (h1 : a.length ≤ 1000000) (h2 : b.length ≤ 1000000) : PF Try.prog 67 [.sl 1 (ints a), .sl 1 (ints b)] (· = .bool (shorter a b)) := by
  have ha := ints_len a
  have hb := ints_len b
  refine PF.of (TF.ev fn_67 (Ev.at ?_))
  (repeat' (first | (refine Ev.go ?_; conv => whnf) | refine And.intro ?_ ?_ | exact True.intro | exact rfl | (intro rx hrx; rw [IntWalk.i64_in _ (by omega)] at hrx) | (intro hcx; exfalso; omega) | (intro hcx; exfalso; simp only [ints_len, encYs_len] at hcx; omega) | (intro ex hex; (first | obtain ⟨xx, hxx, rfl⟩ := ints_at hex | obtain ⟨xx, hxx, rfl⟩ := encYs_at hex | obtain ⟨xx, hxx, rfl⟩ := encYs_cut hex); clear hex; try simp only [Int.toNat_natCast] at hxx) | intro _))
  all_goals (try (rw [SV.bool_iff]; simp [shorter]; omega))
  refine TSq.pureBC (c55 a b h1 h2) (by simp [cloL, clo, encR, encY, encRule, encZ, encS, ints_clo, encYs_clo]) rfl (And.intro rfl rfl) ?_ ?_ <;> intro hl
  all_goals
    (repeat' (first | (refine Ev.go ?_; conv => whnf) | refine And.intro ?_ ?_ | exact True.intro | exact rfl | (intro rx hrx; rw [IntWalk.i64_in _ (by omega)] at hrx) | (intro hcx; exfalso; omega) | (intro hcx; exfalso; simp only [ints_len, encYs_len] at hcx; omega) | (intro ex hex; (first | obtain ⟨xx, hxx, rfl⟩ := ints_at hex | obtain ⟨xx, hxx, rfl⟩ := encYs_at hex | obtain ⟨xx, hxx, rfl⟩ := encYs_cut hex); clear hex; try simp only [Int.toNat_natCast] at hxx) | intro _))
    rw [SV.bool_iff]; simp [shorter, hl]; try omega

set_option maxHeartbeats 4000000 in
set_option maxRecDepth 100000 in
theorem c66 (o : Nat) (ho : o < 1000) : PF Try.prog 66 [.int .i64 (o : Int)] (· = .sl 1 (ints (bitsN o 10))) := by
  refine SlN.pf (PF.of (TF.ev fn_66 (Ev.at ?_)))
  (repeat' (first | (refine Ev.go ?_; conv => whnf) | refine And.intro ?_ ?_ | exact True.intro | exact rfl | (intro rx hrx; rw [IntWalk.i64_in _ (by omega)] at hrx) | (intro hcx; exfalso; omega) | (intro hcx; exfalso; simp only [ints_len, encYs_len] at hcx; omega) | (intro ex hex; (first | obtain ⟨xx, hxx, rfl⟩ := ints_at hex | obtain ⟨xx, hxx, rfl⟩ := encYs_at hex | obtain ⟨xx, hxx, rfl⟩ := encYs_cut hex); clear hex; try simp only [Int.toNat_natCast] at hxx) | intro _))
  refine TWq.loopP (fun p : Nat × List Int => [(4, .int .i64 p.1), (3, match p.2 with | [] => .nils | _ :: _ => .own 0)])
    (fun p => [(0, match p.2 with | [] => .dead | _ :: _ => .arr 3 1 (ints p.2))])
    (fun p => p.1 ≤ 10 ∧ p.2 = bitsN o p.1) (fun p => 10 - p.1) (0, []) [] ?_ ⟨by omega, by simp [bitsN]⟩ ?_
  · (repeat' (first | (refine Ev.go ?_; conv => whnf) | refine And.intro ?_ ?_ | exact True.intro | exact rfl | (intro rx hrx; rw [IntWalk.i64_in _ (by omega)] at hrx) | (intro hcx; exfalso; omega) | (intro hcx; exfalso; simp only [ints_len, encYs_len] at hcx; omega) | (intro ex hex; (first | obtain ⟨xx, hxx, rfl⟩ := ints_at hex | obtain ⟨xx, hxx, rfl⟩ := encYs_at hex | obtain ⟨xx, hxx, rfl⟩ := encYs_cut hex); clear hex; try simp only [Int.toNat_natCast] at hxx) | intro _))
    all_goals (first | (refine ⟨?_⟩; first | rfl | exact List.cons_ne_nil _ _ | (show (_ : Nat) * _ ≤ _; simp [catS, repl, chunks, ints_len, encYs_len] <;> omega) | exact shS _ _ | exact shM _ | exact shN | exact encM_clo _ | exact ⟨rfl, rfl⟩ | exact ⟨rfl, rfl, rfl⟩ | omega | (simp only [ints_len, encYs_len]; omega) | (simp; omega) | (simp [cloL, clo, catS, repl, ints_clo, encYs_clo, encR, encY, encS]; done) | (show chkGo _ _ _ _ _ = true; kernel_rfl)) | (simp [cloL, clo, catS, repl, ints_clo, encYs_clo, encR, encY, encS]; done) | skip)
  · rintro ⟨k, out⟩ ⟨hk, hout⟩
    dsimp only at hk hout ⊢
    have hol : out.length ≤ 10 := by rw [hout]; simp only [bitsN, List.length_map]; exact Nat.le_trans (List.length_filter_le _ _) (by simp; omega)
    have hwrp : ∀ {x n : Int}, x = IntKind.u64.wrap n → n = k ∧ k ≤ 60 → x = (k : Int) := wrp_u
    have hshr : ∀ {x m : Int}, x = (o : Int).fdiv (2 ^ min m.toNat IntKind.i64.bits) → m = k ∧ k ≤ 60 → x = ((o >>> k : Nat) : Int) := shr_n
    have hbit0 : ∀ {x : Int}, x = ((o >>> k : Nat) : Int).tmod 2 → x = if bitN o k = true then 1 else 0 := bit_n
    have hsu := bitsN_succ o k
    have hz : o >>> k = 0 → bitsN o 10 = bitsN o k := fun h => by
      rw [Nat.shiftRight_eq_div_pow] at h
      have : o < 2 ^ k := by
        rcases Nat.lt_or_ge o (2 ^ k) with h1 | h1
        · exact h1
        · have := Nat.div_pos h1 (Nat.two_pow_pos k); omega
      rw [show 10 = k + (10 - k) by omega]; exact bitsN_more this _
    have hz10 : k = 10 → o >>> k = 0 := fun h => by
      subst h
      rw [Nat.shiftRight_eq_div_pow]; exact Nat.div_eq_of_lt (by omega)
    generalize hq : o >>> k = q at *
    cases hb : bitN o k
    all_goals
      have hbit := @hbit0
      rw [hb] at hbit hsu
      simp only [if_true, Bool.false_eq_true, if_false] at hbit hsu
      rcases out with _ | ⟨a, out⟩
      all_goals
        (try simp only [List.length_cons] at hol)
        (repeat' (first | (intro rx hrx; obtain rfl := hwrp hrx (by omega); clear hrx) | (intro rx hrx; obtain rfl := hshr hrx (by omega); clear hrx) | (intro rx hrx; obtain rfl := hbit hrx; clear hrx) | (refine Ev.go ?_; conv => whnf) | refine And.intro ?_ ?_ | exact True.intro | exact rfl | (intro rx hrx; rw [IntWalk.i64_in _ (by omega)] at hrx) | (intro hcx; exfalso; omega) | (intro hcx; exfalso; simp only [ints_len, encYs_len] at hcx; omega) | (intro ex hex; (first | obtain ⟨xx, hxx, rfl⟩ := ints_at hex | obtain ⟨xx, hxx, rfl⟩ := encYs_at hex | obtain ⟨xx, hxx, rfl⟩ := encYs_cut hex); clear hex; try simp only [Int.toNat_natCast] at hxx) | intro _))
        all_goals (first | (refine ⟨?_⟩; first | rfl | exact List.cons_ne_nil _ _ | (show (_ : Nat) * _ ≤ _; simp [catS, repl, chunks, ints_len, encYs_len] <;> omega) | exact shS _ _ | exact shM _ | exact shN | exact encM_clo _ | exact ⟨rfl, rfl⟩ | exact ⟨rfl, rfl, rfl⟩ | omega | (simp only [ints_len, encYs_len]; omega) | (simp; omega) | (simp [cloL, clo, catS, repl, ints_clo, encYs_clo, encR, encY, encS]; done) | (show chkGo _ _ _ _ _ = true; kernel_rfl)) | (simp [cloL, clo, catS, repl, ints_clo, encYs_clo, encR, encY, encS]; done) | skip)
        · have hk10 : k ≠ 10 := fun h => by have := hz10 h; omega
          first
            | (have hc : _ = bitsN o (k + 1) := hout.trans hsu.symm
               refine ⟨⟨[], (k + 1, _), ⟨by dsimp only; omega, hc⟩, by dsimp only; omega, ?_⟩⟩)
            | (have hc : _ ++ [(k : Int)] = bitsN o (k + 1) := (congrArg (· ++ [(k : Int)]) hout).trans hsu.symm
               refine ⟨⟨[(0, 2)], (k + 1, _), ⟨by dsimp only; omega, hc⟩, by dsimp only; omega, ?_⟩⟩)
          (repeat' (first | (refine Ev.go ?_; conv => whnf) | refine And.intro ?_ ?_ | exact True.intro | exact rfl | (intro rx hrx; rw [IntWalk.i64_in _ (by omega)] at hrx) | (intro hcx; exfalso; omega) | (intro hcx; exfalso; simp only [ints_len, encYs_len] at hcx; omega) | (intro ex hex; (first | obtain ⟨xx, hxx, rfl⟩ := ints_at hex | obtain ⟨xx, hxx, rfl⟩ := encYs_at hex | obtain ⟨xx, hxx, rfl⟩ := encYs_cut hex); clear hex; try simp only [Int.toNat_natCast] at hxx) | intro _))
          all_goals (first | (refine ⟨?_⟩; first | rfl | exact List.cons_ne_nil _ _ | (show (_ : Nat) * _ ≤ _; simp [catS, repl, chunks, ints_len, encYs_len] <;> omega) | exact shS _ _ | exact shM _ | exact shN | exact encM_clo _ | exact ⟨rfl, rfl⟩ | exact ⟨rfl, rfl, rfl⟩ | omega | (simp only [ints_len, encYs_len]; omega) | (simp; omega) | (simp [cloL, clo, catS, repl, ints_clo, encYs_clo, encR, encY, encS]; done) | (show chkGo _ _ _ _ _ = true; kernel_rfl)) | (simp [cloL, clo, catS, repl, ints_clo, encYs_clo, encR, encY, encS]; done) | skip)
          all_goals (try (refine ⟨?_⟩; simp [ints, catS, repl]; done))
        · have hq0 : q = 0 := by omega
          rw [← hz hq0] at hout
          first | exact .inr ⟨hout.symm, rfl⟩ | exact .inl (by rw [← hout]; first | done | rfl)
end Go.Proofs.Ytelnonfenpjjcaa
