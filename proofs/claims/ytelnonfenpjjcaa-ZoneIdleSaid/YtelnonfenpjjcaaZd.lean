/- What a list contains; what the kinds of years do. -/
import Derived.Test.YtelnonfenpjjcaaZc
set_option linter.unusedSimpArgs false
set_option linter.unusedVariables false
open Go Go.TV
namespace Go.Proofs.Ytelnonfenpjjcaa

theorem c91 (l : List Int) (n : Int) (hlen : l.length ≤ 1000000) : PF Try.prog 91 [.sl 1 (ints l), .int .i64 n] fun s => ∃ i : Int, s = .int .i64 i ∧ (0 ≤ i ↔ l.contains n = true) := by
  have hz := ints_len l
  refine PF.of (TF.ev fn_91 (Ev.at ?_))
  (repeat' (first | (refine Ev.go ?_; conv => whnf) | refine And.intro ?_ ?_ | exact True.intro | exact rfl | (intro rx hrx; rw [IntWalk.i64_in _ (by omega)] at hrx) | (intro hcx; exfalso; omega) | (intro hcx; exfalso; simp only [ints_len, encYs_len] at hcx; omega) | (intro ex hex; (first | obtain ⟨xx, hxx, rfl⟩ := ints_at hex | obtain ⟨xx, hxx, rfl⟩ := encYs_at hex | obtain ⟨xx, hxx, rfl⟩ := encYs_cut hex); clear hex; try simp only [Int.toNat_natCast] at hxx) | intro _))
  refine TWq.loop (fun k : Nat => [(8, .int .i64 k)]) (fun _ => []) (fun k => k ≤ l.length ∧ n ∉ l.take k) (fun k => l.length - k) 0 [] [] ?_ ⟨by omega, by simp⟩ ?_
  · (repeat' (first | (refine Ev.go ?_; conv => whnf) | refine And.intro ?_ ?_ | exact True.intro | exact rfl | (intro rx hrx; rw [IntWalk.i64_in _ (by omega)] at hrx) | (intro hcx; exfalso; omega) | (intro hcx; exfalso; simp only [ints_len, encYs_len] at hcx; omega) | (intro ex hex; (first | obtain ⟨xx, hxx, rfl⟩ := ints_at hex | obtain ⟨xx, hxx, rfl⟩ := encYs_at hex | obtain ⟨xx, hxx, rfl⟩ := encYs_cut hex); clear hex; try simp only [Int.toNat_natCast] at hxx) | intro _))
    all_goals (first | (refine ⟨?_⟩; first | rfl | exact List.cons_ne_nil _ _ | (show (_ : Nat) * _ ≤ _; simp [catS, repl, chunks, ints_len, encYs_len] <;> omega) | exact shS _ _ | exact shM _ | exact shN | exact encM_clo _ | exact ⟨rfl, rfl⟩ | exact ⟨rfl, rfl, rfl⟩ | omega | (simp only [ints_len, encYs_len]; omega) | (simp; omega) | (simp [cloL, clo, catS, repl, ints_clo, encYs_clo, encR, encY, encS]; done) | (show chkGo _ _ _ _ _ = true; kernel_rfl)) | (simp [cloL, clo, catS, repl, ints_clo, encYs_clo, encR, encY, encS]; done) | skip)
  · rintro k ⟨hk1, hk2⟩
    (repeat' (first | (refine Ev.go ?_; conv => whnf) | refine And.intro ?_ ?_ | exact True.intro | exact rfl | (intro rx hrx; rw [IntWalk.i64_in _ (by omega)] at hrx) | (intro hcx; exfalso; omega) | (intro hcx; exfalso; simp only [ints_len, encYs_len] at hcx; omega) | (intro ex hex; (first | obtain ⟨xx, hxx, rfl⟩ := ints_at hex | obtain ⟨xx, hxx, rfl⟩ := encYs_at hex | obtain ⟨xx, hxx, rfl⟩ := encYs_cut hex); clear hex; try simp only [Int.toNat_natCast] at hxx) | intro _))
    all_goals (try (refine ⟨?_⟩; first | omega | exact List.cons_ne_nil _ _ | (show (_ : Nat) * _ ≤ _; simp [catS, repl, chunks, ints_len, encYs_len] <;> omega)))
    · refine ⟨k, rfl, ?_⟩
      have : n ∈ l := by have := List.mem_of_getElem? hxx; simp_all
      simp [this]
    · refine ⟨k + 1, ⟨by omega, ?_⟩, by omega, ?_⟩
      · rw [take_snoc hxx]; simp_all
      · (repeat' (first | (refine Ev.go ?_; conv => whnf) | refine And.intro ?_ ?_ | exact True.intro | exact rfl | (intro rx hrx; rw [IntWalk.i64_in _ (by omega)] at hrx) | (intro hcx; exfalso; omega) | (intro hcx; exfalso; simp only [ints_len, encYs_len] at hcx; omega) | (intro ex hex; (first | obtain ⟨xx, hxx, rfl⟩ := ints_at hex | obtain ⟨xx, hxx, rfl⟩ := encYs_at hex | obtain ⟨xx, hxx, rfl⟩ := encYs_cut hex); clear hex; try simp only [Int.toNat_natCast] at hxx) | intro _))
        all_goals (first | (refine ⟨?_⟩; first | rfl | exact List.cons_ne_nil _ _ | (show (_ : Nat) * _ ≤ _; simp [catS, repl, chunks, ints_len, encYs_len] <;> omega) | exact shS _ _ | exact shM _ | exact shN | exact encM_clo _ | exact ⟨rfl, rfl⟩ | exact ⟨rfl, rfl, rfl⟩ | omega | (simp only [ints_len, encYs_len]; omega) | (simp; omega) | (simp [cloL, clo, catS, repl, ints_clo, encYs_clo, encR, encY, encS]; done) | (show chkGo _ _ _ _ _ = true; kernel_rfl)) | (simp [cloL, clo, catS, repl, ints_clo, encYs_clo, encR, encY, encS]; done) | skip)
    · have : k = l.length := by omega
      subst this
      rw [List.take_length] at hk2
      exact ⟨-1, rfl, by simp [hk2]⟩

theorem c77 (l : List Int) (n : Int) (hlen : l.length ≤ 1000000) : PF Try.prog 77 [.sl 1 (ints l), .int .i64 n] (· = .bool (l.contains n)) := by
  refine PF.of (TF.ev fn_77 (Ev.at ?_))
  (repeat' (first | (refine Ev.go ?_; conv => whnf) | refine And.intro ?_ ?_ | exact True.intro | exact rfl | (intro rx hrx; rw [IntWalk.i64_in _ (by omega)] at hrx) | (intro hcx; exfalso; omega) | (intro hcx; exfalso; simp only [ints_len, encYs_len] at hcx; omega) | (intro ex hex; (first | obtain ⟨xx, hxx, rfl⟩ := ints_at hex | obtain ⟨xx, hxx, rfl⟩ := encYs_at hex | obtain ⟨xx, hxx, rfl⟩ := encYs_cut hex); clear hex; try simp only [Int.toNat_natCast] at hxx) | intro _))
  refine TSq.pureQ rfl (c91 l n hlen) (by simp [cloL, clo, encR, encY, encRule, encZ, encS, ints_clo, encYs_clo]) rfl (And.intro rfl rfl) ?_
  rintro s ⟨i, rfl, hi⟩ _
  (repeat' (first | (refine Ev.go ?_; conv => whnf) | refine And.intro ?_ ?_ | exact True.intro | exact rfl | (intro rx hrx; rw [IntWalk.i64_in _ (by omega)] at hrx) | (intro hcx; exfalso; omega) | (intro hcx; exfalso; simp only [ints_len, encYs_len] at hcx; omega) | (intro ex hex; (first | obtain ⟨xx, hxx, rfl⟩ := ints_at hex | obtain ⟨xx, hxx, rfl⟩ := encYs_at hex | obtain ⟨xx, hxx, rfl⟩ := encYs_cut hex); clear hex; try simp only [Int.toNat_natCast] at hxx) | intro _))
  all_goals (rw [SV.bool_iff]; rw [← hi]; simp; omega)

theorem c70 : PF Try.prog 70 [] (· = .agg [.fn 82 [] [], .fn 83 [] [], .fn 84 [] [], .fn 85 [] []]) := by
  refine PF.of (TF.ev fn_70 (Ev.at ?_))
  (repeat' (first | (refine Ev.go ?_; conv => whnf) | refine And.intro ?_ ?_ | exact True.intro | exact rfl | (intro rx hrx; rw [IntWalk.i64_in _ (by omega)] at hrx) | (intro hcx; exfalso; omega) | (intro hcx; exfalso; simp only [ints_len, encYs_len] at hcx; omega) | (intro ex hex; (first | obtain ⟨xx, hxx, rfl⟩ := ints_at hex | obtain ⟨xx, hxx, rfl⟩ := encYs_at hex | obtain ⟨xx, hxx, rfl⟩ := encYs_cut hex); clear hex; try simp only [Int.toNat_natCast] at hxx) | intro _))
end Go.Proofs.Ytelnonfenpjjcaa
