/- What is valid, as the document says. -/
import Derived.Test.YtelnonfenpjjcaaZn
set_option linter.unusedSimpArgs false
set_option linter.unusedVariables false
open Go Go.TV
namespace Go.Proofs.Ytelnonfenpjjcaa

theorem fault_3 {r : Rule} {z : Zone} (h : 6 < r.classes ∨ 6 < z.years.length) : fault r z = 3 := by rw [fault, if_pos h]
theorem fault_1 {r : Rule} {z : Zone} (h : ¬ (6 < r.classes ∨ 6 < z.years.length)) (h' : r.valid = false ∨ within z.first 0 (r.classes - 1) = false ∨ z.years.all Year.valid = false) : fault r z = 1 := by
  rw [fault, if_neg h, if_neg]
  rintro ⟨h1, h2, h3⟩
  rcases h' with h' | h' | h' <;> simp_all
theorem fault_0 {r : Rule} {z : Zone} (h : ¬ (6 < r.classes ∨ 6 < z.years.length)) (h1 : r.valid = true) (h2 : within z.first 0 (r.classes - 1) = true) (h3 : z.years.all Year.valid = true) : fault r z = 0 := by
  rw [fault, if_neg h, if_pos ⟨h1, h2, h3⟩]
theorem all_false {α : Type} {l : List α} {p : α → Bool} {k : Nat} {x : α} (h : l[k]? = some x) (hp : p x = false) : l.all p = false := by
  rw [List.all_eq_false]
  exact ⟨x, List.mem_of_getElem? h, by simp [hp]⟩
theorem lastOf_take {a : Int} {l : List Int} {k : Nat} {x : Int} (h : l[k]? = some x) : lastOf a (l.take (k + 1)) = x := by rw [take_snoc h, lastOf_append]

theorem upTo_last : ∀ {a : Int} {l : List Int}, upTo a l = true → a ≤ lastOf a l
  | a, [], _ => Int.le_refl _
  | a, n :: l, h => by
    simp only [upTo, within, Bool.and_eq_true, decide_eq_true_eq] at h
    have := upTo_last h.2
    simp only [lastOf]; omega
theorem lastOf_prev {a : Int} {l : List Int} {k : Nat} {x : Int} (h0 : 0 < k) (h : l[k - 1]? = some x) : lastOf a (l.take k) = x := by
  have := lastOf_take (a := a) h
  rwa [show k - 1 + 1 = k by omega] at this

set_option maxHeartbeats 4000000 in
set_option maxRecDepth 100000 in
theorem c60 (r : Rule) (z : Zone) : PF Try.prog 60 [encRule r, encZ z] (· = .int .i64 (fault r z)) := by
  have hz := encYs_len z.years
  have hp := ints_len r.price
  refine PF.of (TF.ev fn_60 (Ev.at ?_))
  (repeat' (first | (refine Ev.go ?_; conv => whnf) | refine And.intro ?_ ?_ | exact True.intro | exact rfl | (intro rx hrx; rw [IntWalk.i64_in _ (by omega)] at hrx) | (intro hcx; exfalso; omega) | (intro hcx; exfalso; simp only [ints_len, encYs_len] at hcx; omega) | (intro ex hex; (first | obtain ⟨xx, hxx, rfl⟩ := ints_at hex | obtain ⟨xx, hxx, rfl⟩ := encYs_at hex | obtain ⟨xx, hxx, rfl⟩ := encYs_cut hex); clear hex; try simp only [Int.toNat_natCast] at hxx) | intro _))
  all_goals (try (rw [fault_3 (by omega)]; done))
  all_goals (try (rw [fault_1 (by omega) (.inl (by simp [Rule.valid]; omega))]; done))
  refine TSq.pureBC (c34 _ _ _) (by simp [cloL, clo, encR, encY, encRule, encZ, encS, ints_clo, encYs_clo]) rfl (And.intro rfl rfl) ?_ ?_ <;> intro w1 <;> (repeat' (first | (refine Ev.go ?_; conv => whnf) | refine And.intro ?_ ?_ | exact True.intro | exact rfl | (intro rx hrx; rw [IntWalk.i64_in _ (by omega)] at hrx) | (intro hcx; exfalso; omega) | (intro hcx; exfalso; simp only [ints_len, encYs_len] at hcx; omega) | (intro ex hex; (first | obtain ⟨xx, hxx, rfl⟩ := ints_at hex | obtain ⟨xx, hxx, rfl⟩ := encYs_at hex | obtain ⟨xx, hxx, rfl⟩ := encYs_cut hex); clear hex; try simp only [Int.toNat_natCast] at hxx) | intro _))
  all_goals (try (rw [fault_1 (by omega) (.inl (by simp [within] at w1; simp [Rule.valid]; omega))]; done))
  refine TSq.pureBC (c34 _ _ _) (by simp [cloL, clo, encR, encY, encRule, encZ, encS, ints_clo, encYs_clo]) rfl (And.intro rfl rfl) ?_ ?_ <;> intro w2 <;> (repeat' (first | (refine Ev.go ?_; conv => whnf) | refine And.intro ?_ ?_ | exact True.intro | exact rfl | (intro rx hrx; rw [IntWalk.i64_in _ (by omega)] at hrx) | (intro hcx; exfalso; omega) | (intro hcx; exfalso; simp only [ints_len, encYs_len] at hcx; omega) | (intro ex hex; (first | obtain ⟨xx, hxx, rfl⟩ := ints_at hex | obtain ⟨xx, hxx, rfl⟩ := encYs_at hex | obtain ⟨xx, hxx, rfl⟩ := encYs_cut hex); clear hex; try simp only [Int.toNat_natCast] at hxx) | intro _))
  all_goals (try (rw [fault_1 (by omega) (.inl (by simp [Rule.valid, w2]))]; done))
  refine TSq.pureBC (c34 _ _ _) (by simp [cloL, clo, encR, encY, encRule, encZ, encS, ints_clo, encYs_clo]) rfl (And.intro rfl rfl) ?_ ?_ <;> intro w3 <;> (repeat' (first | (refine Ev.go ?_; conv => whnf) | refine And.intro ?_ ?_ | exact True.intro | exact rfl | (intro rx hrx; rw [IntWalk.i64_in _ (by omega)] at hrx) | (intro hcx; exfalso; omega) | (intro hcx; exfalso; simp only [ints_len, encYs_len] at hcx; omega) | (intro ex hex; (first | obtain ⟨xx, hxx, rfl⟩ := ints_at hex | obtain ⟨xx, hxx, rfl⟩ := encYs_at hex | obtain ⟨xx, hxx, rfl⟩ := encYs_cut hex); clear hex; try simp only [Int.toNat_natCast] at hxx) | intro _))
  all_goals (try (rw [fault_1 (by omega) (.inl (by simp [Rule.valid, w3]))]; done))
  rename_i rx hrx
  subst hrx
  refine TSq.pureBC (c34 _ _ _) (by simp [cloL, clo, encR, encY, encRule, encZ, encS, ints_clo, encYs_clo]) rfl (And.intro rfl rfl) ?_ ?_ <;> intro w4 <;> (repeat' (first | (refine Ev.go ?_; conv => whnf) | refine And.intro ?_ ?_ | exact True.intro | exact rfl | (intro rx hrx; rw [IntWalk.i64_in _ (by omega)] at hrx) | (intro hcx; exfalso; omega) | (intro hcx; exfalso; simp only [ints_len, encYs_len] at hcx; omega) | (intro ex hex; (first | obtain ⟨xx, hxx, rfl⟩ := ints_at hex | obtain ⟨xx, hxx, rfl⟩ := encYs_at hex | obtain ⟨xx, hxx, rfl⟩ := encYs_cut hex); clear hex; try simp only [Int.toNat_natCast] at hxx) | intro _))
  all_goals (try (rw [fault_1 (by omega) (.inr (.inl w4))]; done))
  have hF : ∀ b, r.price.length = r.classes → upTo 1 r.price = b → r.valid = b := by
    intro b h1 h2
    simp only [within, decide_eq_true_eq] at w1
    simp only [Rule.valid, h2, w2, w3]
    cases b <;> simp <;> omega
  refine TWq.loop (fun k : Nat => [(5, .int .i64 k)]) (fun k => []) (fun k => k ≤ r.price.length ∧ upTo 1 (r.price.take k) = true) (fun k => r.price.length - k) 0 [] [] ?_ ⟨by omega, by simp [upTo]⟩ ?_
  · (repeat' (first | (refine Ev.go ?_; conv => whnf) | refine And.intro ?_ ?_ | exact True.intro | exact rfl | (intro rx hrx; rw [IntWalk.i64_in _ (by omega)] at hrx) | (intro hcx; exfalso; omega) | (intro hcx; exfalso; simp only [ints_len, encYs_len] at hcx; omega) | (intro ex hex; (first | obtain ⟨xx, hxx, rfl⟩ := ints_at hex | obtain ⟨xx, hxx, rfl⟩ := encYs_at hex | obtain ⟨xx, hxx, rfl⟩ := encYs_cut hex); clear hex; try simp only [Int.toNat_natCast] at hxx) | intro _))
    all_goals (first | (refine ⟨?_⟩; first | rfl | exact List.cons_ne_nil _ _ | (show (_ : Nat) * _ ≤ _; simp [catS, repl, chunks, ints_len, encYs_len] <;> omega) | exact shS _ _ | exact shM _ | exact shN | exact encM_clo _ | exact ⟨rfl, rfl⟩ | exact ⟨rfl, rfl, rfl⟩ | omega | (simp only [ints_len, encYs_len]; omega) | (simp; omega) | (simp [cloL, clo, catS, repl, ints_clo, encYs_clo, encR, encY, encS]; done) | (show chkGo _ _ _ _ _ = true; kernel_rfl)) | (simp [cloL, clo, catS, repl, ints_clo, encYs_clo, encR, encY, encS]; done) | skip)
  · rintro k ⟨hk1, hk2⟩
    (repeat' (first | (refine Ev.go ?_; conv => whnf) | refine And.intro ?_ ?_ | exact True.intro | exact rfl | (intro rx hrx; rw [IntWalk.i64_in _ (by omega)] at hrx) | (intro hcx; exfalso; omega) | (intro hcx; exfalso; simp only [ints_len, encYs_len] at hcx; omega) | (intro ex hex; (first | obtain ⟨xx, hxx, rfl⟩ := ints_at hex | obtain ⟨xx, hxx, rfl⟩ := encYs_at hex | obtain ⟨xx, hxx, rfl⟩ := encYs_cut hex); clear hex; try simp only [Int.toNat_natCast] at hxx) | intro _))
    all_goals (try (refine ⟨?_⟩; first | omega | exact List.cons_ne_nil _ _ | (show (_ : Nat) * _ ≤ _; simp [catS, repl, chunks, ints_len, encYs_len] <;> omega)))
    · have hbig := upTo_last hk2
      have hv : within xx (lastOf 1 (r.price.take k)) 10000 = false → r.valid = false := fun h => hF _ (by omega) (upTo_false hxx h)
      have hgo : within xx (lastOf 1 (r.price.take k)) 10000 = true → upTo 1 (r.price.take (k + 1)) = true := fun h => by
        rw [take_snoc hxx, upTo_append]; simp [upTo, hk2, h]
      have hxk := hxx
      generalize xx = x0 at *
      refine TDq.pureBC (c34 x0 1 10000) (by simp [cloL, clo, encR, encY, encRule, encZ, encS, ints_clo, encYs_clo]) rfl (And.intro rfl rfl) ?_ ?_
      · intro hw
        simp only [within, decide_eq_true_eq] at hw
        (repeat' (first | (refine Ev.go ?_; conv => whnf) | refine And.intro ?_ ?_ | exact True.intro | exact rfl | (intro rx hrx; rw [IntWalk.i64_in _ (by omega)] at hrx) | (intro hcx; exfalso; omega) | (intro hcx; exfalso; simp only [ints_len, encYs_len] at hcx; omega) | (intro ex hex; (first | obtain ⟨xx, hxx, rfl⟩ := ints_at hex | obtain ⟨xx, hxx, rfl⟩ := encYs_at hex | obtain ⟨xx, hxx, rfl⟩ := encYs_cut hex); clear hex; try simp only [Int.toNat_natCast] at hxx) | intro _))
        all_goals (first | (refine ⟨?_⟩; first | rfl | exact List.cons_ne_nil _ _ | (show (_ : Nat) * _ ≤ _; simp [catS, repl, chunks, ints_len, encYs_len] <;> omega) | exact shS _ _ | exact shM _ | exact shN | exact encM_clo _ | exact ⟨rfl, rfl⟩ | exact ⟨rfl, rfl, rfl⟩ | omega | (simp only [ints_len, encYs_len]; omega) | (simp; omega) | (simp [cloL, clo, catS, repl, ints_clo, encYs_clo, encR, encY, encS]; done) | (show chkGo _ _ _ _ _ = true; kernel_rfl)) | (simp [cloL, clo, catS, repl, ints_clo, encYs_clo, encR, encY, encS]; done) | skip)
        · rename_i hk0 x1 hx1 hlt
          cases hxk.symm.trans hx1
          have e1 := lastOf_prev (a := 1) (l := r.price) (k := k) (by omega) (show r.price[k - 1]? = some xx by rw [← hxx]; congr 1; omega)
          rw [fault_1 (by omega) (.inl (hv (by rw [e1]; simp [within]; omega)))]
        · rename_i hk0 x1 hx1 r1 hr hlt
          cases hxk.symm.trans hx1
          have e1 := lastOf_prev (a := 1) (l := r.price) (k := k) (by omega) (show r.price[k - 1]? = some xx by rw [← hxx]; congr 1; omega)
          refine ⟨⟨k + 1, ⟨by omega, hgo (by rw [e1]; simp [within]; omega)⟩, by omega, ?_⟩⟩
          (repeat' (first | (refine Ev.go ?_; conv => whnf) | refine And.intro ?_ ?_ | exact True.intro | exact rfl | (intro rx hrx; rw [IntWalk.i64_in _ (by omega)] at hrx) | (intro hcx; exfalso; omega) | (intro hcx; exfalso; simp only [ints_len, encYs_len] at hcx; omega) | (intro ex hex; (first | obtain ⟨xx, hxx, rfl⟩ := ints_at hex | obtain ⟨xx, hxx, rfl⟩ := encYs_at hex | obtain ⟨xx, hxx, rfl⟩ := encYs_cut hex); clear hex; try simp only [Int.toNat_natCast] at hxx) | intro _))
          all_goals (first | (refine ⟨?_⟩; first | rfl | exact List.cons_ne_nil _ _ | (show (_ : Nat) * _ ≤ _; simp [catS, repl, chunks, ints_len, encYs_len] <;> omega) | exact shS _ _ | exact shM _ | exact shN | exact encM_clo _ | exact ⟨rfl, rfl⟩ | exact ⟨rfl, rfl, rfl⟩ | omega | (simp only [ints_len, encYs_len]; omega) | (simp; omega) | (simp [cloL, clo, catS, repl, ints_clo, encYs_clo, encR, encY, encS]; done) | (show chkGo _ _ _ _ _ = true; kernel_rfl)) | (simp [cloL, clo, catS, repl, ints_clo, encYs_clo, encR, encY, encS]; done) | skip)
        · rename_i hk0
          have : k = 0 := by omega
          subst this
          refine ⟨⟨0 + 1, ⟨by omega, hgo (by simp [within, lastOf]; omega)⟩, by omega, ?_⟩⟩
          (repeat' (first | (refine Ev.go ?_; conv => whnf) | refine And.intro ?_ ?_ | exact True.intro | exact rfl | (intro rx hrx; rw [IntWalk.i64_in _ (by omega)] at hrx) | (intro hcx; exfalso; omega) | (intro hcx; exfalso; simp only [ints_len, encYs_len] at hcx; omega) | (intro ex hex; (first | obtain ⟨xx, hxx, rfl⟩ := ints_at hex | obtain ⟨xx, hxx, rfl⟩ := encYs_at hex | obtain ⟨xx, hxx, rfl⟩ := encYs_cut hex); clear hex; try simp only [Int.toNat_natCast] at hxx) | intro _))
          all_goals (first | (refine ⟨?_⟩; first | rfl | exact List.cons_ne_nil _ _ | (show (_ : Nat) * _ ≤ _; simp [catS, repl, chunks, ints_len, encYs_len] <;> omega) | exact shS _ _ | exact shM _ | exact shN | exact encM_clo _ | exact ⟨rfl, rfl⟩ | exact ⟨rfl, rfl, rfl⟩ | omega | (simp only [ints_len, encYs_len]; omega) | (simp; omega) | (simp [cloL, clo, catS, repl, ints_clo, encYs_clo, encR, encY, encS]; done) | (show chkGo _ _ _ _ _ = true; kernel_rfl)) | (simp [cloL, clo, catS, repl, ints_clo, encYs_clo, encR, encY, encS]; done) | skip)
      · intro hw
        (repeat' (first | (refine Ev.go ?_; conv => whnf) | refine And.intro ?_ ?_ | exact True.intro | exact rfl | (intro rx hrx; rw [IntWalk.i64_in _ (by omega)] at hrx) | (intro hcx; exfalso; omega) | (intro hcx; exfalso; simp only [ints_len, encYs_len] at hcx; omega) | (intro ex hex; (first | obtain ⟨xx, hxx, rfl⟩ := ints_at hex | obtain ⟨xx, hxx, rfl⟩ := encYs_at hex | obtain ⟨xx, hxx, rfl⟩ := encYs_cut hex); clear hex; try simp only [Int.toNat_natCast] at hxx) | intro _))
        all_goals (first | (refine ⟨?_⟩; first | rfl | exact List.cons_ne_nil _ _ | (show (_ : Nat) * _ ≤ _; simp [catS, repl, chunks, ints_len, encYs_len] <;> omega) | exact shS _ _ | exact shM _ | exact shN | exact encM_clo _ | exact ⟨rfl, rfl⟩ | exact ⟨rfl, rfl, rfl⟩ | omega | (simp only [ints_len, encYs_len]; omega) | (simp; omega) | (simp [cloL, clo, catS, repl, ints_clo, encYs_clo, encR, encY, encS]; done) | (show chkGo _ _ _ _ _ = true; kernel_rfl)) | (simp [cloL, clo, catS, repl, ints_clo, encYs_clo, encR, encY, encS]; done) | skip)
        rw [fault_1 (by omega) (.inl (hv (by simp [within] at hw ⊢; omega)))]
    all_goals (first | (refine ⟨?_⟩; first | rfl | exact List.cons_ne_nil _ _ | (show (_ : Nat) * _ ≤ _; simp [catS, repl, chunks, ints_len, encYs_len] <;> omega) | exact shS _ _ | exact shM _ | exact shN | exact encM_clo _ | exact ⟨rfl, rfl⟩ | exact ⟨rfl, rfl, rfl⟩ | omega | (simp only [ints_len, encYs_len]; omega) | (simp; omega) | (simp [cloL, clo, catS, repl, ints_clo, encYs_clo, encR, encY, encS]; done) | (show chkGo _ _ _ _ _ = true; kernel_rfl)) | (simp [cloL, clo, catS, repl, ints_clo, encYs_clo, encR, encY, encS]; done) | skip)
    have hk : k = r.price.length := by omega
    subst hk
    rw [List.take_length] at hk2
    have hv := hF _ (by omega) hk2
    refine TWq.loop (fun k : Nat => [(6, .int .i64 k), (7, .junk)]) (fun k => []) (fun k => k ≤ z.years.length ∧ (z.years.take k).all Year.valid = true) (fun k => z.years.length - k) 0 [] [] ?_ ⟨by omega, by simp⟩ ?_
    · (repeat' (first | (refine Ev.go ?_; conv => whnf) | refine And.intro ?_ ?_ | exact True.intro | exact rfl | (intro rx hrx; rw [IntWalk.i64_in _ (by omega)] at hrx) | (intro hcx; exfalso; omega) | (intro hcx; exfalso; simp only [ints_len, encYs_len] at hcx; omega) | (intro ex hex; (first | obtain ⟨xx, hxx, rfl⟩ := ints_at hex | obtain ⟨xx, hxx, rfl⟩ := encYs_at hex | obtain ⟨xx, hxx, rfl⟩ := encYs_cut hex); clear hex; try simp only [Int.toNat_natCast] at hxx) | intro _))
      all_goals (first | (refine ⟨?_⟩; first | rfl | exact List.cons_ne_nil _ _ | (show (_ : Nat) * _ ≤ _; simp [catS, repl, chunks, ints_len, encYs_len] <;> omega) | exact shS _ _ | exact shM _ | exact shN | exact encM_clo _ | exact ⟨rfl, rfl⟩ | exact ⟨rfl, rfl, rfl⟩ | omega | (simp only [ints_len, encYs_len]; omega) | (simp; omega) | (simp [cloL, clo, catS, repl, ints_clo, encYs_clo, encR, encY, encS]; done) | (show chkGo _ _ _ _ _ = true; kernel_rfl)) | (simp [cloL, clo, catS, repl, ints_clo, encYs_clo, encR, encY, encS]; done) | skip)
    · rintro k ⟨hk1, hk3⟩
      (repeat' (first | (refine Ev.go ?_; conv => whnf) | refine And.intro ?_ ?_ | exact True.intro | exact rfl | (intro rx hrx; rw [IntWalk.i64_in _ (by omega)] at hrx) | (intro hcx; exfalso; omega) | (intro hcx; exfalso; simp only [ints_len, encYs_len] at hcx; omega) | (intro ex hex; (first | obtain ⟨xx, hxx, rfl⟩ := ints_at hex | obtain ⟨xx, hxx, rfl⟩ := encYs_at hex | obtain ⟨xx, hxx, rfl⟩ := encYs_cut hex); clear hex; try simp only [Int.toNat_natCast] at hxx) | intro _))
      all_goals (try (refine ⟨?_⟩; first | omega | exact List.cons_ne_nil _ _ | (show (_ : Nat) * _ ≤ _; simp [catS, repl, chunks, ints_len, encYs_len] <;> omega)))
      · have hbad : xx.valid = false → fault r z = 1 := fun h => fault_1 (by omega) (.inr (.inr (all_false hxx h)))
        refine TSq.pureBC (c80 xx.l) (by simp [cloL, clo, encR, encY, encRule, encZ, encS, ints_clo, encYs_clo]) rfl (And.intro rfl rfl) ?_ ?_ <;> intro v1 <;> (repeat' (first | (refine Ev.go ?_; conv => whnf) | refine And.intro ?_ ?_ | exact True.intro | exact rfl | (intro rx hrx; rw [IntWalk.i64_in _ (by omega)] at hrx) | (intro hcx; exfalso; omega) | (intro hcx; exfalso; simp only [ints_len, encYs_len] at hcx; omega) | (intro ex hex; (first | obtain ⟨xx, hxx, rfl⟩ := ints_at hex | obtain ⟨xx, hxx, rfl⟩ := encYs_at hex | obtain ⟨xx, hxx, rfl⟩ := encYs_cut hex); clear hex; try simp only [Int.toNat_natCast] at hxx) | intro _))
        all_goals (try (rw [hbad (by simp [Year.valid, v1])]; done))
        refine TSq.pureBC (c80 xx.p) (by simp [cloL, clo, encR, encY, encRule, encZ, encS, ints_clo, encYs_clo]) rfl (And.intro rfl rfl) ?_ ?_ <;> intro v2 <;> (repeat' (first | (refine Ev.go ?_; conv => whnf) | refine And.intro ?_ ?_ | exact True.intro | exact rfl | (intro rx hrx; rw [IntWalk.i64_in _ (by omega)] at hrx) | (intro hcx; exfalso; omega) | (intro hcx; exfalso; simp only [ints_len, encYs_len] at hcx; omega) | (intro ex hex; (first | obtain ⟨xx, hxx, rfl⟩ := ints_at hex | obtain ⟨xx, hxx, rfl⟩ := encYs_at hex | obtain ⟨xx, hxx, rfl⟩ := encYs_cut hex); clear hex; try simp only [Int.toNat_natCast] at hxx) | intro _))
        all_goals (try (rw [hbad (by simp [Year.valid, v2])]; done))
        refine TSq.pureBC (c34 _ _ _) (by simp [cloL, clo, encR, encY, encRule, encZ, encS, ints_clo, encYs_clo]) rfl (And.intro rfl rfl) ?_ ?_ <;> intro v3 <;> (repeat' (first | (refine Ev.go ?_; conv => whnf) | refine And.intro ?_ ?_ | exact True.intro | exact rfl | (intro rx hrx; rw [IntWalk.i64_in _ (by omega)] at hrx) | (intro hcx; exfalso; omega) | (intro hcx; exfalso; simp only [ints_len, encYs_len] at hcx; omega) | (intro ex hex; (first | obtain ⟨xx, hxx, rfl⟩ := ints_at hex | obtain ⟨xx, hxx, rfl⟩ := encYs_at hex | obtain ⟨xx, hxx, rfl⟩ := encYs_cut hex); clear hex; try simp only [Int.toNat_natCast] at hxx) | intro _))
        all_goals (try (rw [hbad (by simp [Year.valid, v3])]; done))
        all_goals (first | (refine ⟨?_⟩; first | rfl | exact List.cons_ne_nil _ _ | (show (_ : Nat) * _ ≤ _; simp [catS, repl, chunks, ints_len, encYs_len] <;> omega) | exact shS _ _ | exact shM _ | exact shN | exact encM_clo _ | exact ⟨rfl, rfl⟩ | exact ⟨rfl, rfl, rfl⟩ | omega | (simp only [ints_len, encYs_len]; omega) | (simp; omega) | (simp [cloL, clo, catS, repl, ints_clo, encYs_clo, encR, encY, encS]; done) | (show chkGo _ _ _ _ _ = true; kernel_rfl)) | (simp [cloL, clo, catS, repl, ints_clo, encYs_clo, encR, encY, encS]; done) | skip)
        refine ⟨⟨k + 1, ⟨by omega, by rw [take_snoc hxx]; simp [hk3, Year.valid, v1, v2, v3]⟩, by omega, ?_⟩⟩
        (repeat' (first | (refine Ev.go ?_; conv => whnf) | refine And.intro ?_ ?_ | exact True.intro | exact rfl | (intro rx hrx; rw [IntWalk.i64_in _ (by omega)] at hrx) | (intro hcx; exfalso; omega) | (intro hcx; exfalso; simp only [ints_len, encYs_len] at hcx; omega) | (intro ex hex; (first | obtain ⟨xx, hxx, rfl⟩ := ints_at hex | obtain ⟨xx, hxx, rfl⟩ := encYs_at hex | obtain ⟨xx, hxx, rfl⟩ := encYs_cut hex); clear hex; try simp only [Int.toNat_natCast] at hxx) | intro _))
        all_goals (first | (refine ⟨?_⟩; first | rfl | exact List.cons_ne_nil _ _ | (show (_ : Nat) * _ ≤ _; simp [catS, repl, chunks, ints_len, encYs_len] <;> omega) | exact shS _ _ | exact shM _ | exact shN | exact encM_clo _ | exact ⟨rfl, rfl⟩ | exact ⟨rfl, rfl, rfl⟩ | omega | (simp only [ints_len, encYs_len]; omega) | (simp; omega) | (simp [cloL, clo, catS, repl, ints_clo, encYs_clo, encR, encY, encS]; done) | (show chkGo _ _ _ _ _ = true; kernel_rfl)) | (simp [cloL, clo, catS, repl, ints_clo, encYs_clo, encR, encY, encS]; done) | skip)
      all_goals (first | (refine ⟨?_⟩; first | rfl | exact List.cons_ne_nil _ _ | (show (_ : Nat) * _ ≤ _; simp [catS, repl, chunks, ints_len, encYs_len] <;> omega) | exact shS _ _ | exact shM _ | exact shN | exact encM_clo _ | exact ⟨rfl, rfl⟩ | exact ⟨rfl, rfl, rfl⟩ | omega | (simp only [ints_len, encYs_len]; omega) | (simp; omega) | (simp [cloL, clo, catS, repl, ints_clo, encYs_clo, encR, encY, encS]; done) | (show chkGo _ _ _ _ _ = true; kernel_rfl)) | (simp [cloL, clo, catS, repl, ints_clo, encYs_clo, encR, encY, encS]; done) | skip)
      have hk : k = z.years.length := by omega
      subst hk
      rw [List.take_length] at hk3
      rw [fault_0 (by omega) hv w4 hk3]
end Go.Proofs.Ytelnonfenpjjcaa
