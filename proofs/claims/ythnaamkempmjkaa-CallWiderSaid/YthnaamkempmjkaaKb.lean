/- Ranges gone through; lists. -/
import Derived.Test.YthnaamkempmjkaaKa
import Derived.Test.YthnaamkempmjkaaPc
set_option linter.unusedSimpArgs false
set_option linter.unusedVariables false
open Go Go.TV
namespace Go.Proofs.Ythnaamkempmjkaa

theorem c83 (r : Rng) : PF Try.prog 83 [encR r] (· = .fn 95 [] [.iptr (encR r) 0]) := by
  refine PF.of (TF.ev fn_83 (Ev.at ?_))
  (repeat' (first | (refine Ev.go ?_; conv => whnf) | refine And.intro ?_ ?_ | exact True.intro | exact rfl | (intro rx hrx; rw [IntWalk.i64_in _ (by omega)] at hrx) | (intro hcx; exfalso; omega) | (intro hcx; exfalso; simp only [lz] at hcx; omega) | intro _))
theorem it95 (r : Rng) (h1 : 0 ≤ r.lo) (h2 : r.lo ≤ r.hi) (h3 : r.hi ≤ 10000000) : IT Try.prog 95 [] [.iptr (encR r) 0] ((every r).map fun n => [.int .i64 n]) := by
  refine IT.ev fn_95 cl cl fun Φ Ψ hy => ?_
  have hlen : (every r).length = (r.hi - r.lo + 1).toNat := by simp [every]
  have hget : ∀ k : Nat, k < (r.hi - r.lo + 1).toNat → (every r)[k]? = some (r.lo + k) := fun k hk => by simp [every, List.getElem?_map, List.getElem?_range hk]
  (repeat' (first | (refine Ev.go ?_; conv => whnf) | refine And.intro ?_ ?_ | exact True.intro | exact rfl | (intro rx hrx; rw [IntWalk.i64_in _ (by omega)] at hrx) | (intro hcx; exfalso; omega) | (intro hcx; exfalso; simp only [lz] at hcx; omega) | intro _))
  subst_vars
  refine TWq.loop (fun k : Nat => [(10, .int .i64 k)]) (fun k => [(0, .tok (Φ k))]) (fun k => k ≤ (r.hi - r.lo + 1).toNat) (fun k => (r.hi - r.lo + 1).toNat - k) 0 [] [] ?_ (by omega) ?_
  · (repeat' (first | (refine Ev.go ?_; conv => whnf) | refine And.intro ?_ ?_ | exact True.intro | exact rfl | (intro rx hrx; rw [IntWalk.i64_in _ (by omega)] at hrx) | (intro hcx; exfalso; omega) | (intro hcx; exfalso; simp only [lz] at hcx; omega) | intro _))
    all_goals (first | (refine ⟨?_⟩; exact vc) | exact cl | skip)
  · intro k hk
    (repeat' (first | (refine Ev.go ?_; conv => whnf) | refine And.intro ?_ ?_ | exact True.intro | exact rfl | (intro rx hrx; rw [IntWalk.i64_in _ (by omega)] at hrx) | (intro hcx; exfalso; omega) | (intro hcx; exfalso; simp only [lz] at hcx; omega) | intro _))
    · subst hrx
      refine TSq.yield rfl rfl rfl rfl trivial rfl cl (hy k _ (hget k (by omega))) ?_ ?_
      · (repeat' (first | (refine Ev.go ?_; conv => whnf) | refine And.intro ?_ ?_ | exact True.intro | exact rfl | (intro rx hrx; rw [IntWalk.i64_in _ (by omega)] at hrx) | (intro hcx; exfalso; omega) | (intro hcx; exfalso; simp only [lz] at hcx; omega) | intro _))
        all_goals (first | (refine ⟨?_⟩; exact vc) | exact cl | skip)
        refine ⟨k + 1, by omega, by omega, ?_⟩
        (repeat' (first | (refine Ev.go ?_; conv => whnf) | refine And.intro ?_ ?_ | exact True.intro | exact rfl | (intro rx hrx; rw [IntWalk.i64_in _ (by omega)] at hrx) | (intro hcx; exfalso; omega) | (intro hcx; exfalso; simp only [lz] at hcx; omega) | intro _))
        all_goals (first | (refine ⟨?_⟩; exact vc) | exact cl | skip)
      · (repeat' (first | (refine Ev.go ?_; conv => whnf) | refine And.intro ?_ ?_ | exact True.intro | exact rfl | (intro rx hrx; rw [IntWalk.i64_in _ (by omega)] at hrx) | (intro hcx; exfalso; omega) | (intro hcx; exfalso; simp only [lz] at hcx; omega) | intro _))
        exact ⟨.inr rfl⟩
    · have : k = (every r).length := by omega
      subst this
      exact ⟨.inl rfl⟩

theorem c98 (l : List Int) (n : Int) (hlen : l.length ≤ 1000000) : PF Try.prog 98 [.sl 1 (ints l), .int .i64 n] fun s => ∃ i : Int, s = .int .i64 i ∧ (0 ≤ i ↔ l.contains n = true) := by
  have hz := ints_len l
  refine PF.of (TF.ev fn_98 (Ev.at ?_))
  (repeat' (first | (refine Ev.go ?_; conv => whnf) | refine And.intro ?_ ?_ | exact True.intro | exact rfl | (intro rx hrx; rw [IntWalk.i64_in _ (by omega)] at hrx) | (intro hcx; exfalso; omega) | (intro hcx; exfalso; simp only [lz] at hcx; omega) | (intro ex hex; (first | obtain ⟨xx, hxx, rfl⟩ := ints_at hex | obtain ⟨xx, hxx, rfl⟩ := encYs_at hex | obtain ⟨xx, hxx, rfl⟩ := encRs_at hex); clear hex; try simp only [Int.toNat_natCast] at hxx) | intro _))
  refine TWq.loop (fun k : Nat => [(8, .int .i64 k)]) (fun _ => []) (fun k => k ≤ l.length ∧ n ∉ l.take k) (fun k => l.length - k) 0 [] [] ?_ ⟨by omega, by simp⟩ ?_
  · (repeat' (first | (refine Ev.go ?_; conv => whnf) | refine And.intro ?_ ?_ | exact True.intro | exact rfl | (intro rx hrx; rw [IntWalk.i64_in _ (by omega)] at hrx) | (intro hcx; exfalso; omega) | (intro hcx; exfalso; simp only [lz] at hcx; omega) | (intro ex hex; (first | obtain ⟨xx, hxx, rfl⟩ := ints_at hex | obtain ⟨xx, hxx, rfl⟩ := encYs_at hex | obtain ⟨xx, hxx, rfl⟩ := encRs_at hex); clear hex; try simp only [Int.toNat_natCast] at hxx) | intro _))
    all_goals (first | (refine ⟨?_⟩; exact vc) | exact cl | skip)
  · rintro k ⟨hk1, hk2⟩
    (repeat' (first | (refine Ev.go ?_; conv => whnf) | refine And.intro ?_ ?_ | exact True.intro | exact rfl | (intro rx hrx; rw [IntWalk.i64_in _ (by omega)] at hrx) | (intro hcx; exfalso; omega) | (intro hcx; exfalso; simp only [lz] at hcx; omega) | (intro ex hex; (first | obtain ⟨xx, hxx, rfl⟩ := ints_at hex | obtain ⟨xx, hxx, rfl⟩ := encYs_at hex | obtain ⟨xx, hxx, rfl⟩ := encRs_at hex); clear hex; try simp only [Int.toNat_natCast] at hxx) | intro _))
    all_goals (try (refine ⟨?_⟩; first | omega | exact List.cons_ne_nil _ _ | (show (_ : Nat) * _ ≤ _; simp [catS, repl, chunks, ints_len, encYs_len] <;> omega)))
    · refine ⟨k, rfl, ?_⟩
      have : n ∈ l := by have := List.mem_of_getElem? hxx; simp_all
      simp [this]
    · refine ⟨k + 1, ⟨by omega, ?_⟩, by omega, ?_⟩
      · rw [take_snoc hxx]; simp_all
      · (repeat' (first | (refine Ev.go ?_; conv => whnf) | refine And.intro ?_ ?_ | exact True.intro | exact rfl | (intro rx hrx; rw [IntWalk.i64_in _ (by omega)] at hrx) | (intro hcx; exfalso; omega) | (intro hcx; exfalso; simp only [lz] at hcx; omega) | (intro ex hex; (first | obtain ⟨xx, hxx, rfl⟩ := ints_at hex | obtain ⟨xx, hxx, rfl⟩ := encYs_at hex | obtain ⟨xx, hxx, rfl⟩ := encRs_at hex); clear hex; try simp only [Int.toNat_natCast] at hxx) | intro _))
        all_goals (first | (refine ⟨?_⟩; exact vc) | exact cl | skip)
    · have : k = l.length := by omega
      subst this
      rw [List.take_length] at hk2
      exact ⟨-1, rfl, by simp [hk2]⟩
theorem c88 (l : List Int) (n : Int) (hlen : l.length ≤ 1000000) : PF Try.prog 88 [.sl 1 (ints l), .int .i64 n] (· = .bool (l.contains n)) := by
  refine PF.of (TF.ev fn_88 (Ev.at ?_))
  (repeat' (first | (refine Ev.go ?_; conv => whnf) | refine And.intro ?_ ?_ | exact True.intro | exact rfl | (intro rx hrx; rw [IntWalk.i64_in _ (by omega)] at hrx) | (intro hcx; exfalso; omega) | (intro hcx; exfalso; simp only [lz] at hcx; omega) | intro _))
  refine TSq.pureQ rfl (c98 l n hlen) cl rfl (And.intro rfl rfl) ?_
  rintro s ⟨i, rfl, hi⟩ _
  (repeat' (first | (refine Ev.go ?_; conv => whnf) | refine And.intro ?_ ?_ | exact True.intro | exact rfl | (intro rx hrx; rw [IntWalk.i64_in _ (by omega)] at hrx) | (intro hcx; exfalso; omega) | (intro hcx; exfalso; simp only [lz] at hcx; omega) | intro _))
  all_goals (rw [SV.bool_iff]; rw [← hi]; simp; omega)
theorem po64 (a : Int) (l : List Int) (h : l.length ≤ 1000000) : PO Try.prog 64 [.sl 1 (ints (a :: l))] 3 1 (ints (a :: l)) := by
  refine PO.of (ints_clo _) (TF.ev fn_64 (Ev.at ?_))
  (repeat' (first | (refine Ev.go ?_; conv => whnf) | refine And.intro ?_ ?_ | exact True.intro | exact rfl | (intro rx hrx; rw [IntWalk.i64_in _ (by omega)] at hrx) | (intro hcx; exfalso; omega) | (intro hcx; exfalso; simp only [lz] at hcx; omega) | intro _))
  refine TSq.isnil rfl rfl ⟨fun h => (by cases h), ?_⟩
  (repeat' (first | (refine Ev.go ?_; conv => whnf) | refine And.intro ?_ ?_ | exact True.intro | exact rfl | (intro rx hrx; rw [IntWalk.i64_in _ (by omega)] at hrx) | (intro hcx; exfalso; omega) | (intro hcx; exfalso; simp only [lz] at hcx; omega) | intro _))
  all_goals (try (refine ⟨?_⟩; first | omega | exact List.cons_ne_nil _ _ | (show (_ : Nat) * _ ≤ _; simp [catS, repl, chunks, ints_len, encYs_len] <;> omega)))
  all_goals (first | (refine ⟨?_⟩; exact vc) | exact cl | skip)
theorem c64n : PF Try.prog 64 [.nils] (· = .nils) := by
  refine PF.of (TF.ev fn_64 (Ev.at ?_))
  (repeat' (first | (refine Ev.go ?_; conv => whnf) | refine And.intro ?_ ?_ | exact True.intro | exact rfl | (intro rx hrx; rw [IntWalk.i64_in _ (by omega)] at hrx) | (intro hcx; exfalso; omega) | (intro hcx; exfalso; simp only [lz] at hcx; omega) | intro _))
  refine TSq.isnil rfl rfl ?_
  (repeat' (first | (refine Ev.go ?_; conv => whnf) | refine And.intro ?_ ?_ | exact True.intro | exact rfl | (intro rx hrx; rw [IntWalk.i64_in _ (by omega)] at hrx) | (intro hcx; exfalso; omega) | (intro hcx; exfalso; simp only [lz] at hcx; omega) | intro _))
  try rfl
theorem po41 (l : List Int) (h : l.length ≤ 1000000) : PO Try.prog 41 [.sl 1 (ints l)] 3 1 (ints l) := by
  refine PO.of (ints_clo _) (TF.ev fn_41 (Ev.at ?_))
  (repeat' (first | (refine Ev.go ?_; conv => whnf) | refine And.intro ?_ ?_ | exact True.intro | exact rfl | (intro rx hrx; rw [IntWalk.i64_in _ (by omega)] at hrx) | (intro hcx; exfalso; omega) | (intro hcx; exfalso; simp only [lz] at hcx; omega) | intro _))
  all_goals (try (refine ⟨?_⟩; first | (simp [repl, ints_len]; omega) | (simp [repl]; done) | (simp [repl]; exact ints_clo _)))
  all_goals (first | (refine ⟨?_⟩; exact vc) | exact cl | skip)
theorem c41 (l : List Int) (h : l.length ≤ 1000000) : PF Try.prog 41 [.sl 1 (ints l)] (· = .sl 1 (ints l)) := by
  refine PF.of (TF.ev fn_41 (Ev.at ?_))
  (repeat' (first | (refine Ev.go ?_; conv => whnf) | refine And.intro ?_ ?_ | exact True.intro | exact rfl | (intro rx hrx; rw [IntWalk.i64_in _ (by omega)] at hrx) | (intro hcx; exfalso; omega) | (intro hcx; exfalso; simp only [lz] at hcx; omega) | intro _))
  all_goals (try (refine ⟨?_⟩; first | (simp [repl, ints_len]; omega) | (simp [repl]; exact ints_clo _)))
  all_goals (try rfl)
theorem c85 (s : Soc) (n : Int) (h : s.members.length ≤ 1000000) : PF Try.prog 85 [encSoc s, .int .i64 n] (· = .bool (within n 0 (s.members.length - 1))) := by
  have hz := encYs_len s.members
  refine PF.of (TF.ev fn_85 (Ev.at ?_))
  (repeat' (first | (refine Ev.go ?_; conv => whnf) | refine And.intro ?_ ?_ | exact True.intro | exact rfl | (intro rx hrx; rw [IntWalk.i64_in _ (by omega)] at hrx) | (intro hcx; exfalso; omega) | (intro hcx; exfalso; simp only [lz] at hcx; omega) | intro _))
  rw [hz] at hrx
  subst hrx
  refine TSq.pureC (c69 _ _ _) cl rfl (And.intro rfl rfl) ?_
  (repeat' (first | (refine Ev.go ?_; conv => whnf) | refine And.intro ?_ ?_ | exact True.intro | exact rfl | (intro rx hrx; rw [IntWalk.i64_in _ (by omega)] at hrx) | (intro hcx; exfalso; omega) | (intro hcx; exfalso; simp only [lz] at hcx; omega) | intro _))
  try rfl
/-- The bounds of the need, step by step. -/
theorem c59 (s : Soc) (h0 : s.losses.length ≤ 100) (h : ∀ r ∈ s.losses, (0 ≤ r.lo ∧ r.lo ≤ 100000) ∧ 0 ≤ r.hi ∧ r.hi ≤ 100000) (h1 : 0 ≤ s.treaty.lo ∧ s.treaty.lo ≤ 100000) (h2 : 0 ≤ s.treaty.hi ∧ s.treaty.hi ≤ 100000) (h3 : 0 ≤ s.reserve ∧ s.reserve ≤ 100000) :
    PF Try.prog 59 [encSoc s] (· = encR (needsOf s)) := by
  have hz := encRs_len s.losses
  have hb : ∀ k, k ≤ s.losses.length → (0 ≤ sumL ((los s.losses).take k) ∧ sumL ((los s.losses).take k) ≤ k * 100000) ∧ 0 ≤ sumL ((his s.losses).take k) ∧ sumL ((his s.losses).take k) ≤ k * 100000 := by
    intro k
    induction k with
    | zero => intro _; simp [sumL]
    | succ k ih =>
      intro hk
      have ih := ih (by omega)
      obtain ⟨r, hr⟩ : ∃ r, s.losses[k]? = some r := ⟨_, List.getElem?_eq_getElem (by omega)⟩
      have e1 : (los s.losses)[k]? = some r.lo := by simp [los, hr]
      have e2 : (his s.losses)[k]? = some r.hi := by simp [his, hr]
      rw [sumL_take e1, sumL_take e2]
      have := h r (List.mem_of_getElem? hr)
      omega
  refine PF.of (TF.ev fn_59 (Ev.at ?_))
  (repeat' (first | (refine Ev.go ?_; conv => whnf) | refine And.intro ?_ ?_ | exact True.intro | exact rfl | (intro rx hrx; rw [IntWalk.i64_in _ (by omega)] at hrx) | (intro hcx; exfalso; omega) | (intro hcx; exfalso; simp only [lz] at hcx; omega) | intro _))
  all_goals (first | (refine ⟨?_⟩; exact vc) | exact cl | skip)
  refine TWq.loop (fun k : Nat => [(9, .int .i64 k), (5, .junk)]) (fun k => [(2, .cells [.int .i64 (sumL ((los s.losses).take k)), .int .i64 (sumL ((his s.losses).take k))])]) (fun k => k ≤ s.losses.length) (fun k => s.losses.length - k) 0 [] [] ?_ (by omega) ?_
  · (repeat' (first | (refine Ev.go ?_; conv => whnf) | refine And.intro ?_ ?_ | exact True.intro | exact rfl | (intro rx hrx; rw [IntWalk.i64_in _ (by omega)] at hrx) | (intro hcx; exfalso; omega) | (intro hcx; exfalso; simp only [lz] at hcx; omega) | intro _))
    all_goals (first | (refine ⟨?_⟩; exact vc) | exact cl | skip)
  · intro k hk
    rcases Nat.lt_or_ge k s.losses.length with hkl | hkl
    · obtain ⟨r, hr⟩ : ∃ r, s.losses[k]? = some r := ⟨_, List.getElem?_eq_getElem hkl⟩
      have e1 : (los s.losses)[k]? = some r.lo := by simp [los, hr]
      have e2 : (his s.losses)[k]? = some r.hi := by simp [his, hr]
      have b := hb k hk
      have bn := hb (k + 1) (by omega)
      rw [sumL_take e1, sumL_take e2] at bn
      have hr' := h r (List.mem_of_getElem? hr)
      have hg1 : ∀ {n : Nat} {e : SV}, n = k → (encRs s.losses)[n]? = some e → e = encR r := by
        rintro n e rfl he
        obtain ⟨x, hx, rfl⟩ := encRs_at he
        rw [hr] at hx; cases hx; rfl
      (repeat' (first | (intro ex hex; have hq := hg1 (by omega) hex; subst hq; clear hex) | (refine Ev.go ?_; conv => whnf) | refine And.intro ?_ ?_ | exact True.intro | exact rfl | (intro rx hrx; rw [IntWalk.i64_in _ (by omega)] at hrx) | (intro hcx; exfalso; omega) | intro _))
      all_goals (first | (refine ⟨?_⟩; exact vc) | exact cl | skip)
      refine ⟨⟨k + 1, by omega, by omega, ?_⟩⟩
      (repeat' (first | (intro ex hex; have hq := hg1 (by omega) hex; subst hq; clear hex) | (refine Ev.go ?_; conv => whnf) | refine And.intro ?_ ?_ | exact True.intro | exact rfl | (intro rx hrx; rw [IntWalk.i64_in _ (by omega)] at hrx) | (intro hcx; exfalso; omega) | intro _))
      all_goals (first | (refine ⟨?_⟩; exact vc) | exact cl | skip)
      · refine ⟨?_⟩; rw [sumL_take e1]; assumption
      · refine ⟨?_⟩; rw [sumL_take e2]; assumption
    · have hke : k = s.losses.length := by omega
      subst hke
      have b := hb s.losses.length (by omega)
      have l1 : (los s.losses).take s.losses.length = los s.losses := List.take_of_length_le (by simp [los])
      have l2 : (his s.losses).take s.losses.length = his s.losses := List.take_of_length_le (by simp [his])
      have d1 := c76 s (sumL ((los s.losses).take s.losses.length)) s.treaty.hi (by omega) (by omega) (by omega)
      have d2 := c76 s (sumL ((his s.losses).take s.losses.length)) s.treaty.lo (by omega) (by omega) (by omega)
      (repeat' (first | (intro ex hex; have hq := hg1 (by omega) hex; subst hq; clear hex) | (refine Ev.go ?_; conv => whnf) | refine And.intro ?_ ?_ | exact True.intro | exact rfl | (intro rx hrx; rw [IntWalk.i64_in _ (by omega)] at hrx) | (intro hcx; exfalso; omega) | intro _))
      all_goals (first | (refine ⟨?_⟩; exact vc) | exact cl | skip)
      refine TDq.pureC d1 cl rfl (And.intro rfl rfl) ?_
      (repeat' (first | (intro ex hex; have hq := hg1 (by omega) hex; subst hq; clear hex) | (refine Ev.go ?_; conv => whnf) | refine And.intro ?_ ?_ | exact True.intro | exact rfl | (intro rx hrx; rw [IntWalk.i64_in _ (by omega)] at hrx) | (intro hcx; exfalso; omega) | intro _))
      all_goals (first | (refine ⟨?_⟩; exact vc) | exact cl | skip)
      refine TDq.pureC d2 cl rfl (And.intro rfl rfl) ?_
      (repeat' (first | (intro ex hex; have hq := hg1 (by omega) hex; subst hq; clear hex) | (refine Ev.go ?_; conv => whnf) | refine And.intro ?_ ?_ | exact True.intro | exact rfl | (intro rx hrx; rw [IntWalk.i64_in _ (by omega)] at hrx) | (intro hcx; exfalso; omega) | intro _))
      all_goals (first | (refine ⟨?_⟩; exact vc) | exact cl | skip)
      rw [l1, l2]
      try rfl
end Go.Proofs.Ythnaamkempmjkaa
