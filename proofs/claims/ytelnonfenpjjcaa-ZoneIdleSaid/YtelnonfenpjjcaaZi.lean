/- What is asked of a year: Reach, Moves. -/
import Derived.Test.YtelnonfenpjjcaaZh
set_option linter.unusedSimpArgs false
set_option linter.unusedVariables false
open Go Go.TV
namespace Go.Proofs.Ytelnonfenpjjcaa

theorem fault_len {r : Rule} {z : Zone} (h : fault r z = 0) : z.years.length ≤ 6 := by
  unfold fault at h
  split at h
  · omega
  · omega
theorem fault_valid {r : Rule} {z : Zone} (h : fault r z = 0) : r.valid = true ∧ within z.first 0 (r.classes - 1) = true ∧ (∀ y ∈ z.years, y.valid = true) ∧ r.classes ≤ 6 := by
  unfold fault at h
  split at h
  · omega
  · rename_i h1
    split at h
    · rename_i h2
      exact ⟨h2.1, h2.2.1, List.all_eq_true.1 h2.2.2, by omega⟩
    · omega
theorem fault_okR {r : Rule} {z : Zone} (h : fault r z = 0) : OkR r := by
  obtain ⟨h1, h2, h3, h4⟩ := fault_valid h
  simp only [Rule.valid, within, Bool.and_eq_true, decide_eq_true_eq] at h1
  constructor <;> omega
theorem fault_first {r : Rule} {z : Zone} (h : fault r z = 0) : 0 ≤ z.first ∧ z.first < r.classes := by
  obtain ⟨h1, h2, h3, h4⟩ := fault_valid h
  simp only [within, decide_eq_true_eq] at h2
  omega
theorem fault_okY {r : Rule} {z : Zone} (h : fault r z = 0) : ∀ y ∈ z.years, OkY r y := by
  obtain ⟨h1, h2, h3, h4⟩ := fault_valid h
  intro y hy
  have := h3 y hy
  simp only [Rule.valid, within, Bool.and_eq_true, decide_eq_true_eq] at h1
  simp only [Year.valid, Rng.pence, Bool.and_eq_true, decide_eq_true_eq] at this
  constructor <;> omega
theorem fault_price {r : Rule} {z : Zone} (h : fault r z = 0) : (r.price.length : Int) = r.classes := by
  obtain ⟨h1, h2, h3, h4⟩ := fault_valid h
  simp only [Rule.valid, within, Bool.and_eq_true, decide_eq_true_eq] at h1
  omega

/-- The error of a rule, a zone and a year. -/
def fy (r : Rule) (z : Zone) (year : Int) : Int := if fault r z ≠ 0 then fault r z else if within year 0 (z.years.length - 1) = true then 0 else 2

/-- What asked is told to return. -/
structure AskQ (r : Rule) (z : Zone) (year : Int) (s : SV) : Prop where
  bad : fy r z year ≠ 0 → s = .tup [.nilp, .int .i64 (fy r z year)]
  good : fy r z year = 0 → ∃ n : Nat, year = n ∧ n < z.years.length ∧ fault r z = 0 ∧ ∃ ks : List Spot, s = .tup [.iptr (encW r ks (movesAt r z.first [] z.years (n + 1) false) (movesAt r z.first [] z.years (n + 1) true)) 0, .int .i64 0] ∧ ∀ x, x ∈ ks ↔ x ∈ reach r z.first [] z.years (n + 1)

theorem c58n (r : Rule) (z : Zone) (n : Nat) (hr : OkR r) (h1 : 0 ≤ z.first) (h2 : z.first < r.classes) (hy : ∀ y ∈ z.years, OkY r y) (hn : n ≤ z.years.length) (hl : z.years.length ≤ 1000000) :
    PF Try.prog 58 [encRule r, encZ z, .int .i64 n, .nils] (AfterQ r z [] n) := by
  refine PF.fit (c58 r z [] n hr h1 h2 hy hn (by simp) hl) ?_
  (repeat' (first | (refine Ev.go ?_; conv => whnf) | refine And.intro ?_ ?_ | exact True.intro | exact rfl | (intro rx hrx; rw [IntWalk.i64_in _ (by omega)] at hrx) | (intro hcx; exfalso; omega) | (intro hcx; exfalso; simp only [ints_len, encYs_len] at hcx; omega) | (intro ex hex; (first | obtain ⟨xx, hxx, rfl⟩ := ints_at hex | obtain ⟨xx, hxx, rfl⟩ := encYs_at hex | obtain ⟨xx, hxx, rfl⟩ := encYs_cut hex); clear hex; try simp only [Int.toNat_natCast] at hxx) | intro _))
  all_goals (first | (refine ⟨?_⟩; first | rfl | exact List.cons_ne_nil _ _ | (show (_ : Nat) * _ ≤ _; simp [catS, repl, chunks, ints_len, encYs_len] <;> omega) | exact shS _ _ | exact shM _ | exact shN | exact encM_clo _ | exact ⟨rfl, rfl⟩ | exact ⟨rfl, rfl, rfl⟩ | omega | (simp only [ints_len, encYs_len]; omega) | (simp; omega) | (simp [cloL, clo, catS, repl, ints_clo, encYs_clo, encR, encY, encS]; done) | (show chkGo _ _ _ _ _ = true; kernel_rfl)) | (simp [cloL, clo, catS, repl, ints_clo, encYs_clo, encR, encY, encS]; done) | skip)

theorem c53 (r : Rule) (z : Zone) (year : Int) (h1 : r.price.length ≤ 1000000) (h2 : z.years.length ≤ 1000000) : PF Try.prog 53 [encRule r, encZ z, .int .i64 year] (AskQ r z year) := by
  have hz := encYs_len z.years
  refine PF.of (TF.ev fn_53 (Ev.at ?_))
  (repeat' (first | (refine Ev.go ?_; conv => whnf) | refine And.intro ?_ ?_ | exact True.intro | exact rfl | (intro rx hrx; rw [IntWalk.i64_in _ (by omega)] at hrx) | (intro hcx; exfalso; omega) | (intro hcx; exfalso; simp only [ints_len, encYs_len] at hcx; omega) | (intro ex hex; (first | obtain ⟨xx, hxx, rfl⟩ := ints_at hex | obtain ⟨xx, hxx, rfl⟩ := encYs_at hex | obtain ⟨xx, hxx, rfl⟩ := encYs_cut hex); clear hex; try simp only [Int.toNat_natCast] at hxx) | intro _))
  refine TSq.pureC (c47 r z h1 h2) (by simp [cloL, clo, encR, encY, encRule, encZ, encS, ints_clo, encYs_clo]) rfl (And.intro rfl rfl) ?_
  (repeat' (first | (refine Ev.go ?_; conv => whnf) | refine And.intro ?_ ?_ | exact True.intro | exact rfl | (intro rx hrx; rw [IntWalk.i64_in _ (by omega)] at hrx) | (intro hcx; exfalso; omega) | (intro hcx; exfalso; simp only [ints_len, encYs_len] at hcx; omega) | (intro ex hex; (first | obtain ⟨xx, hxx, rfl⟩ := ints_at hex | obtain ⟨xx, hxx, rfl⟩ := encYs_at hex | obtain ⟨xx, hxx, rfl⟩ := encYs_cut hex); clear hex; try simp only [Int.toNat_natCast] at hxx) | intro _))
  · rename_i hf
    rw [hz] at hrx
    subst hrx
    refine TSq.pureBC (c75 _ _ _) (by simp [cloL, clo, encR, encY, encRule, encZ, encS, ints_clo, encYs_clo]) rfl (And.intro rfl rfl) ?_ ?_
    · intro hw
      have h0 : fy r z year = 0 := by rw [fy, if_neg (by simpa using hf), if_pos hw]
      simp only [within, decide_eq_true_eq] at hw
      obtain ⟨n, rfl⟩ := Int.eq_ofNat_of_zero_le hw.1
      have hn : n < z.years.length := by omega
      (repeat' (first | (refine Ev.go ?_; conv => whnf) | refine And.intro ?_ ?_ | exact True.intro | exact rfl | (intro rx hrx; rw [IntWalk.i64_in _ (by omega)] at hrx) | (intro hcx; exfalso; omega) | (intro hcx; exfalso; simp only [ints_len, encYs_len] at hcx; omega) | (intro ex hex; (first | obtain ⟨xx, hxx, rfl⟩ := ints_at hex | obtain ⟨xx, hxx, rfl⟩ := encYs_at hex | obtain ⟨xx, hxx, rfl⟩ := encYs_cut hex); clear hex; try simp only [Int.toNat_natCast] at hxx) | intro _))
      obtain rfl : rx = ((n + 1 : Nat) : Int) := by omega
      refine TSq.pureQ rfl (c58n r z (n + 1) (fault_okR hf) (fault_first hf).1 (fault_first hf).2 (fault_okY hf) hn h2) (by simp [cloL, clo, encR, encY, encRule, encZ, encS, ints_clo, encYs_clo]) rfl (And.intro rfl rfl) ?_
      rintro s ⟨ks, rfl, hk1, hk2⟩ _
      (repeat' (first | (refine Ev.go ?_; conv => whnf) | refine And.intro ?_ ?_ | exact True.intro | exact rfl | (intro rx hrx; rw [IntWalk.i64_in _ (by omega)] at hrx) | (intro hcx; exfalso; omega) | (intro hcx; exfalso; simp only [ints_len, encYs_len] at hcx; omega) | (intro ex hex; (first | obtain ⟨xx, hxx, rfl⟩ := ints_at hex | obtain ⟨xx, hxx, rfl⟩ := encYs_at hex | obtain ⟨xx, hxx, rfl⟩ := encYs_cut hex); clear hex; try simp only [Int.toNat_natCast] at hxx) | intro _))
      exact ⟨fun h => absurd h0 h, fun _ => ⟨n, rfl, hn, hf, ks, rfl, hk2⟩⟩
    · intro hw
      have h0 : fy r z year = 2 := by rw [fy, if_neg (by simpa using hf), if_neg (by rw [hw]; simp)]
      (repeat' (first | (refine Ev.go ?_; conv => whnf) | refine And.intro ?_ ?_ | exact True.intro | exact rfl | (intro rx hrx; rw [IntWalk.i64_in _ (by omega)] at hrx) | (intro hcx; exfalso; omega) | (intro hcx; exfalso; simp only [ints_len, encYs_len] at hcx; omega) | (intro ex hex; (first | obtain ⟨xx, hxx, rfl⟩ := ints_at hex | obtain ⟨xx, hxx, rfl⟩ := encYs_at hex | obtain ⟨xx, hxx, rfl⟩ := encYs_cut hex); clear hex; try simp only [Int.toNat_natCast] at hxx) | intro _))
      exact ⟨fun _ => by rw [h0], fun h => by omega⟩
  · rename_i hf
    have : fy r z year = fault r z := by unfold fy; rw [if_pos hf]
    exact ⟨fun _ => by rw [this], fun h => absurd (this ▸ h) hf⟩

/-- A slice, of which nil is told as the empty one, and an error. -/
def SlE (l : List Int) (e : Int) (s : SV) : Prop := ∃ x, s = .tup [x, .int .i64 e] ∧ SlN l x
theorem SlE.pf {f : FuncId} {args : List SV} {l : List Int} {e : Int} (h : PF Try.prog f args (SlE l e)) : PF Try.prog f args (· = .tup [.sl 1 (ints l), .int .i64 e]) := by
  refine PF.res h fun s hs _ => ?_
  obtain ⟨x, rfl, hx⟩ := hs
  refine ⟨_, rfl, by simp [clo, cloL, ints_clo], ?_⟩
  rcases hx with rfl | ⟨rfl, rfl⟩
  · refine Ev.go ?_; conv => whnf
    exact ⟨⟨rfl⟩, Ev.go ⟨⟨rfl⟩, Ev.go trivial⟩⟩
  · refine Ev.go ?_; conv => whnf
    exact ⟨⟨rfl⟩, Ev.go ⟨⟨rfl⟩, Ev.go trivial⟩⟩
theorem reach_class {r : Rule} {z : Zone} (h : fault r z = 0) (out : List Int) (n : Nat) : ∀ x ∈ reach r z.first out z.years n, 0 ≤ x.class_ ∧ x.class_ < 6 := fun x hx => by
  have h1 := reach_ok (fault_okR h) (fault_first h).1 (fault_first h).2 out z.years n x hx
  have h2 := (fault_okR h).c2
  have h3 := h1.a1
  have h4 := h1.a2
  omega
theorem classes_congr {r : Rule} {a b : List Spot} (h : ∀ x, x ∈ a ↔ x ∈ b) : classes r a = classes r b := by
  simp only [classes, upC, hasC_congr h]

/-- What Reach returns. -/
def reachR (r : Rule) (z : Zone) (year : Int) : List Int × Int := if fy r z year ≠ 0 then ([], fy r z year) else (classes r (reach r z.first [] z.years (year.toNat + 1)), 0)
/-- What Moves returns. -/
def movesR (r : Rule) (z : Zone) (year : Int) : Int × Int := if fy r z year ≠ 0 then (0, fy r z year) else
  (if movesAt r z.first [] z.years (year.toNat + 1) true = true then (if movesAt r z.first [] z.years (year.toNat + 1) false = true then 3 else 1) else 2, 0)

theorem c19 (r : Rule) (z : Zone) (year : Int) (h1 : r.price.length ≤ 1000000) (h2 : z.years.length ≤ 1000000) : PF Try.prog 19 [encRule r, encZ z, .int .i64 year] (· = .tup [.sl 1 (ints (reachR r z year).1), .int .i64 (reachR r z year).2]) := by
  refine SlE.pf (PF.of (TF.ev fn_19 (Ev.at ?_)))
  (repeat' (first | (refine Ev.go ?_; conv => whnf) | refine And.intro ?_ ?_ | exact True.intro | exact rfl | (intro rx hrx; rw [IntWalk.i64_in _ (by omega)] at hrx) | (intro hcx; exfalso; omega) | (intro hcx; exfalso; simp only [ints_len, encYs_len] at hcx; omega) | (intro ex hex; (first | obtain ⟨xx, hxx, rfl⟩ := ints_at hex | obtain ⟨xx, hxx, rfl⟩ := encYs_at hex | obtain ⟨xx, hxx, rfl⟩ := encYs_cut hex); clear hex; try simp only [Int.toNat_natCast] at hxx) | intro _))
  refine TSq.pureQ rfl (c53 r z year h1 h2) (by simp [cloL, clo, encR, encY, encRule, encZ, encS, ints_clo, encYs_clo]) rfl (And.intro rfl rfl) ?_
  rintro s ⟨hb, hg⟩ _
  by_cases hf : fy r z year = 0
  · obtain ⟨n, rfl, hn, hz, ks, rfl, hks⟩ := hg hf
    (repeat' (first | (refine Ev.go ?_; conv => whnf) | refine And.intro ?_ ?_ | exact True.intro | exact rfl | (intro rx hrx; rw [IntWalk.i64_in _ (by omega)] at hrx) | (intro hcx; exfalso; omega) | (intro hcx; exfalso; simp only [ints_len, encYs_len] at hcx; omega) | (intro ex hex; (first | obtain ⟨xx, hxx, rfl⟩ := ints_at hex | obtain ⟨xx, hxx, rfl⟩ := encYs_at hex | obtain ⟨xx, hxx, rfl⟩ := encYs_cut hex); clear hex; try simp only [Int.toNat_natCast] at hxx) | intro _))
    refine TSq.pureC (c54 r ks _ _ (fault_okR hz) fun x hx => reach_class hz [] (n + 1) x ((hks x).1 hx)) (by simp [clo, cloL, ints_clo, encW, encM_clo]) rfl (And.intro rfl rfl) ?_
    (repeat' (first | (refine Ev.go ?_; conv => whnf) | refine And.intro ?_ ?_ | exact True.intro | exact rfl | (intro rx hrx; rw [IntWalk.i64_in _ (by omega)] at hrx) | (intro hcx; exfalso; omega) | (intro hcx; exfalso; simp only [ints_len, encYs_len] at hcx; omega) | (intro ex hex; (first | obtain ⟨xx, hxx, rfl⟩ := ints_at hex | obtain ⟨xx, hxx, rfl⟩ := encYs_at hex | obtain ⟨xx, hxx, rfl⟩ := encYs_cut hex); clear hex; try simp only [Int.toNat_natCast] at hxx) | intro _))
    all_goals (first | (refine ⟨?_⟩; first | rfl | exact List.cons_ne_nil _ _ | (show (_ : Nat) * _ ≤ _; simp [catS, repl, chunks, ints_len, encYs_len] <;> omega) | exact shS _ _ | exact shM _ | exact shN | exact encM_clo _ | exact ⟨rfl, rfl⟩ | exact ⟨rfl, rfl, rfl⟩ | omega | (simp only [ints_len, encYs_len]; omega) | (simp; omega) | (simp [cloL, clo, catS, repl, ints_clo, encYs_clo, encR, encY, encS]; done) | (show chkGo _ _ _ _ _ = true; kernel_rfl)) | (simp [cloL, clo, catS, repl, ints_clo, encYs_clo, encR, encY, encS]; done) | skip)
    refine ⟨.sl 1 (ints (classes r ks)), ?_, .inl ?_⟩ <;> simp [reachR, hf, classes_congr hks]
  · rw [hb hf]
    (repeat' (first | (refine Ev.go ?_; conv => whnf) | refine And.intro ?_ ?_ | exact True.intro | exact rfl | (intro rx hrx; rw [IntWalk.i64_in _ (by omega)] at hrx) | (intro hcx; exfalso; omega) | (intro hcx; exfalso; simp only [ints_len, encYs_len] at hcx; omega) | (intro ex hex; (first | obtain ⟨xx, hxx, rfl⟩ := ints_at hex | obtain ⟨xx, hxx, rfl⟩ := encYs_at hex | obtain ⟨xx, hxx, rfl⟩ := encYs_cut hex); clear hex; try simp only [Int.toNat_natCast] at hxx) | intro _))
    refine ⟨.nils, ?_, .inr ⟨?_, rfl⟩⟩ <;> simp [reachR, hf]

theorem c22 (r : Rule) (z : Zone) (year : Int) (h1 : r.price.length ≤ 1000000) (h2 : z.years.length ≤ 1000000) : PF Try.prog 22 [encRule r, encZ z, .int .i64 year] (· = .tup [.int .i64 (movesR r z year).1, .int .i64 (movesR r z year).2]) := by
  refine PF.of (TF.ev fn_22 (Ev.at ?_))
  (repeat' (first | (refine Ev.go ?_; conv => whnf) | refine And.intro ?_ ?_ | exact True.intro | exact rfl | (intro rx hrx; rw [IntWalk.i64_in _ (by omega)] at hrx) | (intro hcx; exfalso; omega) | (intro hcx; exfalso; simp only [ints_len, encYs_len] at hcx; omega) | (intro ex hex; (first | obtain ⟨xx, hxx, rfl⟩ := ints_at hex | obtain ⟨xx, hxx, rfl⟩ := encYs_at hex | obtain ⟨xx, hxx, rfl⟩ := encYs_cut hex); clear hex; try simp only [Int.toNat_natCast] at hxx) | intro _))
  refine TSq.pureQ rfl (c53 r z year h1 h2) (by simp [cloL, clo, encR, encY, encRule, encZ, encS, ints_clo, encYs_clo]) rfl (And.intro rfl rfl) ?_
  rintro s ⟨hb, hg⟩ _
  by_cases hf : fy r z year = 0
  · obtain ⟨n, rfl, hn, hz, ks, rfl, hks⟩ := hg hf
    cases e1 : movesAt r z.first [] z.years (n + 1) true <;> cases e0 : movesAt r z.first [] z.years (n + 1) false
    all_goals
      clear hb hg
      (repeat' (first | (refine Ev.go ?_; conv => whnf) | refine And.intro ?_ ?_ | exact True.intro | exact rfl | (intro rx hrx; rw [IntWalk.i64_in _ (by omega)] at hrx) | (intro hcx; exfalso; omega) | (intro hcx; exfalso; simp only [ints_len, encYs_len] at hcx; omega) | (intro ex hex; (first | obtain ⟨xx, hxx, rfl⟩ := ints_at hex | obtain ⟨xx, hxx, rfl⟩ := encYs_at hex | obtain ⟨xx, hxx, rfl⟩ := encYs_cut hex); clear hex; try simp only [Int.toNat_natCast] at hxx) | intro _))
      all_goals (try (refine ⟨?_⟩; first | omega | exact List.cons_ne_nil _ _ | (show (_ : Nat) * _ ≤ _; simp [catS, repl, chunks, ints_len, encYs_len] <;> omega)))
      all_goals (first | (refine ⟨?_⟩; simp [shOK, andN, partK, getK, lenIs]; done) | (simp [movesR, hf, e0, e1]; done) | (exfalso; simp_all; done) | skip)
  · rw [hb hf]
    (repeat' (first | (refine Ev.go ?_; conv => whnf) | refine And.intro ?_ ?_ | exact True.intro | exact rfl | (intro rx hrx; rw [IntWalk.i64_in _ (by omega)] at hrx) | (intro hcx; exfalso; omega) | (intro hcx; exfalso; simp only [ints_len, encYs_len] at hcx; omega) | (intro ex hex; (first | obtain ⟨xx, hxx, rfl⟩ := ints_at hex | obtain ⟨xx, hxx, rfl⟩ := encYs_at hex | obtain ⟨xx, hxx, rfl⟩ := encYs_cut hex); clear hex; try simp only [Int.toNat_natCast] at hxx) | intro _))
    simp [movesR, hf]
end Go.Proofs.Ytelnonfenpjjcaa
