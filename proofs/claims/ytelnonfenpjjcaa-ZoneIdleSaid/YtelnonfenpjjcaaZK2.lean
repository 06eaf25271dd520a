/- A truth picked by words. -/
import Derived.Test.YtelnonfenpjjcaaZH2
set_option linter.unusedSimpArgs false
set_option linter.unusedVariables false
open Go Go.TV
namespace Go.Proofs.Ytelnonfenpjjcaa

/-- The pairs are numbers of the first ranges. -/
def OkP (z : Zone) (ps : List (Int × Int)) : Prop := ∀ (i : Nat) (p : Int × Int), ps[i]? = some p → ∃ y : Year, z.years[i]? = some y ∧ y.l.lo ≤ p.1 ∧ p.1 ≤ y.l.hi ∧ y.p.lo ≤ p.2 ∧ p.2 ≤ y.p.hi
theorem OkP.snoc {z : Zone} {ps : List (Int × Int)} (h : OkP z ps) {y : Year} {a b : Int} (hy : z.years[ps.length]? = some y) (h1 : y.l.lo ≤ a) (h2 : a ≤ y.l.hi) (h3 : y.p.lo ≤ b) (h4 : b ≤ y.p.hi) : OkP z (ps ++ [(a, b)]) := by
  intro i p hp
  rcases Nat.lt_or_ge i ps.length with hi | hi
  · rw [List.getElem?_append_left hi] at hp; exact h i p hp
  · rw [List.getElem?_append_right hi] at hp
    have : i - ps.length = 0 := by
      have := (List.getElem?_eq_some_iff.1 hp).1; simp at this; omega
    rw [this] at hp
    cases hp
    have : i = ps.length := by omega
    subst this
    exact ⟨y, hy, h1, h2, h3, h4⟩
theorem OkP.isTruth {z : Zone} {ps : List (Int × Int)} (h : OkP z ps) (hl : ps.length = z.years.length) : isTruth z ⟨ps.map (·.1), ps.map (·.2)⟩ = true := by
  simp only [Proofs.Ytelnonfenpjjcaa.isTruth, Bool.and_eq_true, decide_eq_true_eq, List.all_eq_true, List.mem_range, List.length_map]
  refine ⟨hl, hl, fun i hi => ?_⟩
  have hp : ps[i]? = some (ps[i]'(by omega)) := List.getElem?_eq_getElem (by omega)
  obtain ⟨y, hy, q1, q2, q3, q4⟩ := h i _ hp
  rw [hy]
  simp only [List.getD_eq_getElem?_getD, List.getElem?_map, hp, Option.map_some, Option.getD_some, Rng.has, within, Bool.and_eq_true, decide_eq_true_eq]
  omega

/-- A truth whose lists may be nil. -/
def TN (z : Zone) (s : SV) : Prop := ∃ t, isTruth z t = true ∧ (s = encT t ∨ (t.losses = [] ∧ t.premiums = [] ∧ s = .agg [.nils, .nils]))
theorem TN.pf {f : FuncId} {args : List SV} {z : Zone} (h : PF Try.prog f args (TN z)) : PF Try.prog f args (fun s => ∃ t, isTruth z t = true ∧ s = encT t) := by
  refine PF.res h fun s hs _ => ?_
  obtain ⟨t, ht, hs⟩ := hs
  refine ⟨_, ⟨t, ht, rfl⟩, by simp [encT, clo, cloL, ints_clo], ?_⟩
  rcases hs with rfl | ⟨h1, h2, rfl⟩
  · unfold encT
    (repeat' (first | (refine Ev.go ?_; conv => whnf) | refine And.intro ?_ ?_ | exact True.intro | exact rfl | (intro rx hrx; rw [IntWalk.i64_in _ (by omega)] at hrx) | (intro hcx; exfalso; omega) | (intro hcx; exfalso; simp only [ints_len, encYs_len] at hcx; omega) | (intro ex hex; (first | obtain ⟨xx, hxx, rfl⟩ := ints_at hex | obtain ⟨xx, hxx, rfl⟩ := encYs_at hex | obtain ⟨xx, hxx, rfl⟩ := encYs_cut hex); clear hex; try simp only [Int.toNat_natCast] at hxx) | intro _))
    all_goals (first | (refine ⟨?_⟩; first | rfl | exact List.cons_ne_nil _ _ | (show (_ : Nat) * _ ≤ _; simp [catS, repl, chunks, ints_len, encYs_len] <;> omega) | exact shS _ _ | exact shM _ | exact shN | exact encM_clo _ | exact ⟨rfl, rfl⟩ | exact ⟨rfl, rfl, rfl⟩ | omega | (simp only [ints_len, encYs_len]; omega) | (simp; omega) | (simp [cloL, clo, catS, repl, ints_clo, encYs_clo, encR, encY, encS]; done) | (show chkGo _ _ _ _ _ = true; kernel_rfl)) | (simp [cloL, clo, catS, repl, ints_clo, encYs_clo, encR, encY, encS]; done) | skip)
  · unfold encT
    rw [h1, h2]
    (repeat' (first | (refine Ev.go ?_; conv => whnf) | refine And.intro ?_ ?_ | exact True.intro | exact rfl | (intro rx hrx; rw [IntWalk.i64_in _ (by omega)] at hrx) | (intro hcx; exfalso; omega) | (intro hcx; exfalso; simp only [ints_len, encYs_len] at hcx; omega) | (intro ex hex; (first | obtain ⟨xx, hxx, rfl⟩ := ints_at hex | obtain ⟨xx, hxx, rfl⟩ := encYs_at hex | obtain ⟨xx, hxx, rfl⟩ := encYs_cut hex); clear hex; try simp only [Int.toNat_natCast] at hxx) | intro _))
    all_goals (first | (refine ⟨?_⟩; first | rfl | exact List.cons_ne_nil _ _ | (show (_ : Nat) * _ ≤ _; simp [catS, repl, chunks, ints_len, encYs_len] <;> omega) | exact shS _ _ | exact shM _ | exact shN | exact encM_clo _ | exact ⟨rfl, rfl⟩ | exact ⟨rfl, rfl, rfl⟩ | omega | (simp only [ints_len, encYs_len]; omega) | (simp; omega) | (simp [cloL, clo, catS, repl, ints_clo, encYs_clo, encR, encY, encS]; done) | (show chkGo _ _ _ _ _ = true; kernel_rfl)) | (simp [cloL, clo, catS, repl, ints_clo, encYs_clo, encR, encY, encS]; done) | skip)

set_option maxHeartbeats 4000000 in
set_option maxRecDepth 100000 in
theorem c40 (z : Zone) (ws : List Int) (h : z.years.length ≤ 1000) (hw : ∀ n ∈ ws, 0 ≤ n ∧ n ≤ 255) (hwl : (ws.length : Int) ≤ 9223372036854775807)
    (hY : ∀ y ∈ z.years, (0 ≤ y.l.lo ∧ y.l.lo ≤ y.l.hi ∧ y.l.hi ≤ 10000) ∧ 0 ≤ y.p.lo ∧ y.p.lo ≤ y.p.hi ∧ y.p.hi ≤ 10000) : PF Try.prog 40 [encZ z, .sl 1 (ws.map (SV.int .u8))] (fun s => ∃ t, isTruth z t = true ∧ s = encT t) := by
  have hz := encYs_len z.years
  have hwm : (ws.map (SV.int .u8)).length = ws.length := List.length_map ..
  refine TN.pf (PF.of (TF.ev fn_40 (Ev.at ?_)))
  (repeat' (first | (refine Ev.go ?_; conv => whnf) | refine And.intro ?_ ?_ | exact True.intro | exact rfl | (intro rx hrx; rw [IntWalk.i64_in _ (by omega)] at hrx) | (intro hcx; exfalso; omega) | (intro hcx; exfalso; simp only [ints_len, encYs_len] at hcx; omega) | (intro ex hex; (first | obtain ⟨xx, hxx, rfl⟩ := ints_at hex | obtain ⟨xx, hxx, rfl⟩ := encYs_at hex | obtain ⟨xx, hxx, rfl⟩ := encYs_cut hex); clear hex; try simp only [Int.toNat_natCast] at hxx) | intro _))
  refine TWq.loopP (fun p : Nat × List (Int × Int) => [(6, .int .i64 p.1)])
    (fun p => [(2, .cells [match p.2 with | [] => .nils | _ :: _ => .own 3, match p.2 with | [] => .nils | _ :: _ => .own 4]),
      (3, match p.2 with | [] => .dead | _ :: _ => .arr 3 1 (ints (p.2.map (·.1)))), (4, match p.2 with | [] => .dead | _ :: _ => .arr 3 1 (ints (p.2.map (·.2))))])
    (fun p => p.1 ≤ z.years.length ∧ p.2.length = p.1 ∧ OkP z p.2) (fun p => z.years.length - p.1) (0, []) [] ?_ ⟨by omega, rfl, fun i p hp => by simp at hp⟩ ?_
  · (repeat' (first | (refine Ev.go ?_; conv => whnf) | refine And.intro ?_ ?_ | exact True.intro | exact rfl | (intro rx hrx; rw [IntWalk.i64_in _ (by omega)] at hrx) | (intro hcx; exfalso; omega) | (intro hcx; exfalso; simp only [ints_len, encYs_len] at hcx; omega) | (intro ex hex; (first | obtain ⟨xx, hxx, rfl⟩ := ints_at hex | obtain ⟨xx, hxx, rfl⟩ := encYs_at hex | obtain ⟨xx, hxx, rfl⟩ := encYs_cut hex); clear hex; try simp only [Int.toNat_natCast] at hxx) | intro _))
    all_goals (first | (refine ⟨?_⟩; first | rfl | exact List.cons_ne_nil _ _ | (show (_ : Nat) * _ ≤ _; simp [catS, repl, chunks, ints_len, encYs_len] <;> omega) | exact shS _ _ | exact shM _ | exact shN | exact encM_clo _ | exact ⟨rfl, rfl⟩ | exact ⟨rfl, rfl, rfl⟩ | omega | (simp only [ints_len, encYs_len]; omega) | (simp; omega) | (simp [cloL, clo, catS, repl, ints_clo, encYs_clo, encR, encY, encS]; done) | (show chkGo _ _ _ _ _ = true; kernel_rfl)) | (simp [cloL, clo, catS, repl, ints_clo, encYs_clo, encR, encY, encS]; done) | skip)
  · rintro ⟨k, l⟩ ⟨hk, hl, hok⟩
    dsimp only at hk hl hok ⊢
    rcases Nat.lt_or_ge k z.years.length with hkl | hkl
    · obtain ⟨y, hy⟩ : ∃ y, z.years[k]? = some y := ⟨_, List.getElem?_eq_getElem hkl⟩
      obtain ⟨⟨l1, l2, l3⟩, p1, p2, p3⟩ := hY y (List.mem_of_getElem? hy)
      have hgetY : ∀ {n : Nat} {e : SV}, n = k → (encYs z.years)[n]? = some e → e = encY y := by
        rintro n e rfl he
        obtain ⟨x, hx, rfl⟩ := encYs_at he
        rw [hy] at hx; cases hx; rfl
      have hgetS : ∀ {n : Nat} {e : SV}, 0 ≤ n → (ws.map (SV.int .u8))[n]? = some e → ∃ W : Int, e = .int .u8 W ∧ (0 ≤ W ∧ W ≤ 255) := by
        intro n e _ he
        rw [List.getElem?_map, Option.map_eq_some_iff] at he
        obtain ⟨x, hx, rfl⟩ := he
        exact ⟨x, rfl, hw x (List.mem_of_getElem? hx)⟩
      rcases Nat.eq_zero_or_pos ws.length with hw0 | hw0
      all_goals
        cases l with
        | nil => ?_
        | cons a l => ?_
      all_goals
        (try simp only [List.length_cons, List.length_nil] at hl)
        (repeat' (first | (intro ex hex; have hq := hgetY (by omega) hex; subst hq; clear hex) | (intro ex hex; have hq := hgetS (by omega) hex; obtain ⟨W, rfl, hW⟩ := hq; clear hex) | (refine Ev.go ?_; conv => whnf) | refine And.intro ?_ ?_ | exact True.intro | exact rfl | (intro rx hrx; rw [IntWalk.i64_in _ (by omega)] at hrx) | (intro rx hrx; obtain ⟨kx, rfl, hkx⟩ := tmod_ex hrx (by omega) (by omega)) | (intro hcx; exfalso; omega) | (intro hcx; exfalso; simp only [ints_len, encYs_len] at hcx; omega) | (intro ex hex; (first | obtain ⟨xx, hxx, rfl⟩ := ints_at hex | obtain ⟨xx, hxx, rfl⟩ := encYs_at hex | obtain ⟨xx, hxx, rfl⟩ := encYs_cut hex); clear hex; try simp only [Int.toNat_natCast] at hxx) | intro _))
        all_goals (first | (refine ⟨?_⟩; first | rfl | exact List.cons_ne_nil _ _ | (show (_ : Nat) * _ ≤ _; simp [catS, repl, chunks, ints_len, encYs_len] <;> omega) | exact shS _ _ | exact shM _ | exact shN | exact encM_clo _ | exact ⟨rfl, rfl⟩ | exact ⟨rfl, rfl, rfl⟩ | omega | (simp only [ints_len, encYs_len]; omega) | (simp; omega) | (simp [cloL, clo, catS, repl, ints_clo, encYs_clo, encR, encY, encS]; done) | (show chkGo _ _ _ _ _ = true; kernel_rfl)) | (simp [cloL, clo, catS, repl, ints_clo, encYs_clo, encR, encY, encS]; done) | skip)
        rename_i u1 e1 u2 e2 k1 A hA u0 h9 u3 e5 e6 B hB
        refine ⟨⟨[(3, 7), (4, 9)], (k + 1, _ ++ [(A, B)]), ⟨by dsimp only; omega, by dsimp only; simp; omega, hok.snoc (y := y) (by rw [← hy]; congr 1) (by omega) (by omega) (by omega) (by omega)⟩, by dsimp only; omega, ?_⟩⟩
        (repeat' (first | (refine Ev.go ?_; conv => whnf) | refine And.intro ?_ ?_ | exact True.intro | exact rfl | (intro rx hrx; rw [IntWalk.i64_in _ (by omega)] at hrx) | (intro hcx; exfalso; omega) | (intro hcx; exfalso; simp only [ints_len, encYs_len] at hcx; omega) | (intro ex hex; (first | obtain ⟨xx, hxx, rfl⟩ := ints_at hex | obtain ⟨xx, hxx, rfl⟩ := encYs_at hex | obtain ⟨xx, hxx, rfl⟩ := encYs_cut hex); clear hex; try simp only [Int.toNat_natCast] at hxx) | intro _))
        all_goals (first | (refine ⟨?_⟩; first | rfl | exact List.cons_ne_nil _ _ | (show (_ : Nat) * _ ≤ _; simp [catS, repl, chunks, ints_len, encYs_len] <;> omega) | exact shS _ _ | exact shM _ | exact shN | exact encM_clo _ | exact ⟨rfl, rfl⟩ | exact ⟨rfl, rfl, rfl⟩ | omega | (simp only [ints_len, encYs_len]; omega) | (simp; omega) | (simp [cloL, clo, catS, repl, ints_clo, encYs_clo, encR, encY, encS]; done) | (show chkGo _ _ _ _ _ = true; kernel_rfl)) | (simp [cloL, clo, catS, repl, ints_clo, encYs_clo, encR, encY, encS]; done) | skip)
        all_goals (try (refine ⟨?_⟩; simp [ints, catS, repl]; done))
    · have hke : k = z.years.length := by omega
      cases l with
      | nil =>
        (repeat' (first | (refine Ev.go ?_; conv => whnf) | refine And.intro ?_ ?_ | exact True.intro | exact rfl | (intro rx hrx; rw [IntWalk.i64_in _ (by omega)] at hrx) | (intro hcx; exfalso; omega) | (intro hcx; exfalso; simp only [ints_len, encYs_len] at hcx; omega) | (intro ex hex; (first | obtain ⟨xx, hxx, rfl⟩ := ints_at hex | obtain ⟨xx, hxx, rfl⟩ := encYs_at hex | obtain ⟨xx, hxx, rfl⟩ := encYs_cut hex); clear hex; try simp only [Int.toNat_natCast] at hxx) | intro _))
        all_goals (first | (refine ⟨?_⟩; first | rfl | exact List.cons_ne_nil _ _ | (show (_ : Nat) * _ ≤ _; simp [catS, repl, chunks, ints_len, encYs_len] <;> omega) | exact shS _ _ | exact shM _ | exact shN | exact encM_clo _ | exact ⟨rfl, rfl⟩ | exact ⟨rfl, rfl, rfl⟩ | omega | (simp only [ints_len, encYs_len]; omega) | (simp; omega) | (simp [cloL, clo, catS, repl, ints_clo, encYs_clo, encR, encY, encS]; done) | (show chkGo _ _ _ _ _ = true; kernel_rfl)) | (simp [cloL, clo, catS, repl, ints_clo, encYs_clo, encR, encY, encS]; done) | skip)
        exact ⟨_, hok.isTruth (by rw [hl, hke]), .inr ⟨rfl, rfl, rfl⟩⟩
      | cons a l =>
        (repeat' (first | (refine Ev.go ?_; conv => whnf) | refine And.intro ?_ ?_ | exact True.intro | exact rfl | (intro rx hrx; rw [IntWalk.i64_in _ (by omega)] at hrx) | (intro hcx; exfalso; omega) | (intro hcx; exfalso; simp only [ints_len, encYs_len] at hcx; omega) | (intro ex hex; (first | obtain ⟨xx, hxx, rfl⟩ := ints_at hex | obtain ⟨xx, hxx, rfl⟩ := encYs_at hex | obtain ⟨xx, hxx, rfl⟩ := encYs_cut hex); clear hex; try simp only [Int.toNat_natCast] at hxx) | intro _))
        all_goals (first | (refine ⟨?_⟩; first | rfl | exact List.cons_ne_nil _ _ | (show (_ : Nat) * _ ≤ _; simp [catS, repl, chunks, ints_len, encYs_len] <;> omega) | exact shS _ _ | exact shM _ | exact shN | exact encM_clo _ | exact ⟨rfl, rfl⟩ | exact ⟨rfl, rfl, rfl⟩ | omega | (simp only [ints_len, encYs_len]; omega) | (simp; omega) | (simp [cloL, clo, catS, repl, ints_clo, encYs_clo, encR, encY, encS]; done) | (show chkGo _ _ _ _ _ = true; kernel_rfl)) | (simp [cloL, clo, catS, repl, ints_clo, encYs_clo, encR, encY, encS]; done) | skip)
        exact ⟨_, hok.isTruth (by rw [hl, hke]), .inl rfl⟩
end Go.Proofs.Ytelnonfenpjjcaa
