/- ZoneFalse, the walk. -/
import Derived.Test.YtelnonfenpjjcaaZE
set_option linter.unusedSimpArgs false
set_option linter.unusedVariables false
open Go Go.TV
namespace Go.Proofs.Ytelnonfenpjjcaa

theorem refR_len (r : Rule) (z : Zone) (n o : Nat) : (refR r z n o).length ≤ 6 := by
  simp only [refR, List.length_map]; exact Nat.le_trans (List.length_filter_le _ _) (by simp)
theorem bitsN_len (o n : Nat) : (bitsN o n).length ≤ n := by
  simp only [bitsN, List.length_map]; exact Nat.le_trans (List.length_filter_le _ _) (by simp)
def obs : Option (List Int) → SV
  | none => .nils
  | some b => .sl 1 (ints b)
theorem bestO_len (r : Rule) (z : Zone) (c : Int) (n : Nat) {b : List Int} (h : bestO r z c n = some b) : b.length ≤ 10 := by
  obtain ⟨m, _, rfl, _⟩ := ((bestO_spec r z c n).1 b h).1
  exact bitsN_len _ _
theorem shl_n {n : Nat} {x m : Int} (h : x = IntKind.i64.wrap (1 * 2 ^ min m.toNat IntKind.i64.bits)) (hm : m = n ∧ n ≤ 10) : x = ((2 ^ n : Nat) : Int) := by
  obtain ⟨rfl, hn⟩ := hm
  have hp : 2 ^ n ≤ 2 ^ 10 := Nat.pow_le_pow_right (by omega) hn
  rw [show min ((n : Int).toNat) IntKind.i64.bits = n by rw [Int.toNat_natCast]; exact Nat.min_eq_left (by show n ≤ 64; omega)] at h
  rw [h, Int.one_mul, show ((2 : Int) ^ n) = ((2 ^ n : Nat) : Int) by norm_cast]
  have hp : 2 ^ n ≤ 1024 := hp
  generalize (2 ^ n : Nat) = q at *
  exact IntWalk.i64_in _ (by omega)

/-- A slice, of which nil is told as the empty one, and whether it is one. -/
def SlB (l : List Int) (e : Bool) (s : SV) : Prop := ∃ x, s = .tup [x, .bool e] ∧ SlN l x
theorem SlB.pf {f : FuncId} {args : List SV} {l : List Int} {e : Bool} (h : PF Try.prog f args (SlB l e)) : PF Try.prog f args (· = .tup [.sl 1 (ints l), .bool e]) := by
  refine PF.res h fun s hs _ => ?_
  obtain ⟨x, rfl, hx⟩ := hs
  refine ⟨_, rfl, by simp [clo, cloL, ints_clo], ?_⟩
  rcases hx with rfl | ⟨rfl, rfl⟩
  · refine Ev.go ?_; conv => whnf
    exact ⟨⟨rfl⟩, Ev.go ⟨⟨rfl⟩, Ev.go trivial⟩⟩
  · refine Ev.go ?_; conv => whnf
    exact ⟨⟨rfl⟩, Ev.go ⟨⟨rfl⟩, Ev.go trivial⟩⟩

set_option maxHeartbeats 8000000 in
set_option maxRecDepth 100000 in
theorem c35 (r : Rule) (z : Zone) (c : Int) (h0 : fault r z = 0) : PF Try.prog 35 [encRule r, encZ z, .int .i64 c] (· = .tup [.sl 1 (ints ((bestO r z c (2 ^ z.years.length)).getD [])), .bool (bestO r z c (2 ^ z.years.length)).isSome]) := by
  have hz := encYs_len z.years
  have hl6 := fault_len h0
  have hpow : 2 ^ z.years.length ≤ 2 ^ 6 := Nat.pow_le_pow_right (by omega) hl6
  have hwrp : ∀ {x n : Int}, x = IntKind.u64.wrap n → n = z.years.length ∧ z.years.length ≤ 60 → x = (z.years.length : Int) := wrp_u
  have hshr : ∀ {x m : Int}, x = IntKind.i64.wrap (1 * 2 ^ min m.toNat IntKind.i64.bits) → m = z.years.length ∧ z.years.length ≤ 10 → x = ((2 ^ z.years.length : Nat) : Int) := shl_n
  generalize hN : 2 ^ z.years.length = N at *
  refine SlB.pf (PF.of (TF.ev fn_35 (Ev.at ?_)))
  (repeat' (first | (refine Ev.go ?_; conv => whnf) | refine And.intro ?_ ?_ | exact True.intro | exact rfl | (intro rx hrx; rw [IntWalk.i64_in _ (by omega)] at hrx) | (intro hcx; exfalso; omega) | (intro hcx; exfalso; simp only [ints_len, encYs_len] at hcx; omega) | (intro ex hex; (first | obtain ⟨xx, hxx, rfl⟩ := ints_at hex | obtain ⟨xx, hxx, rfl⟩ := encYs_at hex | obtain ⟨xx, hxx, rfl⟩ := encYs_cut hex); clear hex; try simp only [Int.toNat_natCast] at hxx) | intro _))
  refine TWq.loop (fun p : Nat × Option (List Int) => [(10, .int .i64 p.1), (8, obs p.2), (9, .bool p.2.isSome), (11, .junk)])
    (fun _ => []) (fun p => p.1 ≤ N ∧ p.2 = bestO r z c p.1) (fun p => N - p.1) (0, none) [] [] ?_ ⟨Nat.zero_le _, rfl⟩ ?_
  · (repeat' (first | (refine Ev.go ?_; conv => whnf) | refine And.intro ?_ ?_ | exact True.intro | exact rfl | (intro rx hrx; rw [IntWalk.i64_in _ (by omega)] at hrx) | (intro hcx; exfalso; omega) | (intro hcx; exfalso; simp only [ints_len, encYs_len] at hcx; omega) | (intro ex hex; (first | obtain ⟨xx, hxx, rfl⟩ := ints_at hex | obtain ⟨xx, hxx, rfl⟩ := encYs_at hex | obtain ⟨xx, hxx, rfl⟩ := encYs_cut hex); clear hex; try simp only [Int.toNat_natCast] at hxx) | intro _))
    all_goals (first | (refine ⟨?_⟩; first | rfl | exact List.cons_ne_nil _ _ | (show (_ : Nat) * _ ≤ _; simp [catS, repl, chunks, ints_len, encYs_len] <;> omega) | exact shS _ _ | exact shM _ | exact shN | exact encM_clo _ | exact ⟨rfl, rfl⟩ | exact ⟨rfl, rfl, rfl⟩ | omega | (simp only [ints_len, encYs_len]; omega) | (simp; omega) | (simp [cloL, clo, catS, repl, ints_clo, encYs_clo, encR, encY, encS]; done) | (show chkGo _ _ _ _ _ = true; kernel_rfl)) | (simp [cloL, clo, catS, repl, ints_clo, encYs_clo, encR, encY, encS]; done) | skip)
  · rintro ⟨n, B⟩ ⟨hn, hB⟩
    dsimp only at hn hB ⊢
    have hb6 := bitsN_len n 10
    have hbl := fun b => bestO_len r z c n (b := b)
    have hrl := refR_len r z z.years.length n
    rw [← hB] at hbl
    have d25 : n < 1000 → _ := fun h => c25 r z z.years.length n h0 (Nat.le_refl _) h
    have d38 := c38 (refR r z z.years.length n) c (by omega)
    rcases B with _ | b
    · have hS : bestO r z c (n + 1) = if c ∈ refR r z z.years.length n then some (bitsN n 10) else none := by simp only [bestO]; rw [← hB]; simp
      (repeat' (first | (intro rx hrx; obtain rfl := hwrp hrx (by omega); clear hrx) | (intro rx hrx; obtain rfl := hshr hrx (by omega); clear hrx) | (intro rx hrx; obtain rfl := hbit hrx; clear hrx) | (refine Ev.go ?_; conv => whnf) | refine And.intro ?_ ?_ | exact True.intro | exact rfl | (intro rx hrx; rw [IntWalk.i64_in _ (by omega)] at hrx) | (intro hcx; exfalso; omega) | (intro hcx; exfalso; simp only [ints_len, encYs_len] at hcx; omega) | (intro ex hex; (first | obtain ⟨xx, hxx, rfl⟩ := ints_at hex | obtain ⟨xx, hxx, rfl⟩ := encYs_at hex | obtain ⟨xx, hxx, rfl⟩ := encYs_cut hex); clear hex; try simp only [Int.toNat_natCast] at hxx) | intro _))
      all_goals (first | (refine ⟨?_⟩; first | rfl | exact List.cons_ne_nil _ _ | (show (_ : Nat) * _ ≤ _; simp [catS, repl, chunks, ints_len, encYs_len] <;> omega) | exact shS _ _ | exact shM _ | exact shN | exact encM_clo _ | exact ⟨rfl, rfl⟩ | exact ⟨rfl, rfl, rfl⟩ | omega | (simp only [ints_len, encYs_len]; omega) | (simp; omega) | (simp [cloL, clo, catS, repl, ints_clo, encYs_clo, encR, encY, encS]; done) | (show chkGo _ _ _ _ _ = true; kernel_rfl)) | (simp [cloL, clo, catS, repl, ints_clo, encYs_clo, encR, encY, encS]; done) | skip)
      · refine TSq.pureC (c66 n (by omega)) (by simp [cloL, clo, encR, encY, encRule, encZ, encS, ints_clo, encYs_clo]) rfl (And.intro rfl rfl) ?_
        (repeat' (first | (refine Ev.go ?_; conv => whnf) | refine And.intro ?_ ?_ | exact True.intro | exact rfl | (intro rx hrx; rw [IntWalk.i64_in _ (by omega)] at hrx) | (intro hcx; exfalso; omega) | (intro hcx; exfalso; simp only [ints_len, encYs_len] at hcx; omega) | (intro ex hex; (first | obtain ⟨xx, hxx, rfl⟩ := ints_at hex | obtain ⟨xx, hxx, rfl⟩ := encYs_at hex | obtain ⟨xx, hxx, rfl⟩ := encYs_cut hex); clear hex; try simp only [Int.toNat_natCast] at hxx) | intro _))
        all_goals (first | (refine ⟨?_⟩; first | rfl | exact List.cons_ne_nil _ _ | (show (_ : Nat) * _ ≤ _; simp [catS, repl, chunks, ints_len, encYs_len] <;> omega) | exact shS _ _ | exact shM _ | exact shN | exact encM_clo _ | exact ⟨rfl, rfl⟩ | exact ⟨rfl, rfl, rfl⟩ | omega | (simp only [ints_len, encYs_len]; omega) | (simp; omega) | (simp [cloL, clo, catS, repl, ints_clo, encYs_clo, encR, encY, encS]; done) | (show chkGo _ _ _ _ _ = true; kernel_rfl)) | (simp [cloL, clo, catS, repl, ints_clo, encYs_clo, encR, encY, encS]; done) | skip)
        obtain rfl : rx = (z.years.length : Int) - 1 := by omega
        refine TSq.pureC (d25 (by omega)) (by simp [cloL, clo, encR, encY, encRule, encZ, encS, ints_clo, encYs_clo]) rfl (And.intro rfl rfl) ?_
        (repeat' (first | (refine Ev.go ?_; conv => whnf) | refine And.intro ?_ ?_ | exact True.intro | exact rfl | (intro rx hrx; rw [IntWalk.i64_in _ (by omega)] at hrx) | (intro hcx; exfalso; omega) | (intro hcx; exfalso; simp only [ints_len, encYs_len] at hcx; omega) | (intro ex hex; (first | obtain ⟨xx, hxx, rfl⟩ := ints_at hex | obtain ⟨xx, hxx, rfl⟩ := encYs_at hex | obtain ⟨xx, hxx, rfl⟩ := encYs_cut hex); clear hex; try simp only [Int.toNat_natCast] at hxx) | intro _))
        refine TSq.pureBC d38 (by simp [cloL, clo, encR, encY, encRule, encZ, encS, ints_clo, encYs_clo]) rfl (And.intro rfl rfl) ?_ ?_ <;> intro hh
        · simp only [decide_eq_true_eq] at hh
          rw [if_pos hh] at hS
          (repeat' (first | (refine Ev.go ?_; conv => whnf) | refine And.intro ?_ ?_ | exact True.intro | exact rfl | (intro rx hrx; rw [IntWalk.i64_in _ (by omega)] at hrx) | (intro hcx; exfalso; omega) | (intro hcx; exfalso; simp only [ints_len, encYs_len] at hcx; omega) | (intro ex hex; (first | obtain ⟨xx, hxx, rfl⟩ := ints_at hex | obtain ⟨xx, hxx, rfl⟩ := encYs_at hex | obtain ⟨xx, hxx, rfl⟩ := encYs_cut hex); clear hex; try simp only [Int.toNat_natCast] at hxx) | intro _))
          all_goals (first | (refine ⟨?_⟩; first | rfl | exact List.cons_ne_nil _ _ | (show (_ : Nat) * _ ≤ _; simp [catS, repl, chunks, ints_len, encYs_len] <;> omega) | exact shS _ _ | exact shM _ | exact shN | exact encM_clo _ | exact ⟨rfl, rfl⟩ | exact ⟨rfl, rfl, rfl⟩ | omega | (simp only [ints_len, encYs_len]; omega) | (simp; omega) | (simp [cloL, clo, catS, repl, ints_clo, encYs_clo, encR, encY, encS]; done) | (show chkGo _ _ _ _ _ = true; kernel_rfl)) | (simp [cloL, clo, catS, repl, ints_clo, encYs_clo, encR, encY, encS]; done) | skip)
          refine ⟨⟨(n + 1, some (bitsN n 10)), ⟨by dsimp only; omega, hS.symm⟩, by dsimp only; omega, ?_⟩⟩
          (repeat' (first | (refine Ev.go ?_; conv => whnf) | refine And.intro ?_ ?_ | exact True.intro | exact rfl | (intro rx hrx; rw [IntWalk.i64_in _ (by omega)] at hrx) | (intro hcx; exfalso; omega) | (intro hcx; exfalso; simp only [ints_len, encYs_len] at hcx; omega) | (intro ex hex; (first | obtain ⟨xx, hxx, rfl⟩ := ints_at hex | obtain ⟨xx, hxx, rfl⟩ := encYs_at hex | obtain ⟨xx, hxx, rfl⟩ := encYs_cut hex); clear hex; try simp only [Int.toNat_natCast] at hxx) | intro _))
          all_goals (first | (refine ⟨?_⟩; first | rfl | exact List.cons_ne_nil _ _ | (show (_ : Nat) * _ ≤ _; simp [catS, repl, chunks, ints_len, encYs_len] <;> omega) | exact shS _ _ | exact shM _ | exact shN | exact encM_clo _ | exact ⟨rfl, rfl⟩ | exact ⟨rfl, rfl, rfl⟩ | omega | (simp only [ints_len, encYs_len]; omega) | (simp; omega) | (simp [cloL, clo, catS, repl, ints_clo, encYs_clo, encR, encY, encS]; done) | (show chkGo _ _ _ _ _ = true; kernel_rfl)) | (simp [cloL, clo, catS, repl, ints_clo, encYs_clo, encR, encY, encS]; done) | skip)
        · simp only [decide_eq_false_iff_not] at hh
          rw [if_neg hh] at hS
          (repeat' (first | (refine Ev.go ?_; conv => whnf) | refine And.intro ?_ ?_ | exact True.intro | exact rfl | (intro rx hrx; rw [IntWalk.i64_in _ (by omega)] at hrx) | (intro hcx; exfalso; omega) | (intro hcx; exfalso; simp only [ints_len, encYs_len] at hcx; omega) | (intro ex hex; (first | obtain ⟨xx, hxx, rfl⟩ := ints_at hex | obtain ⟨xx, hxx, rfl⟩ := encYs_at hex | obtain ⟨xx, hxx, rfl⟩ := encYs_cut hex); clear hex; try simp only [Int.toNat_natCast] at hxx) | intro _))
          all_goals (first | (refine ⟨?_⟩; first | rfl | exact List.cons_ne_nil _ _ | (show (_ : Nat) * _ ≤ _; simp [catS, repl, chunks, ints_len, encYs_len] <;> omega) | exact shS _ _ | exact shM _ | exact shN | exact encM_clo _ | exact ⟨rfl, rfl⟩ | exact ⟨rfl, rfl, rfl⟩ | omega | (simp only [ints_len, encYs_len]; omega) | (simp; omega) | (simp [cloL, clo, catS, repl, ints_clo, encYs_clo, encR, encY, encS]; done) | (show chkGo _ _ _ _ _ = true; kernel_rfl)) | (simp [cloL, clo, catS, repl, ints_clo, encYs_clo, encR, encY, encS]; done) | skip)
          refine ⟨⟨(n + 1, none), ⟨by dsimp only; omega, hS.symm⟩, by dsimp only; omega, ?_⟩⟩
          (repeat' (first | (refine Ev.go ?_; conv => whnf) | refine And.intro ?_ ?_ | exact True.intro | exact rfl | (intro rx hrx; rw [IntWalk.i64_in _ (by omega)] at hrx) | (intro hcx; exfalso; omega) | (intro hcx; exfalso; simp only [ints_len, encYs_len] at hcx; omega) | (intro ex hex; (first | obtain ⟨xx, hxx, rfl⟩ := ints_at hex | obtain ⟨xx, hxx, rfl⟩ := encYs_at hex | obtain ⟨xx, hxx, rfl⟩ := encYs_cut hex); clear hex; try simp only [Int.toNat_natCast] at hxx) | intro _))
          all_goals (first | (refine ⟨?_⟩; first | rfl | exact List.cons_ne_nil _ _ | (show (_ : Nat) * _ ≤ _; simp [catS, repl, chunks, ints_len, encYs_len] <;> omega) | exact shS _ _ | exact shM _ | exact shN | exact encM_clo _ | exact ⟨rfl, rfl⟩ | exact ⟨rfl, rfl, rfl⟩ | omega | (simp only [ints_len, encYs_len]; omega) | (simp; omega) | (simp [cloL, clo, catS, repl, ints_clo, encYs_clo, encR, encY, encS]; done) | (show chkGo _ _ _ _ _ = true; kernel_rfl)) | (simp [cloL, clo, catS, repl, ints_clo, encYs_clo, encR, encY, encS]; done) | skip)
      · have : n = N := by omega
        subst this
        rw [← hB]
        exact ⟨_, rfl, .inr ⟨rfl, rfl⟩⟩
    · have hS : bestO r z c (n + 1) = if shorter (bitsN n 10) b = true ∧ c ∈ refR r z z.years.length n then some (bitsN n 10) else some b := by simp only [bestO]; rw [← hB]
      have hb10 := hbl b rfl
      (repeat' (first | (intro rx hrx; obtain rfl := hwrp hrx (by omega); clear hrx) | (intro rx hrx; obtain rfl := hshr hrx (by omega); clear hrx) | (intro rx hrx; obtain rfl := hbit hrx; clear hrx) | (refine Ev.go ?_; conv => whnf) | refine And.intro ?_ ?_ | exact True.intro | exact rfl | (intro rx hrx; rw [IntWalk.i64_in _ (by omega)] at hrx) | (intro hcx; exfalso; omega) | (intro hcx; exfalso; simp only [ints_len, encYs_len] at hcx; omega) | (intro ex hex; (first | obtain ⟨xx, hxx, rfl⟩ := ints_at hex | obtain ⟨xx, hxx, rfl⟩ := encYs_at hex | obtain ⟨xx, hxx, rfl⟩ := encYs_cut hex); clear hex; try simp only [Int.toNat_natCast] at hxx) | intro _))
      all_goals (first | (refine ⟨?_⟩; first | rfl | exact List.cons_ne_nil _ _ | (show (_ : Nat) * _ ≤ _; simp [catS, repl, chunks, ints_len, encYs_len] <;> omega) | exact shS _ _ | exact shM _ | exact shN | exact encM_clo _ | exact ⟨rfl, rfl⟩ | exact ⟨rfl, rfl, rfl⟩ | omega | (simp only [ints_len, encYs_len]; omega) | (simp; omega) | (simp [cloL, clo, catS, repl, ints_clo, encYs_clo, encR, encY, encS]; done) | (show chkGo _ _ _ _ _ = true; kernel_rfl)) | (simp [cloL, clo, catS, repl, ints_clo, encYs_clo, encR, encY, encS]; done) | skip)
      · refine TSq.pureC (c66 n (by omega)) (by simp [cloL, clo, encR, encY, encRule, encZ, encS, ints_clo, encYs_clo]) rfl (And.intro rfl rfl) ?_
        (repeat' (first | (refine Ev.go ?_; conv => whnf) | refine And.intro ?_ ?_ | exact True.intro | exact rfl | (intro rx hrx; rw [IntWalk.i64_in _ (by omega)] at hrx) | (intro hcx; exfalso; omega) | (intro hcx; exfalso; simp only [ints_len, encYs_len] at hcx; omega) | (intro ex hex; (first | obtain ⟨xx, hxx, rfl⟩ := ints_at hex | obtain ⟨xx, hxx, rfl⟩ := encYs_at hex | obtain ⟨xx, hxx, rfl⟩ := encYs_cut hex); clear hex; try simp only [Int.toNat_natCast] at hxx) | intro _))
        all_goals (first | (refine ⟨?_⟩; first | rfl | exact List.cons_ne_nil _ _ | (show (_ : Nat) * _ ≤ _; simp [catS, repl, chunks, ints_len, encYs_len] <;> omega) | exact shS _ _ | exact shM _ | exact shN | exact encM_clo _ | exact ⟨rfl, rfl⟩ | exact ⟨rfl, rfl, rfl⟩ | omega | (simp only [ints_len, encYs_len]; omega) | (simp; omega) | (simp [cloL, clo, catS, repl, ints_clo, encYs_clo, encR, encY, encS]; done) | (show chkGo _ _ _ _ _ = true; kernel_rfl)) | (simp [cloL, clo, catS, repl, ints_clo, encYs_clo, encR, encY, encS]; done) | skip)
        refine TSq.pureBC (c67 (bitsN n 10) b (by omega) (by omega)) (by simp [cloL, clo, encR, encY, encRule, encZ, encS, ints_clo, encYs_clo]) rfl (And.intro rfl rfl) ?_ ?_ <;> intro hs
        · (repeat' (first | (refine Ev.go ?_; conv => whnf) | refine And.intro ?_ ?_ | exact True.intro | exact rfl | (intro rx hrx; rw [IntWalk.i64_in _ (by omega)] at hrx) | (intro hcx; exfalso; omega) | (intro hcx; exfalso; simp only [ints_len, encYs_len] at hcx; omega) | (intro ex hex; (first | obtain ⟨xx, hxx, rfl⟩ := ints_at hex | obtain ⟨xx, hxx, rfl⟩ := encYs_at hex | obtain ⟨xx, hxx, rfl⟩ := encYs_cut hex); clear hex; try simp only [Int.toNat_natCast] at hxx) | intro _))
          all_goals (first | (refine ⟨?_⟩; first | rfl | exact List.cons_ne_nil _ _ | (show (_ : Nat) * _ ≤ _; simp [catS, repl, chunks, ints_len, encYs_len] <;> omega) | exact shS _ _ | exact shM _ | exact shN | exact encM_clo _ | exact ⟨rfl, rfl⟩ | exact ⟨rfl, rfl, rfl⟩ | omega | (simp only [ints_len, encYs_len]; omega) | (simp; omega) | (simp [cloL, clo, catS, repl, ints_clo, encYs_clo, encR, encY, encS]; done) | (show chkGo _ _ _ _ _ = true; kernel_rfl)) | (simp [cloL, clo, catS, repl, ints_clo, encYs_clo, encR, encY, encS]; done) | skip)
          obtain rfl : rx = (z.years.length : Int) - 1 := by omega
          refine TSq.pureC (d25 (by omega)) (by simp [cloL, clo, encR, encY, encRule, encZ, encS, ints_clo, encYs_clo]) rfl (And.intro rfl rfl) ?_
          (repeat' (first | (refine Ev.go ?_; conv => whnf) | refine And.intro ?_ ?_ | exact True.intro | exact rfl | (intro rx hrx; rw [IntWalk.i64_in _ (by omega)] at hrx) | (intro hcx; exfalso; omega) | (intro hcx; exfalso; simp only [ints_len, encYs_len] at hcx; omega) | (intro ex hex; (first | obtain ⟨xx, hxx, rfl⟩ := ints_at hex | obtain ⟨xx, hxx, rfl⟩ := encYs_at hex | obtain ⟨xx, hxx, rfl⟩ := encYs_cut hex); clear hex; try simp only [Int.toNat_natCast] at hxx) | intro _))
          refine TSq.pureBC d38 (by simp [cloL, clo, encR, encY, encRule, encZ, encS, ints_clo, encYs_clo]) rfl (And.intro rfl rfl) ?_ ?_ <;> intro hh
          · simp only [decide_eq_true_eq] at hh
            rw [if_pos ⟨hs, hh⟩] at hS
            (repeat' (first | (refine Ev.go ?_; conv => whnf) | refine And.intro ?_ ?_ | exact True.intro | exact rfl | (intro rx hrx; rw [IntWalk.i64_in _ (by omega)] at hrx) | (intro hcx; exfalso; omega) | (intro hcx; exfalso; simp only [ints_len, encYs_len] at hcx; omega) | (intro ex hex; (first | obtain ⟨xx, hxx, rfl⟩ := ints_at hex | obtain ⟨xx, hxx, rfl⟩ := encYs_at hex | obtain ⟨xx, hxx, rfl⟩ := encYs_cut hex); clear hex; try simp only [Int.toNat_natCast] at hxx) | intro _))
            all_goals (first | (refine ⟨?_⟩; first | rfl | exact List.cons_ne_nil _ _ | (show (_ : Nat) * _ ≤ _; simp [catS, repl, chunks, ints_len, encYs_len] <;> omega) | exact shS _ _ | exact shM _ | exact shN | exact encM_clo _ | exact ⟨rfl, rfl⟩ | exact ⟨rfl, rfl, rfl⟩ | omega | (simp only [ints_len, encYs_len]; omega) | (simp; omega) | (simp [cloL, clo, catS, repl, ints_clo, encYs_clo, encR, encY, encS]; done) | (show chkGo _ _ _ _ _ = true; kernel_rfl)) | (simp [cloL, clo, catS, repl, ints_clo, encYs_clo, encR, encY, encS]; done) | skip)
            refine ⟨⟨(n + 1, some (bitsN n 10)), ⟨by dsimp only; omega, hS.symm⟩, by dsimp only; omega, ?_⟩⟩
            (repeat' (first | (refine Ev.go ?_; conv => whnf) | refine And.intro ?_ ?_ | exact True.intro | exact rfl | (intro rx hrx; rw [IntWalk.i64_in _ (by omega)] at hrx) | (intro hcx; exfalso; omega) | (intro hcx; exfalso; simp only [ints_len, encYs_len] at hcx; omega) | (intro ex hex; (first | obtain ⟨xx, hxx, rfl⟩ := ints_at hex | obtain ⟨xx, hxx, rfl⟩ := encYs_at hex | obtain ⟨xx, hxx, rfl⟩ := encYs_cut hex); clear hex; try simp only [Int.toNat_natCast] at hxx) | intro _))
            all_goals (first | (refine ⟨?_⟩; first | rfl | exact List.cons_ne_nil _ _ | (show (_ : Nat) * _ ≤ _; simp [catS, repl, chunks, ints_len, encYs_len] <;> omega) | exact shS _ _ | exact shM _ | exact shN | exact encM_clo _ | exact ⟨rfl, rfl⟩ | exact ⟨rfl, rfl, rfl⟩ | omega | (simp only [ints_len, encYs_len]; omega) | (simp; omega) | (simp [cloL, clo, catS, repl, ints_clo, encYs_clo, encR, encY, encS]; done) | (show chkGo _ _ _ _ _ = true; kernel_rfl)) | (simp [cloL, clo, catS, repl, ints_clo, encYs_clo, encR, encY, encS]; done) | skip)
          · simp only [decide_eq_false_iff_not] at hh
            rw [if_neg (fun h => hh h.2)] at hS
            (repeat' (first | (refine Ev.go ?_; conv => whnf) | refine And.intro ?_ ?_ | exact True.intro | exact rfl | (intro rx hrx; rw [IntWalk.i64_in _ (by omega)] at hrx) | (intro hcx; exfalso; omega) | (intro hcx; exfalso; simp only [ints_len, encYs_len] at hcx; omega) | (intro ex hex; (first | obtain ⟨xx, hxx, rfl⟩ := ints_at hex | obtain ⟨xx, hxx, rfl⟩ := encYs_at hex | obtain ⟨xx, hxx, rfl⟩ := encYs_cut hex); clear hex; try simp only [Int.toNat_natCast] at hxx) | intro _))
            all_goals (first | (refine ⟨?_⟩; first | rfl | exact List.cons_ne_nil _ _ | (show (_ : Nat) * _ ≤ _; simp [catS, repl, chunks, ints_len, encYs_len] <;> omega) | exact shS _ _ | exact shM _ | exact shN | exact encM_clo _ | exact ⟨rfl, rfl⟩ | exact ⟨rfl, rfl, rfl⟩ | omega | (simp only [ints_len, encYs_len]; omega) | (simp; omega) | (simp [cloL, clo, catS, repl, ints_clo, encYs_clo, encR, encY, encS]; done) | (show chkGo _ _ _ _ _ = true; kernel_rfl)) | (simp [cloL, clo, catS, repl, ints_clo, encYs_clo, encR, encY, encS]; done) | skip)
            refine ⟨⟨(n + 1, some b), ⟨by dsimp only; omega, hS.symm⟩, by dsimp only; omega, ?_⟩⟩
            (repeat' (first | (refine Ev.go ?_; conv => whnf) | refine And.intro ?_ ?_ | exact True.intro | exact rfl | (intro rx hrx; rw [IntWalk.i64_in _ (by omega)] at hrx) | (intro hcx; exfalso; omega) | (intro hcx; exfalso; simp only [ints_len, encYs_len] at hcx; omega) | (intro ex hex; (first | obtain ⟨xx, hxx, rfl⟩ := ints_at hex | obtain ⟨xx, hxx, rfl⟩ := encYs_at hex | obtain ⟨xx, hxx, rfl⟩ := encYs_cut hex); clear hex; try simp only [Int.toNat_natCast] at hxx) | intro _))
            all_goals (first | (refine ⟨?_⟩; first | rfl | exact List.cons_ne_nil _ _ | (show (_ : Nat) * _ ≤ _; simp [catS, repl, chunks, ints_len, encYs_len] <;> omega) | exact shS _ _ | exact shM _ | exact shN | exact encM_clo _ | exact ⟨rfl, rfl⟩ | exact ⟨rfl, rfl, rfl⟩ | omega | (simp only [ints_len, encYs_len]; omega) | (simp; omega) | (simp [cloL, clo, catS, repl, ints_clo, encYs_clo, encR, encY, encS]; done) | (show chkGo _ _ _ _ _ = true; kernel_rfl)) | (simp [cloL, clo, catS, repl, ints_clo, encYs_clo, encR, encY, encS]; done) | skip)
        · rw [if_neg (fun h => by rw [hs] at h; cases h.1)] at hS
          (repeat' (first | (refine Ev.go ?_; conv => whnf) | refine And.intro ?_ ?_ | exact True.intro | exact rfl | (intro rx hrx; rw [IntWalk.i64_in _ (by omega)] at hrx) | (intro hcx; exfalso; omega) | (intro hcx; exfalso; simp only [ints_len, encYs_len] at hcx; omega) | (intro ex hex; (first | obtain ⟨xx, hxx, rfl⟩ := ints_at hex | obtain ⟨xx, hxx, rfl⟩ := encYs_at hex | obtain ⟨xx, hxx, rfl⟩ := encYs_cut hex); clear hex; try simp only [Int.toNat_natCast] at hxx) | intro _))
          all_goals (first | (refine ⟨?_⟩; first | rfl | exact List.cons_ne_nil _ _ | (show (_ : Nat) * _ ≤ _; simp [catS, repl, chunks, ints_len, encYs_len] <;> omega) | exact shS _ _ | exact shM _ | exact shN | exact encM_clo _ | exact ⟨rfl, rfl⟩ | exact ⟨rfl, rfl, rfl⟩ | omega | (simp only [ints_len, encYs_len]; omega) | (simp; omega) | (simp [cloL, clo, catS, repl, ints_clo, encYs_clo, encR, encY, encS]; done) | (show chkGo _ _ _ _ _ = true; kernel_rfl)) | (simp [cloL, clo, catS, repl, ints_clo, encYs_clo, encR, encY, encS]; done) | skip)
          refine ⟨⟨(n + 1, some b), ⟨by dsimp only; omega, hS.symm⟩, by dsimp only; omega, ?_⟩⟩
          (repeat' (first | (refine Ev.go ?_; conv => whnf) | refine And.intro ?_ ?_ | exact True.intro | exact rfl | (intro rx hrx; rw [IntWalk.i64_in _ (by omega)] at hrx) | (intro hcx; exfalso; omega) | (intro hcx; exfalso; simp only [ints_len, encYs_len] at hcx; omega) | (intro ex hex; (first | obtain ⟨xx, hxx, rfl⟩ := ints_at hex | obtain ⟨xx, hxx, rfl⟩ := encYs_at hex | obtain ⟨xx, hxx, rfl⟩ := encYs_cut hex); clear hex; try simp only [Int.toNat_natCast] at hxx) | intro _))
          all_goals (first | (refine ⟨?_⟩; first | rfl | exact List.cons_ne_nil _ _ | (show (_ : Nat) * _ ≤ _; simp [catS, repl, chunks, ints_len, encYs_len] <;> omega) | exact shS _ _ | exact shM _ | exact shN | exact encM_clo _ | exact ⟨rfl, rfl⟩ | exact ⟨rfl, rfl, rfl⟩ | omega | (simp only [ints_len, encYs_len]; omega) | (simp; omega) | (simp [cloL, clo, catS, repl, ints_clo, encYs_clo, encR, encY, encS]; done) | (show chkGo _ _ _ _ _ = true; kernel_rfl)) | (simp [cloL, clo, catS, repl, ints_clo, encYs_clo, encR, encY, encS]; done) | skip)
      · have : n = N := by omega
        subst this
        rw [← hB]
        exact ⟨_, rfl, .inl rfl⟩
end Go.Proofs.Ytelnonfenpjjcaa
