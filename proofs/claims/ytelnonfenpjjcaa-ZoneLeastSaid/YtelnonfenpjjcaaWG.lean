/- ZoneLeast, the walk of the statement. -/
import Derived.Test.YtelnonfenpjjcaaZG
import Derived.Test.YtelnonfenpjjcaaZfL9
set_option linter.unusedSimpArgs false
set_option linter.unusedVariables false
open Go Go.TV
namespace Go.Proofs.Ytelnonfenpjjcaa

theorem refR_bits {r : Rule} {z : Zone} {t : List Int} {o c : Nat} (h0 : fault r z = 0) (hc : (c : Int) < r.classes) (h : ∀ i : Nat, i < z.years.length → t.contains (i : Int) = bitN o i) : (c : Int) ∈ refR r z z.years.length o ↔ goodF r z c t = true := by
  rw [refR_eq h0 h (Nat.le_refl _), mem_classes]
  unfold goodF
  exact ⟨fun h => h.2.2, fun h => ⟨by omega, hc, h⟩⟩
theorem bitN_ones {n i : Nat} (hi : i < n) : bitN (2 ^ n - 1) i = true := by
  rw [bitN_test, Nat.testBit_two_pow_sub_one]; simp [hi]

/-- What is known of the first list that will do. -/
structure Least (r : Rule) (z : Zone) (c : Nat) (l : List Int) : Prop where
  sorted : l.Pairwise (· < ·)
  range : ∀ x ∈ l, 0 ≤ x ∧ x < z.years.length
  has : (c : Int) ∈ refR r z z.years.length (setO l.reverse)
  not : ∀ x ∈ l, ∀ o : Nat, setO l.reverse = o + 2 ^ x.toNat → ¬ (c : Int) ∈ refR r z z.years.length o
theorem setO_snoc (l : List Int) (x : Int) : setO (l ++ [x]).reverse = setO l.reverse ||| 2 ^ x.toNat := by simp [setO]
theorem least_of {r : Rule} {z : Zone} {c : Nat} {l : List Int} (h0 : fault r z = 0) (hc : (c : Int) < r.classes) (h : (allC z.years.length).find? (goodF r z c) = some l) : Least r z c l := by
  have hl6 := fault_len h0
  obtain ⟨f1, f2, f3⟩ := find_first (allC_sorted _) h
  obtain ⟨t1, t2⟩ := allC_mem.1 f2
  have hm : ∀ x, x ∈ l.reverse ↔ x ∈ l := fun x => List.mem_reverse
  have hr6 : ∀ x ∈ l.reverse, 0 ≤ x ∧ x < 6 := fun x hx => by have := t2 x ((hm x).1 hx); omega
  have hb := bitN_setO (l := l.reverse) fun x hx => (hr6 x hx).1
  have hcon : ∀ i : Nat, l.reverse.contains (i : Int) = l.contains (i : Int) := fun i => by
    rw [Bool.eq_iff_iff, List.contains_iff_mem, List.contains_iff_mem]; exact hm _
  refine ⟨t1, t2, (refR_bits h0 hc fun i _ => by rw [hb, hcon]).2 f1, fun x hx o ho hin => ?_⟩
  obtain ⟨o', e1, e2⟩ := setO_erase hr6 ((hm x).2 hx)
  have : o = o' := by omega
  subst this
  have hg := (refR_bits (t := l.filter fun y => decide (y ≠ x)) h0 hc fun i _ => ?_).1 hin
  · have hmem : l.filter (fun y => decide (y ≠ x)) ∈ allC z.years.length := allC_mem.2 ⟨List.Pairwise.filter _ t1, fun y hy => t2 y (List.mem_filter.1 hy).1⟩
    have hlt : (l.filter fun y => decide (y ≠ x)).length < l.length := by
      rcases Nat.lt_or_ge (l.filter fun y => decide (y ≠ x)).length l.length with h1 | h1
      · exact h1
      · have := filter_all.1 (Nat.le_antisymm (List.length_filter_le _ _) h1) x hx
        simp at this
    rcases f3 _ hmem hg with h1 | h1
    · rw [h1] at hlt; omega
    · have := h1.len; omega
  · rw [e2, hcon, Bool.eq_iff_iff]
    simp only [List.contains_iff_mem, List.mem_filter, Bool.and_eq_true]
theorem none_of {r : Rule} {z : Zone} {c : Nat} (h0 : fault r z = 0) (hc : (c : Int) < r.classes) (h : (allC z.years.length).find? (goodF r z c) = none) : ¬ (c : Int) ∈ refR r z z.years.length (2 ^ z.years.length - 1) := by
  intro hin
  have hb : ∀ i : Nat, i < z.years.length → ((List.range z.years.length).map fun (i : Nat) => (i : Int)).contains (i : Int) = bitN (2 ^ z.years.length - 1) i := fun i hi => by
    rw [bitN_ones hi, List.contains_iff_mem, List.mem_map]
    exact ⟨i, List.mem_range.2 hi, rfl⟩
  have hg := (refR_bits h0 hc hb).1 hin
  refine List.find?_eq_none.1 h _ (allC_mem.2 ⟨cast_sorted List.pairwise_lt_range, fun x hx => ?_⟩) hg
  obtain ⟨i, h1, rfl⟩ := List.mem_map.1 hx
  have := List.mem_range.1 h1
  omega
/-- The three ways that False can end. -/
theorem false_cases {r : Rule} {z : Zone} {c : Nat} (h0 : fault r z = 0) (hc : (c : Int) < r.classes) :
    (falseR r z c = ([], 7) ∧ ¬ (c : Int) ∈ refR r z z.years.length (2 ^ z.years.length - 1)) ∨ (∃ l, falseR r z c = (l, 0) ∧ Least r z c l ∧ l.length ≤ 6 ∧ ¬ ((c : Int) - z.first > cntY r z.years z.years.length ∨ z.first - c > cntY r z.years z.years.length)) := by
  have hl6 := fault_len h0
  cases h : (allC z.years.length).find? (goodF r z c) with
  | none => exact .inl ⟨by rw [falseR_ok h0 hc, h], none_of h0 hc h⟩
  | some l =>
    have hle : l.length ≤ 6 := by
      obtain ⟨h1, h2⟩ := allC_mem.1 (find_first (allC_sorted _) h).2.1
      have := combos_mem.rising_len (n := z.years.length) l 0 h1 fun x hx => by have := h2 x hx; omega
      omega
    refine .inr ⟨l, by rw [falseR_ok h0 hc, h], least_of h0 hc h, hle, fun hf => ?_⟩
    have := far_none h0 hc hf
    rw [falseR_ok h0 hc, h] at this
    simp at this

theorem or_n {a b : Nat} (ha : a < 2 ^ 20) (hb : b < 2 ^ 20) {x : Int} (h : x = IntKind.i64.wrap ((BitVec.ofInt IntKind.i64.bits (a : Int) ||| BitVec.ofInt IntKind.i64.bits (b : Int)).toNat : Int)) : x = ((a ||| b : Nat) : Int) := by
  have hp : (2 : Nat) ^ 20 ≤ 2 ^ IntKind.i64.bits := by decide
  have e : (BitVec.ofInt IntKind.i64.bits (a : Int) ||| BitVec.ofInt IntKind.i64.bits (b : Int)).toNat = a ||| b := by
    rw [BitVec.toNat_or, BitVec.ofInt_natCast, BitVec.ofInt_natCast, BitVec.toNat_ofNat, BitVec.toNat_ofNat, Nat.mod_eq_of_lt (by omega), Nat.mod_eq_of_lt (by omega)]
  have hlt := Nat.or_lt_two_pow ha hb
  rw [h, e]
  exact IntWalk.i64_in _ (by omega)

set_option maxHeartbeats 8000000 in
set_option maxRecDepth 100000 in
theorem c9 (r : Rule) (z : Zone) (class_ : Int) (hcl : 0 ≤ class_ ∧ class_ ≤ 255) : PF Try.prog 9 [encRule r, encZ z, .int .u8 class_] (· = .bool true) := by
  have hz := encYs_len z.years
  have hn0 : (ints ([] : List Int)).length = 0 := rfl
  refine PF.of (TF.ev fn_9 (Ev.at ?_))
  (repeat' (first | (refine Ev.go ?_; conv => whnf) | refine And.intro ?_ ?_ | exact True.intro | exact rfl | (intro rx hrx; rw [IntWalk.i64_in _ (by omega)] at hrx) | (intro hcx; exfalso; omega) | (intro hcx; exfalso; simp only [ints_len, encYs_len] at hcx; omega) | (intro ex hex; (first | obtain ⟨xx, hxx, rfl⟩ := ints_at hex | obtain ⟨xx, hxx, rfl⟩ := encYs_at hex | obtain ⟨xx, hxx, rfl⟩ := encYs_cut hex); clear hex; try simp only [Int.toNat_natCast] at hxx) | intro _))
  refine TSq.pureBC (c36 r z) (by simp [cloL, clo, encR, encY, encRule, encZ, encS, ints_clo, encYs_clo]) rfl (And.intro rfl rfl) ?_ ?_
  · intro hr
    have h0 : fault r z = 0 := by simpa [ready] using hr
    have hl := fault_len h0
    have hp := fault_price h0
    have hc := (fault_okR h0).c2
    have hc1 := (fault_okR h0).c1
    have hfs := fault_first h0
    have b1 := c20 r (by omega)
    have b2 := c21 z (by omega)
    have q3 : ∀ k : Nat, _ := fun k : Nat => c33 r z k (by omega) (by omega)
    have hcy := cntY_le r z.years
    rcases Nat.lt_or_ge 5 z.years.length with hlen | hlen
    · (repeat' (first | (refine Ev.go ?_; conv => whnf) | refine And.intro ?_ ?_ | exact True.intro | exact rfl | (intro rx hrx; rw [IntWalk.i64_in _ (by omega)] at hrx) | (intro hcx; exfalso; omega) | (intro hcx; exfalso; simp only [ints_len, encYs_len] at hcx; omega) | (intro ex hex; (first | obtain ⟨xx, hxx, rfl⟩ := ints_at hex | obtain ⟨xx, hxx, rfl⟩ := encYs_at hex | obtain ⟨xx, hxx, rfl⟩ := encYs_cut hex); clear hex; try simp only [Int.toNat_natCast] at hxx) | intro _))
      refine TSq.pureC c18 (by simp [cloL, clo, encR, encY, encRule, encZ, encS, ints_clo, encYs_clo]) rfl (And.intro rfl rfl) ?_
      (repeat' (first | (refine Ev.go ?_; conv => whnf) | refine And.intro ?_ ?_ | exact True.intro | exact rfl | (intro rx hrx; rw [IntWalk.i64_in _ (by omega)] at hrx) | (intro hcx; exfalso; omega) | (intro hcx; exfalso; simp only [ints_len, encYs_len] at hcx; omega) | (intro ex hex; (first | obtain ⟨xx, hxx, rfl⟩ := ints_at hex | obtain ⟨xx, hxx, rfl⟩ := encYs_at hex | obtain ⟨xx, hxx, rfl⟩ := encYs_cut hex); clear hex; try simp only [Int.toNat_natCast] at hxx) | intro _))
      try rfl
    (repeat' (first | (refine Ev.go ?_; conv => whnf) | refine And.intro ?_ ?_ | exact True.intro | exact rfl | (intro rx hrx; rw [IntWalk.i64_in _ (by omega)] at hrx) | (intro rx hrx; obtain ⟨kx, rfl, hkx⟩ := tmod_ex hrx (by omega) (by omega)) | (intro hcx; exfalso; omega) | (intro hcx; exfalso; simp only [ints_len, encYs_len] at hcx; omega) | (intro ex hex; (first | obtain ⟨xx, hxx, rfl⟩ := ints_at hex | obtain ⟨xx, hxx, rfl⟩ := encYs_at hex | obtain ⟨xx, hxx, rfl⟩ := encYs_cut hex); clear hex; try simp only [Int.toNat_natCast] at hxx) | intro _))
    all_goals (first | (refine ⟨?_⟩; first | rfl | exact List.cons_ne_nil _ _ | (show (_ : Nat) * _ ≤ _; simp [catS, repl, chunks, ints_len, encYs_len] <;> omega) | exact shS _ _ | exact shM _ | exact shN | exact encM_clo _ | exact ⟨rfl, rfl⟩ | exact ⟨rfl, rfl, rfl⟩ | omega | (simp only [ints_len, encYs_len]; omega) | (simp; omega) | (simp [cloL, clo, catS, repl, ints_clo, encYs_clo, encR, encY, encS]; done) | (show chkGo _ _ _ _ _ = true; kernel_rfl)) | (simp [cloL, clo, catS, repl, ints_clo, encYs_clo, encR, encY, encS]; done) | skip)
    have d33 := q3 kx
    have hfc := false_cases h0 hkx
    have hFl : (falseR r z kx).1.length ≤ 6 ∧ ((falseR r z kx).2 = 7 ∨ (falseR r z kx).2 = 0) := by
      rcases hfc with ⟨e, _⟩ | ⟨l, e, _, h6, _⟩
      · rw [e]; simp
      · rw [e]; simp [h6]
    obtain ⟨⟨L, E⟩, hLE⟩ : ∃ p, p = falseR r z kx := ⟨_, rfl⟩
    rw [← hLE] at hfc d33 hFl
    dsimp only at d33 hFl
    refine TDq.pureC b1 (by simp [cloL, clo, encR, encY, encRule, encZ, encS, ints_clo, encYs_clo]) rfl (And.intro rfl rfl) ?_
    (repeat' (first | (refine Ev.go ?_; conv => whnf) | refine And.intro ?_ ?_ | exact True.intro | exact rfl | (intro rx hrx; rw [IntWalk.i64_in _ (by omega)] at hrx) | (intro hcx; exfalso; omega) | (intro hcx; exfalso; simp only [ints_len, encYs_len] at hcx; omega) | (intro ex hex; (first | obtain ⟨xx, hxx, rfl⟩ := ints_at hex | obtain ⟨xx, hxx, rfl⟩ := encYs_at hex | obtain ⟨xx, hxx, rfl⟩ := encYs_cut hex); clear hex; try simp only [Int.toNat_natCast] at hxx) | intro _))
    refine TDq.pureC b2 (by simp [cloL, clo, encR, encY, encRule, encZ, encS, ints_clo, encYs_clo]) rfl (And.intro rfl rfl) ?_
    (repeat' (first | (refine Ev.go ?_; conv => whnf) | refine And.intro ?_ ?_ | exact True.intro | exact rfl | (intro rx hrx; rw [IntWalk.i64_in _ (by omega)] at hrx) | (intro hcx; exfalso; omega) | (intro hcx; exfalso; simp only [ints_len, encYs_len] at hcx; omega) | (intro ex hex; (first | obtain ⟨xx, hxx, rfl⟩ := ints_at hex | obtain ⟨xx, hxx, rfl⟩ := encYs_at hex | obtain ⟨xx, hxx, rfl⟩ := encYs_cut hex); clear hex; try simp only [Int.toNat_natCast] at hxx) | intro _))
    refine TDq.pureC d33 (by simp [cloL, clo, encR, encY, encRule, encZ, encS, ints_clo, encYs_clo]) rfl (And.intro rfl rfl) ?_
    (repeat' (first | (refine Ev.go ?_; conv => whnf) | refine And.intro ?_ ?_ | exact True.intro | exact rfl | (intro rx hrx; rw [IntWalk.i64_in _ (by omega)] at hrx) | (intro hcx; exfalso; omega) | (intro hcx; exfalso; simp only [ints_len, encYs_len] at hcx; omega) | (intro ex hex; (first | obtain ⟨xx, hxx, rfl⟩ := ints_at hex | obtain ⟨xx, hxx, rfl⟩ := encYs_at hex | obtain ⟨xx, hxx, rfl⟩ := encYs_cut hex); clear hex; try simp only [Int.toNat_natCast] at hxx) | intro _))
    all_goals (first | (refine ⟨?_⟩; first | rfl | exact List.cons_ne_nil _ _ | (show (_ : Nat) * _ ≤ _; simp [catS, repl, chunks, ints_len, encYs_len] <;> omega) | exact shS _ _ | exact shM _ | exact shN | exact encM_clo _ | exact ⟨rfl, rfl⟩ | exact ⟨rfl, rfl, rfl⟩ | omega | (simp only [ints_len, encYs_len]; omega) | (simp; omega) | (simp [cloL, clo, catS, repl, ints_clo, encYs_clo, encR, encY, encS]; done) | (show chkGo _ _ _ _ _ = true; kernel_rfl)) | (simp [cloL, clo, catS, repl, ints_clo, encYs_clo, encR, encY, encS]; done) | skip)
    refine TWq.loop (fun i : Nat => [(11, .int .i64 i), (10, .int .i64 (cntY r z.years i))]) (fun _ => []) (fun i => i ≤ z.years.length) (fun i => z.years.length - i) 0 [] [] ?_ (by omega) ?_
    · (repeat' (first | (refine Ev.go ?_; conv => whnf) | refine And.intro ?_ ?_ | exact True.intro | exact rfl | (intro rx hrx; rw [IntWalk.i64_in _ (by omega)] at hrx) | (intro hcx; exfalso; omega) | (intro hcx; exfalso; simp only [ints_len, encYs_len] at hcx; omega) | (intro ex hex; (first | obtain ⟨xx, hxx, rfl⟩ := ints_at hex | obtain ⟨xx, hxx, rfl⟩ := encYs_at hex | obtain ⟨xx, hxx, rfl⟩ := encYs_cut hex); clear hex; try simp only [Int.toNat_natCast] at hxx) | intro _))
      all_goals (first | (refine ⟨?_⟩; first | rfl | exact List.cons_ne_nil _ _ | (show (_ : Nat) * _ ≤ _; simp [catS, repl, chunks, ints_len, encYs_len] <;> omega) | exact shS _ _ | exact shM _ | exact shN | exact encM_clo _ | exact ⟨rfl, rfl⟩ | exact ⟨rfl, rfl, rfl⟩ | omega | (simp only [ints_len, encYs_len]; omega) | (simp; omega) | (simp [cloL, clo, catS, repl, ints_clo, encYs_clo, encR, encY, encS]; done) | (show chkGo _ _ _ _ _ = true; kernel_rfl)) | (simp [cloL, clo, catS, repl, ints_clo, encYs_clo, encR, encY, encS]; done) | skip)
      all_goals (try (refine ⟨?_⟩; simp [cntY]; done))
    · intro i hi
      have hci := hcy i
      rcases Nat.lt_or_ge i z.years.length with hil | hil
      · obtain ⟨xx, hxx⟩ : ∃ y, z.years[i]? = some y := ⟨_, List.getElem?_eq_getElem hil⟩
        have hs := cntY_succ (r := r) hxx
        have hgetY : ∀ {n : Nat} {e : SV}, n = i → (encYs z.years)[n]? = some e → e = encY xx := by
          rintro n e rfl he
          obtain ⟨x, hx, rfl⟩ := encYs_at he
          rw [hxx] at hx; cases hx; rfl
        (repeat' (first | (intro ex hex; obtain rfl := hgetY (by omega) hex; clear hex) | (refine Ev.go ?_; conv => whnf) | refine And.intro ?_ ?_ | exact True.intro | exact rfl | (intro rx hrx; rw [IntWalk.i64_in _ (by omega)] at hrx) | (intro rx hrx; obtain ⟨kx, rfl, hkx⟩ := tmod_ex hrx (by omega) (by omega)) | (intro rx hrx; obtain ⟨kx, rfl, hkx⟩ := tdiv_ex hrx (by omega) (by omega)) | (intro hcx; exfalso; omega) | (intro hcx; exfalso; simp only [ints_len, encYs_len] at hcx; omega) | (intro ex hex; (first | obtain ⟨xx, hxx, rfl⟩ := ints_at hex | obtain ⟨xx, hxx, rfl⟩ := encYs_at hex | obtain ⟨xx, hxx, rfl⟩ := encYs_cut hex); clear hex; try simp only [Int.toNat_natCast] at hxx) | intro _))
        all_goals (first | (refine ⟨?_⟩; first | rfl | exact List.cons_ne_nil _ _ | (show (_ : Nat) * _ ≤ _; simp [catS, repl, chunks, ints_len, encYs_len] <;> omega) | exact shS _ _ | exact shM _ | exact shN | exact encM_clo _ | exact ⟨rfl, rfl⟩ | exact ⟨rfl, rfl, rfl⟩ | omega | (simp only [ints_len, encYs_len]; omega) | (simp; omega) | (simp [cloL, clo, catS, repl, ints_clo, encYs_clo, encR, encY, encS]; done) | (show chkGo _ _ _ _ _ = true; kernel_rfl)) | (simp [cloL, clo, catS, repl, ints_clo, encYs_clo, encR, encY, encS]; done) | skip)
        refine TDq.pureBC (c39 r xx) (by simp [cloL, clo, encR, encY, encRule, encZ, encS, ints_clo, encYs_clo]) rfl (And.intro rfl rfl) ?_ ?_ <;> intro hb
        · rw [hb] at hs
          simp only [if_true] at hs
          (repeat' (first | (refine Ev.go ?_; conv => whnf) | refine And.intro ?_ ?_ | exact True.intro | exact rfl | (intro rx hrx; rw [IntWalk.i64_in _ (by omega)] at hrx) | (intro hcx; exfalso; omega) | (intro hcx; exfalso; simp only [ints_len, encYs_len] at hcx; omega) | (intro ex hex; (first | obtain ⟨xx, hxx, rfl⟩ := ints_at hex | obtain ⟨xx, hxx, rfl⟩ := encYs_at hex | obtain ⟨xx, hxx, rfl⟩ := encYs_cut hex); clear hex; try simp only [Int.toNat_natCast] at hxx) | intro _))
          all_goals (first | (refine ⟨?_⟩; first | rfl | exact List.cons_ne_nil _ _ | (show (_ : Nat) * _ ≤ _; simp [catS, repl, chunks, ints_len, encYs_len] <;> omega) | exact shS _ _ | exact shM _ | exact shN | exact encM_clo _ | exact ⟨rfl, rfl⟩ | exact ⟨rfl, rfl, rfl⟩ | omega | (simp only [ints_len, encYs_len]; omega) | (simp; omega) | (simp [cloL, clo, catS, repl, ints_clo, encYs_clo, encR, encY, encS]; done) | (show chkGo _ _ _ _ _ = true; kernel_rfl)) | (simp [cloL, clo, catS, repl, ints_clo, encYs_clo, encR, encY, encS]; done) | skip)
          refine ⟨⟨i + 1, by omega, by omega, ?_⟩⟩
          (repeat' (first | (refine Ev.go ?_; conv => whnf) | refine And.intro ?_ ?_ | exact True.intro | exact rfl | (intro rx hrx; rw [IntWalk.i64_in _ (by omega)] at hrx) | (intro hcx; exfalso; omega) | (intro hcx; exfalso; simp only [ints_len, encYs_len] at hcx; omega) | (intro ex hex; (first | obtain ⟨xx, hxx, rfl⟩ := ints_at hex | obtain ⟨xx, hxx, rfl⟩ := encYs_at hex | obtain ⟨xx, hxx, rfl⟩ := encYs_cut hex); clear hex; try simp only [Int.toNat_natCast] at hxx) | intro _))
          all_goals (first | (refine ⟨?_⟩; first | rfl | exact List.cons_ne_nil _ _ | (show (_ : Nat) * _ ≤ _; simp [catS, repl, chunks, ints_len, encYs_len] <;> omega) | exact shS _ _ | exact shM _ | exact shN | exact encM_clo _ | exact ⟨rfl, rfl⟩ | exact ⟨rfl, rfl, rfl⟩ | omega | (simp only [ints_len, encYs_len]; omega) | (simp; omega) | (simp [cloL, clo, catS, repl, ints_clo, encYs_clo, encR, encY, encS]; done) | (show chkGo _ _ _ _ _ = true; kernel_rfl)) | (simp [cloL, clo, catS, repl, ints_clo, encYs_clo, encR, encY, encS]; done) | skip)
          all_goals (try (refine ⟨?_⟩; rw [hs]; push_cast; omega))
        · rw [hb] at hs
          simp only [Bool.false_eq_true, if_false] at hs
          (repeat' (first | (refine Ev.go ?_; conv => whnf) | refine And.intro ?_ ?_ | exact True.intro | exact rfl | (intro rx hrx; rw [IntWalk.i64_in _ (by omega)] at hrx) | (intro hcx; exfalso; omega) | (intro hcx; exfalso; simp only [ints_len, encYs_len] at hcx; omega) | (intro ex hex; (first | obtain ⟨xx, hxx, rfl⟩ := ints_at hex | obtain ⟨xx, hxx, rfl⟩ := encYs_at hex | obtain ⟨xx, hxx, rfl⟩ := encYs_cut hex); clear hex; try simp only [Int.toNat_natCast] at hxx) | intro _))
          all_goals (first | (refine ⟨?_⟩; first | rfl | exact List.cons_ne_nil _ _ | (show (_ : Nat) * _ ≤ _; simp [catS, repl, chunks, ints_len, encYs_len] <;> omega) | exact shS _ _ | exact shM _ | exact shN | exact encM_clo _ | exact ⟨rfl, rfl⟩ | exact ⟨rfl, rfl, rfl⟩ | omega | (simp only [ints_len, encYs_len]; omega) | (simp; omega) | (simp [cloL, clo, catS, repl, ints_clo, encYs_clo, encR, encY, encS]; done) | (show chkGo _ _ _ _ _ = true; kernel_rfl)) | (simp [cloL, clo, catS, repl, ints_clo, encYs_clo, encR, encY, encS]; done) | skip)
          refine ⟨⟨i + 1, by omega, by omega, ?_⟩⟩
          (repeat' (first | (refine Ev.go ?_; conv => whnf) | refine And.intro ?_ ?_ | exact True.intro | exact rfl | (intro rx hrx; rw [IntWalk.i64_in _ (by omega)] at hrx) | (intro hcx; exfalso; omega) | (intro hcx; exfalso; simp only [ints_len, encYs_len] at hcx; omega) | (intro ex hex; (first | obtain ⟨xx, hxx, rfl⟩ := ints_at hex | obtain ⟨xx, hxx, rfl⟩ := encYs_at hex | obtain ⟨xx, hxx, rfl⟩ := encYs_cut hex); clear hex; try simp only [Int.toNat_natCast] at hxx) | intro _))
          all_goals (first | (refine ⟨?_⟩; first | rfl | exact List.cons_ne_nil _ _ | (show (_ : Nat) * _ ≤ _; simp [catS, repl, chunks, ints_len, encYs_len] <;> omega) | exact shS _ _ | exact shM _ | exact shN | exact encM_clo _ | exact ⟨rfl, rfl⟩ | exact ⟨rfl, rfl, rfl⟩ | omega | (simp only [ints_len, encYs_len]; omega) | (simp; omega) | (simp [cloL, clo, catS, repl, ints_clo, encYs_clo, encR, encY, encS]; done) | (show chkGo _ _ _ _ _ = true; kernel_rfl)) | (simp [cloL, clo, catS, repl, ints_clo, encYs_clo, encR, encY, encS]; done) | skip)
          all_goals (try (refine ⟨?_⟩; rw [hs]; push_cast; omega))
      · have hie : i = z.years.length := by omega
        subst hie
        have hpow : 2 ^ z.years.length ≤ 2 ^ 5 := Nat.pow_le_pow_right (by omega) hlen
        have hpp : 1 ≤ 2 ^ z.years.length := Nat.one_le_two_pow
        rcases hfc with ⟨e, hno⟩ | ⟨l, e, hls, hl6', hnf⟩
        · cases e
          have hwrp : ∀ {x n : Int}, x = IntKind.u64.wrap n → n = z.years.length ∧ z.years.length ≤ 60 → x = (z.years.length : Int) := wrp_u
          have hshr : ∀ {x m : Int}, x = IntKind.i64.wrap (1 * 2 ^ min m.toNat IntKind.i64.bits) → m = z.years.length ∧ z.years.length ≤ 10 → x = ((2 ^ z.years.length : Nat) : Int) := shl_n
          have d25 := c25 r z z.years.length (2 ^ z.years.length - 1) h0 (Nat.le_refl _) (by omega)
          have d38 := c38 (refR r z z.years.length (2 ^ z.years.length - 1)) kx (by have := refR_len r z z.years.length (2 ^ z.years.length - 1); omega)
          rw [decide_eq_false hno] at d38
          clear hno
          generalize 2 ^ z.years.length = N at *
          (repeat' (first | (intro rx hrx; obtain rfl := hwrp hrx (by omega); clear hrx) | (intro rx hrx; obtain rfl := hshr hrx (by omega); clear hrx) | (intro rx hrx; obtain rfl := hbit hrx; clear hrx) | (refine Ev.go ?_; conv => whnf) | refine And.intro ?_ ?_ | exact True.intro | exact rfl | (intro rx hrx; rw [IntWalk.i64_in _ (by omega)] at hrx) | (intro hcx; exfalso; omega) | (intro hcx; exfalso; simp only [ints_len, encYs_len] at hcx; omega) | (intro ex hex; (first | obtain ⟨xx, hxx, rfl⟩ := ints_at hex | obtain ⟨xx, hxx, rfl⟩ := encYs_at hex | obtain ⟨xx, hxx, rfl⟩ := encYs_cut hex); clear hex; try simp only [Int.toNat_natCast] at hxx) | intro _))
          all_goals (first | (refine ⟨?_⟩; first | rfl | exact List.cons_ne_nil _ _ | (show (_ : Nat) * _ ≤ _; simp [catS, repl, chunks, ints_len, encYs_len] <;> omega) | exact shS _ _ | exact shM _ | exact shN | exact encM_clo _ | exact ⟨rfl, rfl⟩ | exact ⟨rfl, rfl, rfl⟩ | omega | (simp only [ints_len, encYs_len]; omega) | (simp; omega) | (simp [cloL, clo, catS, repl, ints_clo, encYs_clo, encR, encY, encS]; done) | (show chkGo _ _ _ _ _ = true; kernel_rfl)) | (simp [cloL, clo, catS, repl, ints_clo, encYs_clo, encR, encY, encS]; done) | skip)
          all_goals (try (refine TSq.pureC c18 (by simp [cloL, clo, encR, encY, encRule, encZ, encS, ints_clo, encYs_clo]) rfl (And.intro rfl rfl) ?_; (repeat' (first | (refine Ev.go ?_; conv => whnf) | refine And.intro ?_ ?_ | exact True.intro | exact rfl | (intro rx hrx; rw [IntWalk.i64_in _ (by omega)] at hrx) | (intro hcx; exfalso; omega) | (intro hcx; exfalso; simp only [ints_len, encYs_len] at hcx; omega) | (intro ex hex; (first | obtain ⟨xx, hxx, rfl⟩ := ints_at hex | obtain ⟨xx, hxx, rfl⟩ := encYs_at hex | obtain ⟨xx, hxx, rfl⟩ := encYs_cut hex); clear hex; try simp only [Int.toNat_natCast] at hxx) | intro _)); try rfl; done))
          have d25' : ∀ y o : Int, y = (z.years.length : Int) - 1 → o = ((N - 1 : Nat) : Int) → PF Try.prog 25 [encRule r, encZ z, .int .i64 y, .int .i64 o] (· = .sl 1 (ints (refR r z z.years.length (N - 1)))) := by
            rintro _ _ rfl rfl; exact d25
          refine TSq.pureC (d25' _ _ (by omega) (by omega)) (by simp [cloL, clo, encR, encY, encRule, encZ, encS, ints_clo, encYs_clo]) rfl (And.intro rfl rfl) ?_
          (repeat' (first | (refine Ev.go ?_; conv => whnf) | refine And.intro ?_ ?_ | exact True.intro | exact rfl | (intro rx hrx; rw [IntWalk.i64_in _ (by omega)] at hrx) | (intro hcx; exfalso; omega) | (intro hcx; exfalso; simp only [ints_len, encYs_len] at hcx; omega) | (intro ex hex; (first | obtain ⟨xx, hxx, rfl⟩ := ints_at hex | obtain ⟨xx, hxx, rfl⟩ := encYs_at hex | obtain ⟨xx, hxx, rfl⟩ := encYs_cut hex); clear hex; try simp only [Int.toNat_natCast] at hxx) | intro _))
          refine TSq.pureC d38 (by simp [cloL, clo, encR, encY, encRule, encZ, encS, ints_clo, encYs_clo]) rfl (And.intro rfl rfl) ?_
          (repeat' (first | (refine Ev.go ?_; conv => whnf) | refine And.intro ?_ ?_ | exact True.intro | exact rfl | (intro rx hrx; rw [IntWalk.i64_in _ (by omega)] at hrx) | (intro hcx; exfalso; omega) | (intro hcx; exfalso; simp only [ints_len, encYs_len] at hcx; omega) | (intro ex hex; (first | obtain ⟨xx, hxx, rfl⟩ := ints_at hex | obtain ⟨xx, hxx, rfl⟩ := encYs_at hex | obtain ⟨xx, hxx, rfl⟩ := encYs_cut hex); clear hex; try simp only [Int.toNat_natCast] at hxx) | intro _))
          all_goals (first | (refine ⟨?_⟩; first | rfl | exact List.cons_ne_nil _ _ | (show (_ : Nat) * _ ≤ _; simp [catS, repl, chunks, ints_len, encYs_len] <;> omega) | exact shS _ _ | exact shM _ | exact shN | exact encM_clo _ | exact ⟨rfl, rfl⟩ | exact ⟨rfl, rfl, rfl⟩ | omega | (simp only [ints_len, encYs_len]; omega) | (simp; omega) | (simp [cloL, clo, catS, repl, ints_clo, encYs_clo, encR, encY, encS]; done) | (show chkGo _ _ _ _ _ = true; kernel_rfl)) | (simp [cloL, clo, catS, repl, ints_clo, encYs_clo, encR, encY, encS]; done) | skip)
          refine TSq.pureC c18 (by simp [cloL, clo, encR, encY, encRule, encZ, encS, ints_clo, encYs_clo]) rfl (And.intro rfl rfl) ?_
          (repeat' (first | (refine Ev.go ?_; conv => whnf) | refine And.intro ?_ ?_ | exact True.intro | exact rfl | (intro rx hrx; rw [IntWalk.i64_in _ (by omega)] at hrx) | (intro hcx; exfalso; omega) | (intro hcx; exfalso; simp only [ints_len, encYs_len] at hcx; omega) | (intro ex hex; (first | obtain ⟨xx, hxx, rfl⟩ := ints_at hex | obtain ⟨xx, hxx, rfl⟩ := encYs_at hex | obtain ⟨xx, hxx, rfl⟩ := encYs_cut hex); clear hex; try simp only [Int.toNat_natCast] at hxx) | intro _))
          try rfl
        · cases e
          have d25 : ∀ (o : Nat) (y o' : Int), o < 64 → y = (z.years.length : Int) - 1 → o' = (o : Int) → PF Try.prog 25 [encRule r, encZ z, .int .i64 y, .int .i64 o'] (· = .sl 1 (ints (refR r z z.years.length o))) := by
            rintro o _ _ ho rfl rfl; exact c25 r z z.years.length o h0 (Nat.le_refl _) (by omega)
          have d38 : ∀ o : Nat, _ := fun o : Nat => c38 (refR r z z.years.length o) kx (by have := refR_len r z z.years.length o; omega)
          have hLl := ints_len L
          (repeat' (first | (refine Ev.go ?_; conv => whnf) | refine And.intro ?_ ?_ | exact True.intro | exact rfl | (intro rx hrx; rw [IntWalk.i64_in _ (by omega)] at hrx) | (intro hcx; exfalso; omega) | (intro hcx; exfalso; simp only [ints_len, encYs_len] at hcx; omega) | (intro ex hex; (first | obtain ⟨xx, hxx, rfl⟩ := ints_at hex | obtain ⟨xx, hxx, rfl⟩ := encYs_at hex | obtain ⟨xx, hxx, rfl⟩ := encYs_cut hex); clear hex; try simp only [Int.toNat_natCast] at hxx) | intro _))
          all_goals (first | (refine ⟨?_⟩; first | rfl | exact List.cons_ne_nil _ _ | (show (_ : Nat) * _ ≤ _; simp [catS, repl, chunks, ints_len, encYs_len] <;> omega) | exact shS _ _ | exact shM _ | exact shN | exact encM_clo _ | exact ⟨rfl, rfl⟩ | exact ⟨rfl, rfl, rfl⟩ | omega | (simp only [ints_len, encYs_len]; omega) | (simp; omega) | (simp [cloL, clo, catS, repl, ints_clo, encYs_clo, encR, encY, encS]; done) | (show chkGo _ _ _ _ _ = true; kernel_rfl)) | (simp [cloL, clo, catS, repl, ints_clo, encYs_clo, encR, encY, encS]; done) | skip)
          all_goals (try (exfalso; omega))
          obtain ⟨ls, lr, lh, ln⟩ := hls
          have hset : ∀ i, setO (L.take i).reverse < 64 := fun i => setO_lt fun x hx => by
            have := lr x (List.mem_of_mem_take (List.mem_reverse.1 hx)); omega
          refine TWq.loop (fun i : Nat => [(13, .int .i64 i), (12, .int .i64 (setO (L.take i).reverse))]) (fun _ => []) (fun i => i ≤ L.length) (fun i => L.length - i) 0 [] [] ?_ (by omega) ?_
          · (repeat' (first | (refine Ev.go ?_; conv => whnf) | refine And.intro ?_ ?_ | exact True.intro | exact rfl | (intro rx hrx; rw [IntWalk.i64_in _ (by omega)] at hrx) | (intro hcx; exfalso; omega) | (intro hcx; exfalso; simp only [ints_len, encYs_len] at hcx; omega) | (intro ex hex; (first | obtain ⟨xx, hxx, rfl⟩ := ints_at hex | obtain ⟨xx, hxx, rfl⟩ := encYs_at hex | obtain ⟨xx, hxx, rfl⟩ := encYs_cut hex); clear hex; try simp only [Int.toNat_natCast] at hxx) | intro _))
            all_goals (first | (refine ⟨?_⟩; first | rfl | exact List.cons_ne_nil _ _ | (show (_ : Nat) * _ ≤ _; simp [catS, repl, chunks, ints_len, encYs_len] <;> omega) | exact shS _ _ | exact shM _ | exact shN | exact encM_clo _ | exact ⟨rfl, rfl⟩ | exact ⟨rfl, rfl, rfl⟩ | omega | (simp only [ints_len, encYs_len]; omega) | (simp; omega) | (simp [cloL, clo, catS, repl, ints_clo, encYs_clo, encR, encY, encS]; done) | (show chkGo _ _ _ _ _ = true; kernel_rfl)) | (simp [cloL, clo, catS, repl, ints_clo, encYs_clo, encR, encY, encS]; done) | skip)
          · intro i hiL
            rcases Nat.lt_or_ge i L.length with hil' | hil'
            · obtain ⟨X, hX⟩ : ∃ X, L[i]? = some X := ⟨_, List.getElem?_eq_getElem hil'⟩
              have hXr := lr X (List.mem_of_getElem? hX)
              have hgetY : ∀ {n : Nat} {e : SV}, n = i → (ints L)[n]? = some e → e = .int .i64 X := by
                rintro n e rfl he
                obtain ⟨x, hx, rfl⟩ := ints_at he
                rw [hX] at hx; cases hx; rfl
              have hgetS : ∀ {n : Nat} {e : SV}, n + 1 = i → (ints L)[n]? = some e → ∃ W : Int, e = .int .i64 W ∧ W < X := by
                rintro n e rfl he
                obtain ⟨x, hx, rfl⟩ := ints_at he
                refine ⟨x, rfl, ?_⟩
                obtain ⟨h1, e1⟩ := List.getElem?_eq_some_iff.1 hx
                obtain ⟨h2, e2⟩ := List.getElem?_eq_some_iff.1 hX
                rw [← e1, ← e2]
                exact List.pairwise_iff_getElem.1 ls n (n + 1) h1 h2 (by omega)
              have d34 : ∀ y : Int, y = (z.years.length : Int) - 1 → PF Try.prog 34 [.int .i64 X, .int .i64 0, .int .i64 y] (· = .bool true) := by
                rintro _ rfl
                have := c34 X 0 ((z.years.length : Int) - 1)
                rwa [show within X 0 ((z.years.length : Int) - 1) = true by simp only [within, decide_eq_true_eq]; omega] at this
              have hset1 := setO_snoc (L.take i) X
              rw [← take_snoc hX] at hset1
              have hse := hset (i + 1)
              have hsi := hset i
              have hwrp : ∀ {x n : Int}, x = IntKind.u64.wrap n → n = X.toNat ∧ X.toNat ≤ 60 → x = (X.toNat : Int) := wrp_u
              have hshr : ∀ {x m : Int}, x = IntKind.i64.wrap (1 * 2 ^ min m.toNat IntKind.i64.bits) → m = X.toNat ∧ X.toNat ≤ 10 → x = ((2 ^ X.toNat : Nat) : Int) := shl_n
              have hor : ∀ {x : Int}, x = IntKind.i64.wrap ((BitVec.ofInt IntKind.i64.bits (setO (L.take i).reverse : Int) ||| BitVec.ofInt IntKind.i64.bits ((2 ^ X.toNat : Nat) : Int)).toNat : Int) → (0 : Nat) ≤ 0 → x = ((setO (L.take (i + 1)).reverse : Nat) : Int) := fun h _ => by
                rw [hset1]
                exact or_n (by omega) (Nat.pow_lt_pow_right (by omega) (by omega)) h
              (repeat' (first | (intro ex hex; have hq := hgetY (by omega) hex; subst hq; clear hex) | (intro ex hex; have hq := hgetS (by omega) hex; obtain ⟨W, rfl, hW⟩ := hq; clear hex) | (intro rx hrx; have hq := hor hrx (by omega); subst hq; clear hrx) | (intro rx hrx; have hq := hwrp hrx (by omega); subst hq; clear hrx) | (intro rx hrx; have hq := hshr hrx (by omega); subst hq; clear hrx) | (refine Ev.go ?_; conv => whnf) | refine And.intro ?_ ?_ | exact True.intro | exact rfl | (intro rx hrx; rw [IntWalk.i64_in _ (by omega)] at hrx) | (intro hcx; exfalso; omega) | (intro hcx; exfalso; simp only [ints_len, encYs_len] at hcx; omega) | (intro ex hex; (first | obtain ⟨xx, hxx, rfl⟩ := ints_at hex | obtain ⟨xx, hxx, rfl⟩ := encYs_at hex | obtain ⟨xx, hxx, rfl⟩ := encYs_cut hex); clear hex; try simp only [Int.toNat_natCast] at hxx) | intro _))
              all_goals (first | (refine ⟨?_⟩; first | rfl | exact List.cons_ne_nil _ _ | (show (_ : Nat) * _ ≤ _; simp [catS, repl, chunks, ints_len, encYs_len] <;> omega) | exact shS _ _ | exact shM _ | exact shN | exact encM_clo _ | exact ⟨rfl, rfl⟩ | exact ⟨rfl, rfl, rfl⟩ | omega | (simp only [ints_len, encYs_len]; omega) | (simp; omega) | (simp [cloL, clo, catS, repl, ints_clo, encYs_clo, encR, encY, encS]; done) | (show chkGo _ _ _ _ _ = true; kernel_rfl)) | (simp [cloL, clo, catS, repl, ints_clo, encYs_clo, encR, encY, encS]; done) | skip)
              refine TDq.pureC (d34 _ (by omega)) (by simp [cloL, clo, encR, encY, encRule, encZ, encS, ints_clo, encYs_clo]) rfl (And.intro rfl rfl) ?_
              (repeat' (first | (intro ex hex; have hq := hgetY (by omega) hex; subst hq; clear hex) | (intro ex hex; have hq := hgetS (by omega) hex; obtain ⟨W, rfl, hW⟩ := hq; clear hex) | (intro rx hrx; have hq := hor hrx (by omega); subst hq; clear hrx) | (intro rx hrx; have hq := hwrp hrx (by omega); subst hq; clear hrx) | (intro rx hrx; have hq := hshr hrx (by omega); subst hq; clear hrx) | (refine Ev.go ?_; conv => whnf) | refine And.intro ?_ ?_ | exact True.intro | exact rfl | (intro rx hrx; rw [IntWalk.i64_in _ (by omega)] at hrx) | (intro hcx; exfalso; omega) | (intro hcx; exfalso; simp only [ints_len, encYs_len] at hcx; omega) | (intro ex hex; (first | obtain ⟨xx, hxx, rfl⟩ := ints_at hex | obtain ⟨xx, hxx, rfl⟩ := encYs_at hex | obtain ⟨xx, hxx, rfl⟩ := encYs_cut hex); clear hex; try simp only [Int.toNat_natCast] at hxx) | intro _))
              all_goals (first | (refine ⟨?_⟩; first | rfl | exact List.cons_ne_nil _ _ | (show (_ : Nat) * _ ≤ _; simp [catS, repl, chunks, ints_len, encYs_len] <;> omega) | exact shS _ _ | exact shM _ | exact shN | exact encM_clo _ | exact ⟨rfl, rfl⟩ | exact ⟨rfl, rfl, rfl⟩ | omega | (simp only [ints_len, encYs_len]; omega) | (simp; omega) | (simp [cloL, clo, catS, repl, ints_clo, encYs_clo, encR, encY, encS]; done) | (show chkGo _ _ _ _ _ = true; kernel_rfl)) | (simp [cloL, clo, catS, repl, ints_clo, encYs_clo, encR, encY, encS]; done) | skip)
              all_goals (try (exfalso; omega))
              all_goals (refine ⟨⟨i + 1, by omega, by omega, ?_⟩⟩)
              all_goals
                (repeat' (first | (refine Ev.go ?_; conv => whnf) | refine And.intro ?_ ?_ | exact True.intro | exact rfl | (intro rx hrx; rw [IntWalk.i64_in _ (by omega)] at hrx) | (intro hcx; exfalso; omega) | (intro hcx; exfalso; simp only [ints_len, encYs_len] at hcx; omega) | (intro ex hex; (first | obtain ⟨xx, hxx, rfl⟩ := ints_at hex | obtain ⟨xx, hxx, rfl⟩ := encYs_at hex | obtain ⟨xx, hxx, rfl⟩ := encYs_cut hex); clear hex; try simp only [Int.toNat_natCast] at hxx) | intro _))
                all_goals (first | (refine ⟨?_⟩; first | rfl | exact List.cons_ne_nil _ _ | (show (_ : Nat) * _ ≤ _; simp [catS, repl, chunks, ints_len, encYs_len] <;> omega) | exact shS _ _ | exact shM _ | exact shN | exact encM_clo _ | exact ⟨rfl, rfl⟩ | exact ⟨rfl, rfl, rfl⟩ | omega | (simp only [ints_len, encYs_len]; omega) | (simp; omega) | (simp [cloL, clo, catS, repl, ints_clo, encYs_clo, encR, encY, encS]; done) | (show chkGo _ _ _ _ _ = true; kernel_rfl)) | (simp [cloL, clo, catS, repl, ints_clo, encYs_clo, encR, encY, encS]; done) | skip)
              all_goals trace_state
            · have hie : i = L.length := by omega
              subst hie
              rw [List.take_length]
              have hsi := hset L.length
              rw [List.take_length] at hsi
              have hL6 : ∀ x ∈ L.reverse, 0 ≤ x ∧ x < 6 := fun x hx => by have := lr x (List.mem_reverse.1 hx); omega
              have d38t := d38 (setO L.reverse)
              rw [decide_eq_true lh] at d38t
              have hRl := fun o => refR_len r z z.years.length o
              (repeat' (first | (refine Ev.go ?_; conv => whnf) | refine And.intro ?_ ?_ | exact True.intro | exact rfl | (intro rx hrx; rw [IntWalk.i64_in _ (by omega)] at hrx) | (intro hcx; exfalso; omega) | (intro hcx; exfalso; simp only [ints_len, encYs_len] at hcx; omega) | (intro ex hex; (first | obtain ⟨xx, hxx, rfl⟩ := ints_at hex | obtain ⟨xx, hxx, rfl⟩ := encYs_at hex | obtain ⟨xx, hxx, rfl⟩ := encYs_cut hex); clear hex; try simp only [Int.toNat_natCast] at hxx) | intro _))
              all_goals (first | (refine ⟨?_⟩; first | rfl | exact List.cons_ne_nil _ _ | (show (_ : Nat) * _ ≤ _; simp [catS, repl, chunks, ints_len, encYs_len] <;> omega) | exact shS _ _ | exact shM _ | exact shN | exact encM_clo _ | exact ⟨rfl, rfl⟩ | exact ⟨rfl, rfl, rfl⟩ | omega | (simp only [ints_len, encYs_len]; omega) | (simp; omega) | (simp [cloL, clo, catS, repl, ints_clo, encYs_clo, encR, encY, encS]; done) | (show chkGo _ _ _ _ _ = true; kernel_rfl)) | (simp [cloL, clo, catS, repl, ints_clo, encYs_clo, encR, encY, encS]; done) | skip)
              refine TSq.pureC (d25 (setO L.reverse) _ _ hsi (by omega) rfl) (by simp [cloL, clo, encR, encY, encRule, encZ, encS, ints_clo, encYs_clo]) rfl (And.intro rfl rfl) ?_
              (repeat' (first | (refine Ev.go ?_; conv => whnf) | refine And.intro ?_ ?_ | exact True.intro | exact rfl | (intro rx hrx; rw [IntWalk.i64_in _ (by omega)] at hrx) | (intro hcx; exfalso; omega) | (intro hcx; exfalso; simp only [ints_len, encYs_len] at hcx; omega) | (intro ex hex; (first | obtain ⟨xx, hxx, rfl⟩ := ints_at hex | obtain ⟨xx, hxx, rfl⟩ := encYs_at hex | obtain ⟨xx, hxx, rfl⟩ := encYs_cut hex); clear hex; try simp only [Int.toNat_natCast] at hxx) | intro _))
              refine TSq.pureC d38t (by simp [cloL, clo, encR, encY, encRule, encZ, encS, ints_clo, encYs_clo]) rfl (And.intro rfl rfl) ?_
              (repeat' (first | (refine Ev.go ?_; conv => whnf) | refine And.intro ?_ ?_ | exact True.intro | exact rfl | (intro rx hrx; rw [IntWalk.i64_in _ (by omega)] at hrx) | (intro hcx; exfalso; omega) | (intro hcx; exfalso; simp only [ints_len, encYs_len] at hcx; omega) | (intro ex hex; (first | obtain ⟨xx, hxx, rfl⟩ := ints_at hex | obtain ⟨xx, hxx, rfl⟩ := encYs_at hex | obtain ⟨xx, hxx, rfl⟩ := encYs_cut hex); clear hex; try simp only [Int.toNat_natCast] at hxx) | intro _))
              all_goals (first | (refine ⟨?_⟩; first | rfl | exact List.cons_ne_nil _ _ | (show (_ : Nat) * _ ≤ _; simp [catS, repl, chunks, ints_len, encYs_len] <;> omega) | exact shS _ _ | exact shM _ | exact shN | exact encM_clo _ | exact ⟨rfl, rfl⟩ | exact ⟨rfl, rfl, rfl⟩ | omega | (simp only [ints_len, encYs_len]; omega) | (simp; omega) | (simp [cloL, clo, catS, repl, ints_clo, encYs_clo, encR, encY, encS]; done) | (show chkGo _ _ _ _ _ = true; kernel_rfl)) | (simp [cloL, clo, catS, repl, ints_clo, encYs_clo, encR, encY, encS]; done) | skip)
              refine TWq.loop (fun i : Nat => [(14, .int .i64 i)]) (fun _ => []) (fun i => i ≤ L.length) (fun i => L.length - i) 0 [] [] ?_ (by omega) ?_
              · (repeat' (first | (refine Ev.go ?_; conv => whnf) | refine And.intro ?_ ?_ | exact True.intro | exact rfl | (intro rx hrx; rw [IntWalk.i64_in _ (by omega)] at hrx) | (intro hcx; exfalso; omega) | (intro hcx; exfalso; simp only [ints_len, encYs_len] at hcx; omega) | (intro ex hex; (first | obtain ⟨xx, hxx, rfl⟩ := ints_at hex | obtain ⟨xx, hxx, rfl⟩ := encYs_at hex | obtain ⟨xx, hxx, rfl⟩ := encYs_cut hex); clear hex; try simp only [Int.toNat_natCast] at hxx) | intro _))
                all_goals (first | (refine ⟨?_⟩; first | rfl | exact List.cons_ne_nil _ _ | (show (_ : Nat) * _ ≤ _; simp [catS, repl, chunks, ints_len, encYs_len] <;> omega) | exact shS _ _ | exact shM _ | exact shN | exact encM_clo _ | exact ⟨rfl, rfl⟩ | exact ⟨rfl, rfl, rfl⟩ | omega | (simp only [ints_len, encYs_len]; omega) | (simp; omega) | (simp [cloL, clo, catS, repl, ints_clo, encYs_clo, encR, encY, encS]; done) | (show chkGo _ _ _ _ _ = true; kernel_rfl)) | (simp [cloL, clo, catS, repl, ints_clo, encYs_clo, encR, encY, encS]; done) | skip)
              · intro i hiL
                rcases Nat.lt_or_ge i L.length with hil' | hil'
                · obtain ⟨X, hX⟩ : ∃ X, L[i]? = some X := ⟨_, List.getElem?_eq_getElem hil'⟩
                  have hXm := List.mem_of_getElem? hX
                  have hXr := lr X hXm
                  have hgetY : ∀ {n : Nat} {e : SV}, n = i → (ints L)[n]? = some e → e = .int .i64 X := by
                    rintro n e rfl he
                    obtain ⟨x, hx, rfl⟩ := ints_at he
                    rw [hX] at hx; cases hx; rfl
                  have hwrp : ∀ {x n : Int}, x = IntKind.u64.wrap n → n = X.toNat ∧ X.toNat ≤ 60 → x = (X.toNat : Int) := wrp_u
                  have hshr : ∀ {x m : Int}, x = IntKind.i64.wrap (1 * 2 ^ min m.toNat IntKind.i64.bits) → m = X.toNat ∧ X.toNat ≤ 10 → x = ((2 ^ X.toNat : Nat) : Int) := shl_n
                  obtain ⟨o, ho, -⟩ := setO_erase hL6 (List.mem_reverse.2 hXm)
                  have d38f := d38 o
                  rw [decide_eq_false (ln X hXm o ho)] at d38f
                  have hpX : 2 ^ X.toNat < 2 ^ 6 := Nat.pow_lt_pow_right (by omega) (by omega)
                  generalize 2 ^ X.toNat = PX at *
                  (repeat' (first | (intro ex hex; have hq := hgetY (by omega) hex; subst hq; clear hex) | (intro ex hex; have hq := hgetS (by omega) hex; obtain ⟨W, rfl, hW⟩ := hq; clear hex) | (intro rx hrx; have hq := hor hrx (by omega); subst hq; clear hrx) | (intro rx hrx; have hq := hwrp hrx (by omega); subst hq; clear hrx) | (intro rx hrx; have hq := hshr hrx (by omega); subst hq; clear hrx) | (refine Ev.go ?_; conv => whnf) | refine And.intro ?_ ?_ | exact True.intro | exact rfl | (intro rx hrx; rw [IntWalk.i64_in _ (by omega)] at hrx) | (intro hcx; exfalso; omega) | (intro hcx; exfalso; simp only [ints_len, encYs_len] at hcx; omega) | (intro ex hex; (first | obtain ⟨xx, hxx, rfl⟩ := ints_at hex | obtain ⟨xx, hxx, rfl⟩ := encYs_at hex | obtain ⟨xx, hxx, rfl⟩ := encYs_cut hex); clear hex; try simp only [Int.toNat_natCast] at hxx) | intro _))
                  all_goals (first | (refine ⟨?_⟩; first | rfl | exact List.cons_ne_nil _ _ | (show (_ : Nat) * _ ≤ _; simp [catS, repl, chunks, ints_len, encYs_len] <;> omega) | exact shS _ _ | exact shM _ | exact shN | exact encM_clo _ | exact ⟨rfl, rfl⟩ | exact ⟨rfl, rfl, rfl⟩ | omega | (simp only [ints_len, encYs_len]; omega) | (simp; omega) | (simp [cloL, clo, catS, repl, ints_clo, encYs_clo, encR, encY, encS]; done) | (show chkGo _ _ _ _ _ = true; kernel_rfl)) | (simp [cloL, clo, catS, repl, ints_clo, encYs_clo, encR, encY, encS]; done) | skip)
                  refine TDq.pureC (d25 o _ _ (by omega) (by omega) (by omega)) (by simp [cloL, clo, encR, encY, encRule, encZ, encS, ints_clo, encYs_clo]) rfl (And.intro rfl rfl) ?_
                  (repeat' (first | (refine Ev.go ?_; conv => whnf) | refine And.intro ?_ ?_ | exact True.intro | exact rfl | (intro rx hrx; rw [IntWalk.i64_in _ (by omega)] at hrx) | (intro hcx; exfalso; omega) | (intro hcx; exfalso; simp only [ints_len, encYs_len] at hcx; omega) | (intro ex hex; (first | obtain ⟨xx, hxx, rfl⟩ := ints_at hex | obtain ⟨xx, hxx, rfl⟩ := encYs_at hex | obtain ⟨xx, hxx, rfl⟩ := encYs_cut hex); clear hex; try simp only [Int.toNat_natCast] at hxx) | intro _))
                  all_goals (first | (refine ⟨?_⟩; first | rfl | exact List.cons_ne_nil _ _ | (show (_ : Nat) * _ ≤ _; simp [catS, repl, chunks, ints_len, encYs_len] <;> omega) | exact shS _ _ | exact shM _ | exact shN | exact encM_clo _ | exact ⟨rfl, rfl⟩ | exact ⟨rfl, rfl, rfl⟩ | omega | (simp only [ints_len, encYs_len]; omega) | (simp; omega) | (simp [cloL, clo, catS, repl, ints_clo, encYs_clo, encR, encY, encS]; done) | (show chkGo _ _ _ _ _ = true; kernel_rfl)) | (simp [cloL, clo, catS, repl, ints_clo, encYs_clo, encR, encY, encS]; done) | skip)
                  refine TDq.pureC d38f (by simp [cloL, clo, encR, encY, encRule, encZ, encS, ints_clo, encYs_clo]) rfl (And.intro rfl rfl) ?_
                  (repeat' (first | (refine Ev.go ?_; conv => whnf) | refine And.intro ?_ ?_ | exact True.intro | exact rfl | (intro rx hrx; rw [IntWalk.i64_in _ (by omega)] at hrx) | (intro hcx; exfalso; omega) | (intro hcx; exfalso; simp only [ints_len, encYs_len] at hcx; omega) | (intro ex hex; (first | obtain ⟨xx, hxx, rfl⟩ := ints_at hex | obtain ⟨xx, hxx, rfl⟩ := encYs_at hex | obtain ⟨xx, hxx, rfl⟩ := encYs_cut hex); clear hex; try simp only [Int.toNat_natCast] at hxx) | intro _))
                  all_goals (first | (refine ⟨?_⟩; first | rfl | exact List.cons_ne_nil _ _ | (show (_ : Nat) * _ ≤ _; simp [catS, repl, chunks, ints_len, encYs_len] <;> omega) | exact shS _ _ | exact shM _ | exact shN | exact encM_clo _ | exact ⟨rfl, rfl⟩ | exact ⟨rfl, rfl, rfl⟩ | omega | (simp only [ints_len, encYs_len]; omega) | (simp; omega) | (simp [cloL, clo, catS, repl, ints_clo, encYs_clo, encR, encY, encS]; done) | (show chkGo _ _ _ _ _ = true; kernel_rfl)) | (simp [cloL, clo, catS, repl, ints_clo, encYs_clo, encR, encY, encS]; done) | skip)
                  refine ⟨⟨i + 1, by omega, by omega, ?_⟩⟩
                  (repeat' (first | (refine Ev.go ?_; conv => whnf) | refine And.intro ?_ ?_ | exact True.intro | exact rfl | (intro rx hrx; rw [IntWalk.i64_in _ (by omega)] at hrx) | (intro hcx; exfalso; omega) | (intro hcx; exfalso; simp only [ints_len, encYs_len] at hcx; omega) | (intro ex hex; (first | obtain ⟨xx, hxx, rfl⟩ := ints_at hex | obtain ⟨xx, hxx, rfl⟩ := encYs_at hex | obtain ⟨xx, hxx, rfl⟩ := encYs_cut hex); clear hex; try simp only [Int.toNat_natCast] at hxx) | intro _))
                  all_goals (first | (refine ⟨?_⟩; first | rfl | exact List.cons_ne_nil _ _ | (show (_ : Nat) * _ ≤ _; simp [catS, repl, chunks, ints_len, encYs_len] <;> omega) | exact shS _ _ | exact shM _ | exact shN | exact encM_clo _ | exact ⟨rfl, rfl⟩ | exact ⟨rfl, rfl, rfl⟩ | omega | (simp only [ints_len, encYs_len]; omega) | (simp; omega) | (simp [cloL, clo, catS, repl, ints_clo, encYs_clo, encR, encY, encS]; done) | (show chkGo _ _ _ _ _ = true; kernel_rfl)) | (simp [cloL, clo, catS, repl, ints_clo, encYs_clo, encR, encY, encS]; done) | skip)
                · (repeat' (first | (refine Ev.go ?_; conv => whnf) | refine And.intro ?_ ?_ | exact True.intro | exact rfl | (intro rx hrx; rw [IntWalk.i64_in _ (by omega)] at hrx) | (intro hcx; exfalso; omega) | (intro hcx; exfalso; simp only [ints_len, encYs_len] at hcx; omega) | (intro ex hex; (first | obtain ⟨xx, hxx, rfl⟩ := ints_at hex | obtain ⟨xx, hxx, rfl⟩ := encYs_at hex | obtain ⟨xx, hxx, rfl⟩ := encYs_cut hex); clear hex; try simp only [Int.toNat_natCast] at hxx) | intro _))
                  all_goals (first | (refine ⟨?_⟩; first | rfl | exact List.cons_ne_nil _ _ | (show (_ : Nat) * _ ≤ _; simp [catS, repl, chunks, ints_len, encYs_len] <;> omega) | exact shS _ _ | exact shM _ | exact shN | exact encM_clo _ | exact ⟨rfl, rfl⟩ | exact ⟨rfl, rfl, rfl⟩ | omega | (simp only [ints_len, encYs_len]; omega) | (simp; omega) | (simp [cloL, clo, catS, repl, ints_clo, encYs_clo, encR, encY, encS]; done) | (show chkGo _ _ _ _ _ = true; kernel_rfl)) | (simp [cloL, clo, catS, repl, ints_clo, encYs_clo, encR, encY, encS]; done) | skip)
                  refine TSq.pureC c18 (by simp [cloL, clo, encR, encY, encRule, encZ, encS, ints_clo, encYs_clo]) rfl (And.intro rfl rfl) ?_
                  (repeat' (first | (refine Ev.go ?_; conv => whnf) | refine And.intro ?_ ?_ | exact True.intro | exact rfl | (intro rx hrx; rw [IntWalk.i64_in _ (by omega)] at hrx) | (intro hcx; exfalso; omega) | (intro hcx; exfalso; simp only [ints_len, encYs_len] at hcx; omega) | (intro ex hex; (first | obtain ⟨xx, hxx, rfl⟩ := ints_at hex | obtain ⟨xx, hxx, rfl⟩ := encYs_at hex | obtain ⟨xx, hxx, rfl⟩ := encYs_cut hex); clear hex; try simp only [Int.toNat_natCast] at hxx) | intro _))
                  try rfl
  · intro hr
    (repeat' (first | (refine Ev.go ?_; conv => whnf) | refine And.intro ?_ ?_ | exact True.intro | exact rfl | (intro rx hrx; rw [IntWalk.i64_in _ (by omega)] at hrx) | (intro hcx; exfalso; omega) | (intro hcx; exfalso; simp only [ints_len, encYs_len] at hcx; omega) | (intro ex hex; (first | obtain ⟨xx, hxx, rfl⟩ := ints_at hex | obtain ⟨xx, hxx, rfl⟩ := encYs_at hex | obtain ⟨xx, hxx, rfl⟩ := encYs_cut hex); clear hex; try simp only [Int.toNat_natCast] at hxx) | intro _))
    refine TSq.pureC c18 (by simp [cloL, clo, encR, encY, encRule, encZ, encS, ints_clo, encYs_clo]) rfl (And.intro rfl rfl) ?_
    (repeat' (first | (refine Ev.go ?_; conv => whnf) | refine And.intro ?_ ?_ | exact True.intro | exact rfl | (intro rx hrx; rw [IntWalk.i64_in _ (by omega)] at hrx) | (intro hcx; exfalso; omega) | (intro hcx; exfalso; simp only [ints_len, encYs_len] at hcx; omega) | (intro ex hex; (first | obtain ⟨xx, hxx, rfl⟩ := ints_at hex | obtain ⟨xx, hxx, rfl⟩ := encYs_at hex | obtain ⟨xx, hxx, rfl⟩ := encYs_cut hex); clear hex; try simp only [Int.toNat_natCast] at hxx) | intro _))
    try rfl
end Go.Proofs.Ytelnonfenpjjcaa
