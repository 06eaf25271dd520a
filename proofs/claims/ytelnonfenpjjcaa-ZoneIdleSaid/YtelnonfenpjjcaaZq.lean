/- The document's classes, by the kinds of all years. -/
import Derived.Test.YtelnonfenpjjcaaZfR
import Derived.Test.YtelnonfenpjjcaaZo
set_option linter.unusedSimpArgs false
set_option linter.unusedVariables false
open Go Go.TV
namespace Go.Proofs.Ytelnonfenpjjcaa

/-- 0: does not count; 1: good; 2: bad; 3: others. -/
def rkind (r : Rule) (y : Year) (l p : Int) : Int :=
  if y.exempt = true ∨ y.parcels < r.fewest then 0
  else if l * 100 < p * r.good then 1
  else if p * r.bad < l * 100 then 2 else 3
def restedR (rest : Int) : List Int → Int → Bool
  | [], _ => true
  | k :: ks, m => if m < rest then (if k = 2 then false else restedR rest ks (if 0 < k then m + 1 else m)) else true
def rested (r : Rule) (before : List Int) : Bool := restedR r.rest before.reverse 0
def stepC (r : Rule) (now : Int) (before : List Int) (k : Int) : Int :=
  if k = 2 then min (now + 1) (r.classes - 1) else if k = 1 ∧ rested r before = true then max (now - 1) 0 else now
def nowC (r : Rule) (first : Int) (l : List Int) : Nat → Int
  | 0 => first
  | i + 1 => stepC r (nowC r first l i) (l.take i) (l.getD i 0)
def classC (r : Rule) (first : Int) (l : List Int) (n : Nat) : List Int := (List.range n).map fun i => nowC r first l (i + 1)
def classesL (r : Rule) (first : Int) (l : List Int) : List Int := classC r first l l.length

theorem stepC_ok {r : Rule} {now : Int} (hr : OkR r) (h1 : 0 ≤ now) (h2 : now < r.classes) (b : List Int) (k : Int) : 0 ≤ stepC r now b k ∧ stepC r now b k < r.classes := by
  have := hr.c1
  unfold stepC
  repeat' split
  all_goals omega
theorem nowC_ok {r : Rule} {first : Int} (hr : OkR r) (h1 : 0 ≤ first) (h2 : first < r.classes) (l : List Int) : ∀ n, 0 ≤ nowC r first l n ∧ nowC r first l n < r.classes
  | 0 => ⟨h1, h2⟩
  | n + 1 => stepC_ok hr (nowC_ok hr h1 h2 l n).1 (nowC_ok hr h1 h2 l n).2 _ _
theorem nowC_succ {r : Rule} {first : Int} {l : List Int} {n : Nat} {k : Int} (h : l[n]? = some k) : nowC r first l (n + 1) = stepC r (nowC r first l n) (l.take n) k := by
  simp only [nowC, List.getD_eq_getElem?_getD, h, Option.getD_some]
theorem classC_succ (r : Rule) (first : Int) (l : List Int) (n : Nat) : classC r first l (n + 1) = classC r first l n ++ [nowC r first l (n + 1)] := by
  simp [classC, List.range_succ]
theorem classC_len (r : Rule) (first : Int) (l : List Int) (n : Nat) : (classC r first l n).length = n := by simp [classC]

theorem c45 (r : Rule) (y : Year) (l p : Int) (hl : 0 ≤ l ∧ l ≤ 10000) (hp : 0 ≤ p ∧ p ≤ 10000) (hg : 0 ≤ r.good ∧ r.good ≤ 300) (hb : 0 ≤ r.bad ∧ r.bad ≤ 300) :
    PF Try.prog 45 [encRule r, encY y, .int .i64 l, .int .i64 p] (· = .int .i64 (rkind r y l p)) := by
  have m1 : 0 ≤ p * r.good ∧ p * r.good ≤ 10000 * 300 := ⟨Int.mul_nonneg hp.1 hg.1, Int.mul_le_mul hp.2 hg.2 hg.1 (by omega)⟩
  have m2 : 0 ≤ p * r.bad ∧ p * r.bad ≤ 10000 * 300 := ⟨Int.mul_nonneg hp.1 hb.1, Int.mul_le_mul hp.2 hb.2 hb.1 (by omega)⟩
  refine PF.of (TF.ev fn_45 (Ev.at ?_))
  (repeat' (first | (refine Ev.go ?_; conv => whnf) | refine And.intro ?_ ?_ | exact True.intro | exact rfl | (intro rx hrx; rw [IntWalk.i64_in _ (by omega)] at hrx) | (intro hcx; exfalso; omega) | (intro hcx; exfalso; simp only [ints_len, encYs_len] at hcx; omega) | (intro ex hex; (first | obtain ⟨xx, hxx, rfl⟩ := ints_at hex | obtain ⟨xx, hxx, rfl⟩ := encYs_at hex | obtain ⟨xx, hxx, rfl⟩ := encYs_cut hex); clear hex; try simp only [Int.toNat_natCast] at hxx) | intro _))
  refine TSq.pureBC (c39 r y) (by simp [cloL, clo, encR, encY, encRule, encZ, encS, ints_clo, encYs_clo]) rfl (And.intro rfl rfl) ?_ ?_
  · intro h
    simp only [decide_eq_true_eq] at h
    (repeat' (first | (refine Ev.go ?_; conv => whnf) | refine And.intro ?_ ?_ | exact True.intro | exact rfl | (intro rx hrx; rw [IntWalk.i64_in _ (by omega)] at hrx) | (intro hcx; exfalso; omega) | (intro hcx; exfalso; simp only [ints_len, encYs_len] at hcx; omega) | (intro ex hex; (first | obtain ⟨xx, hxx, rfl⟩ := ints_at hex | obtain ⟨xx, hxx, rfl⟩ := encYs_at hex | obtain ⟨xx, hxx, rfl⟩ := encYs_cut hex); clear hex; try simp only [Int.toNat_natCast] at hxx) | intro _))
    all_goals (unfold rkind; rw [if_neg h])
    · rw [if_pos (by omega)]
    · rw [if_neg (by omega), if_pos (by omega)]
    · rw [if_neg (by omega), if_neg (by omega)]
  · intro h
    simp only [decide_eq_false_iff_not, Classical.not_not] at h
    (repeat' (first | (refine Ev.go ?_; conv => whnf) | refine And.intro ?_ ?_ | exact True.intro | exact rfl | (intro rx hrx; rw [IntWalk.i64_in _ (by omega)] at hrx) | (intro hcx; exfalso; omega) | (intro hcx; exfalso; simp only [ints_len, encYs_len] at hcx; omega) | (intro ex hex; (first | obtain ⟨xx, hxx, rfl⟩ := ints_at hex | obtain ⟨xx, hxx, rfl⟩ := encYs_at hex | obtain ⟨xx, hxx, rfl⟩ := encYs_cut hex); clear hex; try simp only [Int.toNat_natCast] at hxx) | intro _))
    unfold rkind; rw [if_pos h]

theorem rev_take {l : List Int} {k : Nat} {x : Int} (h : l[k]? = some x) : (l.take (k + 1)).reverse = x :: (l.take k).reverse := by
  rw [take_snoc h]; simp

set_option maxRecDepth 100000 in
theorem c76 (r : Rule) (l : List Int) (hl : l.length ≤ 1000000) : PF Try.prog 76 [encRule r, .sl 1 (ints l)] (· = .bool (rested r l)) := by
  have hz := ints_len l
  refine PF.of (TF.ev fn_76 (Ev.at ?_))
  (repeat' (first | (refine Ev.go ?_; conv => whnf) | refine And.intro ?_ ?_ | exact True.intro | exact rfl | (intro rx hrx; rw [IntWalk.i64_in _ (by omega)] at hrx) | (intro hcx; exfalso; omega) | (intro hcx; exfalso; simp only [ints_len, encYs_len] at hcx; omega) | (intro ex hex; (first | obtain ⟨xx, hxx, rfl⟩ := ints_at hex | obtain ⟨xx, hxx, rfl⟩ := encYs_at hex | obtain ⟨xx, hxx, rfl⟩ := encYs_cut hex); clear hex; try simp only [Int.toNat_natCast] at hxx) | intro _))
  refine TWq.loop (fun p : Nat × Nat => [(6, .int .i64 ((p.1 : Int) - 1)), (5, .int .i64 (p.2 : Int))]) (fun _ => [])
    (fun p => p.1 ≤ l.length ∧ p.2 + p.1 ≤ l.length ∧ rested r l = restedR r.rest (l.take p.1).reverse p.2) (fun p => p.1) (l.length, 0) [] [] ?_ ⟨by omega, by omega, by simp [rested]⟩ ?_
  · (repeat' (first | (refine Ev.go ?_; conv => whnf) | refine And.intro ?_ ?_ | exact True.intro | exact rfl | (intro rx hrx; rw [IntWalk.i64_in _ (by omega)] at hrx) | (intro hcx; exfalso; omega) | (intro hcx; exfalso; simp only [ints_len, encYs_len] at hcx; omega) | (intro ex hex; (first | obtain ⟨xx, hxx, rfl⟩ := ints_at hex | obtain ⟨xx, hxx, rfl⟩ := encYs_at hex | obtain ⟨xx, hxx, rfl⟩ := encYs_cut hex); clear hex; try simp only [Int.toNat_natCast] at hxx) | intro _))
    all_goals (first | (refine ⟨?_⟩; first | rfl | exact List.cons_ne_nil _ _ | (show (_ : Nat) * _ ≤ _; simp [catS, repl, chunks, ints_len, encYs_len] <;> omega) | exact shS _ _ | exact shM _ | exact shN | exact encM_clo _ | exact ⟨rfl, rfl⟩ | exact ⟨rfl, rfl, rfl⟩ | omega | (simp only [ints_len, encYs_len]; omega) | (simp; omega) | (simp [cloL, clo, catS, repl, ints_clo, encYs_clo, encR, encY, encS]; done) | (show chkGo _ _ _ _ _ = true; kernel_rfl)) | (simp [cloL, clo, catS, repl, ints_clo, encYs_clo, encR, encY, encS]; done) | skip)
  · rintro ⟨k, m⟩ ⟨h1, h2, h3⟩
    dsimp only at h1 h2 h3 ⊢
    have hnext : ∀ x : Int, 0 ≤ (k : Int) - 1 → l[((k : Int) - 1).toNat]? = some x → rested r l = if (m : Int) < r.rest then (if x = 2 then false else restedR r.rest (l.take (k - 1)).reverse (if 0 < x then (m : Int) + 1 else m)) else true := by
      intro x hk hx
      rw [show ((k : Int) - 1).toNat = k - 1 by omega] at hx
      have := rev_take hx
      rw [show k - 1 + 1 = k by omega] at this
      rw [h3, this]; rfl
    (repeat' (first | (refine Ev.go ?_; conv => whnf) | refine And.intro ?_ ?_ | exact True.intro | exact rfl | (intro rx hrx; rw [IntWalk.i64_in _ (by omega)] at hrx) | (intro hcx; exfalso; omega) | (intro hcx; exfalso; simp only [ints_len, encYs_len] at hcx; omega) | (intro ex hex; (first | obtain ⟨xx, hxx, rfl⟩ := ints_at hex | obtain ⟨xx, hxx, rfl⟩ := encYs_at hex | obtain ⟨xx, hxx, rfl⟩ := encYs_cut hex); clear hex; try simp only [Int.toNat_natCast] at hxx) | intro _))
    all_goals (try (refine ⟨?_⟩; first | omega | exact List.cons_ne_nil _ _ | (show (_ : Nat) * _ ≤ _; simp [catS, repl, chunks, ints_len, encYs_len] <;> omega)))
    · rename_i q1 q2 q3
      rw [hnext _ q1 hxx, if_pos q2, if_pos q3]
    · rename_i q1 q2 x1 hx1 q3 q4 r1 hr1
      cases hx1.symm.trans hxx
      refine ⟨⟨(k - 1, m + 1), ⟨by dsimp only; omega, by dsimp only; omega, ?_⟩, by dsimp only; omega, ?_⟩⟩
      · rw [hnext _ q1 hxx, if_pos q2, if_neg q3, if_pos q4]; rfl
      · (repeat' (first | (refine Ev.go ?_; conv => whnf) | refine And.intro ?_ ?_ | exact True.intro | exact rfl | (intro rx hrx; rw [IntWalk.i64_in _ (by omega)] at hrx) | (intro hcx; exfalso; omega) | (intro hcx; exfalso; simp only [ints_len, encYs_len] at hcx; omega) | (intro ex hex; (first | obtain ⟨xx, hxx, rfl⟩ := ints_at hex | obtain ⟨xx, hxx, rfl⟩ := encYs_at hex | obtain ⟨xx, hxx, rfl⟩ := encYs_cut hex); clear hex; try simp only [Int.toNat_natCast] at hxx) | intro _))
        all_goals (first | (refine ⟨?_⟩; first | rfl | exact List.cons_ne_nil _ _ | (show (_ : Nat) * _ ≤ _; simp [catS, repl, chunks, ints_len, encYs_len] <;> omega) | exact shS _ _ | exact shM _ | exact shN | exact encM_clo _ | exact ⟨rfl, rfl⟩ | exact ⟨rfl, rfl, rfl⟩ | omega | (simp only [ints_len, encYs_len]; omega) | (simp; omega) | (simp [cloL, clo, catS, repl, ints_clo, encYs_clo, encR, encY, encS]; done) | (show chkGo _ _ _ _ _ = true; kernel_rfl)) | (simp [cloL, clo, catS, repl, ints_clo, encYs_clo, encR, encY, encS]; done) | skip)
    · rename_i q1 q2 x1 hx1 q3 q4
      cases hx1.symm.trans hxx
      refine ⟨⟨(k - 1, m), ⟨by dsimp only; omega, by dsimp only; omega, ?_⟩, by dsimp only; omega, ?_⟩⟩
      · rw [hnext _ q1 hxx, if_pos q2, if_neg q3, if_neg (by omega)]
      · (repeat' (first | (refine Ev.go ?_; conv => whnf) | refine And.intro ?_ ?_ | exact True.intro | exact rfl | (intro rx hrx; rw [IntWalk.i64_in _ (by omega)] at hrx) | (intro hcx; exfalso; omega) | (intro hcx; exfalso; simp only [ints_len, encYs_len] at hcx; omega) | (intro ex hex; (first | obtain ⟨xx, hxx, rfl⟩ := ints_at hex | obtain ⟨xx, hxx, rfl⟩ := encYs_at hex | obtain ⟨xx, hxx, rfl⟩ := encYs_cut hex); clear hex; try simp only [Int.toNat_natCast] at hxx) | intro _))
        all_goals (first | (refine ⟨?_⟩; first | rfl | exact List.cons_ne_nil _ _ | (show (_ : Nat) * _ ≤ _; simp [catS, repl, chunks, ints_len, encYs_len] <;> omega) | exact shS _ _ | exact shM _ | exact shN | exact encM_clo _ | exact ⟨rfl, rfl⟩ | exact ⟨rfl, rfl, rfl⟩ | omega | (simp only [ints_len, encYs_len]; omega) | (simp; omega) | (simp [cloL, clo, catS, repl, ints_clo, encYs_clo, encR, encY, encS]; done) | (show chkGo _ _ _ _ _ = true; kernel_rfl)) | (simp [cloL, clo, catS, repl, ints_clo, encYs_clo, encR, encY, encS]; done) | skip)
    · rename_i q1 q2
      have : ∃ x, l[((k : Int) - 1).toNat]? = some x := ⟨_, List.getElem?_eq_getElem (by omega)⟩
      obtain ⟨x, hx⟩ := this
      rw [hnext _ q1 hx, if_neg (by omega)]
    · have : k = 0 := by omega
      subst this
      rw [h3]; rfl

theorem ints_slice {l : List Int} {i : Nat} : List.take ((i : Int) - 0).toNat (List.drop (Int.toNat 0) (ints l)) = ints (l.take i) := by
  simp [ints, List.map_take]
theorem SlN.pf {f : FuncId} {args : List SV} {l : List Int} (h : PF Try.prog f args (SlN l)) : PF Try.prog f args (· = .sl 1 (ints l)) := PF.res h fun _ hs _ => SlN.fit hs
theorem ints_snoc (l : List Int) (x : Int) : ints (l ++ [x]) = ints l ++ [.int .i64 x] := by simp [ints]

set_option maxHeartbeats 4000000 in
set_option maxRecDepth 100000 in
theorem c57 (r : Rule) (first : Int) (l : List Int) (hr : OkR r) (h1 : 0 ≤ first) (h2 : first < r.classes) (hl : l.length ≤ 1000000) : PF Try.prog 57 [encRule r, .int .i64 first, .sl 1 (ints l)] (· = .sl 1 (ints (classesL r first l))) := by
  have hz := ints_len l
  have hc := hr.c2
  refine SlN.pf (PF.of (TF.ev fn_57 (Ev.at ?_)))
  (repeat' (first | (refine Ev.go ?_; conv => whnf) | refine And.intro ?_ ?_ | exact True.intro | exact rfl | (intro rx hrx; rw [IntWalk.i64_in _ (by omega)] at hrx) | (intro hcx; exfalso; omega) | (intro hcx; exfalso; simp only [ints_len, encYs_len] at hcx; omega) | (intro ex hex; (first | obtain ⟨xx, hxx, rfl⟩ := ints_at hex | obtain ⟨xx, hxx, rfl⟩ := encYs_at hex | obtain ⟨xx, hxx, rfl⟩ := encYs_cut hex); clear hex; try simp only [Int.toNat_natCast] at hxx) | intro _))
  refine TWq.loopP (fun p : Nat × List Int => [(8, .int .i64 (nowC r first l p.1)), (9, .int .i64 p.1), (7, match p.2 with | [] => .nils | _ :: _ => .own 1)])
    (fun p => [(1, match p.2 with | [] => .dead | _ :: _ => .arr 3 1 (ints p.2))])
    (fun p => p.1 ≤ l.length ∧ p.2 = classC r first l p.1) (fun p => l.length - p.1) (0, []) [] ?_ ⟨by omega, by simp [classC]⟩ ?_
  · (repeat' (first | (refine Ev.go ?_; conv => whnf) | refine And.intro ?_ ?_ | exact True.intro | exact rfl | (intro rx hrx; rw [IntWalk.i64_in _ (by omega)] at hrx) | (intro hcx; exfalso; omega) | (intro hcx; exfalso; simp only [ints_len, encYs_len] at hcx; omega) | (intro ex hex; (first | obtain ⟨xx, hxx, rfl⟩ := ints_at hex | obtain ⟨xx, hxx, rfl⟩ := encYs_at hex | obtain ⟨xx, hxx, rfl⟩ := encYs_cut hex); clear hex; try simp only [Int.toNat_natCast] at hxx) | intro _))
    all_goals (first | (refine ⟨?_⟩; first | rfl | exact List.cons_ne_nil _ _ | (show (_ : Nat) * _ ≤ _; simp [catS, repl, chunks, ints_len, encYs_len] <;> omega) | exact shS _ _ | exact shM _ | exact shN | exact encM_clo _ | exact ⟨rfl, rfl⟩ | exact ⟨rfl, rfl, rfl⟩ | omega | (simp only [ints_len, encYs_len]; omega) | (simp; omega) | (simp [cloL, clo, catS, repl, ints_clo, encYs_clo, encR, encY, encS]; done) | (show chkGo _ _ _ _ _ = true; kernel_rfl)) | (simp [cloL, clo, catS, repl, ints_clo, encYs_clo, encR, encY, encS]; done) | skip)
  · rintro ⟨k, out⟩ ⟨hk, hout⟩
    dsimp only at hk hout ⊢
    have hol : out.length ≤ k ∧ k ≤ out.length := by rw [hout, classC_len]; omega
    have hnow := nowC_ok hr h1 h2 l k
    have hs : ∀ x, l[k]? = some x → nowC r first l (k + 1) = stepC r (nowC r first l k) (l.take k) x := fun x => nowC_succ
    have hcs := classC_succ r first l k
    generalize nowC r first l k = now at *
    rcases Nat.lt_or_ge k l.length with hkl | hkl
    · obtain ⟨K, hK⟩ : ∃ K, l[k]? = some K := ⟨_, List.getElem?_eq_getElem hkl⟩
      have hgetY : ∀ {n : Nat} {e : SV}, n = k → (ints l)[n]? = some e → e = .int .i64 K := by
        rintro n e rfl he
        obtain ⟨x, hx, rfl⟩ := ints_at he
        rw [hK] at hx; cases hx; rfl
      have hN := hs K hK
      rw [hN] at hcs
      have hK3 : K = 2 ∨ K = 1 ∨ (K ≠ 2 ∧ K ≠ 1) := by omega
      rcases hK3 with hK2 | hK2 | hK2
      · have e0 : stepC r now (l.take k) K = min (now + 1) (r.classes - 1) := by unfold stepC; rw [if_pos hK2]
        rw [e0] at hN hcs
        cases out
        all_goals
          (try simp only [List.length_cons] at hol)
          (repeat' (first | (intro ex hex; obtain rfl := hgetY (by omega) hex; clear hex) | (refine Ev.go ?_; conv => whnf) | refine And.intro ?_ ?_ | exact True.intro | exact rfl | (intro rx hrx; rw [IntWalk.i64_in _ (by omega)] at hrx) | (intro rx hrx; obtain ⟨kx, rfl, hkx⟩ := tmod_ex hrx (by omega) (by omega)) | (intro rx hrx; obtain ⟨kx, rfl, hkx⟩ := tdiv_ex hrx (by omega) (by omega)) | (intro hcx; exfalso; omega) | (intro hcx; exfalso; simp only [ints_len, encYs_len] at hcx; omega) | (intro ex hex; (first | obtain ⟨xx, hxx, rfl⟩ := ints_at hex | obtain ⟨xx, hxx, rfl⟩ := encYs_at hex | obtain ⟨xx, hxx, rfl⟩ := encYs_cut hex); clear hex; try simp only [Int.toNat_natCast] at hxx) | intro _))
          all_goals (first | (refine ⟨?_⟩; first | rfl | exact List.cons_ne_nil _ _ | (show (_ : Nat) * _ ≤ _; simp [catS, repl, chunks, ints_len, encYs_len] <;> omega) | exact shS _ _ | exact shM _ | exact shN | exact encM_clo _ | exact ⟨rfl, rfl⟩ | exact ⟨rfl, rfl, rfl⟩ | omega | (simp only [ints_len, encYs_len]; omega) | (simp; omega) | (simp [cloL, clo, catS, repl, ints_clo, encYs_clo, encR, encY, encS]; done) | (show chkGo _ _ _ _ _ = true; kernel_rfl)) | (simp [cloL, clo, catS, repl, ints_clo, encYs_clo, encR, encY, encS]; done) | skip)
          subst_vars
          refine ⟨⟨[(1, 3)], (k + 1, _ ++ [min (now + 1) (r.classes - 1)]), ⟨by dsimp only; omega, by dsimp only; rw [hcs, ← hout]⟩, by dsimp only; omega, ?_⟩⟩
          (repeat' (first | (refine Ev.go ?_; conv => whnf) | refine And.intro ?_ ?_ | exact True.intro | exact rfl | (intro rx hrx; rw [IntWalk.i64_in _ (by omega)] at hrx) | (intro hcx; exfalso; omega) | (intro hcx; exfalso; simp only [ints_len, encYs_len] at hcx; omega) | (intro ex hex; (first | obtain ⟨xx, hxx, rfl⟩ := ints_at hex | obtain ⟨xx, hxx, rfl⟩ := encYs_at hex | obtain ⟨xx, hxx, rfl⟩ := encYs_cut hex); clear hex; try simp only [Int.toNat_natCast] at hxx) | intro _))
          all_goals (first | (refine ⟨?_⟩; first | rfl | exact List.cons_ne_nil _ _ | (show (_ : Nat) * _ ≤ _; simp [catS, repl, chunks, ints_len, encYs_len] <;> omega) | exact shS _ _ | exact shM _ | exact shN | exact encM_clo _ | exact ⟨rfl, rfl⟩ | exact ⟨rfl, rfl, rfl⟩ | omega | (simp only [ints_len, encYs_len]; omega) | (simp; omega) | (simp [cloL, clo, catS, repl, ints_clo, encYs_clo, encR, encY, encS]; done) | (show chkGo _ _ _ _ _ = true; kernel_rfl)) | (simp [cloL, clo, catS, repl, ints_clo, encYs_clo, encR, encY, encS]; done) | skip)
          all_goals (try (refine ⟨?_⟩; first | exact hN.symm | exact hN | (simp [ints, catS, repl]; done)))
      · have e0 : stepC r now (l.take k) K = if rested r (l.take k) = true then max (now - 1) 0 else now := by
          unfold stepC; rw [if_neg (by omega)]
          simp only [hK2, true_and]
        rw [e0] at hN hcs
        cases out
        all_goals
          (try simp only [List.length_cons] at hol)
          (repeat' (first | (intro ex hex; obtain rfl := hgetY (by omega) hex; clear hex) | (refine Ev.go ?_; conv => whnf) | refine And.intro ?_ ?_ | exact True.intro | exact rfl | (intro rx hrx; rw [IntWalk.i64_in _ (by omega)] at hrx) | (intro rx hrx; obtain ⟨kx, rfl, hkx⟩ := tmod_ex hrx (by omega) (by omega)) | (intro rx hrx; obtain ⟨kx, rfl, hkx⟩ := tdiv_ex hrx (by omega) (by omega)) | (intro hcx; exfalso; omega) | (intro hcx; exfalso; simp only [ints_len, encYs_len] at hcx; omega) | (intro ex hex; (first | obtain ⟨xx, hxx, rfl⟩ := ints_at hex | obtain ⟨xx, hxx, rfl⟩ := encYs_at hex | obtain ⟨xx, hxx, rfl⟩ := encYs_cut hex); clear hex; try simp only [Int.toNat_natCast] at hxx) | intro _))
          all_goals (first | (refine ⟨?_⟩; first | rfl | exact List.cons_ne_nil _ _ | (show (_ : Nat) * _ ≤ _; simp [catS, repl, chunks, ints_len, encYs_len] <;> omega) | exact shS _ _ | exact shM _ | exact shN | exact encM_clo _ | exact ⟨rfl, rfl⟩ | exact ⟨rfl, rfl, rfl⟩ | omega | (simp only [ints_len, encYs_len]; omega) | (simp; omega) | (simp [cloL, clo, catS, repl, ints_clo, encYs_clo, encR, encY, encS]; done) | (show chkGo _ _ _ _ _ = true; kernel_rfl)) | (simp [cloL, clo, catS, repl, ints_clo, encYs_clo, encR, encY, encS]; done) | skip)
          refine TDq.pureBC (c76 r (l.take k) (by simp; omega)) (by simp [cloL, clo, encR, encY, encRule, encZ, encS, ints_clo, encYs_clo]) rfl (And.intro rfl (by rw [ints_slice]; rfl)) ?_ ?_ <;> intro hb
          · rw [if_pos hb] at hN hcs
            (repeat' (first | (intro ex hex; obtain rfl := hgetY (by omega) hex; clear hex) | (refine Ev.go ?_; conv => whnf) | refine And.intro ?_ ?_ | exact True.intro | exact rfl | (intro rx hrx; rw [IntWalk.i64_in _ (by omega)] at hrx) | (intro rx hrx; obtain ⟨kx, rfl, hkx⟩ := tmod_ex hrx (by omega) (by omega)) | (intro rx hrx; obtain ⟨kx, rfl, hkx⟩ := tdiv_ex hrx (by omega) (by omega)) | (intro hcx; exfalso; omega) | (intro hcx; exfalso; simp only [ints_len, encYs_len] at hcx; omega) | (intro ex hex; (first | obtain ⟨xx, hxx, rfl⟩ := ints_at hex | obtain ⟨xx, hxx, rfl⟩ := encYs_at hex | obtain ⟨xx, hxx, rfl⟩ := encYs_cut hex); clear hex; try simp only [Int.toNat_natCast] at hxx) | intro _))
            all_goals (first | (refine ⟨?_⟩; first | rfl | exact List.cons_ne_nil _ _ | (show (_ : Nat) * _ ≤ _; simp [catS, repl, chunks, ints_len, encYs_len] <;> omega) | exact shS _ _ | exact shM _ | exact shN | exact encM_clo _ | exact ⟨rfl, rfl⟩ | exact ⟨rfl, rfl, rfl⟩ | omega | (simp only [ints_len, encYs_len]; omega) | (simp; omega) | (simp [cloL, clo, catS, repl, ints_clo, encYs_clo, encR, encY, encS]; done) | (show chkGo _ _ _ _ _ = true; kernel_rfl)) | (simp [cloL, clo, catS, repl, ints_clo, encYs_clo, encR, encY, encS]; done) | skip)
            subst_vars
            refine ⟨⟨[(1, 3)], (k + 1, _ ++ [max (now - 1) 0]), ⟨by dsimp only; omega, by dsimp only; rw [hcs, ← hout]⟩, by dsimp only; omega, ?_⟩⟩
            (repeat' (first | (refine Ev.go ?_; conv => whnf) | refine And.intro ?_ ?_ | exact True.intro | exact rfl | (intro rx hrx; rw [IntWalk.i64_in _ (by omega)] at hrx) | (intro hcx; exfalso; omega) | (intro hcx; exfalso; simp only [ints_len, encYs_len] at hcx; omega) | (intro ex hex; (first | obtain ⟨xx, hxx, rfl⟩ := ints_at hex | obtain ⟨xx, hxx, rfl⟩ := encYs_at hex | obtain ⟨xx, hxx, rfl⟩ := encYs_cut hex); clear hex; try simp only [Int.toNat_natCast] at hxx) | intro _))
            all_goals (first | (refine ⟨?_⟩; first | rfl | exact List.cons_ne_nil _ _ | (show (_ : Nat) * _ ≤ _; simp [catS, repl, chunks, ints_len, encYs_len] <;> omega) | exact shS _ _ | exact shM _ | exact shN | exact encM_clo _ | exact ⟨rfl, rfl⟩ | exact ⟨rfl, rfl, rfl⟩ | omega | (simp only [ints_len, encYs_len]; omega) | (simp; omega) | (simp [cloL, clo, catS, repl, ints_clo, encYs_clo, encR, encY, encS]; done) | (show chkGo _ _ _ _ _ = true; kernel_rfl)) | (simp [cloL, clo, catS, repl, ints_clo, encYs_clo, encR, encY, encS]; done) | skip)
            all_goals (try (refine ⟨?_⟩; first | exact hN.symm | exact hN | (simp [ints, catS, repl]; done)))
          · rw [if_neg (by rw [hb]; simp)] at hN hcs
            (repeat' (first | (intro ex hex; obtain rfl := hgetY (by omega) hex; clear hex) | (refine Ev.go ?_; conv => whnf) | refine And.intro ?_ ?_ | exact True.intro | exact rfl | (intro rx hrx; rw [IntWalk.i64_in _ (by omega)] at hrx) | (intro rx hrx; obtain ⟨kx, rfl, hkx⟩ := tmod_ex hrx (by omega) (by omega)) | (intro rx hrx; obtain ⟨kx, rfl, hkx⟩ := tdiv_ex hrx (by omega) (by omega)) | (intro hcx; exfalso; omega) | (intro hcx; exfalso; simp only [ints_len, encYs_len] at hcx; omega) | (intro ex hex; (first | obtain ⟨xx, hxx, rfl⟩ := ints_at hex | obtain ⟨xx, hxx, rfl⟩ := encYs_at hex | obtain ⟨xx, hxx, rfl⟩ := encYs_cut hex); clear hex; try simp only [Int.toNat_natCast] at hxx) | intro _))
            all_goals (first | (refine ⟨?_⟩; first | rfl | exact List.cons_ne_nil _ _ | (show (_ : Nat) * _ ≤ _; simp [catS, repl, chunks, ints_len, encYs_len] <;> omega) | exact shS _ _ | exact shM _ | exact shN | exact encM_clo _ | exact ⟨rfl, rfl⟩ | exact ⟨rfl, rfl, rfl⟩ | omega | (simp only [ints_len, encYs_len]; omega) | (simp; omega) | (simp [cloL, clo, catS, repl, ints_clo, encYs_clo, encR, encY, encS]; done) | (show chkGo _ _ _ _ _ = true; kernel_rfl)) | (simp [cloL, clo, catS, repl, ints_clo, encYs_clo, encR, encY, encS]; done) | skip)
            refine ⟨⟨[(1, 3)], (k + 1, _ ++ [now]), ⟨by dsimp only; omega, by dsimp only; rw [hcs, ← hout]⟩, by dsimp only; omega, ?_⟩⟩
            (repeat' (first | (refine Ev.go ?_; conv => whnf) | refine And.intro ?_ ?_ | exact True.intro | exact rfl | (intro rx hrx; rw [IntWalk.i64_in _ (by omega)] at hrx) | (intro hcx; exfalso; omega) | (intro hcx; exfalso; simp only [ints_len, encYs_len] at hcx; omega) | (intro ex hex; (first | obtain ⟨xx, hxx, rfl⟩ := ints_at hex | obtain ⟨xx, hxx, rfl⟩ := encYs_at hex | obtain ⟨xx, hxx, rfl⟩ := encYs_cut hex); clear hex; try simp only [Int.toNat_natCast] at hxx) | intro _))
            all_goals (first | (refine ⟨?_⟩; first | rfl | exact List.cons_ne_nil _ _ | (show (_ : Nat) * _ ≤ _; simp [catS, repl, chunks, ints_len, encYs_len] <;> omega) | exact shS _ _ | exact shM _ | exact shN | exact encM_clo _ | exact ⟨rfl, rfl⟩ | exact ⟨rfl, rfl, rfl⟩ | omega | (simp only [ints_len, encYs_len]; omega) | (simp; omega) | (simp [cloL, clo, catS, repl, ints_clo, encYs_clo, encR, encY, encS]; done) | (show chkGo _ _ _ _ _ = true; kernel_rfl)) | (simp [cloL, clo, catS, repl, ints_clo, encYs_clo, encR, encY, encS]; done) | skip)
            all_goals (try (refine ⟨?_⟩; first | exact hN.symm | exact hN | (simp [ints, catS, repl]; done)))
      · have e0 : stepC r now (l.take k) K = now := by
          unfold stepC; rw [if_neg hK2.1, if_neg (fun h => hK2.2 h.1)]
        rw [e0] at hN hcs
        cases out
        all_goals
          (try simp only [List.length_cons] at hol)
          (repeat' (first | (intro ex hex; obtain rfl := hgetY (by omega) hex; clear hex) | (refine Ev.go ?_; conv => whnf) | refine And.intro ?_ ?_ | exact True.intro | exact rfl | (intro rx hrx; rw [IntWalk.i64_in _ (by omega)] at hrx) | (intro rx hrx; obtain ⟨kx, rfl, hkx⟩ := tmod_ex hrx (by omega) (by omega)) | (intro rx hrx; obtain ⟨kx, rfl, hkx⟩ := tdiv_ex hrx (by omega) (by omega)) | (intro hcx; exfalso; omega) | (intro hcx; exfalso; simp only [ints_len, encYs_len] at hcx; omega) | (intro ex hex; (first | obtain ⟨xx, hxx, rfl⟩ := ints_at hex | obtain ⟨xx, hxx, rfl⟩ := encYs_at hex | obtain ⟨xx, hxx, rfl⟩ := encYs_cut hex); clear hex; try simp only [Int.toNat_natCast] at hxx) | intro _))
          all_goals (first | (refine ⟨?_⟩; first | rfl | exact List.cons_ne_nil _ _ | (show (_ : Nat) * _ ≤ _; simp [catS, repl, chunks, ints_len, encYs_len] <;> omega) | exact shS _ _ | exact shM _ | exact shN | exact encM_clo _ | exact ⟨rfl, rfl⟩ | exact ⟨rfl, rfl, rfl⟩ | omega | (simp only [ints_len, encYs_len]; omega) | (simp; omega) | (simp [cloL, clo, catS, repl, ints_clo, encYs_clo, encR, encY, encS]; done) | (show chkGo _ _ _ _ _ = true; kernel_rfl)) | (simp [cloL, clo, catS, repl, ints_clo, encYs_clo, encR, encY, encS]; done) | skip)
          refine ⟨⟨[(1, 3)], (k + 1, _ ++ [now]), ⟨by dsimp only; omega, by dsimp only; rw [hcs, ← hout]⟩, by dsimp only; omega, ?_⟩⟩
          (repeat' (first | (refine Ev.go ?_; conv => whnf) | refine And.intro ?_ ?_ | exact True.intro | exact rfl | (intro rx hrx; rw [IntWalk.i64_in _ (by omega)] at hrx) | (intro hcx; exfalso; omega) | (intro hcx; exfalso; simp only [ints_len, encYs_len] at hcx; omega) | (intro ex hex; (first | obtain ⟨xx, hxx, rfl⟩ := ints_at hex | obtain ⟨xx, hxx, rfl⟩ := encYs_at hex | obtain ⟨xx, hxx, rfl⟩ := encYs_cut hex); clear hex; try simp only [Int.toNat_natCast] at hxx) | intro _))
          all_goals (first | (refine ⟨?_⟩; first | rfl | exact List.cons_ne_nil _ _ | (show (_ : Nat) * _ ≤ _; simp [catS, repl, chunks, ints_len, encYs_len] <;> omega) | exact shS _ _ | exact shM _ | exact shN | exact encM_clo _ | exact ⟨rfl, rfl⟩ | exact ⟨rfl, rfl, rfl⟩ | omega | (simp only [ints_len, encYs_len]; omega) | (simp; omega) | (simp [cloL, clo, catS, repl, ints_clo, encYs_clo, encR, encY, encS]; done) | (show chkGo _ _ _ _ _ = true; kernel_rfl)) | (simp [cloL, clo, catS, repl, ints_clo, encYs_clo, encR, encY, encS]; done) | skip)
          all_goals (try (refine ⟨?_⟩; first | exact hN.symm | exact hN | (simp [ints, catS, repl]; done)))
    · have : k = l.length := by omega
      subst this
      cases out
      all_goals
        (try simp only [List.length_cons] at hol)
        (repeat' (first | (refine Ev.go ?_; conv => whnf) | refine And.intro ?_ ?_ | exact True.intro | exact rfl | (intro rx hrx; rw [IntWalk.i64_in _ (by omega)] at hrx) | (intro hcx; exfalso; omega) | (intro hcx; exfalso; simp only [ints_len, encYs_len] at hcx; omega) | (intro ex hex; (first | obtain ⟨xx, hxx, rfl⟩ := ints_at hex | obtain ⟨xx, hxx, rfl⟩ := encYs_at hex | obtain ⟨xx, hxx, rfl⟩ := encYs_cut hex); clear hex; try simp only [Int.toNat_natCast] at hxx) | intro _))
        all_goals (first | (refine ⟨?_⟩; first | rfl | exact List.cons_ne_nil _ _ | (show (_ : Nat) * _ ≤ _; simp [catS, repl, chunks, ints_len, encYs_len] <;> omega) | exact shS _ _ | exact shM _ | exact shN | exact encM_clo _ | exact ⟨rfl, rfl⟩ | exact ⟨rfl, rfl, rfl⟩ | omega | (simp only [ints_len, encYs_len]; omega) | (simp; omega) | (simp [cloL, clo, catS, repl, ints_clo, encYs_clo, encR, encY, encS]; done) | (show chkGo _ _ _ _ _ = true; kernel_rfl)) | (simp [cloL, clo, catS, repl, ints_clo, encYs_clo, encR, encY, encS]; done) | skip)
      · exact .inr ⟨hout.symm, rfl⟩
      · exact .inl (by rw [classesL, ← hout])
end Go.Proofs.Ytelnonfenpjjcaa
