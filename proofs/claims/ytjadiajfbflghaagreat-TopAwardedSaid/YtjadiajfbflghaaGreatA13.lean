/- Lists of members. The bounds of all numbers that are asked, in all truths. Bounds, Without and Short. Calls in plain Lean: free shares, members that are alike, who is not short. Sums of calls; what the calls for a need are told of in the statements. The need in a truth; whether a list has just these calls. Functions of the program in the calculus' compact form: the form is found by reduction, and shown to be the program's. The example of an award that is called in. -/
import Derived.Test.YtjadiajfbflghaaGreatA12
import Derived.Test.YtjadiajfbflghaaGreatA5
import Derived.Test.YtjadiajfbflghaaGreatA8
import Derived.Test.YtjadiajfbflghaaGreatProg
import Derived.Test.YtjadiajfbflghaaGreatA4
import Derived.Test.YtjadiajfbflghaaGreatA11
set_option linter.unusedSimpArgs false
set_option linter.unusedVariables false
set_option linter.unusedSimpArgs false
set_option linter.unusedVariables false
open Go Go.TV
namespace Go.Proofs.YtjadiajfbflghaaGreat
def incr : Int → List Int → Bool
  | _, [] => true
  | a, x :: l => decide (a < x) && incr x l
def lastO (a : Int) : List Int → Int
  | [] => a
  | x :: l => lastO x l
theorem incr_append : ∀ {a : Int} {l m : List Int}, incr a (l ++ m) = (incr a l && incr (lastO a l) m)
  | a, [], m => by simp [incr, lastO]
  | a, x :: l, m => by simp [incr, lastO, incr_append, Bool.and_assoc]
theorem lastO_append : ∀ {a x : Int} {l : List Int}, lastO a (l ++ [x]) = x
  | a, x, [] => rfl
  | a, x, y :: l => by simp only [List.cons_append, lastO, lastO_append]
theorem incr_false {a : Int} {l : List Int} {k : Nat} {x : Int} (h : l[k]? = some x) (hf : ¬ lastO a (l.take k) < x) : incr a l = false := by
  have e : l = l.take k ++ x :: l.drop (k + 1) := by
    obtain ⟨hk, hx⟩ := List.getElem?_eq_some_iff.1 h
    rw [← hx, List.getElem_cons_drop, List.take_append_drop]
  rw [e, incr_append]
  simp [incr, hf]
theorem incr_iff : ∀ {a : Int} {l : List Int}, incr a l = true ↔ ((∀ x ∈ l, a < x) ∧ l.Pairwise (· < ·))
  | a, [] => by simp [incr]
  | a, x :: l => by
    simp only [incr, Bool.and_eq_true, decide_eq_true_eq, incr_iff (a := x) (l := l), List.mem_cons, forall_eq_or_imp, List.pairwise_cons]
    constructor
    · rintro ⟨h1, h2, h3⟩; exact ⟨⟨h1, fun y hy => Int.lt_trans h1 (h2 y hy)⟩, h2, h3⟩
    · rintro ⟨⟨h1, _⟩, h2, h3⟩; exact ⟨h1, h2, h3⟩
def memb (s : Soc) (n : Int) : Bool := within n 0 (s.members.length - 1)
theorem listed_incr {s : Soc} {l : List Int} : s.listed l = (l.all (memb s) && incr (-1) l) := by
  rw [Bool.eq_iff_iff]
  simp only [Soc.listed, Bool.and_eq_true, List.all_eq_true, decide_eq_true_eq, incr_iff, memb]
  constructor
  · rintro ⟨h1, h2⟩
    refine ⟨h1, fun x hx => ?_, h2⟩
    have := h1 x hx; simp only [within, decide_eq_true_eq] at this; omega
  · rintro ⟨h1, _, h2⟩; exact ⟨h1, h2⟩
def notM (s : Soc) : SV := .fn 238 [] [.iptr (.agg [.fn 190 [encSoc s] []]) 0]
theorem c238 (s : Soc) (n : Int) (h : s.members.length ≤ 1000000) : PF Tryz.prog 238 [.int .i64 n, .iptr (.agg [.fn 190 [encSoc s] []]) 0] (· = .bool (!memb s n)) := by
  refine PF.of (TF.ev fn_238 (Ev.at ?_))
  (repeat' (first | (refine Ev.go ?_; conv => whnf) | refine And.intro ?_ ?_ | exact True.intro | exact rfl | (intro rx hrx; rw [ij _ (by omega)] at hrx) | (intro hcx; exfalso; omega) | (intro hcx; exfalso; simp only [lz] at hcx; omega) | intro _))
  refine TSq.pureBC (c190 s n h) cl rfl (And.intro rfl rfl) ?_ ?_
  all_goals ((repeat' (first | (refine Ev.go ?_; conv => whnf) | refine And.intro ?_ ?_ | exact True.intro | exact rfl | (intro rx hrx; rw [ij _ (by omega)] at hrx) | (intro hcx; exfalso; omega) | (intro hcx; exfalso; simp only [lz] at hcx; omega) | intro _)); rw [SV.bool_iff]; simp_all [memb])
theorem c260 (s : Soc) (l : List Int) (hlen : l.length ≤ 1000000) (h : s.members.length ≤ 1000000) : PF Tryz.prog 260 [.sl 1 (ints l), notM s] fun v => ∃ i : Int, v = .int .i64 i ∧ (0 ≤ i ↔ l.any (fun y => !memb s y) = true) := by
  have hz := ints_len l
  refine PF.of (TF.ev fn_260 (Ev.at ?_))
  (repeat' (first | (refine Ev.go ?_; conv => whnf) | refine And.intro ?_ ?_ | exact True.intro | exact rfl | (intro rx hrx; rw [ij _ (by omega)] at hrx) | (intro hcx; exfalso; omega) | (intro hcx; exfalso; simp only [lz] at hcx; omega) | (intro ex hex; (first | obtain ⟨xx, hxx, rfl⟩ := ints_at hex | obtain ⟨xx, hxx, rfl⟩ := encYs_at hex | obtain ⟨xx, hxx, rfl⟩ := encRs_at hex); clear hex; try simp only [Int.toNat_natCast] at hxx) | intro _))
  refine TWq.loop (fun k : Nat => [(8, .int .i64 k)]) (fun _ => []) (fun k => k ≤ l.length ∧ (l.take k).any (fun y => !memb s y) = false) (fun k => l.length - k) 0 [] [] ?_ ⟨by omega, by simp⟩ ?_
  · (repeat' (first | (refine Ev.go ?_; conv => whnf) | refine And.intro ?_ ?_ | exact True.intro | exact rfl | (intro rx hrx; rw [ij _ (by omega)] at hrx) | (intro hcx; exfalso; omega) | (intro hcx; exfalso; simp only [lz] at hcx; omega) | (intro ex hex; (first | obtain ⟨xx, hxx, rfl⟩ := ints_at hex | obtain ⟨xx, hxx, rfl⟩ := encYs_at hex | obtain ⟨xx, hxx, rfl⟩ := encRs_at hex); clear hex; try simp only [Int.toNat_natCast] at hxx) | intro _))
    all_goals (first | (refine ⟨?_⟩; exact vc) | exact cl | skip)
  · rintro k ⟨hk1, hk2⟩
    (repeat' (first | (refine Ev.go ?_; conv => whnf) | refine And.intro ?_ ?_ | exact True.intro | exact rfl | (intro rx hrx; rw [ij _ (by omega)] at hrx) | (intro hcx; exfalso; omega) | (intro hcx; exfalso; simp only [lz] at hcx; omega) | (intro ex hex; (first | obtain ⟨xx, hxx, rfl⟩ := ints_at hex | obtain ⟨xx, hxx, rfl⟩ := encYs_at hex | obtain ⟨xx, hxx, rfl⟩ := encRs_at hex); clear hex; try simp only [Int.toNat_natCast] at hxx) | intro _))
    all_goals (try (refine ⟨?_⟩; first | omega | exact List.cons_ne_nil _ _ | (show (_ : Nat) * _ ≤ _; simp [catS, repl, chunks, ints_len, encYs_len] <;> omega)))
    · refine TSq.pureBC (c238 s _ h) cl rfl (And.intro rfl rfl) ?_ ?_
      · (repeat' (first | (refine Ev.go ?_; conv => whnf) | refine And.intro ?_ ?_ | exact True.intro | exact rfl | (intro rx hrx; rw [ij _ (by omega)] at hrx) | (intro hcx; exfalso; omega) | (intro hcx; exfalso; simp only [lz] at hcx; omega) | (intro ex hex; (first | obtain ⟨xx, hxx, rfl⟩ := ints_at hex | obtain ⟨xx, hxx, rfl⟩ := encYs_at hex | obtain ⟨xx, hxx, rfl⟩ := encRs_at hex); clear hex; try simp only [Int.toNat_natCast] at hxx) | intro _))
        exact ⟨k, rfl, by have := any_of_get hxx (p := fun y => !memb s y) (by assumption); simp only [this, iff_true]; omega⟩
      · (repeat' (first | (refine Ev.go ?_; conv => whnf) | refine And.intro ?_ ?_ | exact True.intro | exact rfl | (intro rx hrx; rw [ij _ (by omega)] at hrx) | (intro hcx; exfalso; omega) | (intro hcx; exfalso; simp only [lz] at hcx; omega) | (intro ex hex; (first | obtain ⟨xx, hxx, rfl⟩ := ints_at hex | obtain ⟨xx, hxx, rfl⟩ := encYs_at hex | obtain ⟨xx, hxx, rfl⟩ := encRs_at hex); clear hex; try simp only [Int.toNat_natCast] at hxx) | intro _))
        all_goals (try (refine ⟨?_⟩; first | omega | exact List.cons_ne_nil _ _ | (show (_ : Nat) * _ ≤ _; simp [catS, repl, chunks, ints_len, encYs_len] <;> omega)))
        refine ⟨k + 1, ⟨by omega, ?_⟩, by omega, ?_⟩
        · rw [take_snoc hxx]; simp_all
        · (repeat' (first | (refine Ev.go ?_; conv => whnf) | refine And.intro ?_ ?_ | exact True.intro | exact rfl | (intro rx hrx; rw [ij _ (by omega)] at hrx) | (intro hcx; exfalso; omega) | (intro hcx; exfalso; simp only [lz] at hcx; omega) | (intro ex hex; (first | obtain ⟨xx, hxx, rfl⟩ := ints_at hex | obtain ⟨xx, hxx, rfl⟩ := encYs_at hex | obtain ⟨xx, hxx, rfl⟩ := encRs_at hex); clear hex; try simp only [Int.toNat_natCast] at hxx) | intro _))
          all_goals (first | (refine ⟨?_⟩; exact vc) | exact cl | skip)
    · have : k = l.length := by omega
      subst this
      rw [List.take_length] at hk2
      exact ⟨-1, rfl, by simp only [hk2]; simp⟩
theorem c237 (s : Soc) (l : List Int) (hlen : l.length ≤ 1000000) (h : s.members.length ≤ 1000000) : PF Tryz.prog 237 [.sl 1 (ints l), notM s] (· = .bool (l.any fun y => !memb s y)) := by
  refine PF.of (TF.ev fn_237 (Ev.at ?_))
  (repeat' (first | (refine Ev.go ?_; conv => whnf) | refine And.intro ?_ ?_ | exact True.intro | exact rfl | (intro rx hrx; rw [ij _ (by omega)] at hrx) | (intro hcx; exfalso; omega) | (intro hcx; exfalso; simp only [lz] at hcx; omega) | intro _))
  refine TSq.pureQ rfl (c260 s l hlen h) (by simp [cloL, clo, notM, encSoc, ints_clo, encYs_clo, encRs_clo]) rfl (And.intro rfl rfl) ?_
  rintro v ⟨i, rfl, hi⟩ _
  (repeat' (first | (refine Ev.go ?_; conv => whnf) | refine And.intro ?_ ?_ | exact True.intro | exact rfl | (intro rx hrx; rw [ij _ (by omega)] at hrx) | (intro hcx; exfalso; omega) | (intro hcx; exfalso; simp only [lz] at hcx; omega) | intro _))
  all_goals (rw [SV.bool_iff]; rw [← hi]; simp; omega)
theorem c191 (s : Soc) (l : List Int) (hlen : l.length ≤ 1000000) (h : s.members.length ≤ 1000000) : PF Tryz.prog 191 [.sl 1 (ints l), .fn 190 [encSoc s] []] (· = .bool (l.all (memb s))) := by
  refine PF.of (TF.ev fn_191 (Ev.at ?_))
  (repeat' (first | (refine Ev.go ?_; conv => whnf) | refine And.intro ?_ ?_ | exact True.intro | exact rfl | (intro rx hrx; rw [ij _ (by omega)] at hrx) | (intro hcx; exfalso; omega) | (intro hcx; exfalso; simp only [lz] at hcx; omega) | intro _))
  refine TSq.lendBC (c237 s l hlen h) rfl (And.intro rfl ?_) ?_ ?_
  · (repeat' (first | (refine Ev.go ?_; conv => whnf) | refine And.intro ?_ ?_ | exact True.intro | exact rfl | (intro rx hrx; rw [ij _ (by omega)] at hrx) | (intro hcx; exfalso; omega) | (intro hcx; exfalso; simp only [lz] at hcx; omega) | intro _))
  all_goals ((repeat' (first | (refine Ev.go ?_; conv => whnf) | refine And.intro ?_ ?_ | exact True.intro | exact rfl | (intro rx hrx; rw [ij _ (by omega)] at hrx) | (intro hcx; exfalso; omega) | (intro hcx; exfalso; simp only [lz] at hcx; omega) | intro _)); rw [SV.bool_iff]; simp_all [List.all_eq_not_any_not])
set_option maxRecDepth 100000 in
theorem c130 (s : Soc) (l : List Int) (hlen : l.length ≤ 1000000) (h : s.members.length ≤ 1000000) : PF Tryz.prog 130 [encSoc s, .sl 1 (ints l)] (· = .bool (s.listed l)) := by
  have hz := ints_len l
  rw [listed_incr]
  refine PF.of (TF.ev fn_130 (Ev.at ?_))
  (repeat' (first | (refine Ev.go ?_; conv => whnf) | refine And.intro ?_ ?_ | exact True.intro | exact rfl | (intro rx hrx; rw [ij _ (by omega)] at hrx) | (intro hcx; exfalso; omega) | (intro hcx; exfalso; simp only [lz] at hcx; omega) | (intro ex hex; (first | obtain ⟨xx, hxx, rfl⟩ := ints_at hex | obtain ⟨xx, hxx, rfl⟩ := encYs_at hex | obtain ⟨xx, hxx, rfl⟩ := encRs_at hex); clear hex; try simp only [Int.toNat_natCast] at hxx) | intro _))
  refine TSq.pureBC (c191 s l hlen h) cl rfl (And.intro rfl rfl) ?_ ?_
  · intro hall
    (repeat' (first | (refine Ev.go ?_; conv => whnf) | refine And.intro ?_ ?_ | exact True.intro | exact rfl | (intro rx hrx; rw [ij _ (by omega)] at hrx) | (intro hcx; exfalso; omega) | (intro hcx; exfalso; simp only [lz] at hcx; omega) | (intro ex hex; (first | obtain ⟨xx, hxx, rfl⟩ := ints_at hex | obtain ⟨xx, hxx, rfl⟩ := encYs_at hex | obtain ⟨xx, hxx, rfl⟩ := encRs_at hex); clear hex; try simp only [Int.toNat_natCast] at hxx) | intro _))
    refine TSq.callT rfl rfl (calleeK_const (And.intro rfl rfl) (TF.ev fn_191 (Ev.at ?_)))
    (repeat' (first | (refine Ev.go ?_; conv => whnf) | refine And.intro ?_ ?_ | exact True.intro | exact rfl | (intro rx hrx; rw [ij _ (by omega)] at hrx) | (intro hcx; exfalso; omega) | (intro hcx; exfalso; simp only [lz] at hcx; omega) | (intro ex hex; (first | obtain ⟨xx, hxx, rfl⟩ := ints_at hex | obtain ⟨xx, hxx, rfl⟩ := encYs_at hex | obtain ⟨xx, hxx, rfl⟩ := encRs_at hex); clear hex; try simp only [Int.toNat_natCast] at hxx) | intro _))
    refine TSq.callT rfl rfl (calleeK_const (And.intro rfl rfl) (TF.ev fn_237 (Ev.at ?_)))
    (repeat' (first | (refine Ev.go ?_; conv => whnf) | refine And.intro ?_ ?_ | exact True.intro | exact rfl | (intro rx hrx; rw [ij _ (by omega)] at hrx) | (intro hcx; exfalso; omega) | (intro hcx; exfalso; simp only [lz] at hcx; omega) | (intro ex hex; (first | obtain ⟨xx, hxx, rfl⟩ := ints_at hex | obtain ⟨xx, hxx, rfl⟩ := encYs_at hex | obtain ⟨xx, hxx, rfl⟩ := encRs_at hex); clear hex; try simp only [Int.toNat_natCast] at hxx) | intro _))
    refine TSq.callT rfl rfl (calleeK_const (And.intro rfl rfl) (TF.ev fn_260 (Ev.at ?_)))
    (repeat' (first | (refine Ev.go ?_; conv => whnf) | refine And.intro ?_ ?_ | exact True.intro | exact rfl | (intro rx hrx; rw [ij _ (by omega)] at hrx) | (intro hcx; exfalso; omega) | (intro hcx; exfalso; simp only [lz] at hcx; omega) | (intro ex hex; (first | obtain ⟨xx, hxx, rfl⟩ := ints_at hex | obtain ⟨xx, hxx, rfl⟩ := encYs_at hex | obtain ⟨xx, hxx, rfl⟩ := encRs_at hex); clear hex; try simp only [Int.toNat_natCast] at hxx) | intro _))
    refine TWq.loop (fun k : Nat => [(8, .int .i64 k)]) (fun k => [(1, .cells [.int .i64 (lastO (-1) (l.take k))])]) (fun k => k ≤ l.length ∧ incr (-1) (l.take k) = true) (fun k => l.length - k) 0 [] [] ?_ ⟨by omega, by simp [incr]⟩ ?_
    · (repeat' (first | (refine Ev.go ?_; conv => whnf) | refine And.intro ?_ ?_ | exact True.intro | exact rfl | (intro rx hrx; rw [ij _ (by omega)] at hrx) | (intro hcx; exfalso; omega) | (intro hcx; exfalso; simp only [lz] at hcx; omega) | (intro ex hex; (first | obtain ⟨xx, hxx, rfl⟩ := ints_at hex | obtain ⟨xx, hxx, rfl⟩ := encYs_at hex | obtain ⟨xx, hxx, rfl⟩ := encRs_at hex); clear hex; try simp only [Int.toNat_natCast] at hxx) | intro _))
      all_goals (first | (refine ⟨?_⟩; exact vc) | exact cl | skip)
    · rintro k ⟨hk1, hk2⟩
      (repeat' (first | (refine Ev.go ?_; conv => whnf) | refine And.intro ?_ ?_ | exact True.intro | exact rfl | (intro rx hrx; rw [ij _ (by omega)] at hrx) | (intro hcx; exfalso; omega) | (intro hcx; exfalso; simp only [lz] at hcx; omega) | (intro ex hex; (first | obtain ⟨xx, hxx, rfl⟩ := ints_at hex | obtain ⟨xx, hxx, rfl⟩ := encYs_at hex | obtain ⟨xx, hxx, rfl⟩ := encRs_at hex); clear hex; try simp only [Int.toNat_natCast] at hxx) | intro _))
      all_goals (try (refine ⟨?_⟩; first | omega | exact List.cons_ne_nil _ _ | (show (_ : Nat) * _ ≤ _; simp [catS, repl, chunks, ints_len, encYs_len] <;> omega)))
      · refine TSq.callT rfl rfl (calleeK_const (And.intro rfl rfl) (TF.ev fn_238 (Ev.at ?_)))
        (repeat' (first | (refine Ev.go ?_; conv => whnf) | refine And.intro ?_ ?_ | exact True.intro | exact rfl | (intro rx hrx; rw [ij _ (by omega)] at hrx) | (intro hcx; exfalso; omega) | (intro hcx; exfalso; simp only [lz] at hcx; omega) | (intro ex hex; (first | obtain ⟨xx, hxx, rfl⟩ := ints_at hex | obtain ⟨xx, hxx, rfl⟩ := encYs_at hex | obtain ⟨xx, hxx, rfl⟩ := encRs_at hex); clear hex; try simp only [Int.toNat_natCast] at hxx) | intro _))
        refine TSq.callT rfl rfl (calleeK_const (And.intro rfl rfl) (TF.ev fn_192 (Ev.at ?_)))
        (repeat' (first | (refine Ev.go ?_; conv => whnf) | refine And.intro ?_ ?_ | exact True.intro | exact rfl | (intro rx hrx; rw [ij _ (by omega)] at hrx) | (intro hcx; exfalso; omega) | (intro hcx; exfalso; simp only [lz] at hcx; omega) | (intro ex hex; (first | obtain ⟨xx, hxx, rfl⟩ := ints_at hex | obtain ⟨xx, hxx, rfl⟩ := encYs_at hex | obtain ⟨xx, hxx, rfl⟩ := encRs_at hex); clear hex; try simp only [Int.toNat_natCast] at hxx) | intro _))
        · all_goals (try (refine ⟨?_⟩; first | omega | exact List.cons_ne_nil _ _ | (show (_ : Nat) * _ ≤ _; simp [catS, repl, chunks, ints_len, encYs_len] <;> omega)))
          refine ⟨k + 1, ⟨by omega, ?_⟩, by omega, ?_⟩
          · rw [take_snoc hxx, incr_append]; simp_all [incr]
          · (repeat' (first | (refine Ev.go ?_; conv => whnf) | refine And.intro ?_ ?_ | exact True.intro | exact rfl | (intro rx hrx; rw [ij _ (by omega)] at hrx) | (intro hcx; exfalso; omega) | (intro hcx; exfalso; simp only [lz] at hcx; omega) | (intro ex hex; (first | obtain ⟨xx, hxx, rfl⟩ := ints_at hex | obtain ⟨xx, hxx, rfl⟩ := encYs_at hex | obtain ⟨xx, hxx, rfl⟩ := encRs_at hex); clear hex; try simp only [Int.toNat_natCast] at hxx) | intro _))
            all_goals (first | (refine ⟨?_⟩; exact vc) | exact cl | skip)
            all_goals (refine ⟨?_⟩; rw [take_snoc hxx, lastO_append])
        · have hU : incr (-1) l = false := incr_false hxx (by omega)
          (repeat' (first | (refine Ev.go ?_; conv => whnf) | refine And.intro ?_ ?_ | exact True.intro | exact rfl | (intro rx hrx; rw [ij _ (by omega)] at hrx) | (intro hcx; exfalso; omega) | (intro hcx; exfalso; simp only [lz] at hcx; omega) | (intro ex hex; (first | obtain ⟨xx, hxx, rfl⟩ := ints_at hex | obtain ⟨xx, hxx, rfl⟩ := encYs_at hex | obtain ⟨xx, hxx, rfl⟩ := encRs_at hex); clear hex; try simp only [Int.toNat_natCast] at hxx) | intro _))
          all_goals (rw [SV.bool_iff]; simp only [hU]; simp)
      all_goals
        have : k = l.length := by omega
        subst this
        rw [List.take_length] at hk2
        rw [SV.bool_iff]; simp [hall, hk2]
  · intro hall
    (repeat' (first | (refine Ev.go ?_; conv => whnf) | refine And.intro ?_ ?_ | exact True.intro | exact rfl | (intro rx hrx; rw [ij _ (by omega)] at hrx) | (intro hcx; exfalso; omega) | (intro hcx; exfalso; simp only [lz] at hcx; omega) | (intro ex hex; (first | obtain ⟨xx, hxx, rfl⟩ := ints_at hex | obtain ⟨xx, hxx, rfl⟩ := encYs_at hex | obtain ⟨xx, hxx, rfl⟩ := encRs_at hex); clear hex; try simp only [Int.toNat_natCast] at hxx) | intro _))
    rw [SV.bool_iff]; simp [hall]
theorem c130n (s : Soc) (h : s.members.length ≤ 1000000) : PF Tryz.prog 130 [encSoc s, .nils] (· = .bool true) := by
  refine PF.of (TF.ev fn_130 (Ev.at ?_))
  (repeat' (first | (refine Ev.go ?_; conv => whnf) | refine And.intro ?_ ?_ | exact True.intro | exact rfl | (intro rx hrx; rw [ij _ (by omega)] at hrx) | (intro hcx; exfalso; omega) | (intro hcx; exfalso; simp only [lz] at hcx; omega) | intro _))
  refine TSq.callT rfl rfl (calleeK_const (And.intro rfl rfl) (TF.ev fn_191 (Ev.at ?_)))
  (repeat' (first | (refine Ev.go ?_; conv => whnf) | refine And.intro ?_ ?_ | exact True.intro | exact rfl | (intro rx hrx; rw [ij _ (by omega)] at hrx) | (intro hcx; exfalso; omega) | (intro hcx; exfalso; simp only [lz] at hcx; omega) | intro _))
  refine TSq.callT rfl rfl (calleeK_const (And.intro rfl rfl) (TF.ev fn_237 (Ev.at ?_)))
  (repeat' (first | (refine Ev.go ?_; conv => whnf) | refine And.intro ?_ ?_ | exact True.intro | exact rfl | (intro rx hrx; rw [ij _ (by omega)] at hrx) | (intro hcx; exfalso; omega) | (intro hcx; exfalso; simp only [lz] at hcx; omega) | intro _))
  refine TSq.callT rfl rfl (calleeK_const (And.intro rfl rfl) (TF.ev fn_260 (Ev.at ?_)))
  (repeat' (first | (refine Ev.go ?_; conv => whnf) | refine And.intro ?_ ?_ | exact True.intro | exact rfl | (intro rx hrx; rw [ij _ (by omega)] at hrx) | (intro hcx; exfalso; omega) | (intro hcx; exfalso; simp only [lz] at hcx; omega) | intro _))
  refine TWq.loop (fun k : Nat => [(8, .int .i64 0)]) (fun _ => []) (fun _ => True) (fun k => k) 0 [] [] ?_ True.intro ?_
  · (repeat' (first | (refine Ev.go ?_; conv => whnf) | refine And.intro ?_ ?_ | exact True.intro | exact rfl | (intro rx hrx; rw [ij _ (by omega)] at hrx) | (intro hcx; exfalso; omega) | (intro hcx; exfalso; simp only [lz] at hcx; omega) | intro _))
    all_goals (first | (refine ⟨?_⟩; exact vc) | exact cl | skip)
  rintro k _
  (repeat' (first | (refine Ev.go ?_; conv => whnf) | refine And.intro ?_ ?_ | exact True.intro | exact rfl | (intro rx hrx; rw [ij _ (by omega)] at hrx) | (intro hcx; exfalso; omega) | (intro hcx; exfalso; simp only [lz] at hcx; omega) | intro _))
  refine TSq.callT rfl rfl (calleeK_const (And.intro rfl rfl) (TF.ev fn_191 (Ev.at ?_)))
  (repeat' (first | (refine Ev.go ?_; conv => whnf) | refine And.intro ?_ ?_ | exact True.intro | exact rfl | (intro rx hrx; rw [ij _ (by omega)] at hrx) | (intro hcx; exfalso; omega) | (intro hcx; exfalso; simp only [lz] at hcx; omega) | intro _))
  refine TSq.callT rfl rfl (calleeK_const (And.intro rfl rfl) (TF.ev fn_237 (Ev.at ?_)))
  (repeat' (first | (refine Ev.go ?_; conv => whnf) | refine And.intro ?_ ?_ | exact True.intro | exact rfl | (intro rx hrx; rw [ij _ (by omega)] at hrx) | (intro hcx; exfalso; omega) | (intro hcx; exfalso; simp only [lz] at hcx; omega) | intro _))
  refine TSq.callT rfl rfl (calleeK_const (And.intro rfl rfl) (TF.ev fn_260 (Ev.at ?_)))
  (repeat' (first | (refine Ev.go ?_; conv => whnf) | refine And.intro ?_ ?_ | exact True.intro | exact rfl | (intro rx hrx; rw [ij _ (by omega)] at hrx) | (intro hcx; exfalso; omega) | (intro hcx; exfalso; simp only [lz] at hcx; omega) | intro _))
  refine TWq.loop (fun k : Nat => [(8, .int .i64 0)]) (fun _ => []) (fun _ => True) (fun k => k) 0 [] [] ?_ True.intro ?_
  · (repeat' (first | (refine Ev.go ?_; conv => whnf) | refine And.intro ?_ ?_ | exact True.intro | exact rfl | (intro rx hrx; rw [ij _ (by omega)] at hrx) | (intro hcx; exfalso; omega) | (intro hcx; exfalso; simp only [lz] at hcx; omega) | intro _))
    all_goals (first | (refine ⟨?_⟩; exact vc) | exact cl | skip)
  rintro k _
  (repeat' (first | (refine Ev.go ?_; conv => whnf) | refine And.intro ?_ ?_ | exact True.intro | exact rfl | (intro rx hrx; rw [ij _ (by omega)] at hrx) | (intro hcx; exfalso; omega) | (intro hcx; exfalso; simp only [lz] at hcx; omega) | intro _))
end Go.Proofs.YtjadiajfbflghaaGreat
set_option linter.unusedSimpArgs false
set_option linter.unusedVariables false
open Go Go.TV
namespace Go.Proofs.YtjadiajfbflghaaGreat
theorem stepB_ge : ∀ {bs : List Rng} {k : Nat} {l : List Int}, k ≤ bs.length → k + l.length ≤ (stepB bs k l).length ∧ bs.length ≤ (stepB bs k l).length
  | bs, k, [], h => by simp [stepB]; omega
  | bs, k, n :: l, h => by
    have h1 := putB_len (n := n) h
    have h2 := stepB_ge (bs := putB bs k n) (k := k + 1) (l := l) h1.1
    simp only [stepB, List.length_cons]; omega
theorem stepB_snoc : ∀ {bs : List Rng} {k : Nat} {l : List Int} {n : Int}, stepB bs k (l ++ [n]) = putB (stepB bs k l) (k + l.length) n
  | bs, k, [], n => by simp [stepB]
  | bs, k, a :: l, n => by
    simp only [List.cons_append, stepB, stepB_snoc (l := l), List.length_cons]
    rw [show k + 1 + l.length = k + (l.length + 1) by omega]
theorem stepB_next {x : List Rng} {L : List Int} {k : Nat} {v : Int} (h : L[k]? = some v) : stepB x 0 (L.take (k + 1)) = putB (stepB x 0 (L.take k)) k v := by
  have := (List.getElem?_eq_some_iff.1 h).1
  rw [take_snoc h, stepB_snoc, List.length_take]; congr 1; omega
def newB (v : Int) : List SV := chunks 2 1 (SV.int .i64 v :: SV.int .i64 v :: catS [] (repl 0 [SV.int .i64 0, SV.int .i64 0]))
theorem newB_eq (v : Int) : newB v = encRs [⟨v, v⟩] := rfl
theorem putB_at {y : List Rng} {k : Nat} {v : Int} {r : Rng} (h : y[k]? = some r) : putB y k v = y.set k ⟨min r.lo v, max r.hi v⟩ := by simp only [putB, h]
theorem putB_end {y : List Rng} {k : Nat} {v : Int} (h : k = y.length) : putB y k v = y ++ [⟨v, v⟩] := by subst h; exact putB_app
theorem set_old {y y' : List Rng} {k : Nat} {v a c : Int} {r : Rng} (h : y[k]? = some r) (hp : putB y k v = y') (ha : a = min r.lo v) (hc : c = max r.hi v) : (encRs y).set (k : Int).toNat (.agg [.int .i64 a, .int .i64 c]) = encRs y' := by
  rw [← hp, putB_at h, ha, hc, encRs, encRs, List.map_set]; rfl
theorem set_new {y y' : List Rng} {k : Nat} {v a c : Int} (h : k = y.length) (hp : putB y k v = y') (ha : a = v) (hc : c = v) : (encRs y ++ newB v).set (k : Int).toNat (.agg [.int .i64 a, .int .i64 c]) = encRs y' := by
  have e : encRs y ++ newB v = encRs (y ++ [⟨v, v⟩]) := by simp [newB_eq, encRs]
  rw [e, ← hp, putB_end h, ha, hc, Int.toNat_natCast]
  refine List.ext_getElem? fun i => ?_
  rw [List.getElem?_set]
  split
  · rename_i hi
    subst hi
    subst h
    simp [encRs, encR]
  · rfl
theorem putB_cons {b : Rng} {m : List Rng} {k : Nat} {v : Int} : ∃ b' m', putB (b :: m) k v = b' :: m' := by
  have := putB_len (bs := b :: m) (k := 0) (n := v) (by simp)
  unfold putB
  split
  · exact ⟨_, _, rfl⟩
  · cases k <;> exact ⟨_, _, rfl⟩
def bndL (y : List Rng) : List (Nat × LB) := match y with
  | [] => [(3, .cells [.nils])]
  | a :: l => [(3, .cells [.own 5]), (5, .arr 65 2 (encRs (a :: l)))]
set_option maxHeartbeats 4000000 in
set_option maxRecDepth 100000 in
theorem c132 (s : Soc) (out : List Int) (o : SV) (g : FuncId) (F : Int → List Int) (N : Rng) (ho : LN out o) (hg : g = 9999 ∨ g = 131) (d59 : PF Tryz.prog 193 [encSoc s] (· = encR N)) (hN : 0 ≤ N.lo ∧ N.lo ≤ N.hi ∧ N.hi ≤ 10000000)
    (hF : ∀ n, N.lo ≤ n → n ≤ N.hi → PF Tryz.prog g [encSoc s, o, .int .i64 n] (· = .sl 1 (ints (F n)))) (hlen : ∀ n, N.lo ≤ n → n ≤ N.hi → (F n).length ≤ 5) (hne : foldB F (every N) ≠ []) :
    PF Tryz.prog 132 [.agg [.fn g [] []], encSoc s, o] (· = .sl 2 (encRs (foldB F (every N)))) := by
  have hev : ∀ n ∈ every N, N.lo ≤ n ∧ n ≤ N.hi := by
    intro n hn
    exact every_mem.1 hn
  have hoc := ho.clo
  rcases ho with rfl | ⟨rfl, rfl⟩ <;> rcases hg with rfl | rfl
  all_goals
    refine PF.of (TF.ev fn_132 (Ev.at ?_))
    (repeat' (first | (intro ex hex; (first | have hq := hg1 (by omega) hex | have hq := hg2 (by omega) hex); subst hq; clear hex) | (refine Ev.go ?_; conv => whnf) | refine And.intro ?_ ?_ | exact True.intro | exact rfl | (intro rx hrx; rw [ij _ (by omega)] at hrx) | (intro hcx; exfalso; omega) | intro _))
    all_goals (first | (refine ⟨?_⟩; exact vc) | exact cl | skip)
    refine TSq.pureC d59 cl rfl (And.intro rfl rfl) ?_
    (repeat' (first | (intro ex hex; (first | have hq := hg1 (by omega) hex | have hq := hg2 (by omega) hex); subst hq; clear hex) | (refine Ev.go ?_; conv => whnf) | refine And.intro ?_ ?_ | exact True.intro | exact rfl | (intro rx hrx; rw [ij _ (by omega)] at hrx) | (intro hcx; exfalso; omega) | intro _))
    refine TSq.pureC (c194 N) cl rfl (And.intro rfl rfl) ?_
    (repeat' (first | (intro ex hex; (first | have hq := hg1 (by omega) hex | have hq := hg2 (by omega) hex); subst hq; clear hex) | (refine Ev.go ?_; conv => whnf) | refine And.intro ?_ ?_ | exact True.intro | exact rfl | (intro rx hrx; rw [ij _ (by omega)] at hrx) | (intro hcx; exfalso; omega) | intro _))
    refine TWq.rng (α := List Rng) (β := Empty) true (every N) (fun n => [.int .i64 n]) (fun _ y => bndL y) (fun i y => y = foldB F ((every N).take i) ∧ y.length ≤ 5) [] (fun e => e.elim) (fun e => e.elim) (fun _ => False) [] [] [] rfl (it95 N hN.1 hN.2.1 hN.2.2) cl cl (fun _ => rfl) ⟨by simp [foldB], by simp⟩ ?_ ?_ ?_ ?_ ?_ ?_
    · (repeat' (first | (intro ex hex; (first | have hq := hg1 (by omega) hex | have hq := hg2 (by omega) hex); subst hq; clear hex) | (refine Ev.go ?_; conv => whnf) | refine And.intro ?_ ?_ | exact True.intro | exact rfl | (intro rx hrx; rw [ij _ (by omega)] at hrx) | (intro hcx; exfalso; omega) | intro _))
      all_goals (first | (refine ⟨?_⟩; exact vc) | exact cl | skip)
    · (repeat' (first | (intro ex hex; (first | have hq := hg1 (by omega) hex | have hq := hg2 (by omega) hex); subst hq; clear hex) | (refine Ev.go ?_; conv => whnf) | refine And.intro ?_ ?_ | exact True.intro | exact rfl | (intro rx hrx; rw [ij _ (by omega)] at hrx) | (intro hcx; exfalso; omega) | intro _))
      all_goals (first | (refine ⟨?_⟩; exact vc) | exact cl | skip)
    · intro i y _
      rcases y with _ | ⟨a, l⟩
      all_goals (repeat' (first | (intro ex hex; (first | have hq := hg1 (by omega) hex | have hq := hg2 (by omega) hex); subst hq; clear hex) | (refine Ev.go ?_; conv => whnf) | refine And.intro ?_ ?_ | exact True.intro | exact rfl | (intro rx hrx; rw [ij _ (by omega)] at hrx) | (intro hcx; exfalso; omega) | intro _))
    · rintro i n x hn ⟨hx, hxl⟩
      have hnr := hev n (List.mem_of_getElem? hn)
      have dF := hF n hnr.1 hnr.2
      have hL := hlen n hnr.1 hnr.2
      have hz := ints_len (F n)
      have hnext : foldB F ((every N).take (i + 1)) = stepB x 0 (F n) := by
        rw [take_snoc hn]; simp only [foldB, List.foldl_append, List.foldl_cons, List.foldl_nil]; rw [hx]; rfl
      have hsl := stepB_len (bs := x) (k := 0) (l := F n) (by omega)
      generalize F n = L at *
      have hX : x.length ≤ 5 := hxl
      clear hev hn hx d59 hF hlen
      rcases x with _ | ⟨a, l⟩
      · (repeat' (first | (intro ex hex; (first | have hq := hg1 (by omega) hex | have hq := hg2 (by omega) hex); subst hq; clear hex) | (refine Ev.go ?_; conv => whnf) | refine And.intro ?_ ?_ | exact True.intro | exact rfl | (intro rx hrx; rw [ij _ (by omega)] at hrx) | (intro hcx; exfalso; omega) | intro _))
        refine TSq.pureC dF (by simp [cloL, clo, encSoc, encYs_clo, encRs_clo, ints_clo]) rfl (And.intro rfl rfl) ?_
        (repeat' (first | (intro ex hex; (first | have hq := hg1 (by omega) hex | have hq := hg2 (by omega) hex); subst hq; clear hex) | (refine Ev.go ?_; conv => whnf) | refine And.intro ?_ ?_ | exact True.intro | exact rfl | (intro rx hrx; rw [ij _ (by omega)] at hrx) | (intro hcx; exfalso; omega) | intro _))
        refine TWq.loopP (fun p : Nat × List Rng => [(21, .int .i64 p.1)]) (fun p => match p.2 with
            | [] => [(3, .cells [.nils])]
            | a :: l => [(3, .cells [.own 5]), (5, .arr 65 2 (encRs (a :: l)))]) (fun p => p.1 ≤ L.length ∧ p.2 = stepB [] 0 (L.take p.1)) (fun p => L.length - p.1) (0, []) [] ?_ ⟨by omega, rfl⟩ ?_
        · (repeat' (first | (intro ex hex; (first | have hq := hg1 (by omega) hex | have hq := hg2 (by omega) hex); subst hq; clear hex) | (refine Ev.go ?_; conv => whnf) | refine And.intro ?_ ?_ | exact True.intro | exact rfl | (intro rx hrx; rw [ij _ (by omega)] at hrx) | (intro hcx; exfalso; omega) | intro _))
          all_goals (first | (refine ⟨?_⟩; exact vc) | exact cl | skip)
        · rintro ⟨k, y⟩ ⟨hk, hy⟩
          dsimp only at hk hy ⊢
          have hge := stepB_ge (bs := []) (k := 0) (l := L.take k) (by simp)
          have hle := stepB_len (bs := []) (k := 0) (l := L.take k) (by simp)
          rw [← hy, List.length_take, Nat.min_eq_left hk] at hge
          rw [← hy, List.length_take, Nat.min_eq_left hk] at hle
          rcases Nat.lt_or_ge k L.length with hkl | hkl
          · obtain ⟨v, hv⟩ : ∃ v, L[k]? = some v := ⟨_, List.getElem?_eq_getElem hkl⟩
            have hst := stepB_next (x := []) hv
            rw [← hy] at hst
            have hg1 : ∀ {n : Nat} {e : SV}, n = k → (ints L)[n]? = some e → e = .int .i64 v := by
              rintro n e rfl he
              obtain ⟨x, hx, rfl⟩ := ints_at he
              rw [hv] at hx; cases hx; rfl
            rcases y with _ | ⟨b, m⟩
            · simp only [List.length_nil] at hge hle
              have hk0 : k = 0 := by omega
              have hput : putB [] k v = [⟨v, v⟩] := by subst hk0; rfl
              have hg2 : ∀ {n : Nat} {e : SV}, n = k → (chunks 2 1 (SV.int .i64 v :: SV.int .i64 v :: catS [] (repl 0 [SV.int .i64 0, SV.int .i64 0])))[n]? = some e → e = .agg [.int .i64 v, .int .i64 v] := by
                rintro n e rfl he
                subst hk0
                exact (Option.some.inj he).symm
              have hc1 : (chunks 2 1 (SV.int .i64 v :: SV.int .i64 v :: catS [] (repl 0 [SV.int .i64 0, SV.int .i64 0]))).length = 1 := rfl
              (repeat' (first | (intro ex hex; (first | have hq := hg1 (by omega) hex | have hq := hg2 (by omega) hex); subst hq; clear hex) | (refine Ev.go ?_; conv => whnf) | refine And.intro ?_ ?_ | exact True.intro | exact rfl | (intro rx hrx; rw [ij _ (by omega)] at hrx) | (intro hcx; exfalso; omega) | intro _))
              all_goals (first | (refine ⟨?_⟩; exact vc) | exact cl | skip)
              all_goals (try (exfalso; omega))
              all_goals (try (refine ⟨?_⟩; rw [hc1]; omega))
              have d81 := c195 [v, v] (by simp) (by simp)
              refine TDq.lendC d81 (by simp [scal, ints]) rfl (And.intro rfl ?_)
              (repeat' (first | (intro ex hex; (first | have hq := hg1 (by omega) hex | have hq := hg2 (by omega) hex); subst hq; clear hex) | (refine Ev.go ?_; conv => whnf) | refine And.intro ?_ ?_ | exact True.intro | exact rfl | (intro rx hrx; rw [ij _ (by omega)] at hrx) | (intro hcx; exfalso; omega) | intro _))
              all_goals (first | (refine ⟨?_⟩; exact vk) | exact cl | skip)
              all_goals (try (refine ⟨?_⟩; rw [hc1]; omega))
              refine ⟨⟨[(5, 6)], (k + 1, [⟨v, v⟩]), ⟨by omega, by rw [hst, hput]⟩, by dsimp only; omega, ?_⟩⟩
              (repeat' (first | (intro ex hex; (first | have hq := hg1 (by omega) hex | have hq := hg2 (by omega) hex); subst hq; clear hex) | (refine Ev.go ?_; conv => whnf) | refine And.intro ?_ ?_ | exact True.intro | exact rfl | (intro rx hrx; rw [ij _ (by omega)] at hrx) | (intro hcx; exfalso; omega) | intro _))
              all_goals (first | (refine ⟨?_⟩; exact vc) | exact cl | skip)
              all_goals (try exact ⟨set_new (y := []) (by simp; omega) hput (by simp [minL]) (by omega)⟩)
            · simp only [List.length_cons] at hge hle
              have hzb := encRs_len (b :: m)
              simp only [List.length_cons] at hzb
              obtain ⟨b', m', hbm⟩ := putB_cons (b := b) (m := m) (k := k) (v := v)
              rcases Nat.lt_or_ge k (m.length + 1) with hkm | hkm
              · obtain ⟨r, hr⟩ : ∃ r, (b :: m)[k]? = some r := ⟨_, List.getElem?_eq_getElem (by simpa using hkm)⟩
                have hg2 : ∀ {n : Nat} {e : SV}, n = k → (encRs (b :: m))[n]? = some e → e = encR r := by
                  rintro n e rfl he
                  obtain ⟨x, hx, rfl⟩ := encRs_at he
                  rw [hr] at hx; cases hx; rfl
                (repeat' (first | (intro ex hex; (first | have hq := hg1 (by omega) hex | have hq := hg2 (by omega) hex); subst hq; clear hex) | (refine Ev.go ?_; conv => whnf) | refine And.intro ?_ ?_ | exact True.intro | exact rfl | (intro rx hrx; rw [ij _ (by omega)] at hrx) | (intro hcx; exfalso; omega) | intro _))
                all_goals (first | (refine ⟨?_⟩; exact vc) | exact cl | skip)
                have d81 := c195 [r.lo, v] (by simp) (by simp)
                refine TDq.lendC d81 (by simp [scal, ints]) rfl (And.intro rfl ?_)
                (repeat' (first | (intro ex hex; (first | have hq := hg1 (by omega) hex | have hq := hg2 (by omega) hex); subst hq; clear hex) | (refine Ev.go ?_; conv => whnf) | refine And.intro ?_ ?_ | exact True.intro | exact rfl | (intro rx hrx; rw [ij _ (by omega)] at hrx) | (intro hcx; exfalso; omega) | intro _))
                all_goals (first | (refine ⟨?_⟩; exact vk) | exact cl | skip)
                refine ⟨⟨[], (k + 1, b' :: m'), ⟨by omega, by rw [hst, hbm]⟩, by dsimp only; omega, ?_⟩⟩
                (repeat' (first | (intro ex hex; (first | have hq := hg1 (by omega) hex | have hq := hg2 (by omega) hex); subst hq; clear hex) | (refine Ev.go ?_; conv => whnf) | refine And.intro ?_ ?_ | exact True.intro | exact rfl | (intro rx hrx; rw [ij _ (by omega)] at hrx) | (intro hcx; exfalso; omega) | intro _))
                all_goals (first | (refine ⟨?_⟩; exact vc) | exact cl | skip)
                all_goals (try exact ⟨set_old hr hbm (by simp [minL]) (by omega)⟩)
              · have hke : k = (b :: m).length := by simp only [List.length_cons]; omega
                have hg2 : ∀ {n : Nat} {e : SV}, n = k → (encRs (b :: m) ++ chunks 2 1 (SV.int .i64 v :: SV.int .i64 v :: catS [] (repl 0 [SV.int .i64 0, SV.int .i64 0])))[n]? = some e → e = .agg [.int .i64 v, .int .i64 v] := by
                  rintro n e rfl he
                  rw [List.getElem?_append_right (by rw [encRs_len]; omega)] at he
                  rw [encRs_len, hke, Nat.sub_self] at he
                  exact (Option.some.inj he).symm
                have hc1 : (encRs (b :: m) ++ chunks 2 1 (SV.int .i64 v :: SV.int .i64 v :: catS [] (repl 0 [SV.int .i64 0, SV.int .i64 0]))).length = m.length + 2 := by
                  rw [List.length_append, encRs_len]; rfl
                (repeat' (first | (intro ex hex; (first | have hq := hg1 (by omega) hex | have hq := hg2 (by omega) hex); subst hq; clear hex) | (refine Ev.go ?_; conv => whnf) | refine And.intro ?_ ?_ | exact True.intro | exact rfl | (intro rx hrx; rw [ij _ (by omega)] at hrx) | (intro hcx; exfalso; omega) | intro _))
                all_goals (first | (refine ⟨?_⟩; exact vc) | exact cl | skip)
                all_goals (try (refine ⟨?_⟩; rw [hc1]; omega))
                have d81 := c195 [v, v] (by simp) (by simp)
                refine TDq.lendC d81 (by simp [scal, ints]) rfl (And.intro rfl ?_)
                (repeat' (first | (intro ex hex; (first | have hq := hg1 (by omega) hex | have hq := hg2 (by omega) hex); subst hq; clear hex) | (refine Ev.go ?_; conv => whnf) | refine And.intro ?_ ?_ | exact True.intro | exact rfl | (intro rx hrx; rw [ij _ (by omega)] at hrx) | (intro hcx; exfalso; omega) | intro _))
                all_goals (first | (refine ⟨?_⟩; exact vk) | exact cl | skip)
                all_goals (try (refine ⟨?_⟩; rw [hc1]; omega))
                refine ⟨⟨[(5, 7)], (k + 1, b' :: m'), ⟨by omega, by rw [hst, hbm]⟩, by dsimp only; omega, ?_⟩⟩
                (repeat' (first | (intro ex hex; (first | have hq := hg1 (by omega) hex | have hq := hg2 (by omega) hex); subst hq; clear hex) | (refine Ev.go ?_; conv => whnf) | refine And.intro ?_ ?_ | exact True.intro | exact rfl | (intro rx hrx; rw [ij _ (by omega)] at hrx) | (intro hcx; exfalso; omega) | intro _))
                all_goals (first | (refine ⟨?_⟩; exact vc) | exact cl | skip)
                all_goals (try exact ⟨set_new hke hbm (by simp [minL]) (by omega)⟩)
          · have hke : k = L.length := by omega
            have hyl : y = stepB [] 0 L := by rw [hy, hke, List.take_length]
            have hy5 : y.length ≤ 5 := by rw [hyl]; have := hsl; simp only [List.length_nil, List.length_cons] at this hX; omega
            rcases y with _ | ⟨b, m⟩
            all_goals
              (repeat' (first | (intro ex hex; (first | have hq := hg1 (by omega) hex | have hq := hg2 (by omega) hex); subst hq; clear hex) | (refine Ev.go ?_; conv => whnf) | refine And.intro ?_ ?_ | exact True.intro | exact rfl | (intro rx hrx; rw [ij _ (by omega)] at hrx) | (intro hcx; exfalso; omega) | intro _))
              all_goals (first | (refine ⟨?_⟩; exact vc) | exact cl | skip)
              refine ⟨⟨_, ⟨hyl.trans hnext.symm, hy5⟩, ?_⟩⟩
              (repeat' (first | (intro ex hex; (first | have hq := hg1 (by omega) hex | have hq := hg2 (by omega) hex); subst hq; clear hex) | (refine Ev.go ?_; conv => whnf) | refine And.intro ?_ ?_ | exact True.intro | exact rfl | (intro rx hrx; rw [ij _ (by omega)] at hrx) | (intro hcx; exfalso; omega) | intro _))
              all_goals (first | (refine ⟨?_⟩; exact vc) | exact cl | skip)
      · (repeat' (first | (intro ex hex; (first | have hq := hg1 (by omega) hex | have hq := hg2 (by omega) hex); subst hq; clear hex) | (refine Ev.go ?_; conv => whnf) | refine And.intro ?_ ?_ | exact True.intro | exact rfl | (intro rx hrx; rw [ij _ (by omega)] at hrx) | (intro hcx; exfalso; omega) | intro _))
        refine TSq.pureC dF (by simp [cloL, clo, encSoc, encYs_clo, encRs_clo, ints_clo]) rfl (And.intro rfl rfl) ?_
        (repeat' (first | (intro ex hex; (first | have hq := hg1 (by omega) hex | have hq := hg2 (by omega) hex); subst hq; clear hex) | (refine Ev.go ?_; conv => whnf) | refine And.intro ?_ ?_ | exact True.intro | exact rfl | (intro rx hrx; rw [ij _ (by omega)] at hrx) | (intro hcx; exfalso; omega) | intro _))
        refine TWq.loopP (fun p : Nat × List Rng => [(21, .int .i64 p.1)]) (fun p => match p.2 with
            | [] => [(3, .cells [.nils])]
            | a :: l => [(3, .cells [.own 5]), (5, .arr 65 2 (encRs (a :: l)))]) (fun p => p.1 ≤ L.length ∧ p.2 = stepB (a :: l) 0 (L.take p.1)) (fun p => L.length - p.1) (0, a :: l) [] ?_ ⟨by omega, rfl⟩ ?_
        · (repeat' (first | (intro ex hex; (first | have hq := hg1 (by omega) hex | have hq := hg2 (by omega) hex); subst hq; clear hex) | (refine Ev.go ?_; conv => whnf) | refine And.intro ?_ ?_ | exact True.intro | exact rfl | (intro rx hrx; rw [ij _ (by omega)] at hrx) | (intro hcx; exfalso; omega) | intro _))
          all_goals (first | (refine ⟨?_⟩; exact vc) | exact cl | skip)
        · rintro ⟨k, y⟩ ⟨hk, hy⟩
          dsimp only at hk hy ⊢
          have hge := stepB_ge (bs := a :: l) (k := 0) (l := L.take k) (by simp)
          have hle := stepB_len (bs := a :: l) (k := 0) (l := L.take k) (by simp)
          rw [← hy, List.length_take, Nat.min_eq_left hk] at hge
          rw [← hy, List.length_take, Nat.min_eq_left hk] at hle
          rcases Nat.lt_or_ge k L.length with hkl | hkl
          · obtain ⟨v, hv⟩ : ∃ v, L[k]? = some v := ⟨_, List.getElem?_eq_getElem hkl⟩
            have hst := stepB_next (x := a :: l) hv
            rw [← hy] at hst
            have hg1 : ∀ {n : Nat} {e : SV}, n = k → (ints L)[n]? = some e → e = .int .i64 v := by
              rintro n e rfl he
              obtain ⟨x, hx, rfl⟩ := ints_at he
              rw [hv] at hx; cases hx; rfl
            rcases y with _ | ⟨b, m⟩
            · simp only [List.length_nil, List.length_cons] at hge
              omega
            · simp only [List.length_cons] at hge hle
              have hzb := encRs_len (b :: m)
              simp only [List.length_cons] at hzb
              obtain ⟨b', m', hbm⟩ := putB_cons (b := b) (m := m) (k := k) (v := v)
              rcases Nat.lt_or_ge k (m.length + 1) with hkm | hkm
              · obtain ⟨r, hr⟩ : ∃ r, (b :: m)[k]? = some r := ⟨_, List.getElem?_eq_getElem (by simpa using hkm)⟩
                have hg2 : ∀ {n : Nat} {e : SV}, n = k → (encRs (b :: m))[n]? = some e → e = encR r := by
                  rintro n e rfl he
                  obtain ⟨x, hx, rfl⟩ := encRs_at he
                  rw [hr] at hx; cases hx; rfl
                (repeat' (first | (intro ex hex; (first | have hq := hg1 (by omega) hex | have hq := hg2 (by omega) hex); subst hq; clear hex) | (refine Ev.go ?_; conv => whnf) | refine And.intro ?_ ?_ | exact True.intro | exact rfl | (intro rx hrx; rw [ij _ (by omega)] at hrx) | (intro hcx; exfalso; omega) | intro _))
                all_goals (first | (refine ⟨?_⟩; exact vc) | exact cl | skip)
                have d81 := c195 [r.lo, v] (by simp) (by simp)
                refine TDq.lendC d81 (by simp [scal, ints]) rfl (And.intro rfl ?_)
                (repeat' (first | (intro ex hex; (first | have hq := hg1 (by omega) hex | have hq := hg2 (by omega) hex); subst hq; clear hex) | (refine Ev.go ?_; conv => whnf) | refine And.intro ?_ ?_ | exact True.intro | exact rfl | (intro rx hrx; rw [ij _ (by omega)] at hrx) | (intro hcx; exfalso; omega) | intro _))
                all_goals (first | (refine ⟨?_⟩; exact vk) | exact cl | skip)
                refine ⟨⟨[], (k + 1, b' :: m'), ⟨by omega, by rw [hst, hbm]⟩, by dsimp only; omega, ?_⟩⟩
                (repeat' (first | (intro ex hex; (first | have hq := hg1 (by omega) hex | have hq := hg2 (by omega) hex); subst hq; clear hex) | (refine Ev.go ?_; conv => whnf) | refine And.intro ?_ ?_ | exact True.intro | exact rfl | (intro rx hrx; rw [ij _ (by omega)] at hrx) | (intro hcx; exfalso; omega) | intro _))
                all_goals (first | (refine ⟨?_⟩; exact vc) | exact cl | skip)
                all_goals (try exact ⟨set_old hr hbm (by simp [minL]) (by omega)⟩)
              · have hke : k = (b :: m).length := by simp only [List.length_cons]; omega
                have hg2 : ∀ {n : Nat} {e : SV}, n = k → (encRs (b :: m) ++ chunks 2 1 (SV.int .i64 v :: SV.int .i64 v :: catS [] (repl 0 [SV.int .i64 0, SV.int .i64 0])))[n]? = some e → e = .agg [.int .i64 v, .int .i64 v] := by
                  rintro n e rfl he
                  rw [List.getElem?_append_right (by rw [encRs_len]; omega)] at he
                  rw [encRs_len, hke, Nat.sub_self] at he
                  exact (Option.some.inj he).symm
                have hc1 : (encRs (b :: m) ++ chunks 2 1 (SV.int .i64 v :: SV.int .i64 v :: catS [] (repl 0 [SV.int .i64 0, SV.int .i64 0]))).length = m.length + 2 := by
                  rw [List.length_append, encRs_len]; rfl
                (repeat' (first | (intro ex hex; (first | have hq := hg1 (by omega) hex | have hq := hg2 (by omega) hex); subst hq; clear hex) | (refine Ev.go ?_; conv => whnf) | refine And.intro ?_ ?_ | exact True.intro | exact rfl | (intro rx hrx; rw [ij _ (by omega)] at hrx) | (intro hcx; exfalso; omega) | intro _))
                all_goals (first | (refine ⟨?_⟩; exact vc) | exact cl | skip)
                all_goals (try (refine ⟨?_⟩; rw [hc1]; omega))
                have d81 := c195 [v, v] (by simp) (by simp)
                refine TDq.lendC d81 (by simp [scal, ints]) rfl (And.intro rfl ?_)
                (repeat' (first | (intro ex hex; (first | have hq := hg1 (by omega) hex | have hq := hg2 (by omega) hex); subst hq; clear hex) | (refine Ev.go ?_; conv => whnf) | refine And.intro ?_ ?_ | exact True.intro | exact rfl | (intro rx hrx; rw [ij _ (by omega)] at hrx) | (intro hcx; exfalso; omega) | intro _))
                all_goals (first | (refine ⟨?_⟩; exact vk) | exact cl | skip)
                all_goals (try (refine ⟨?_⟩; rw [hc1]; omega))
                refine ⟨⟨[(5, 7)], (k + 1, b' :: m'), ⟨by omega, by rw [hst, hbm]⟩, by dsimp only; omega, ?_⟩⟩
                (repeat' (first | (intro ex hex; (first | have hq := hg1 (by omega) hex | have hq := hg2 (by omega) hex); subst hq; clear hex) | (refine Ev.go ?_; conv => whnf) | refine And.intro ?_ ?_ | exact True.intro | exact rfl | (intro rx hrx; rw [ij _ (by omega)] at hrx) | (intro hcx; exfalso; omega) | intro _))
                all_goals (first | (refine ⟨?_⟩; exact vc) | exact cl | skip)
                all_goals (try exact ⟨set_new hke hbm (by simp [minL]) (by omega)⟩)
          · have hke : k = L.length := by omega
            have hyl : y = stepB (a :: l) 0 L := by rw [hy, hke, List.take_length]
            have hy5 : y.length ≤ 5 := by rw [hyl]; have := hsl; simp only [List.length_nil, List.length_cons] at this hX; omega
            rcases y with _ | ⟨b, m⟩
            all_goals
              (repeat' (first | (intro ex hex; (first | have hq := hg1 (by omega) hex | have hq := hg2 (by omega) hex); subst hq; clear hex) | (refine Ev.go ?_; conv => whnf) | refine And.intro ?_ ?_ | exact True.intro | exact rfl | (intro rx hrx; rw [ij _ (by omega)] at hrx) | (intro hcx; exfalso; omega) | intro _))
              all_goals (first | (refine ⟨?_⟩; exact vc) | exact cl | skip)
              refine ⟨⟨_, ⟨hyl.trans hnext.symm, hy5⟩, ?_⟩⟩
              (repeat' (first | (intro ex hex; (first | have hq := hg1 (by omega) hex | have hq := hg2 (by omega) hex); subst hq; clear hex) | (refine Ev.go ?_; conv => whnf) | refine And.intro ?_ ?_ | exact True.intro | exact rfl | (intro rx hrx; rw [ij _ (by omega)] at hrx) | (intro hcx; exfalso; omega) | intro _))
              all_goals (first | (refine ⟨?_⟩; exact vc) | exact cl | skip)
    · rintro y ⟨hy, hyl⟩
      rw [List.take_length] at hy
      rw [← hy] at hne ⊢
      rcases y with _ | ⟨b, m⟩
      · exact absurd rfl hne
      · (repeat' (first | (intro ex hex; (first | have hq := hg1 (by omega) hex | have hq := hg2 (by omega) hex); subst hq; clear hex) | (refine Ev.go ?_; conv => whnf) | refine And.intro ?_ ?_ | exact True.intro | exact rfl | (intro rx hrx; rw [ij _ (by omega)] at hrx) | (intro hcx; exfalso; omega) | intro _))
        all_goals (first | (refine ⟨?_⟩; exact vc) | exact cl | skip)
    · exact fun e => e.elim
end Go.Proofs.YtjadiajfbflghaaGreat
set_option linter.unusedSimpArgs false
set_option linter.unusedVariables false
open Go Go.TV
namespace Go.Proofs.YtjadiajfbflghaaGreat
theorem needs_le {s : Soc} (h : fault s = 0) : (0 ≤ (needsOf s).lo ∧ (needsOf s).lo ≤ (needsOf s).hi) ∧ (needsOf s).hi ≤ 300000 := by
  obtain ⟨_, hr, ht, hs, _⟩ := fault_ok h
  have hl := (fault_len h).2
  refine ⟨needsOf_ok (fun r hr' => (hr r hr').2.1) ht.2.1, ?_⟩
  have hk : ∀ (l : List Rng) (a : Int), (∀ r ∈ l, r.hi ≤ 100000) → (his l).foldl (· + ·) a ≤ a + 100000 * (l.length : Int) := by
    intro l
    induction l with
    | nil => intro a _; simp [his]
    | cons r l ih =>
      intro a hl
      have h1 := hl r List.mem_cons_self
      have := ih (a + r.hi) fun x hx => hl x (List.mem_cons_of_mem _ hx)
      simp only [his, List.map_cons, List.foldl_cons, List.length_cons] at this ⊢
      omega
  have := hk s.losses 0 fun r hr' => (hr r hr').2.2.1
  simp only [needsOf, needOf, sumL]
  have : (100000 : Int) * (s.losses.length : Int) ≤ 300000 := by omega
  omega
def boundsOf (s : Soc) (out : List Int) : List Rng := foldB (fun n => (callsOf s out n).1) (every (needsOf s))
theorem boundsOf_eq {s : Soc} {out : List Int} (h : fault s = 0) : boundsOf s out = (List.range s.members.length).map fun k => bndF (fun n => (callsF s.members 6 (askF s.members out) n fun _ => 0).1 k) (every (needsOf s)) :=
  foldB_eq _ _ _ (every_ne (needs_le h).1.2)
theorem boundsOf_len {s : Soc} {out : List Int} (h : fault s = 0) : (boundsOf s out).length = s.members.length := by simp [boundsOf_eq h]
theorem callsOf_len (s : Soc) (out : List Int) (n : Int) : (callsOf s out n).1.length = s.members.length := by simp [callsOf, tab]
theorem c193' {s : Soc} (hf : fault s = 0) : PF Tryz.prog 193 [encSoc s] (· = encR (needsOf s)) := by
  obtain ⟨hm, hr, ht, hs, _⟩ := fault_ok hf
  have hl := (fault_len hf).2
  exact c193 s (by omega) (fun r h => by have := hr r h; omega) (by omega) (by omega) hs
theorem c132p {s : Soc} {out : List Int} {o : SV} (hf : fault s = 0) (ho : LN out o) (hol : out.length ≤ 1000000) : PF Tryz.prog 132 [.agg [.fn 131 [] []], encSoc s, o] (· = .sl 2 (encRs (boundsOf s out))) := by
  have hn := needs_le hf
  obtain ⟨hm, _, _, _, h1⟩ := fault_ok hf
  refine c132 s out o 131 _ (needsOf s) ho (.inr rfl) (c193' hf) (by omega) (fun n h1 h2 => c131 s out o n ho hm (fault_len hf).1 hol (by omega)) (fun n _ _ => by rw [callsOf_len]; exact (fault_len hf).1) ?_
  intro e
  have := boundsOf_len (out := out) hf
  rw [boundsOf, e] at this
  simp at this; omega
def SlR (l : List Rng) (e : Int) (s : SV) : Prop := ∃ x, s = .tup [x, .int .i64 e] ∧ (x = .sl 2 (encRs l) ∨ (l = [] ∧ x = .nils))
theorem SlR.pf {f : FuncId} {args : List SV} {l : List Rng} {e : Int} (h : PF Tryz.prog f args (SlR l e)) : PF Tryz.prog f args (· = .tup [.sl 2 (encRs l), .int .i64 e]) := by
  refine PF.res h fun s hs _ => ?_
  obtain ⟨x, rfl, hx⟩ := hs
  refine ⟨_, rfl, by simp [clo, cloL, encRs_clo], ?_⟩
  rcases hx with rfl | ⟨rfl, rfl⟩
  · (repeat' (first | (refine Ev.go ?_; conv => whnf) | refine And.intro ?_ ?_ | exact True.intro | exact rfl | (intro rx hrx; rw [ij _ (by omega)] at hrx) | (intro hcx; exfalso; omega) | (intro hcx; exfalso; simp only [lz] at hcx; omega) | intro _))
    all_goals (first | (refine ⟨?_⟩; exact vc) | exact cl | skip)
  · (repeat' (first | (refine Ev.go ?_; conv => whnf) | refine And.intro ?_ ?_ | exact True.intro | exact rfl | (intro rx hrx; rw [ij _ (by omega)] at hrx) | (intro hcx; exfalso; omega) | (intro hcx; exfalso; simp only [lz] at hcx; omega) | intro _))
    all_goals (first | (refine ⟨?_⟩; exact vc) | exact cl | skip)
def withoutR (s : Soc) (out : List Int) : List Rng × Int := if fault s ≠ 0 then ([], fault s) else if s.listed out = true then (boundsOf s out, 0) else ([], 2)
theorem listed_nil (s : Soc) : s.listed [] = true := by simp [Soc.listed]
set_option maxRecDepth 100000 in
set_option maxHeartbeats 4000000 in
theorem c67g (s : Soc) (out : List Int) (o : SV) (h1 : s.members.length ≤ 1000000) (h2 : s.losses.length ≤ 1000000) (ho : LN out o) (hol : out.length ≤ 1000000) : PF Tryz.prog 67 [encSoc s, o] (· = .tup [.sl 2 (encRs (withoutR s out).1), .int .i64 (withoutR s out).2]) := by
  refine SlR.pf ?_
  have c53' := c63 s h1 h2
  by_cases hf : fault s = 0
  · have d63 := c132p hf ho hol
    rw [hf] at c53'
    have d67 : PF Tryz.prog 130 [encSoc s, o] (· = .bool (s.listed out)) := by
      rcases ho with rfl | ⟨rfl, rfl⟩
      · exact c130 s out hol h1
      · rw [listed_nil]; exact c130n s h1
    cases hw : s.listed out
    · have e : withoutR s out = ([], 2) := by simp only [withoutR, if_neg (show ¬ fault s ≠ 0 by simpa using hf)]; rw [hw]; rfl
      rw [e]
      rw [hw] at d67
      rcases ho with rfl | ⟨rfl, rfl⟩
      all_goals
        refine PF.of (TF.ev fn_67 (Ev.at ?_))
        (repeat' (first | (refine Ev.go ?_; conv => whnf) | refine And.intro ?_ ?_ | exact True.intro | exact rfl | (intro rx hrx; rw [ij _ (by omega)] at hrx) | (intro hcx; exfalso; omega) | intro _))
        refine TSq.pureC c53' cl rfl (And.intro rfl rfl) ?_
        (repeat' (first | (refine Ev.go ?_; conv => whnf) | refine And.intro ?_ ?_ | exact True.intro | exact rfl | (intro rx hrx; rw [ij _ (by omega)] at hrx) | (intro hcx; exfalso; omega) | intro _))
        refine TSq.pureC d67 cl rfl (And.intro rfl rfl) ?_
        (repeat' (first | (refine Ev.go ?_; conv => whnf) | refine And.intro ?_ ?_ | exact True.intro | exact rfl | (intro rx hrx; rw [ij _ (by omega)] at hrx) | (intro hcx; exfalso; omega) | intro _))
        exact ⟨_, rfl, .inr ⟨rfl, rfl⟩⟩
    · have e : withoutR s out = (boundsOf s out, 0) := by simp only [withoutR, if_neg (show ¬ fault s ≠ 0 by simpa using hf)]; rw [hw]; rfl
      rw [e]
      rw [hw] at d67
      generalize boundsOf s out = B at *
      rcases ho with rfl | ⟨rfl, rfl⟩
      all_goals
        refine PF.of (TF.ev fn_67 (Ev.at ?_))
        (repeat' (first | (refine Ev.go ?_; conv => whnf) | refine And.intro ?_ ?_ | exact True.intro | exact rfl | (intro rx hrx; rw [ij _ (by omega)] at hrx) | (intro hcx; exfalso; omega) | intro _))
        refine TSq.pureC c53' cl rfl (And.intro rfl rfl) ?_
        (repeat' (first | (refine Ev.go ?_; conv => whnf) | refine And.intro ?_ ?_ | exact True.intro | exact rfl | (intro rx hrx; rw [ij _ (by omega)] at hrx) | (intro hcx; exfalso; omega) | intro _))
        refine TSq.pureC d67 cl rfl (And.intro rfl rfl) ?_
        (repeat' (first | (refine Ev.go ?_; conv => whnf) | refine And.intro ?_ ?_ | exact True.intro | exact rfl | (intro rx hrx; rw [ij _ (by omega)] at hrx) | (intro hcx; exfalso; omega) | intro _))
        refine TSq.pureC d63 cl rfl (And.intro rfl rfl) ?_
        (repeat' (first | (refine Ev.go ?_; conv => whnf) | refine And.intro ?_ ?_ | exact True.intro | exact rfl | (intro rx hrx; rw [ij _ (by omega)] at hrx) | (intro hcx; exfalso; omega) | intro _))
        exact ⟨_, rfl, .inl rfl⟩
  · have e : withoutR s out = ([], fault s) := by simp only [withoutR, if_pos hf]
    rw [e]
    generalize fault s = ft at *
    rcases ho with rfl | ⟨rfl, rfl⟩
    all_goals
      refine PF.of (TF.ev fn_67 (Ev.at ?_))
      (repeat' (first | (refine Ev.go ?_; conv => whnf) | refine And.intro ?_ ?_ | exact True.intro | exact rfl | (intro rx hrx; rw [ij _ (by omega)] at hrx) | (intro hcx; exfalso; omega) | intro _))
      refine TSq.pureC c53' cl rfl (And.intro rfl rfl) ?_
      (repeat' (first | (refine Ev.go ?_; conv => whnf) | refine And.intro ?_ ?_ | exact True.intro | exact rfl | (intro rx hrx; rw [ij _ (by omega)] at hrx) | (intro hcx; exfalso; omega) | intro _))
      exact ⟨_, rfl, .inr ⟨rfl, rfl⟩⟩
theorem c18 (s : Soc) (h1 : s.members.length ≤ 1000000) (h2 : s.losses.length ≤ 1000000) : PF Tryz.prog 18 [encSoc s] (· = .tup [.sl 2 (encRs (withoutR s []).1), .int .i64 (withoutR s []).2]) := by
  refine PF.of (TF.ev fn_18 (Ev.at ?_))
  (repeat' (first | (refine Ev.go ?_; conv => whnf) | refine And.intro ?_ ?_ | exact True.intro | exact rfl | (intro rx hrx; rw [ij _ (by omega)] at hrx) | (intro hcx; exfalso; omega) | intro _))
  refine TSq.pureC (c67g s [] .nils h1 h2 (.inr ⟨rfl, rfl⟩) (by simp)) cl rfl (And.intro rfl rfl) ?_
  (repeat' (first | (refine Ev.go ?_; conv => whnf) | refine And.intro ?_ ?_ | exact True.intro | exact rfl | (intro rx hrx; rw [ij _ (by omega)] at hrx) | (intro hcx; exfalso; omega) | intro _))
  try rfl
end Go.Proofs.YtjadiajfbflghaaGreat
set_option linter.unusedSimpArgs false
set_option linter.unusedVariables false
namespace Go.Proofs.YtjadiajfbflghaaGreat
theorem cntF_bd (p : Nat → Bool) (n : Nat) : 0 ≤ cntF p n ∧ cntF p n ≤ n := by
  have := cnt_le p (List.range n)
  rw [cntF_eq]; simp at this; omega
theorem askF_len {ms : List Mem} {out : List Int} (i : Nat) (h : askF ms out i = true) : i < ms.length := by
  simp only [askF, Bool.and_eq_true, decide_eq_true_eq] at h
  exact h.1
theorem callsF_ok {ms : List Mem} (h : OkMs ms) {f : Nat → Bool} (hlt : ∀ i, f i = true → i < ms.length) {need : Int} (hn : 0 ≤ need) (o : Nat → Int) : Paid ms f need o (callsF ms 6 f need o) :=
  callsF_paid h 6 f need o (by have := cntF_bd f ms.length; have := h.1; omega) hlt hn
end Go.Proofs.YtjadiajfbflghaaGreat
set_option linter.unusedSimpArgs false
set_option linter.unusedVariables false
open Go Go.TV
namespace Go.Proofs.YtjadiajfbflghaaGreat
theorem sumL_bd {l : List Int} (h : ∀ x ∈ l, 0 ≤ x ∧ x ≤ 1000000) : ∀ k : Nat, 0 ≤ sumL (l.take k) ∧ sumL (l.take k) ≤ k * 1000000
  | 0 => by simp [sumL]
  | k + 1 => by
    have ih := sumL_bd h k
    cases hk : l[k]? with
    | none =>
      have : l.length ≤ k := by simpa using hk
      rw [List.take_of_length_le (by omega)]; rw [List.take_of_length_le this] at ih; omega
    | some x =>
      have := h x (List.mem_of_getElem? hk)
      rw [sumL_take hk]; omega
theorem rem_bd {x r n : Int} (h : r = x.tmod n) (hx : 0 ≤ x) (hn : 0 < n) : 0 ≤ r ∧ r < n := by
  rw [h, Int.tmod_eq_emod_of_nonneg hx]; exact ⟨Int.emod_nonneg _ (by omega), Int.emod_lt_of_pos _ hn⟩
theorem fault_ms {s : Soc} (h : fault s = 0) : OkMs s.members := by
  obtain ⟨hm, _⟩ := fault_ok h
  refine ⟨(fault_len h).1, fun i hi => ?_⟩
  have hx : s.members[i]? = some s.members[i] := List.getElem?_eq_getElem hi
  have := hm _ (List.mem_of_getElem? hx)
  rw [un_at hx, mst_at hx]
  exact ⟨this.units.1, this.2.2.1⟩
theorem callsR_good {s : Soc} {n : Int} (h : fault s = 0) (hn : 0 ≤ n ∧ n ≤ 300000) : callsR s n = ((callsOf s [] n).1, (callsOf s [] n).2, 0) := by
  simp only [callsR, if_neg (show ¬ fault s ≠ 0 by simpa using h), if_pos (show within n 0 300000 = true by simpa [within] using hn)]
theorem calls_paid {s : Soc} (h : fault s = 0) (out : List Int) {n : Int} (hn : 0 ≤ n) : Paid s.members (askF s.members out) n (fun _ => 0) (callsF s.members 6 (askF s.members out) n fun _ => 0) :=
  callsF_ok (fault_ms h) askF_len hn _
theorem calls_sum {s : Soc} (h : fault s = 0) (out : List Int) {n : Int} (hn : 0 ≤ n) : sumL (callsOf s out n).1 + (callsOf s out n).2 = n := by
  have p := calls_paid h out hn
  rw [callsOf, sumL_tab]
  have e : sumF (callsF s.members 6 (askF s.members out) n fun _ => 0).1 s.members.length = sumF (fun i => if askF s.members out i = true then (callsF s.members 6 (askF s.members out) n fun _ => 0).1 i else 0) s.members.length := sumF_congr fun i _ => by
    cases hf : askF s.members out i
    · rw [p.other i hf]; rfl
    · rfl
  have := p.sum
  rw [← e] at this
  dsimp only
  omega
theorem calls_at {s : Soc} {out : List Int} {n : Int} {i : Nat} (hi : i < s.members.length) : (callsOf s out n).1[i]? = some ((callsF s.members 6 (askF s.members out) n fun _ => 0).1 i) := by
  simp only [callsOf, tab, List.getElem?_map, List.getElem?_range hi]; rfl
theorem calls_bd {s : Soc} (h : fault s = 0) (out : List Int) {n : Int} (hn : 0 ≤ n) : ∀ x ∈ (callsOf s out n).1, 0 ≤ x ∧ x ≤ 100000 := by
  intro x hx
  simp only [callsOf, tab, List.mem_map, List.mem_range] at hx
  obtain ⟨i, hi, rfl⟩ := hx
  have p := calls_paid h out hn
  cases hf : askF s.members out i
  · rw [p.other i hf]; omega
  · have := p.most i hf
    have hm : s.members[i]? = some s.members[i] := List.getElem?_eq_getElem hi
    have := (fault_ok h).1 _ (List.mem_of_getElem? hm)
    rw [mst_at hm] at *
    have := this.2.2
    omega
end Go.Proofs.YtjadiajfbflghaaGreat
set_option linter.unusedSimpArgs false
set_option linter.unusedVariables false
open Go Go.TV
namespace Go.Proofs.YtjadiajfbflghaaGreat
theorem c64 (r : Rng) (n : Int) : PF Tryz.prog 64 [encR r, .int .i64 n] (· = .bool (r.has n)) := by
  refine PF.of (TF.ev fn_64 (Ev.at ?_))
  (repeat' (first | (refine Ev.go ?_; conv => whnf) | refine And.intro ?_ ?_ | exact True.intro | exact rfl | (intro rx hrx; rw [ij _ (by omega)] at hrx) | (intro hcx; exfalso; omega) | (intro hcx; exfalso; simp only [lz] at hcx; omega) | intro _))
  refine TSq.pureC (c68 n r.lo r.hi) cl rfl (And.intro rfl rfl) ?_
  (repeat' (first | (refine Ev.go ?_; conv => whnf) | refine And.intro ?_ ?_ | exact True.intro | exact rfl | (intro rx hrx; rw [ij _ (by omega)] at hrx) | (intro hcx; exfalso; omega) | (intro hcx; exfalso; simp only [lz] at hcx; omega) | intro _))
  try rfl
def needR (s : Soc) (t : Truth) : Int × Int := if fault s ≠ 0 then (0, fault s) else if isTruth s t = true then (needOf s (sumL t.losses) t.treaty, 0) else (0, 2)
theorem isTruth_at {s : Soc} {t : Truth} : isTruth s t = true ↔ t.losses.length = s.losses.length ∧ s.treaty.has t.treaty = true ∧ ∀ (i : Nat) (r : Rng) (v : Int), s.losses[i]? = some r → t.losses[i]? = some v → r.has v = true := by
  simp only [isTruth, Bool.and_eq_true, decide_eq_true_eq, List.all_eq_true, List.mem_range]
  constructor
  · rintro ⟨h1, h2, h3⟩
    refine ⟨h1, h2, fun i r v hr hv => ?_⟩
    have := h3 i (List.getElem?_eq_some_iff.1 hv).1
    rw [hr, List.getD_eq_getElem?_getD, hv] at this
    exact this
  · rintro ⟨h1, h2, h3⟩
    refine ⟨h1, h2, fun i hi => ?_⟩
    have hv : t.losses[i]? = some t.losses[i] := List.getElem?_eq_getElem hi
    have hr : s.losses[i]? = some (s.losses[i]'(by omega)) := List.getElem?_eq_getElem (by omega)
    rw [hr, List.getD_eq_getElem?_getD, hv]
    exact h3 i _ _ hr hv
set_option maxRecDepth 100000 in
set_option maxHeartbeats 4000000 in
theorem c16 (s : Soc) (t : Truth) (h1 : s.members.length ≤ 1000000) (h2 : s.losses.length ≤ 1000000) (h3 : t.losses.length ≤ 1000000) : PF Tryz.prog 16 [encSoc s, encT t] (· = .tup [.int .i64 (needR s t).1, .int .i64 (needR s t).2]) := by
  have hz := ints_len t.losses
  have hw := encRs_len s.losses
  have d1 := c63 s h1 h2
  by_cases hf : fault s = 0
  · rw [hf] at d1
    have hl3 := (fault_len hf).2
    obtain ⟨_, hr, ht, hs, _⟩ := fault_ok hf
    have hno : isTruth s t = false → needR s t = (0, 2) := fun h => by simp only [needR, if_neg (show ¬ fault s ≠ 0 by simpa using hf), h]; simp
    have hyes : isTruth s t = true → needR s t = (needOf s (sumL t.losses) t.treaty, 0) := fun h => by simp only [needR, if_neg (show ¬ fault s ≠ 0 by simpa using hf), h]; simp
    have d2 := c64 s.treaty t.treaty
    by_cases hlen : t.losses.length = s.losses.length
    · cases hh : s.treaty.has t.treaty
      · have hn := hno (by rw [Bool.eq_false_iff]; intro h; have := (isTruth_at.1 h).2.1; rw [hh] at this; cases this)
        rw [hh] at d2
        rw [hn]
        refine PF.of (TF.ev fn_16 (Ev.at ?_))
        (repeat' (first | (intro ex hex; (first | have hq := hg1 (by omega) hex | have hq := hg2 (by omega) hex); subst hq; clear hex) | (refine Ev.go ?_; conv => whnf) | refine And.intro ?_ ?_ | exact True.intro | exact rfl | (intro rx hrx; rw [ij _ (by omega)] at hrx) | (intro hcx; exfalso; omega) | intro _))
        refine TSq.pureC d1 cl rfl (And.intro rfl rfl) ?_
        (repeat' (first | (intro ex hex; (first | have hq := hg1 (by omega) hex | have hq := hg2 (by omega) hex); subst hq; clear hex) | (refine Ev.go ?_; conv => whnf) | refine And.intro ?_ ?_ | exact True.intro | exact rfl | (intro rx hrx; rw [ij _ (by omega)] at hrx) | (intro hcx; exfalso; omega) | intro _))
        all_goals (try (exfalso; omega))
        refine TSq.pureC d2 cl rfl (And.intro rfl rfl) ?_
        (repeat' (first | (intro ex hex; (first | have hq := hg1 (by omega) hex | have hq := hg2 (by omega) hex); subst hq; clear hex) | (refine Ev.go ?_; conv => whnf) | refine And.intro ?_ ?_ | exact True.intro | exact rfl | (intro rx hrx; rw [ij _ (by omega)] at hrx) | (intro hcx; exfalso; omega) | intro _))
        try rfl
      · rw [hh] at d2
        have hb : ∀ k, (∀ (i : Nat) (r : Rng) (v : Int), i < k → s.losses[i]? = some r → t.losses[i]? = some v → r.has v = true) → 0 ≤ sumL (t.losses.take k) ∧ sumL (t.losses.take k) ≤ k * 100000 := by
          intro k
          induction k with
          | zero => intro _; simp [sumL]
          | succ k ih =>
            intro h
            have h1 := ih fun i r v hi => h i r v (by omega)
            rcases Nat.lt_or_ge k t.losses.length with hk | hk
            · have hv : t.losses[k]? = some t.losses[k] := List.getElem?_eq_getElem hk
              have hrr : s.losses[k]? = some (s.losses[k]'(by omega)) := List.getElem?_eq_getElem (by omega)
              have := h k _ _ (by omega) hrr hv
              have h4 := hr _ (List.mem_of_getElem? hrr)
              simp only [Rng.has, within, decide_eq_true_eq] at this
              rw [sumL_take hv]; omega
            · rw [List.take_of_length_le (by omega)]; rw [List.take_of_length_le hk] at h1; omega
        refine PF.of (TF.ev fn_16 (Ev.at ?_))
        (repeat' (first | (intro ex hex; (first | have hq := hg1 (by omega) hex | have hq := hg2 (by omega) hex); subst hq; clear hex) | (refine Ev.go ?_; conv => whnf) | refine And.intro ?_ ?_ | exact True.intro | exact rfl | (intro rx hrx; rw [ij _ (by omega)] at hrx) | (intro hcx; exfalso; omega) | intro _))
        refine TSq.pureC d1 cl rfl (And.intro rfl rfl) ?_
        (repeat' (first | (intro ex hex; (first | have hq := hg1 (by omega) hex | have hq := hg2 (by omega) hex); subst hq; clear hex) | (refine Ev.go ?_; conv => whnf) | refine And.intro ?_ ?_ | exact True.intro | exact rfl | (intro rx hrx; rw [ij _ (by omega)] at hrx) | (intro hcx; exfalso; omega) | intro _))
        all_goals (try (exfalso; omega))
        refine TSq.pureC d2 cl rfl (And.intro rfl rfl) ?_
        (repeat' (first | (intro ex hex; (first | have hq := hg1 (by omega) hex | have hq := hg2 (by omega) hex); subst hq; clear hex) | (refine Ev.go ?_; conv => whnf) | refine And.intro ?_ ?_ | exact True.intro | exact rfl | (intro rx hrx; rw [ij _ (by omega)] at hrx) | (intro hcx; exfalso; omega) | intro _))
        refine TWq.loop (fun k : Nat => [(33, .int .i64 k), (7, .int .i64 (sumL (t.losses.take k))), (8, .junk), (9, .junk)]) (fun _ => []) (fun k => k ≤ t.losses.length ∧ ∀ (i : Nat) (r : Rng) (v : Int), i < k → s.losses[i]? = some r → t.losses[i]? = some v → r.has v = true) (fun k => t.losses.length - k) 0 [] [] ?_ ⟨by omega, fun i r v hi => by omega⟩ ?_
        · (repeat' (first | (intro ex hex; (first | have hq := hg1 (by omega) hex | have hq := hg2 (by omega) hex); subst hq; clear hex) | (refine Ev.go ?_; conv => whnf) | refine And.intro ?_ ?_ | exact True.intro | exact rfl | (intro rx hrx; rw [ij _ (by omega)] at hrx) | (intro hcx; exfalso; omega) | intro _))
          all_goals (first | (refine ⟨?_⟩; exact vc) | exact cl | skip)
        · rintro k ⟨hk, hok⟩
          have hb1 := hb k hok
          rcases Nat.lt_or_ge k t.losses.length with hkl | hkl
          · obtain ⟨v, hv⟩ : ∃ v, t.losses[k]? = some v := ⟨_, List.getElem?_eq_getElem hkl⟩
            obtain ⟨r, hrr⟩ : ∃ r, s.losses[k]? = some r := ⟨_, List.getElem?_eq_getElem (by omega)⟩
            have d3 := c64 r v
            have hsk := sumL_take hv
            have hg1 : ∀ {n : Nat} {e : SV}, n = k → (ints t.losses)[n]? = some e → e = .int .i64 v := by
              rintro n e rfl he
              obtain ⟨x, hx, rfl⟩ := ints_at he
              rw [hv] at hx; cases hx; rfl
            have hg2 : ∀ {n : Nat} {e : SV}, n = k → (encRs s.losses)[n]? = some e → e = encR r := by
              rintro n e rfl he
              obtain ⟨x, hx, rfl⟩ := encRs_at he
              rw [hrr] at hx; cases hx; rfl
            cases hv2 : r.has v
            · rw [hno (by rw [Bool.eq_false_iff]; intro h; have := (isTruth_at.1 h).2.2 k r v hrr hv; rw [hv2] at this; cases this)]
              rw [hv2] at d3
              (repeat' (first | (intro ex hex; (first | have hq := hg1 (by omega) hex | have hq := hg2 (by omega) hex); subst hq; clear hex) | (refine Ev.go ?_; conv => whnf) | refine And.intro ?_ ?_ | exact True.intro | exact rfl | (intro rx hrx; rw [ij _ (by omega)] at hrx) | (intro hcx; exfalso; omega) | intro _))
              all_goals (first | (refine ⟨?_⟩; exact vc) | exact cl | skip)
              refine TSq.pureC d3 cl rfl (And.intro rfl rfl) ?_
              (repeat' (first | (intro ex hex; (first | have hq := hg1 (by omega) hex | have hq := hg2 (by omega) hex); subst hq; clear hex) | (refine Ev.go ?_; conv => whnf) | refine And.intro ?_ ?_ | exact True.intro | exact rfl | (intro rx hrx; rw [ij _ (by omega)] at hrx) | (intro hcx; exfalso; omega) | intro _))
              all_goals (first | (refine ⟨?_⟩; exact vc) | exact cl | skip)
              try rfl
            · rw [hv2] at d3
              have hok' : ∀ (i : Nat) (r : Rng) (v : Int), i < k + 1 → s.losses[i]? = some r → t.losses[i]? = some v → r.has v = true := fun i r' v' hi h1 h2 => by
                rcases Nat.lt_or_ge i k with h | h
                · exact hok i r' v' h h1 h2
                · have : i = k := by omega
                  subst this
                  rw [hrr] at h1; rw [hv] at h2; cases h1; cases h2; exact hv2
              have hb2 := hb (k + 1) hok'
              (repeat' (first | (intro ex hex; (first | have hq := hg1 (by omega) hex | have hq := hg2 (by omega) hex); subst hq; clear hex) | (refine Ev.go ?_; conv => whnf) | refine And.intro ?_ ?_ | exact True.intro | exact rfl | (intro rx hrx; rw [ij _ (by omega)] at hrx) | (intro hcx; exfalso; omega) | intro _))
              all_goals (first | (refine ⟨?_⟩; exact vc) | exact cl | skip)
              refine TSq.pureC d3 cl rfl (And.intro rfl rfl) ?_
              (repeat' (first | (intro ex hex; (first | have hq := hg1 (by omega) hex | have hq := hg2 (by omega) hex); subst hq; clear hex) | (refine Ev.go ?_; conv => whnf) | refine And.intro ?_ ?_ | exact True.intro | exact rfl | (intro rx hrx; rw [ij _ (by omega)] at hrx) | (intro hcx; exfalso; omega) | intro _))
              all_goals (first | (refine ⟨?_⟩; exact vc) | exact cl | skip)
              refine ⟨⟨k + 1, ⟨by omega, hok'⟩, by omega, ?_⟩⟩
              (repeat' (first | (intro ex hex; (first | have hq := hg1 (by omega) hex | have hq := hg2 (by omega) hex); subst hq; clear hex) | (refine Ev.go ?_; conv => whnf) | refine And.intro ?_ ?_ | exact True.intro | exact rfl | (intro rx hrx; rw [ij _ (by omega)] at hrx) | (intro hcx; exfalso; omega) | intro _))
              all_goals (first | (refine ⟨?_⟩; exact vc) | exact cl | skip)
              all_goals (refine ⟨?_⟩; rw [hsk]; omega)
          · have hke : k = t.losses.length := by omega
            subst hke
            rw [List.take_length] at hb1 ⊢
            rw [hyes (isTruth_at.2 ⟨hlen, hh, fun i r v h1 h2 => hok i r v (List.getElem?_eq_some_iff.1 h2).1 h1 h2⟩)]
            have hth : 0 ≤ t.treaty ∧ t.treaty ≤ 100000 := by
              have := hh; simp only [Rng.has, within, decide_eq_true_eq] at this; omega
            have d4 := c65 s (sumL t.losses) t.treaty (by omega) (by omega) (by omega)
            (repeat' (first | (intro ex hex; (first | have hq := hg1 (by omega) hex | have hq := hg2 (by omega) hex); subst hq; clear hex) | (refine Ev.go ?_; conv => whnf) | refine And.intro ?_ ?_ | exact True.intro | exact rfl | (intro rx hrx; rw [ij _ (by omega)] at hrx) | (intro hcx; exfalso; omega) | intro _))
            all_goals (first | (refine ⟨?_⟩; exact vc) | exact cl | skip)
            refine TSq.pureC d4 cl rfl (And.intro rfl rfl) ?_
            (repeat' (first | (intro ex hex; (first | have hq := hg1 (by omega) hex | have hq := hg2 (by omega) hex); subst hq; clear hex) | (refine Ev.go ?_; conv => whnf) | refine And.intro ?_ ?_ | exact True.intro | exact rfl | (intro rx hrx; rw [ij _ (by omega)] at hrx) | (intro hcx; exfalso; omega) | intro _))
            try rfl
    · have hn := hno (by rw [Bool.eq_false_iff]; intro h; exact hlen (isTruth_at.1 h).1)
      rw [hn]
      refine PF.of (TF.ev fn_16 (Ev.at ?_))
      (repeat' (first | (intro ex hex; (first | have hq := hg1 (by omega) hex | have hq := hg2 (by omega) hex); subst hq; clear hex) | (refine Ev.go ?_; conv => whnf) | refine And.intro ?_ ?_ | exact True.intro | exact rfl | (intro rx hrx; rw [ij _ (by omega)] at hrx) | (intro hcx; exfalso; omega) | intro _))
      refine TSq.pureC d1 cl rfl (And.intro rfl rfl) ?_
      (repeat' (first | (intro ex hex; (first | have hq := hg1 (by omega) hex | have hq := hg2 (by omega) hex); subst hq; clear hex) | (refine Ev.go ?_; conv => whnf) | refine And.intro ?_ ?_ | exact True.intro | exact rfl | (intro rx hrx; rw [ij _ (by omega)] at hrx) | (intro hcx; exfalso; omega) | intro _))
      all_goals (try (exfalso; omega))
      all_goals (try rfl)
  · have hn : needR s t = (0, fault s) := by simp only [needR, if_pos hf]
    rw [hn]
    generalize fault s = ft at *
    refine PF.of (TF.ev fn_16 (Ev.at ?_))
    (repeat' (first | (intro ex hex; (first | have hq := hg1 (by omega) hex | have hq := hg2 (by omega) hex); subst hq; clear hex) | (refine Ev.go ?_; conv => whnf) | refine And.intro ?_ ?_ | exact True.intro | exact rfl | (intro rx hrx; rw [ij _ (by omega)] at hrx) | (intro hcx; exfalso; omega) | intro _))
    refine TSq.pureC d1 cl rfl (And.intro rfl rfl) ?_
    (repeat' (first | (intro ex hex; (first | have hq := hg1 (by omega) hex | have hq := hg2 (by omega) hex); subst hq; clear hex) | (refine Ev.go ?_; conv => whnf) | refine And.intro ?_ ?_ | exact True.intro | exact rfl | (intro rx hrx; rw [ij _ (by omega)] at hrx) | (intro hcx; exfalso; omega) | intro _))
    try rfl
end Go.Proofs.YtjadiajfbflghaaGreat
set_option linter.unusedSimpArgs false
set_option linter.unusedVariables false
open Go Go.TV
namespace Go.Proofs.YtjadiajfbflghaaGreat
set_option maxRecDepth 100000
set_option maxHeartbeats 4000000
def tf10 : TFn := ⟨63, [(.tmp 0)], (.seq (.region false [⟨(some 0), (.mv (.c (.bool false))), none, [], []⟩]) (.seq (.region false [⟨(some 7), (.bslice 3 false 1 1 [(.int .i64 0)] [(0, (1, (.c (.int .i64 0))))]), none, [], []⟩, ⟨(some 8), (.bslice 3 false 1 2 [(.int .i64 0)] [(0, (1, (.c (.int .i64 0)))), (1, (1, (.c (.int .i64 100))))]), none, [], []⟩, ⟨(some 9), (.bslice 3 false 1 2 [(.int .i64 0)] [(0, (1, (.c (.int .i64 0)))), (1, (1, (.c (.int .i64 100))))]), none, [], []⟩, ⟨(some 10), (.bslice 54 false 1 1 [.nils] [(0, (1, (.t 9)))]), none, [], []⟩, ⟨(some 11), (.bslice 116 false 1 1 [.nils] [(0, (1, (.t 10)))]), none, [], []⟩, ⟨(some 12), (.build [(.int .i64 0), (.bool false), (.int .i64 0), .nils, .nils, .nils] [(1, (1, (.c (.bool true)))), (3, (1, (.t 7))), (4, (1, (.t 8))), (5, (1, (.t 11)))]), none, [], []⟩, ⟨(some 13), (.bslice 152 true 6 1 [(.int .i64 0), (.bool false), (.int .i64 0), .nils, .nils, .nils] [(0, (6, (.t 12)))]), none, [], []⟩, ⟨(some 14), (.build [(.int .i64 0), (.int .i64 0)] [(0, (1, (.c (.int .i64 10)))), (1, (1, (.c (.int .i64 10))))]), none, [], []⟩, ⟨(some 15), (.build [(.int .i64 0), (.int .i64 0)] [(0, (1, (.c (.int .i64 14)))), (1, (1, (.c (.int .i64 14))))]), none, [], []⟩, ⟨(some 16), (.build [(.int .i64 0), (.int .i64 0), (.int .i64 0), (.int .i64 0), (.int .i64 0), (.int .i64 0), (.int .i64 0), (.int .i64 0), (.int .i64 0)] [(1, (1, (.c (.int .i64 1000)))), (2, (1, (.c (.int .i64 4)))), (3, (2, (.t 14))), (5, (2, (.t 15)))]), none, [], []⟩, ⟨(some 17), (.bslice 154 true 9 1 [(.int .i64 0), (.int .i64 0), (.int .i64 0), (.int .i64 0), (.int .i64 0), (.int .i64 0), (.int .i64 0), (.int .i64 0), (.int .i64 0)] [(0, (9, (.t 16)))]), none, [], []⟩, ⟨(some 18), (.build [.nils, (.int .i64 0), (.int .i64 0), .nils] [(0, (1, (.t 13))), (3, (1, (.t 17)))]), none, [], []⟩, ⟨(some 19), (.call 11 [(.t 18)]), none, [], []⟩, ⟨(some 6), (.mv (.t 19)), none, [], []⟩, ⟨(some 20), (.extract (.t 6) 0), none, [], []⟩, ⟨(some 21), (.extract (.t 6) 1), none, [], []⟩, ⟨(some 1), (.alloc [(.int .i64 0), (.int .i64 0)]), none, [], []⟩, ⟨none, (.store 2 (.t 1) (.t 20)), none, [], []⟩, ⟨(some 2), (.mv (.t 21)), none, [], []⟩]) (.seq (.region false [⟨(some 23), (.build [(.int .i64 0), (.int .i64 0), (.int .i64 0)] [(0, (1, (.c (.int .i64 100)))), (1, (1, (.c (.int .i64 1)))), (2, (1, (.c (.int .i64 500))))]), none, [], []⟩, ⟨(some 24), (.build [(.int .i64 0), (.int .i64 0), (.int .i64 0)] [(0, (1, (.c (.int .i64 100)))), (1, (1, (.c (.int .i64 2)))), (2, (1, (.c (.int .i64 500))))]), none, [], []⟩, ⟨(some 25), (.bslice 135 true 3 2 [(.int .i64 0), (.int .i64 0), (.int .i64 0)] [(0, (3, (.t 23))), (3, (3, (.t 24)))]), none, [], []⟩, ⟨(some 26), (.build [.nils, .nils, (.int .i64 0), (.int .i64 0), (.int .i64 0)] [(0, (1, (.t 25)))]), none, [], []⟩, ⟨(some 27), (.call 19 [(.t 26), (.c (.int .i64 120))]), none, [], []⟩, ⟨(some 22), (.mv (.t 27)), none, [], []⟩, ⟨(some 28), (.extract (.t 22) 0), none, [], []⟩, ⟨(some 29), (.extract (.t 22) 1), none, [], []⟩, ⟨(some 30), (.extract (.t 22) 2), none, [], []⟩, ⟨(some 3), (.mv (.t 28)), none, [], []⟩, ⟨(some 4), (.mv (.t 29)), none, [], []⟩, ⟨(some 5), (.mv (.t 30)), none, [], []⟩]) (.seq (.region false [⟨(some 31), (.mv (.t 2)), none, [], []⟩, ⟨(some 32), (.cmp .eql (.t 31) (.c (.int .i64 0))), none, [], []⟩, ⟨(some 33), (.mv (.t 32)), none, [], []⟩, ⟨(some 34), (.load true 2 (.t 1)), (some (33, true)), [], []⟩, ⟨(some 35), (.build [(.int .i64 0), (.int .i64 0)] [(0, (1, (.c (.int .i64 120)))), (1, (1, (.c (.int .i64 120))))]), (some (33, true)), [], []⟩, ⟨(some 36), (.eqv (.st [(0, (1, (false, (.int .i64)))), (1, (1, (false, (.int .i64))))]) false (.t 34) (.t 35)), (some (33, true)), [], []⟩, ⟨(some 37), (.pick (.t 33) (.t 36) (.c (.bool false))), none, [], []⟩, ⟨(some 38), (.mv (.t 37)), none, [], []⟩, ⟨(some 39), (.mv (.t 5)), (some (38, true)), [], []⟩, ⟨(some 40), (.cmp .eql (.t 39) (.c (.int .i64 0))), (some (38, true)), [], []⟩, ⟨(some 41), (.pick (.t 38) (.t 40) (.c (.bool false))), none, [], []⟩, ⟨(some 42), (.mv (.t 41)), none, [], []⟩, ⟨(some 43), (.mv (.t 4)), (some (42, true)), [], []⟩, ⟨(some 44), (.cmp .eql (.t 43) (.c (.int .i64 0))), (some (42, true)), [], []⟩, ⟨(some 45), (.pick (.t 42) (.t 44) (.c (.bool false))), none, [], []⟩, ⟨(some 46), (.mv (.t 45)), none, [], []⟩, ⟨(some 47), (.mv (.t 3)), (some (46, true)), [], []⟩, ⟨(some 48), (.lenS (.t 47)), (some (46, true)), [], []⟩, ⟨(some 49), (.cmp .eql (.t 48) (.c (.int .i64 2))), (some (46, true)), [], []⟩, ⟨(some 50), (.pick (.t 46) (.t 49) (.c (.bool false))), none, [], []⟩, ⟨(some 51), (.mv (.t 50)), none, [], []⟩, ⟨(some 52), (.mv (.t 3)), (some (51, true)), [], []⟩, ⟨(some 53), (.idxS 1 (.t 52) (.c (.int .i64 0))), (some (51, true)), [], []⟩, ⟨(some 54), (.load false 1 (.t 53)), (some (51, true)), [], []⟩, ⟨(some 55), (.cmp .eql (.t 54) (.c (.int .i64 40))), (some (51, true)), [], []⟩, ⟨(some 56), (.pick (.t 51) (.t 55) (.c (.bool false))), none, [], []⟩, ⟨(some 57), (.mv (.t 56)), none, [], []⟩, ⟨(some 58), (.mv (.t 3)), (some (57, true)), [], []⟩, ⟨(some 59), (.idxS 1 (.t 58) (.c (.int .i64 1))), (some (57, true)), [], []⟩, ⟨(some 60), (.load false 1 (.t 59)), (some (57, true)), [], []⟩, ⟨(some 61), (.cmp .eql (.t 60) (.c (.int .i64 80))), (some (57, true)), [], []⟩, ⟨(some 62), (.pick (.t 57) (.t 61) (.c (.bool false))), none, [], []⟩, ⟨(some 0), (.mv (.t 62)), none, [], []⟩]) .ret))))⟩
theorem fn_10 : fnOf Tryz.prog 10 = some tf10 := by kernel_rfl
end Go.Proofs.YtjadiajfbflghaaGreat
set_option linter.unusedSimpArgs false
set_option linter.unusedVariables false
open Go Go.TV
namespace Go.Proofs.YtjadiajfbflghaaGreat
def tfEx : Tf := ⟨0, true, 0, [0], [0, 100], [[[0, 100]]]⟩
def fldEx : Fld := ⟨0, 1000, 4, ⟨10, 10⟩, ⟨14, 14⟩, ⟨0, 0⟩⟩
def caseEx : Cas := ⟨[tfEx], 0, 0, [fldEx]⟩
def socEx : Soc := ⟨[⟨100, 1, 500⟩, ⟨100, 2, 500⟩], [], ⟨0, 0⟩, 0⟩
theorem okEx : OkC caseEx where
  tfs := {
    len := by decide
    few := fun t ht => by
      rw [List.mem_singleton.1 (show t ∈ [tfEx] from ht)]
      decide
    ne := by decide
    first := fun t ht => by
      have : tfEx = t := by simpa [caseEx] using ht
      rw [← this]; rfl
    valid := fun t ht => by
      rw [List.mem_singleton.1 (show t ∈ [tfEx] from ht)]
      decide
    next := fun i a b _ hb => by
      have := (List.getElem?_eq_some_iff.1 hb).1
      exact absurd this (by simp [caseEx])
    crops := fun i a b ha hb => by
      have := (List.getElem?_eq_some_iff.1 hb).1
      have h0 : i = 0 := by simpa [caseEx] using this
      subst h0
      rw [ha] at hb; cases hb; rfl }
  day := by decide
  fee := by decide
  few := by decide
  flds := fun a ha f hf => by
    have h1 : tfEx = a := by simpa [caseEx] using ha
    rw [List.mem_singleton.1 (show f ∈ [fldEx] from hf), ← h1]
    exact ⟨by decide, by decide, by decide, by decide, by decide, by decide⟩
theorem truthsEx : truthsL fldEx = [⟨10, 14, 0⟩] := by kernel_rfl
theorem outEx : outF caseEx fldEx ⟨10, 14, 0⟩ = (120, 0) := by kernel_rfl
theorem callsEx : callsR socEx 120 = ([40, 80], 0, 0) := by kernel_rfl
theorem awardEx {outs : List (List (Int × Int))} {lo hi : Int} (h : OutsAll caseEx caseEx.flds.length outs) (hb : BndOf (reachS outs sm0) lo hi) : lo = 120 ∧ hi = 120 := by
  have key : ∀ x ∈ reachS outs sm0, x.aw = 120 := by
    have hl : outs.length = 1 := h.1
    obtain ⟨m, rfl⟩ : ∃ m, outs = [m] := by
      match outs, hl with
      | [m], _ => exact ⟨m, rfl⟩
    have hm := h.2 0 fldEx m (by decide) rfl rfl
    intro x hx
    simp only [reachS, List.mem_flatMap, List.mem_singleton] at hx
    obtain ⟨o, ho, rfl⟩ := hx
    obtain ⟨y, hy, rfl⟩ := (hm.2 o).1 ho
    rw [truthsEx, List.mem_singleton] at hy
    rw [hy, outEx]
    rfl
  obtain ⟨⟨x, h1, h2⟩, ⟨y, h3, h4⟩, _⟩ := hb
  exact ⟨by rw [← h2]; exact key x h1, by rw [← h4]; exact key y h3⟩
set_option maxRecDepth 100000 in
set_option maxHeartbeats 8000000 in
theorem c10 : PF Tryz.prog 10 [] (· = .bool true) := by
  have d1 := c11 caseEx okEx
  have d2 := c19 socEx 120 (by decide) (by decide)
  rw [callsEx] at d2
  have d3 : PF Tryz.prog 19 [.agg [.sl 3 (encYs socEx.members), .nils, .int .i64 0, .int .i64 0, .int .i64 0], .int .i64 120] (· = .tup [.sl 1 (ints [40, 80]), .int .i64 0, .int .i64 0]) := by
    refine PF.fit d2 ?_
    (repeat' (first | (intro ex hex; (first | have hq := hg1 (by omega) hex | have hq := hg2 (by omega) hex); subst hq; clear hex) | (refine Ev.go ?_; conv => whnf) | refine And.intro ?_ ?_ | exact True.intro | exact rfl | (intro rx hrx; rw [ij _ (by omega)] at hrx) | (intro hcx; exfalso; omega) | intro _))
    all_goals (first | (refine ⟨?_⟩; exact vc) | exact cl | skip)
  obtain ⟨A, hA⟩ : ∃ A : List Int, A = [40, 80] := ⟨_, rfl⟩
  rw [← hA] at d3
  have hz : (ints A).length = 2 := by rw [hA]; rfl
  have hg1 : ∀ {n : Nat} {e : SV}, n = 0 → (ints A)[n]? = some e → e = .int .i64 40 := by
    rintro n e rfl he
    rw [hA] at he; exact (Option.some.inj he).symm
  have hg2 : ∀ {n : Nat} {e : SV}, n = 1 → (ints A)[n]? = some e → e = .int .i64 80 := by
    rintro n e rfl he
    rw [hA] at he; exact (Option.some.inj he).symm
  clear hA
  refine PF.of (TF.ev fn_10 (Ev.at ?_))
  (repeat' (first | (intro ex hex; (first | have hq := hg1 (by omega) hex | have hq := hg2 (by omega) hex); subst hq; clear hex) | (refine Ev.go ?_; conv => whnf) | refine And.intro ?_ ?_ | exact True.intro | exact rfl | (intro rx hrx; rw [ij _ (by omega)] at hrx) | (intro hcx; exfalso; omega) | intro _))
  all_goals (first | (refine ⟨?_⟩; exact vc) | exact cl | skip)
  refine TSq.pub2 0 ?_
  (repeat' (first | (intro ex hex; (first | have hq := hg1 (by omega) hex | have hq := hg2 (by omega) hex); subst hq; clear hex) | (refine Ev.go ?_; conv => whnf) | refine And.intro ?_ ?_ | exact True.intro | exact rfl | (intro rx hrx; rw [ij _ (by omega)] at hrx) | (intro hcx; exfalso; omega) | intro _))
  all_goals (first | (refine ⟨?_⟩; exact vc) | exact cl | skip)
  all_goals (try (refine ⟨?_⟩; simp [chunks, cloL, clo]; done))
  refine TSq.pub2 1 ?_
  (repeat' (first | (intro ex hex; (first | have hq := hg1 (by omega) hex | have hq := hg2 (by omega) hex); subst hq; clear hex) | (refine Ev.go ?_; conv => whnf) | refine And.intro ?_ ?_ | exact True.intro | exact rfl | (intro rx hrx; rw [ij _ (by omega)] at hrx) | (intro hcx; exfalso; omega) | intro _))
  all_goals (first | (refine ⟨?_⟩; exact vc) | exact cl | skip)
  all_goals (try (refine ⟨?_⟩; simp [chunks, cloL, clo]; done))
  refine TSq.pub2 2 ?_
  (repeat' (first | (intro ex hex; (first | have hq := hg1 (by omega) hex | have hq := hg2 (by omega) hex); subst hq; clear hex) | (refine Ev.go ?_; conv => whnf) | refine And.intro ?_ ?_ | exact True.intro | exact rfl | (intro rx hrx; rw [ij _ (by omega)] at hrx) | (intro hcx; exfalso; omega) | intro _))
  all_goals (first | (refine ⟨?_⟩; exact vc) | exact cl | skip)
  all_goals (try (refine ⟨?_⟩; simp [chunks, cloL, clo]; done))
  refine TSq.pub2 3 ?_
  (repeat' (first | (intro ex hex; (first | have hq := hg1 (by omega) hex | have hq := hg2 (by omega) hex); subst hq; clear hex) | (refine Ev.go ?_; conv => whnf) | refine And.intro ?_ ?_ | exact True.intro | exact rfl | (intro rx hrx; rw [ij _ (by omega)] at hrx) | (intro hcx; exfalso; omega) | intro _))
  all_goals (first | (refine ⟨?_⟩; exact vc) | exact cl | skip)
  all_goals (try (refine ⟨?_⟩; simp [chunks, cloL, clo]; done))
  refine TSq.pub2 4 ?_
  (repeat' (first | (intro ex hex; (first | have hq := hg1 (by omega) hex | have hq := hg2 (by omega) hex); subst hq; clear hex) | (refine Ev.go ?_; conv => whnf) | refine And.intro ?_ ?_ | exact True.intro | exact rfl | (intro rx hrx; rw [ij _ (by omega)] at hrx) | (intro hcx; exfalso; omega) | intro _))
  all_goals (first | (refine ⟨?_⟩; exact vc) | exact cl | skip)
  all_goals (try (refine ⟨?_⟩; simp [chunks, cloL, clo]; done))
  refine TSq.pub2 5 ?_
  (repeat' (first | (intro ex hex; (first | have hq := hg1 (by omega) hex | have hq := hg2 (by omega) hex); subst hq; clear hex) | (refine Ev.go ?_; conv => whnf) | refine And.intro ?_ ?_ | exact True.intro | exact rfl | (intro rx hrx; rw [ij _ (by omega)] at hrx) | (intro hcx; exfalso; omega) | intro _))
  all_goals (first | (refine ⟨?_⟩; exact vc) | exact cl | skip)
  all_goals (try (refine ⟨?_⟩; simp [chunks, cloL, clo]; done))
  refine TSq.pub2 6 ?_
  (repeat' (first | (intro ex hex; (first | have hq := hg1 (by omega) hex | have hq := hg2 (by omega) hex); subst hq; clear hex) | (refine Ev.go ?_; conv => whnf) | refine And.intro ?_ ?_ | exact True.intro | exact rfl | (intro rx hrx; rw [ij _ (by omega)] at hrx) | (intro hcx; exfalso; omega) | intro _))
  all_goals (first | (refine ⟨?_⟩; exact vc) | exact cl | skip)
  all_goals (try (refine ⟨?_⟩; simp [chunks, cloL, clo]; done))
  refine TSq.pureQ rfl d1 (by simp [cloL, encCas_clo]) rfl (And.intro rfl rfl) ?_
  rintro s ⟨outs, lo, hi, q1, q2, rfl⟩ _
  obtain ⟨rfl, rfl⟩ := awardEx q1 q2
  (repeat' (first | (intro ex hex; (first | have hq := hg1 (by omega) hex | have hq := hg2 (by omega) hex); subst hq; clear hex) | (refine Ev.go ?_; conv => whnf) | refine And.intro ?_ ?_ | exact True.intro | exact rfl | (intro rx hrx; rw [ij _ (by omega)] at hrx) | (intro hcx; exfalso; omega) | intro _))
  all_goals (first | (refine ⟨?_⟩; exact vc) | exact cl | skip)
  refine TSq.pub2 8 ?_
  (repeat' (first | (intro ex hex; (first | have hq := hg1 (by omega) hex | have hq := hg2 (by omega) hex); subst hq; clear hex) | (refine Ev.go ?_; conv => whnf) | refine And.intro ?_ ?_ | exact True.intro | exact rfl | (intro rx hrx; rw [ij _ (by omega)] at hrx) | (intro hcx; exfalso; omega) | intro _))
  all_goals (first | (refine ⟨?_⟩; exact vc) | exact cl | skip)
  all_goals (try (refine ⟨?_⟩; simp [chunks, cloL, clo]; done))
  refine TSq.pureC d3 (by simp [cloL, clo]) rfl (And.intro rfl rfl) ?_
  (repeat' (first | (intro ex hex; (first | have hq := hg1 (by omega) hex | have hq := hg2 (by omega) hex); subst hq; clear hex) | (refine Ev.go ?_; conv => whnf) | refine And.intro ?_ ?_ | exact True.intro | exact rfl | (intro rx hrx; rw [ij _ (by omega)] at hrx) | (intro hcx; exfalso; omega) | intro _))
  all_goals (first | (refine ⟨?_⟩; exact vc) | exact cl | skip)
  all_goals (first | rfl | (rename_i hne; exact absurd rfl hne))
end Go.Proofs.YtjadiajfbflghaaGreat
