/- Lists of members. -/
import Derived.Test.YthnaamkempmjkaaKl
set_option linter.unusedSimpArgs false
set_option linter.unusedVariables false
open Go Go.TV
namespace Go.Proofs.Ythnaamkempmjkaa

/-- A list that increases, from a number on. -/
def incr : Int → List Int → Bool
  | _, [] => true
  | a, x :: l => decide (a < x) && incr x l
def lastO (a : Int) : List Int → Int
  | [] => a
  | x :: l => lastO x l
theorem incr_append : ∀ {a : Int} {l m : List Int}, incr a (l ++ m) = (incr a l && incr (lastO a l) m)
  | a, [], m => by simp [incr, lastO]
  | a, x :: l, m => by simp [incr, lastO, incr_append, Bool.and_assoc]
theorem lastO_append : ∀ {a x : Int} {l : List Int}, lastO a (l ++ [x]) = x
  | a, x, [] => rfl
  | a, x, y :: l => by simp only [List.cons_append, lastO, lastO_append]
theorem incr_false {a : Int} {l : List Int} {k : Nat} {x : Int} (h : l[k]? = some x) (hf : ¬ lastO a (l.take k) < x) : incr a l = false := by
  have e : l = l.take k ++ x :: l.drop (k + 1) := by
    obtain ⟨hk, hx⟩ := List.getElem?_eq_some_iff.1 h
    rw [← hx, List.getElem_cons_drop, List.take_append_drop]
  rw [e, incr_append]
  simp [incr, hf]
theorem incr_iff : ∀ {a : Int} {l : List Int}, incr a l = true ↔ ((∀ x ∈ l, a < x) ∧ l.Pairwise (· < ·))
  | a, [] => by simp [incr]
  | a, x :: l => by
    simp only [incr, Bool.and_eq_true, decide_eq_true_eq, incr_iff (a := x) (l := l), List.mem_cons, forall_eq_or_imp, List.pairwise_cons]
    constructor
    · rintro ⟨h1, h2, h3⟩; exact ⟨⟨h1, fun y hy => Int.lt_trans h1 (h2 y hy)⟩, h2, h3⟩
    · rintro ⟨⟨h1, _⟩, h2, h3⟩; exact ⟨h1, h2, h3⟩
def memb (s : Soc) (n : Int) : Bool := within n 0 (s.members.length - 1)
theorem listed_incr {s : Soc} {l : List Int} : s.listed l = (l.all (memb s) && incr (-1) l) := by
  rw [Bool.eq_iff_iff]
  simp only [Soc.listed, Bool.and_eq_true, List.all_eq_true, decide_eq_true_eq, incr_iff, memb]
  constructor
  · rintro ⟨h1, h2⟩
    refine ⟨h1, fun x hx => ?_, h2⟩
    have := h1 x hx; simp only [within, decide_eq_true_eq] at this; omega
  · rintro ⟨h1, _, h2⟩; exact ⟨h1, h2⟩
def notM (s : Soc) : SV := .fn 97 [] [.iptr (.agg [.fn 85 [encSoc s] []]) 0]
theorem c97 (s : Soc) (n : Int) (h : s.members.length ≤ 1000000) : PF Try.prog 97 [.int .i64 n, .iptr (.agg [.fn 85 [encSoc s] []]) 0] (· = .bool (!memb s n)) := by
  refine PF.of (TF.ev fn_97 (Ev.at ?_))
  (repeat' (first | (refine Ev.go ?_; conv => whnf) | refine And.intro ?_ ?_ | exact True.intro | exact rfl | (intro rx hrx; rw [IntWalk.i64_in _ (by omega)] at hrx) | (intro hcx; exfalso; omega) | (intro hcx; exfalso; simp only [lz] at hcx; omega) | intro _))
  refine TSq.pureBC (c85 s n h) cl rfl (And.intro rfl rfl) ?_ ?_
  all_goals ((repeat' (first | (refine Ev.go ?_; conv => whnf) | refine And.intro ?_ ?_ | exact True.intro | exact rfl | (intro rx hrx; rw [IntWalk.i64_in _ (by omega)] at hrx) | (intro hcx; exfalso; omega) | (intro hcx; exfalso; simp only [lz] at hcx; omega) | intro _)); rw [SV.bool_iff]; simp_all [memb])
theorem c103 (s : Soc) (l : List Int) (hlen : l.length ≤ 1000000) (h : s.members.length ≤ 1000000) : PF Try.prog 103 [.sl 1 (ints l), notM s] fun v => ∃ i : Int, v = .int .i64 i ∧ (0 ≤ i ↔ l.any (fun y => !memb s y) = true) := by
  have hz := ints_len l
  refine PF.of (TF.ev fn_103 (Ev.at ?_))
  (repeat' (first | (refine Ev.go ?_; conv => whnf) | refine And.intro ?_ ?_ | exact True.intro | exact rfl | (intro rx hrx; rw [IntWalk.i64_in _ (by omega)] at hrx) | (intro hcx; exfalso; omega) | (intro hcx; exfalso; simp only [lz] at hcx; omega) | (intro ex hex; (first | obtain ⟨xx, hxx, rfl⟩ := ints_at hex | obtain ⟨xx, hxx, rfl⟩ := encYs_at hex | obtain ⟨xx, hxx, rfl⟩ := encRs_at hex); clear hex; try simp only [Int.toNat_natCast] at hxx) | intro _))
  refine TWq.loop (fun k : Nat => [(8, .int .i64 k)]) (fun _ => []) (fun k => k ≤ l.length ∧ (l.take k).any (fun y => !memb s y) = false) (fun k => l.length - k) 0 [] [] ?_ ⟨by omega, by simp⟩ ?_
  · (repeat' (first | (refine Ev.go ?_; conv => whnf) | refine And.intro ?_ ?_ | exact True.intro | exact rfl | (intro rx hrx; rw [IntWalk.i64_in _ (by omega)] at hrx) | (intro hcx; exfalso; omega) | (intro hcx; exfalso; simp only [lz] at hcx; omega) | (intro ex hex; (first | obtain ⟨xx, hxx, rfl⟩ := ints_at hex | obtain ⟨xx, hxx, rfl⟩ := encYs_at hex | obtain ⟨xx, hxx, rfl⟩ := encRs_at hex); clear hex; try simp only [Int.toNat_natCast] at hxx) | intro _))
    all_goals (first | (refine ⟨?_⟩; exact vc) | exact cl | skip)
  · rintro k ⟨hk1, hk2⟩
    (repeat' (first | (refine Ev.go ?_; conv => whnf) | refine And.intro ?_ ?_ | exact True.intro | exact rfl | (intro rx hrx; rw [IntWalk.i64_in _ (by omega)] at hrx) | (intro hcx; exfalso; omega) | (intro hcx; exfalso; simp only [lz] at hcx; omega) | (intro ex hex; (first | obtain ⟨xx, hxx, rfl⟩ := ints_at hex | obtain ⟨xx, hxx, rfl⟩ := encYs_at hex | obtain ⟨xx, hxx, rfl⟩ := encRs_at hex); clear hex; try simp only [Int.toNat_natCast] at hxx) | intro _))
    all_goals (try (refine ⟨?_⟩; first | omega | exact List.cons_ne_nil _ _ | (show (_ : Nat) * _ ≤ _; simp [catS, repl, chunks, ints_len, encYs_len] <;> omega)))
    · refine TSq.pureBC (c97 s _ h) cl rfl (And.intro rfl rfl) ?_ ?_
      · (repeat' (first | (refine Ev.go ?_; conv => whnf) | refine And.intro ?_ ?_ | exact True.intro | exact rfl | (intro rx hrx; rw [IntWalk.i64_in _ (by omega)] at hrx) | (intro hcx; exfalso; omega) | (intro hcx; exfalso; simp only [lz] at hcx; omega) | (intro ex hex; (first | obtain ⟨xx, hxx, rfl⟩ := ints_at hex | obtain ⟨xx, hxx, rfl⟩ := encYs_at hex | obtain ⟨xx, hxx, rfl⟩ := encRs_at hex); clear hex; try simp only [Int.toNat_natCast] at hxx) | intro _))
        exact ⟨k, rfl, by have := any_of_get hxx (p := fun y => !memb s y) (by assumption); simp only [this, iff_true]; omega⟩
      · (repeat' (first | (refine Ev.go ?_; conv => whnf) | refine And.intro ?_ ?_ | exact True.intro | exact rfl | (intro rx hrx; rw [IntWalk.i64_in _ (by omega)] at hrx) | (intro hcx; exfalso; omega) | (intro hcx; exfalso; simp only [lz] at hcx; omega) | (intro ex hex; (first | obtain ⟨xx, hxx, rfl⟩ := ints_at hex | obtain ⟨xx, hxx, rfl⟩ := encYs_at hex | obtain ⟨xx, hxx, rfl⟩ := encRs_at hex); clear hex; try simp only [Int.toNat_natCast] at hxx) | intro _))
        all_goals (try (refine ⟨?_⟩; first | omega | exact List.cons_ne_nil _ _ | (show (_ : Nat) * _ ≤ _; simp [catS, repl, chunks, ints_len, encYs_len] <;> omega)))
        refine ⟨k + 1, ⟨by omega, ?_⟩, by omega, ?_⟩
        · rw [take_snoc hxx]; simp_all
        · (repeat' (first | (refine Ev.go ?_; conv => whnf) | refine And.intro ?_ ?_ | exact True.intro | exact rfl | (intro rx hrx; rw [IntWalk.i64_in _ (by omega)] at hrx) | (intro hcx; exfalso; omega) | (intro hcx; exfalso; simp only [lz] at hcx; omega) | (intro ex hex; (first | obtain ⟨xx, hxx, rfl⟩ := ints_at hex | obtain ⟨xx, hxx, rfl⟩ := encYs_at hex | obtain ⟨xx, hxx, rfl⟩ := encRs_at hex); clear hex; try simp only [Int.toNat_natCast] at hxx) | intro _))
          all_goals (first | (refine ⟨?_⟩; exact vc) | exact cl | skip)
    · have : k = l.length := by omega
      subst this
      rw [List.take_length] at hk2
      exact ⟨-1, rfl, by simp only [hk2]; simp⟩
theorem c96 (s : Soc) (l : List Int) (hlen : l.length ≤ 1000000) (h : s.members.length ≤ 1000000) : PF Try.prog 96 [.sl 1 (ints l), notM s] (· = .bool (l.any fun y => !memb s y)) := by
  refine PF.of (TF.ev fn_96 (Ev.at ?_))
  (repeat' (first | (refine Ev.go ?_; conv => whnf) | refine And.intro ?_ ?_ | exact True.intro | exact rfl | (intro rx hrx; rw [IntWalk.i64_in _ (by omega)] at hrx) | (intro hcx; exfalso; omega) | (intro hcx; exfalso; simp only [lz] at hcx; omega) | intro _))
  refine TSq.pureQ rfl (c103 s l hlen h) (by simp [cloL, clo, notM, encSoc, ints_clo, encYs_clo, encRs_clo]) rfl (And.intro rfl rfl) ?_
  rintro v ⟨i, rfl, hi⟩ _
  (repeat' (first | (refine Ev.go ?_; conv => whnf) | refine And.intro ?_ ?_ | exact True.intro | exact rfl | (intro rx hrx; rw [IntWalk.i64_in _ (by omega)] at hrx) | (intro hcx; exfalso; omega) | (intro hcx; exfalso; simp only [lz] at hcx; omega) | intro _))
  all_goals (rw [SV.bool_iff]; rw [← hi]; simp; omega)
theorem c86 (s : Soc) (l : List Int) (hlen : l.length ≤ 1000000) (h : s.members.length ≤ 1000000) : PF Try.prog 86 [.sl 1 (ints l), .fn 85 [encSoc s] []] (· = .bool (l.all (memb s))) := by
  refine PF.of (TF.ev fn_86 (Ev.at ?_))
  (repeat' (first | (refine Ev.go ?_; conv => whnf) | refine And.intro ?_ ?_ | exact True.intro | exact rfl | (intro rx hrx; rw [IntWalk.i64_in _ (by omega)] at hrx) | (intro hcx; exfalso; omega) | (intro hcx; exfalso; simp only [lz] at hcx; omega) | intro _))
  refine TSq.lendBC (c96 s l hlen h) rfl (And.intro rfl ?_) ?_ ?_
  · (repeat' (first | (refine Ev.go ?_; conv => whnf) | refine And.intro ?_ ?_ | exact True.intro | exact rfl | (intro rx hrx; rw [IntWalk.i64_in _ (by omega)] at hrx) | (intro hcx; exfalso; omega) | (intro hcx; exfalso; simp only [lz] at hcx; omega) | intro _))
  all_goals ((repeat' (first | (refine Ev.go ?_; conv => whnf) | refine And.intro ?_ ?_ | exact True.intro | exact rfl | (intro rx hrx; rw [IntWalk.i64_in _ (by omega)] at hrx) | (intro hcx; exfalso; omega) | (intro hcx; exfalso; simp only [lz] at hcx; omega) | intro _)); rw [SV.bool_iff]; simp_all [List.all_eq_not_any_not])
set_option maxRecDepth 100000 in
theorem c67 (s : Soc) (l : List Int) (hlen : l.length ≤ 1000000) (h : s.members.length ≤ 1000000) : PF Try.prog 67 [encSoc s, .sl 1 (ints l)] (· = .bool (s.listed l)) := by
  have hz := ints_len l
  rw [listed_incr]
  refine PF.of (TF.ev fn_67 (Ev.at ?_))
  (repeat' (first | (refine Ev.go ?_; conv => whnf) | refine And.intro ?_ ?_ | exact True.intro | exact rfl | (intro rx hrx; rw [IntWalk.i64_in _ (by omega)] at hrx) | (intro hcx; exfalso; omega) | (intro hcx; exfalso; simp only [lz] at hcx; omega) | (intro ex hex; (first | obtain ⟨xx, hxx, rfl⟩ := ints_at hex | obtain ⟨xx, hxx, rfl⟩ := encYs_at hex | obtain ⟨xx, hxx, rfl⟩ := encRs_at hex); clear hex; try simp only [Int.toNat_natCast] at hxx) | intro _))
  refine TSq.pureBC (c86 s l hlen h) cl rfl (And.intro rfl rfl) ?_ ?_
  · intro hall
    (repeat' (first | (refine Ev.go ?_; conv => whnf) | refine And.intro ?_ ?_ | exact True.intro | exact rfl | (intro rx hrx; rw [IntWalk.i64_in _ (by omega)] at hrx) | (intro hcx; exfalso; omega) | (intro hcx; exfalso; simp only [lz] at hcx; omega) | (intro ex hex; (first | obtain ⟨xx, hxx, rfl⟩ := ints_at hex | obtain ⟨xx, hxx, rfl⟩ := encYs_at hex | obtain ⟨xx, hxx, rfl⟩ := encRs_at hex); clear hex; try simp only [Int.toNat_natCast] at hxx) | intro _))
    refine TSq.callT rfl rfl (calleeK_const (And.intro rfl rfl) (TF.ev fn_86 (Ev.at ?_)))
    (repeat' (first | (refine Ev.go ?_; conv => whnf) | refine And.intro ?_ ?_ | exact True.intro | exact rfl | (intro rx hrx; rw [IntWalk.i64_in _ (by omega)] at hrx) | (intro hcx; exfalso; omega) | (intro hcx; exfalso; simp only [lz] at hcx; omega) | (intro ex hex; (first | obtain ⟨xx, hxx, rfl⟩ := ints_at hex | obtain ⟨xx, hxx, rfl⟩ := encYs_at hex | obtain ⟨xx, hxx, rfl⟩ := encRs_at hex); clear hex; try simp only [Int.toNat_natCast] at hxx) | intro _))
    refine TSq.callT rfl rfl (calleeK_const (And.intro rfl rfl) (TF.ev fn_96 (Ev.at ?_)))
    (repeat' (first | (refine Ev.go ?_; conv => whnf) | refine And.intro ?_ ?_ | exact True.intro | exact rfl | (intro rx hrx; rw [IntWalk.i64_in _ (by omega)] at hrx) | (intro hcx; exfalso; omega) | (intro hcx; exfalso; simp only [lz] at hcx; omega) | (intro ex hex; (first | obtain ⟨xx, hxx, rfl⟩ := ints_at hex | obtain ⟨xx, hxx, rfl⟩ := encYs_at hex | obtain ⟨xx, hxx, rfl⟩ := encRs_at hex); clear hex; try simp only [Int.toNat_natCast] at hxx) | intro _))
    refine TSq.callT rfl rfl (calleeK_const (And.intro rfl rfl) (TF.ev fn_103 (Ev.at ?_)))
    (repeat' (first | (refine Ev.go ?_; conv => whnf) | refine And.intro ?_ ?_ | exact True.intro | exact rfl | (intro rx hrx; rw [IntWalk.i64_in _ (by omega)] at hrx) | (intro hcx; exfalso; omega) | (intro hcx; exfalso; simp only [lz] at hcx; omega) | (intro ex hex; (first | obtain ⟨xx, hxx, rfl⟩ := ints_at hex | obtain ⟨xx, hxx, rfl⟩ := encYs_at hex | obtain ⟨xx, hxx, rfl⟩ := encRs_at hex); clear hex; try simp only [Int.toNat_natCast] at hxx) | intro _))
    refine TWq.loop (fun k : Nat => [(8, .int .i64 k)]) (fun k => [(1, .cells [.int .i64 (lastO (-1) (l.take k))])]) (fun k => k ≤ l.length ∧ incr (-1) (l.take k) = true) (fun k => l.length - k) 0 [] [] ?_ ⟨by omega, by simp [incr]⟩ ?_
    · (repeat' (first | (refine Ev.go ?_; conv => whnf) | refine And.intro ?_ ?_ | exact True.intro | exact rfl | (intro rx hrx; rw [IntWalk.i64_in _ (by omega)] at hrx) | (intro hcx; exfalso; omega) | (intro hcx; exfalso; simp only [lz] at hcx; omega) | (intro ex hex; (first | obtain ⟨xx, hxx, rfl⟩ := ints_at hex | obtain ⟨xx, hxx, rfl⟩ := encYs_at hex | obtain ⟨xx, hxx, rfl⟩ := encRs_at hex); clear hex; try simp only [Int.toNat_natCast] at hxx) | intro _))
      all_goals (first | (refine ⟨?_⟩; exact vc) | exact cl | skip)
    · rintro k ⟨hk1, hk2⟩
      (repeat' (first | (refine Ev.go ?_; conv => whnf) | refine And.intro ?_ ?_ | exact True.intro | exact rfl | (intro rx hrx; rw [IntWalk.i64_in _ (by omega)] at hrx) | (intro hcx; exfalso; omega) | (intro hcx; exfalso; simp only [lz] at hcx; omega) | (intro ex hex; (first | obtain ⟨xx, hxx, rfl⟩ := ints_at hex | obtain ⟨xx, hxx, rfl⟩ := encYs_at hex | obtain ⟨xx, hxx, rfl⟩ := encRs_at hex); clear hex; try simp only [Int.toNat_natCast] at hxx) | intro _))
      all_goals (try (refine ⟨?_⟩; first | omega | exact List.cons_ne_nil _ _ | (show (_ : Nat) * _ ≤ _; simp [catS, repl, chunks, ints_len, encYs_len] <;> omega)))
      · refine TSq.callT rfl rfl (calleeK_const (And.intro rfl rfl) (TF.ev fn_97 (Ev.at ?_)))
        (repeat' (first | (refine Ev.go ?_; conv => whnf) | refine And.intro ?_ ?_ | exact True.intro | exact rfl | (intro rx hrx; rw [IntWalk.i64_in _ (by omega)] at hrx) | (intro hcx; exfalso; omega) | (intro hcx; exfalso; simp only [lz] at hcx; omega) | (intro ex hex; (first | obtain ⟨xx, hxx, rfl⟩ := ints_at hex | obtain ⟨xx, hxx, rfl⟩ := encYs_at hex | obtain ⟨xx, hxx, rfl⟩ := encRs_at hex); clear hex; try simp only [Int.toNat_natCast] at hxx) | intro _))
        refine TSq.callT rfl rfl (calleeK_const (And.intro rfl rfl) (TF.ev fn_87 (Ev.at ?_)))
        (repeat' (first | (refine Ev.go ?_; conv => whnf) | refine And.intro ?_ ?_ | exact True.intro | exact rfl | (intro rx hrx; rw [IntWalk.i64_in _ (by omega)] at hrx) | (intro hcx; exfalso; omega) | (intro hcx; exfalso; simp only [lz] at hcx; omega) | (intro ex hex; (first | obtain ⟨xx, hxx, rfl⟩ := ints_at hex | obtain ⟨xx, hxx, rfl⟩ := encYs_at hex | obtain ⟨xx, hxx, rfl⟩ := encRs_at hex); clear hex; try simp only [Int.toNat_natCast] at hxx) | intro _))
        · all_goals (try (refine ⟨?_⟩; first | omega | exact List.cons_ne_nil _ _ | (show (_ : Nat) * _ ≤ _; simp [catS, repl, chunks, ints_len, encYs_len] <;> omega)))
          refine ⟨k + 1, ⟨by omega, ?_⟩, by omega, ?_⟩
          · rw [take_snoc hxx, incr_append]; simp_all [incr]
          · (repeat' (first | (refine Ev.go ?_; conv => whnf) | refine And.intro ?_ ?_ | exact True.intro | exact rfl | (intro rx hrx; rw [IntWalk.i64_in _ (by omega)] at hrx) | (intro hcx; exfalso; omega) | (intro hcx; exfalso; simp only [lz] at hcx; omega) | (intro ex hex; (first | obtain ⟨xx, hxx, rfl⟩ := ints_at hex | obtain ⟨xx, hxx, rfl⟩ := encYs_at hex | obtain ⟨xx, hxx, rfl⟩ := encRs_at hex); clear hex; try simp only [Int.toNat_natCast] at hxx) | intro _))
            all_goals (first | (refine ⟨?_⟩; exact vc) | exact cl | skip)
            all_goals (refine ⟨?_⟩; rw [take_snoc hxx, lastO_append])
        · have hU : incr (-1) l = false := incr_false hxx (by omega)
          (repeat' (first | (refine Ev.go ?_; conv => whnf) | refine And.intro ?_ ?_ | exact True.intro | exact rfl | (intro rx hrx; rw [IntWalk.i64_in _ (by omega)] at hrx) | (intro hcx; exfalso; omega) | (intro hcx; exfalso; simp only [lz] at hcx; omega) | (intro ex hex; (first | obtain ⟨xx, hxx, rfl⟩ := ints_at hex | obtain ⟨xx, hxx, rfl⟩ := encYs_at hex | obtain ⟨xx, hxx, rfl⟩ := encRs_at hex); clear hex; try simp only [Int.toNat_natCast] at hxx) | intro _))
          all_goals (rw [SV.bool_iff]; simp only [hU]; simp)
      all_goals
        have : k = l.length := by omega
        subst this
        rw [List.take_length] at hk2
        rw [SV.bool_iff]; simp [hall, hk2]
  · intro hall
    (repeat' (first | (refine Ev.go ?_; conv => whnf) | refine And.intro ?_ ?_ | exact True.intro | exact rfl | (intro rx hrx; rw [IntWalk.i64_in _ (by omega)] at hrx) | (intro hcx; exfalso; omega) | (intro hcx; exfalso; simp only [lz] at hcx; omega) | (intro ex hex; (first | obtain ⟨xx, hxx, rfl⟩ := ints_at hex | obtain ⟨xx, hxx, rfl⟩ := encYs_at hex | obtain ⟨xx, hxx, rfl⟩ := encRs_at hex); clear hex; try simp only [Int.toNat_natCast] at hxx) | intro _))
    rw [SV.bool_iff]; simp [hall]
theorem c67n (s : Soc) (h : s.members.length ≤ 1000000) : PF Try.prog 67 [encSoc s, .nils] (· = .bool true) := by
  refine PF.of (TF.ev fn_67 (Ev.at ?_))
  (repeat' (first | (refine Ev.go ?_; conv => whnf) | refine And.intro ?_ ?_ | exact True.intro | exact rfl | (intro rx hrx; rw [IntWalk.i64_in _ (by omega)] at hrx) | (intro hcx; exfalso; omega) | (intro hcx; exfalso; simp only [lz] at hcx; omega) | intro _))
  refine TSq.callT rfl rfl (calleeK_const (And.intro rfl rfl) (TF.ev fn_86 (Ev.at ?_)))
  (repeat' (first | (refine Ev.go ?_; conv => whnf) | refine And.intro ?_ ?_ | exact True.intro | exact rfl | (intro rx hrx; rw [IntWalk.i64_in _ (by omega)] at hrx) | (intro hcx; exfalso; omega) | (intro hcx; exfalso; simp only [lz] at hcx; omega) | intro _))
  refine TSq.callT rfl rfl (calleeK_const (And.intro rfl rfl) (TF.ev fn_96 (Ev.at ?_)))
  (repeat' (first | (refine Ev.go ?_; conv => whnf) | refine And.intro ?_ ?_ | exact True.intro | exact rfl | (intro rx hrx; rw [IntWalk.i64_in _ (by omega)] at hrx) | (intro hcx; exfalso; omega) | (intro hcx; exfalso; simp only [lz] at hcx; omega) | intro _))
  refine TSq.callT rfl rfl (calleeK_const (And.intro rfl rfl) (TF.ev fn_103 (Ev.at ?_)))
  (repeat' (first | (refine Ev.go ?_; conv => whnf) | refine And.intro ?_ ?_ | exact True.intro | exact rfl | (intro rx hrx; rw [IntWalk.i64_in _ (by omega)] at hrx) | (intro hcx; exfalso; omega) | (intro hcx; exfalso; simp only [lz] at hcx; omega) | intro _))
  refine TWq.loop (fun k : Nat => [(8, .int .i64 0)]) (fun _ => []) (fun _ => True) (fun k => k) 0 [] [] ?_ True.intro ?_
  · (repeat' (first | (refine Ev.go ?_; conv => whnf) | refine And.intro ?_ ?_ | exact True.intro | exact rfl | (intro rx hrx; rw [IntWalk.i64_in _ (by omega)] at hrx) | (intro hcx; exfalso; omega) | (intro hcx; exfalso; simp only [lz] at hcx; omega) | intro _))
    all_goals (first | (refine ⟨?_⟩; exact vc) | exact cl | skip)
  rintro k _
  (repeat' (first | (refine Ev.go ?_; conv => whnf) | refine And.intro ?_ ?_ | exact True.intro | exact rfl | (intro rx hrx; rw [IntWalk.i64_in _ (by omega)] at hrx) | (intro hcx; exfalso; omega) | (intro hcx; exfalso; simp only [lz] at hcx; omega) | intro _))
  refine TSq.callT rfl rfl (calleeK_const (And.intro rfl rfl) (TF.ev fn_86 (Ev.at ?_)))
  (repeat' (first | (refine Ev.go ?_; conv => whnf) | refine And.intro ?_ ?_ | exact True.intro | exact rfl | (intro rx hrx; rw [IntWalk.i64_in _ (by omega)] at hrx) | (intro hcx; exfalso; omega) | (intro hcx; exfalso; simp only [lz] at hcx; omega) | intro _))
  refine TSq.callT rfl rfl (calleeK_const (And.intro rfl rfl) (TF.ev fn_96 (Ev.at ?_)))
  (repeat' (first | (refine Ev.go ?_; conv => whnf) | refine And.intro ?_ ?_ | exact True.intro | exact rfl | (intro rx hrx; rw [IntWalk.i64_in _ (by omega)] at hrx) | (intro hcx; exfalso; omega) | (intro hcx; exfalso; simp only [lz] at hcx; omega) | intro _))
  refine TSq.callT rfl rfl (calleeK_const (And.intro rfl rfl) (TF.ev fn_103 (Ev.at ?_)))
  (repeat' (first | (refine Ev.go ?_; conv => whnf) | refine And.intro ?_ ?_ | exact True.intro | exact rfl | (intro rx hrx; rw [IntWalk.i64_in _ (by omega)] at hrx) | (intro hcx; exfalso; omega) | (intro hcx; exfalso; simp only [lz] at hcx; omega) | intro _))
  refine TWq.loop (fun k : Nat => [(8, .int .i64 0)]) (fun _ => []) (fun _ => True) (fun k => k) 0 [] [] ?_ True.intro ?_
  · (repeat' (first | (refine Ev.go ?_; conv => whnf) | refine And.intro ?_ ?_ | exact True.intro | exact rfl | (intro rx hrx; rw [IntWalk.i64_in _ (by omega)] at hrx) | (intro hcx; exfalso; omega) | (intro hcx; exfalso; simp only [lz] at hcx; omega) | intro _))
    all_goals (first | (refine ⟨?_⟩; exact vc) | exact cl | skip)
  rintro k _
  (repeat' (first | (refine Ev.go ?_; conv => whnf) | refine And.intro ?_ ?_ | exact True.intro | exact rfl | (intro rx hrx; rw [IntWalk.i64_in _ (by omega)] at hrx) | (intro hcx; exfalso; omega) | (intro hcx; exfalso; simp only [lz] at hcx; omega) | intro _))
end Go.Proofs.Ythnaamkempmjkaa
