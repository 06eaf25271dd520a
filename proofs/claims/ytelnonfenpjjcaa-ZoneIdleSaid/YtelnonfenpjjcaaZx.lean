/- The document's lists of kinds. -/
import Derived.Test.YtelnonfenpjjcaaZq
import Derived.Test.YtelnonfenpjjcaaMe4
set_option linter.unusedSimpArgs false
set_option linter.unusedVariables false
open Go Go.TV
namespace Go.Proofs.Ytelnonfenpjjcaa

theorem rkind_lt (r : Rule) (y : Year) (l p : Int) : rkind r y l p = 0 ∨ rkind r y l p = 1 ∨ rkind r y l p = 2 ∨ rkind r y l p = 3 := by
  unfold rkind; repeat' split
  all_goals simp
def rseen (r : Rule) (y : Year) (k : Int) : Bool := (every y.l).any fun l => (every y.p).any fun p => rkind r y l p == k
def rseenR (r : Rule) (y : Year) (i : Nat) (k : Int) : Bool := ((every y.l).take i).any fun l => (every y.p).any fun p => rkind r y l p == k
def rseenC (r : Rule) (y : Year) (i : Nat) (l : Int) (j : Nat) (k : Int) : Bool := rseenR r y i k || ((every y.p).take j).any fun p => rkind r y l p == k
theorem rseenC_succ {r : Rule} {y : Year} {i : Nat} {l p : Int} {j : Nat} (h : (every y.p)[j]? = some p) (k : Int) : rseenC r y i l (j + 1) k = (rseenC r y i l j k || rkind r y l p == k) := by
  simp [rseenC, take_snoc h, Bool.or_assoc]
theorem rseenR_succ {r : Rule} {y : Year} {i : Nat} {l : Int} (h : (every y.l)[i]? = some l) (k : Int) : rseenR r y (i + 1) k = rseenC r y i l (every y.p).length k := by
  simp [rseenR, rseenC, take_snoc h]
theorem rseenR_all (r : Rule) (y : Year) (k : Int) : rseenR r y (every y.l).length k = rseen r y k := by simp [rseenR, rseen]
def flR (f : Int → Bool) : List SV := [.bool (f 0), .bool (f 1), .bool (f 2), .bool (f 3)]

set_option maxHeartbeats 4000000 in
set_option maxRecDepth 100000 in
theorem c61 (r : Rule) (y : Year) (hy : OkY r y) : PF Try.prog 61 [encRule r, encY y] (· = .agg (flR (rseen r y))) := by
  have hlenL : (every y.l).length = (y.l.hi - y.l.lo + 1).toNat := by simp [every]
  have hlenP : (every y.p).length = (y.p.hi - y.p.lo + 1).toNat := by simp [every]
  have hgL : ∀ k : Nat, k < (y.l.hi - y.l.lo + 1).toNat → (every y.l)[k]? = some (y.l.lo + k) := fun k hk => by simp [every, List.getElem?_map, List.getElem?_range hk]
  have hgP : ∀ k : Nat, k < (y.p.hi - y.p.lo + 1).toNat → (every y.p)[k]? = some (y.p.lo + k) := fun k hk => by simp [every, List.getElem?_map, List.getElem?_range hk]
  obtain ⟨l1, l2, l3, p1, p2, p3, g1, g2, b1, b2⟩ := hy
  refine PF.of (TF.ev fn_61 (Ev.at ?_))
  (repeat' (first | (refine Ev.go ?_; conv => whnf) | refine And.intro ?_ ?_ | exact True.intro | exact rfl | (intro rx hrx; rw [IntWalk.i64_in _ (by omega)] at hrx) | (intro hcx; exfalso; omega) | (intro hcx; exfalso; simp only [ints_len, encYs_len] at hcx; omega) | (intro ex hex; (first | obtain ⟨xx, hxx, rfl⟩ := ints_at hex | obtain ⟨xx, hxx, rfl⟩ := encYs_at hex | obtain ⟨xx, hxx, rfl⟩ := encYs_cut hex); clear hex; try simp only [Int.toNat_natCast] at hxx) | intro _))
  refine TWq.loop (fun i : Nat => [(6, .int .i64 (y.l.lo + i)), (7, .junk)])
    (fun i => [(3, .cells [.bool (rseenR r y i 0), .bool (rseenR r y i 1), .bool (rseenR r y i 2), .bool (rseenR r y i 3)])])
    (fun i => i ≤ (every y.l).length) (fun i => (every y.l).length - i) 0 [] [] ?_ (by omega) ?_
  · (repeat' (first | (refine Ev.go ?_; conv => whnf) | refine And.intro ?_ ?_ | exact True.intro | exact rfl | (intro rx hrx; rw [IntWalk.i64_in _ (by omega)] at hrx) | (intro hcx; exfalso; omega) | (intro hcx; exfalso; simp only [ints_len, encYs_len] at hcx; omega) | (intro ex hex; (first | obtain ⟨xx, hxx, rfl⟩ := ints_at hex | obtain ⟨xx, hxx, rfl⟩ := encYs_at hex | obtain ⟨xx, hxx, rfl⟩ := encYs_cut hex); clear hex; try simp only [Int.toNat_natCast] at hxx) | intro _))
    all_goals (first | (refine ⟨?_⟩; first | rfl | exact List.cons_ne_nil _ _ | (show (_ : Nat) * _ ≤ _; simp [catS, repl, chunks, ints_len, encYs_len] <;> omega) | exact shS _ _ | exact shM _ | exact shN | exact encM_clo _ | exact ⟨rfl, rfl⟩ | exact ⟨rfl, rfl, rfl⟩ | omega | (simp only [ints_len, encYs_len]; omega) | (simp; omega) | (simp [cloL, clo, catS, repl, ints_clo, encYs_clo, encR, encY, encS]; done) | (show chkGo _ _ _ _ _ = true; kernel_rfl)) | (simp [cloL, clo, catS, repl, ints_clo, encYs_clo, encR, encY, encS]; done) | skip)
    all_goals (try (refine ⟨?_⟩; simp [rseenR]))
  · intro i hi
    (repeat' (first | (refine Ev.go ?_; conv => whnf) | refine And.intro ?_ ?_ | exact True.intro | exact rfl | (intro rx hrx; rw [IntWalk.i64_in _ (by omega)] at hrx) | (intro hcx; exfalso; omega) | (intro hcx; exfalso; simp only [ints_len, encYs_len] at hcx; omega) | (intro ex hex; (first | obtain ⟨xx, hxx, rfl⟩ := ints_at hex | obtain ⟨xx, hxx, rfl⟩ := encYs_at hex | obtain ⟨xx, hxx, rfl⟩ := encYs_cut hex); clear hex; try simp only [Int.toNat_natCast] at hxx) | intro _))
    all_goals (try (refine ⟨?_⟩; first | omega | exact List.cons_ne_nil _ _ | (show (_ : Nat) * _ ≤ _; simp [catS, repl, chunks, ints_len, encYs_len] <;> omega)))
    · have hli := hgL i (by omega)
      refine TWq.loop (fun j : Nat => [(7, .int .i64 (y.p.lo + j))])
        (fun j => [(3, .cells [.bool (rseenC r y i (y.l.lo + i) j 0), .bool (rseenC r y i (y.l.lo + i) j 1), .bool (rseenC r y i (y.l.lo + i) j 2), .bool (rseenC r y i (y.l.lo + i) j 3)])])
        (fun j => j ≤ (every y.p).length) (fun j => (every y.p).length - j) 0 [] [] ?_ (by omega) ?_
      · (repeat' (first | (refine Ev.go ?_; conv => whnf) | refine And.intro ?_ ?_ | exact True.intro | exact rfl | (intro rx hrx; rw [IntWalk.i64_in _ (by omega)] at hrx) | (intro hcx; exfalso; omega) | (intro hcx; exfalso; simp only [ints_len, encYs_len] at hcx; omega) | (intro ex hex; (first | obtain ⟨xx, hxx, rfl⟩ := ints_at hex | obtain ⟨xx, hxx, rfl⟩ := encYs_at hex | obtain ⟨xx, hxx, rfl⟩ := encYs_cut hex); clear hex; try simp only [Int.toNat_natCast] at hxx) | intro _))
        all_goals (first | (refine ⟨?_⟩; first | rfl | exact List.cons_ne_nil _ _ | (show (_ : Nat) * _ ≤ _; simp [catS, repl, chunks, ints_len, encYs_len] <;> omega) | exact shS _ _ | exact shM _ | exact shN | exact encM_clo _ | exact ⟨rfl, rfl⟩ | exact ⟨rfl, rfl, rfl⟩ | omega | (simp only [ints_len, encYs_len]; omega) | (simp; omega) | (simp [cloL, clo, catS, repl, ints_clo, encYs_clo, encR, encY, encS]; done) | (show chkGo _ _ _ _ _ = true; kernel_rfl)) | (simp [cloL, clo, catS, repl, ints_clo, encYs_clo, encR, encY, encS]; done) | skip)
        all_goals (try (refine ⟨?_⟩; simp [rseenC]))
      · intro j hj
        (repeat' (first | (refine Ev.go ?_; conv => whnf) | refine And.intro ?_ ?_ | exact True.intro | exact rfl | (intro rx hrx; rw [IntWalk.i64_in _ (by omega)] at hrx) | (intro hcx; exfalso; omega) | (intro hcx; exfalso; simp only [ints_len, encYs_len] at hcx; omega) | (intro ex hex; (first | obtain ⟨xx, hxx, rfl⟩ := ints_at hex | obtain ⟨xx, hxx, rfl⟩ := encYs_at hex | obtain ⟨xx, hxx, rfl⟩ := encYs_cut hex); clear hex; try simp only [Int.toNat_natCast] at hxx) | intro _))
        all_goals (try (refine ⟨?_⟩; first | omega | exact List.cons_ne_nil _ _ | (show (_ : Nat) * _ ≤ _; simp [catS, repl, chunks, ints_len, encYs_len] <;> omega)))
        · have hpj := hgP j (by omega)
          have c := c45 r y (y.l.lo + i) (y.p.lo + j) (by omega) (by omega) ⟨g1, g2⟩ ⟨b1, b2⟩
          rcases rkind_lt r y (y.l.lo + i) (y.p.lo + j) with e | e | e | e
          all_goals
            rw [e] at c
            refine TSq.pureC c (by simp [cloL, clo, encR, encY, encRule, encZ, encS, ints_clo, encYs_clo]) rfl (And.intro rfl rfl) ?_
            (repeat' (first | (refine Ev.go ?_; conv => whnf) | refine And.intro ?_ ?_ | exact True.intro | exact rfl | (intro rx hrx; rw [IntWalk.i64_in _ (by omega)] at hrx) | (intro hcx; exfalso; omega) | (intro hcx; exfalso; simp only [ints_len, encYs_len] at hcx; omega) | (intro ex hex; (first | obtain ⟨xx, hxx, rfl⟩ := ints_at hex | obtain ⟨xx, hxx, rfl⟩ := encYs_at hex | obtain ⟨xx, hxx, rfl⟩ := encYs_cut hex); clear hex; try simp only [Int.toNat_natCast] at hxx) | intro _))
            all_goals (try (refine ⟨?_⟩; first | omega | exact List.cons_ne_nil _ _ | (show (_ : Nat) * _ ≤ _; simp [catS, repl, chunks, ints_len, encYs_len] <;> omega)))
            refine ⟨⟨j + 1, by omega, by omega, ?_⟩⟩
            (repeat' (first | (refine Ev.go ?_; conv => whnf) | refine And.intro ?_ ?_ | exact True.intro | exact rfl | (intro rx hrx; rw [IntWalk.i64_in _ (by omega)] at hrx) | (intro hcx; exfalso; omega) | (intro hcx; exfalso; simp only [ints_len, encYs_len] at hcx; omega) | (intro ex hex; (first | obtain ⟨xx, hxx, rfl⟩ := ints_at hex | obtain ⟨xx, hxx, rfl⟩ := encYs_at hex | obtain ⟨xx, hxx, rfl⟩ := encYs_cut hex); clear hex; try simp only [Int.toNat_natCast] at hxx) | intro _))
            all_goals (first | (refine ⟨?_⟩; first | rfl | exact List.cons_ne_nil _ _ | (show (_ : Nat) * _ ≤ _; simp [catS, repl, chunks, ints_len, encYs_len] <;> omega) | exact shS _ _ | exact shM _ | exact shN | exact encM_clo _ | exact ⟨rfl, rfl⟩ | exact ⟨rfl, rfl, rfl⟩ | omega | (simp only [ints_len, encYs_len]; omega) | (simp; omega) | (simp [cloL, clo, catS, repl, ints_clo, encYs_clo, encR, encY, encS]; done) | (show chkGo _ _ _ _ _ = true; kernel_rfl)) | (simp [cloL, clo, catS, repl, ints_clo, encYs_clo, encR, encY, encS]; done) | skip)
            all_goals (try (refine ⟨?_⟩; rw [rseenC_succ hpj, e]; simp; done))
        · have hjj : j = (every y.p).length := by omega
          refine ⟨⟨i + 1, by omega, by omega, ?_⟩⟩
          (repeat' (first | (refine Ev.go ?_; conv => whnf) | refine And.intro ?_ ?_ | exact True.intro | exact rfl | (intro rx hrx; rw [IntWalk.i64_in _ (by omega)] at hrx) | (intro hcx; exfalso; omega) | (intro hcx; exfalso; simp only [ints_len, encYs_len] at hcx; omega) | (intro ex hex; (first | obtain ⟨xx, hxx, rfl⟩ := ints_at hex | obtain ⟨xx, hxx, rfl⟩ := encYs_at hex | obtain ⟨xx, hxx, rfl⟩ := encYs_cut hex); clear hex; try simp only [Int.toNat_natCast] at hxx) | intro _))
          all_goals (first | (refine ⟨?_⟩; first | rfl | exact List.cons_ne_nil _ _ | (show (_ : Nat) * _ ≤ _; simp [catS, repl, chunks, ints_len, encYs_len] <;> omega) | exact shS _ _ | exact shM _ | exact shN | exact encM_clo _ | exact ⟨rfl, rfl⟩ | exact ⟨rfl, rfl, rfl⟩ | omega | (simp only [ints_len, encYs_len]; omega) | (simp; omega) | (simp [cloL, clo, catS, repl, ints_clo, encYs_clo, encR, encY, encS]; done) | (show chkGo _ _ _ _ _ = true; kernel_rfl)) | (simp [cloL, clo, catS, repl, ints_clo, encYs_clo, encR, encY, encS]; done) | skip)
          all_goals (try (refine ⟨?_⟩; rw [rseenR_succ hli, hjj]))
    all_goals (first | (refine ⟨?_⟩; first | rfl | exact List.cons_ne_nil _ _ | (show (_ : Nat) * _ ≤ _; simp [catS, repl, chunks, ints_len, encYs_len] <;> omega) | exact shS _ _ | exact shM _ | exact shN | exact encM_clo _ | exact ⟨rfl, rfl⟩ | exact ⟨rfl, rfl, rfl⟩ | omega | (simp only [ints_len, encYs_len]; omega) | (simp; omega) | (simp [cloL, clo, catS, repl, ints_clo, encYs_clo, encR, encY, encS]; done) | (show chkGo _ _ _ _ _ = true; kernel_rfl)) | (simp [cloL, clo, catS, repl, ints_clo, encYs_clo, encR, encY, encS]; done) | skip)
    have hii : i = (every y.l).length := by omega
    simp only [hii, rseenR_all, flR]

def ksN (f : Int → Bool) (n : Nat) : List Int := ((List.range n).filter fun (k : Nat) => f (k : Int)).map fun (k : Nat) => (k : Int)
theorem ksN_succ (f : Int → Bool) (n : Nat) : ksN f (n + 1) = if f (n : Int) = true then ksN f n ++ [(n : Int)] else ksN f n := by
  simp only [ksN, List.range_succ, List.filter_append, List.map_append]
  split <;> simp_all
/-- What a year can be; all but one that does not count, if it is false. -/
def rcan (r : Rule) (y : Year) (w : Bool) (k : Int) : Bool := if w = true ∧ rseen r y 0 = false then k != 0 else rseen r y k
def bitN (o n : Nat) : Bool := decide (o >>> n % 2 = 1)
def lists (r : Rule) (ys : List Year) (o : Nat) : Nat → List (List Int)
  | 0 => [[]]
  | n + 1 => match ys[n]? with
    | some y => (lists r ys o n).flatMap fun l => (ksN (rcan r y (bitN o n)) 4).map fun k => l ++ [k]
    | none => []
theorem lists_succ {r : Rule} {ys : List Year} {o n : Nat} {y : Year} (h : ys[n]? = some y) : lists r ys o (n + 1) = (lists r ys o n).flatMap fun l => (ksN (rcan r y (bitN o n)) 4).map fun k => l ++ [k] := by
  simp only [lists, h]
theorem ksN_len (f : Int → Bool) (n : Nat) : (ksN f n).length ≤ n := by
  simp only [ksN, List.length_map]; exact Nat.le_trans (List.length_filter_le _ _) (by simp)
theorem flatMap_len {α β : Type} {L : List α} {f : α → List β} {n : Nat} (h : ∀ x ∈ L, (f x).length ≤ n) : (L.flatMap f).length ≤ L.length * n := by
  induction L with
  | nil => simp
  | cons a L ih =>
    simp only [List.flatMap_cons, List.length_append, List.length_cons, Nat.succ_mul]
    have := ih fun x hx => h x (by simp [hx])
    have := h a (by simp)
    omega
theorem lists_len (r : Rule) (ys : List Year) (o : Nat) : ∀ n, (lists r ys o n).length ≤ 4 ^ n
  | 0 => by simp [lists]
  | n + 1 => by
    cases h : ys[n]? with
    | none => simp only [lists, h]; simp
    | some y =>
      rw [lists_succ h]
      have := flatMap_len (L := lists r ys o n) (f := fun l => (ksN (rcan r y (bitN o n)) 4).map fun k => l ++ [k]) (n := 4) fun x _ => by simpa using ksN_len _ 4
      have := lists_len r ys o n
      rw [Nat.pow_succ]; omega
theorem lists_each (r : Rule) (ys : List Year) (o : Nat) : ∀ n, ∀ l ∈ lists r ys o n, l.length = n
  | 0, l, h => by simp [lists] at h; simp [h]
  | n + 1, l, h => by
    cases hy : ys[n]? with
    | none => simp only [lists, hy] at h; simp at h
    | some y =>
      rw [lists_succ hy] at h
      simp only [List.mem_flatMap, List.mem_map] at h
      obtain ⟨u, hu, k, _, rfl⟩ := h
      simp [lists_each r ys o n u hu]
def encLs (L : List (List Int)) : List SV := L.map fun l => .sl 1 (ints l)
theorem encLs_len (L : List (List Int)) : (encLs L).length = L.length := List.length_map _
theorem encLs_clo (L : List (List Int)) : cloL (encLs L) := by
  rw [cloL_iff]; intro s hs; obtain ⟨l, _, rfl⟩ := List.mem_map.1 hs; simp [clo, ints_clo]
theorem encLs_at {L : List (List Int)} {n : Nat} {e : SV} (h : (encLs L)[n]? = some e) : ∃ l, L[n]? = some l ∧ e = .sl 1 (ints l) := by
  simp only [encLs, List.getElem?_map, Option.map_eq_some_iff] at h
  obtain ⟨x, h1, h2⟩ := h
  exact ⟨x, h1, h2.symm⟩
theorem encLs_keep (b sz : Nat) (es : List SV) (L : List (List Int)) : subAL b sz es (encLs L) = encLs L := subAL_keep _ fun s hs n => by
  obtain ⟨l, _, rfl⟩ := List.mem_map.1 hs
  simp
theorem encLs_snoc (L : List (List Int)) (l : List Int) : encLs (L ++ [l]) = encLs L ++ [.sl 1 (ints l)] := by simp [encLs]
theorem flR_at {f : Int → Bool} {n : Nat} (h : n < 4) : [SV.bool (f 0), SV.bool (f 1), SV.bool (f 2), SV.bool (f 3)][0 + (n : Int).toNat * 1]? = some (.bool (f n)) := by
  have : n = 0 ∨ n = 1 ∨ n = 2 ∨ n = 3 := by omega
  rcases this with rfl | rfl | rfl | rfl <;> rfl
theorem rcan_ne {r : Rule} {y : Year} (h : OkY r y) (w : Bool) : ksN (rcan r y w) 4 ≠ [] := by
  have hk : ∀ k : Int, (k = 0 ∨ k = 1 ∨ k = 2 ∨ k = 3) → rcan r y w k = true → ksN (rcan r y w) 4 ≠ [] := by
    intro k hk hc
    refine List.ne_nil_of_mem (a := k) ?_
    simp only [ksN, List.mem_map, List.mem_filter, List.mem_range]
    refine ⟨k.toNat, ⟨by omega, by rw [Int.toNat_of_nonneg (by omega)]; exact hc⟩, by omega⟩
  by_cases hw : w = true ∧ rseen r y 0 = false
  · exact hk 1 (by simp) (by unfold rcan; rw [if_pos hw]; rfl)
  · obtain ⟨l, hl⟩ := every_ne h.l2
    obtain ⟨p, hp⟩ := every_ne h.p2
    refine hk _ (rkind_lt r y l p) ?_
    unfold rcan; rw [if_neg hw]
    exact List.any_eq_true.2 ⟨l, hl, List.any_eq_true.2 ⟨p, hp, by simp⟩⟩
theorem lists_ne {r : Rule} {ys : List Year} {o : Nat} (h : ∀ y ∈ ys, OkY r y) : ∀ n, n ≤ ys.length → lists r ys o n ≠ []
  | 0, _ => by simp [lists]
  | n + 1, hn => by
    have hy : ys[n]? = some ys[n] := List.getElem?_eq_getElem (by omega)
    rw [lists_succ hy]
    obtain ⟨l, hl⟩ := List.exists_mem_of_ne_nil _ (lists_ne (o := o) h n (by omega))
    obtain ⟨k, hk⟩ := List.exists_mem_of_ne_nil _ (rcan_ne (h _ (List.getElem_mem (show n < ys.length by omega))) (bitN o n))
    exact List.ne_nil_of_mem (List.mem_flatMap.2 ⟨l, hl, List.mem_map.2 ⟨k, hk, rfl⟩⟩)

theorem wrp_u {k : Nat} {x n : Int} (h : x = IntKind.u64.wrap n) (hn : n = k ∧ k ≤ 60) : x = (k : Int) := by
  obtain ⟨rfl, hk⟩ := hn
  rw [h, IntWalk.u64_in _ (by omega)]
theorem shr_n {o k : Nat} {x m : Int} (h : x = (o : Int).fdiv (2 ^ min m.toNat IntKind.i64.bits)) (hm : m = k ∧ k ≤ 60) : x = ((o >>> k : Nat) : Int) := by
  obtain ⟨rfl, hk⟩ := hm
  rw [h, Nat.shiftRight_eq_div_pow]
  rw [show min ((k : Int).toNat) IntKind.i64.bits = k by rw [Int.toNat_natCast]; exact Nat.min_eq_left (by show k ≤ 64; omega)]
  rw [Int.fdiv_eq_ediv_of_nonneg _ (Int.le_of_lt (Int.pow_pos (by omega)))]
  norm_cast
theorem bit_n {o k : Nat} {x : Int} (h : x = ((o >>> k : Nat) : Int).tmod 2) : x = if bitN o k = true then 1 else 0 := by
  rw [h, Int.tmod_eq_emod_of_nonneg (Int.natCast_nonneg _)]
  simp only [bitN, decide_eq_true_eq]
  split <;> omega

set_option maxHeartbeats 8000000 in
set_option maxRecDepth 100000 in
theorem c56 (r : Rule) (z : Zone) (o : Nat) (h0 : fault r z = 0) (ho : o < 1000) : PF Try.prog 56 [encRule r, encZ z, .int .i64 o] (· = .sl 1 (encLs (lists r z.years o z.years.length))) := by
  have hz := encYs_len z.years
  have hl6 := fault_len h0
  have hy := fault_okY h0
  have hlen := lists_len r z.years o
  have hpow : ∀ n, n ≤ 6 → 4 ^ n ≤ 4 ^ 6 := fun n hn => Nat.pow_le_pow_right (by omega) hn
  refine PF.of (TF.ev fn_56 (Ev.at ?_))
  (repeat' (first | (refine Ev.go ?_; conv => whnf) | refine And.intro ?_ ?_ | exact True.intro | exact rfl | (intro rx hrx; rw [IntWalk.i64_in _ (by omega)] at hrx) | (intro hcx; exfalso; omega) | (intro hcx; exfalso; simp only [ints_len, encYs_len] at hcx; omega) | (intro ex hex; (first | obtain ⟨xx, hxx, rfl⟩ := ints_at hex | obtain ⟨xx, hxx, rfl⟩ := encYs_at hex | obtain ⟨xx, hxx, rfl⟩ := encYs_cut hex); clear hex; try simp only [Int.toNat_natCast] at hxx) | intro _))
  all_goals (first | (refine ⟨?_⟩; first | rfl | exact List.cons_ne_nil _ _ | (show (_ : Nat) * _ ≤ _; simp [catS, repl, chunks, ints_len, encYs_len] <;> omega) | exact shS _ _ | exact shM _ | exact shN | exact encM_clo _ | exact ⟨rfl, rfl⟩ | exact ⟨rfl, rfl, rfl⟩ | omega | (simp only [ints_len, encYs_len]; omega) | (simp; omega) | (simp [cloL, clo, catS, repl, ints_clo, encYs_clo, encR, encY, encS]; done) | (show chkGo _ _ _ _ _ = true; kernel_rfl)) | (simp [cloL, clo, catS, repl, ints_clo, encYs_clo, encR, encY, encS]; done) | skip)
  refine TWq.loopA (fun i : Nat => [(8, .int .i64 i), (7, .own 3), (9, .junk), (10, .junk), (11, .junk), (12, .junk), (14, .junk)]) (fun i => [(3, .arr 22 1 (encLs (lists r z.years o i)))])
    (fun i => i ≤ z.years.length) (fun i => z.years.length - i) 0 [2] [] ?_
  (repeat' (first | (refine Ev.go ?_; conv => whnf) | refine And.intro ?_ ?_ | exact True.intro | exact rfl | (intro rx hrx; rw [IntWalk.i64_in _ (by omega)] at hrx) | (intro hcx; exfalso; omega) | (intro hcx; exfalso; simp only [ints_len, encYs_len] at hcx; omega) | (intro ex hex; (first | obtain ⟨xx, hxx, rfl⟩ := ints_at hex | obtain ⟨xx, hxx, rfl⟩ := encYs_at hex | obtain ⟨xx, hxx, rfl⟩ := encYs_cut hex); clear hex; try simp only [Int.toNat_natCast] at hxx) | intro _))
  all_goals (first | (refine ⟨?_⟩; first | rfl | exact List.cons_ne_nil _ _ | (show (_ : Nat) * _ ≤ _; simp [catS, repl, chunks, ints_len, encYs_len] <;> omega) | exact shS _ _ | exact shM _ | exact shN | exact encM_clo _ | exact ⟨rfl, rfl⟩ | exact ⟨rfl, rfl, rfl⟩ | omega | (simp only [ints_len, encYs_len]; omega) | (simp; omega) | (simp [cloL, clo, catS, repl, ints_clo, encYs_clo, encR, encY, encS]; done) | (show chkGo _ _ _ _ _ = true; kernel_rfl)) | (simp [cloL, clo, catS, repl, ints_clo, encYs_clo, encR, encY, encS]; done) | skip)
  · exact ⟨encLs_clo _⟩
  · rename_i k hk hkl
    have hyx := hy xx (List.mem_of_getElem? hxx)
    have hwrp : ∀ {x n : Int}, x = IntKind.u64.wrap n → n = k ∧ k ≤ 60 → x = (k : Int) := wrp_u
    have hshr : ∀ {x m : Int}, x = (o : Int).fdiv (2 ^ min m.toNat IntKind.i64.bits) → m = k ∧ k ≤ 60 → x = ((o >>> k : Nat) : Int) := shr_n
    have cK := c61 r xx hyx
    unfold flR at cK
    obtain ⟨f, hf⟩ : ∃ f, f = rcan r xx (bitN o k) := ⟨_, rfl⟩
    have hls := lists_succ (r := r) (o := o) hxx
    rw [← hf] at hls
    have hAlen := hlen k
    have hA6 := hpow k (by omega)
    have hAeach := lists_each r z.years o k
    obtain ⟨A, hA⟩ : ∃ A, A = lists r z.years o k := ⟨_, rfl⟩
    rw [← hA] at hls hAlen hAeach ⊢
    have hbit0 : ∀ {x : Int}, x = ((o >>> k : Nat) : Int).tmod 2 → x = if bitN o k = true then 1 else 0 := bit_n
    cases hb : bitN o k <;> cases hs : rseen r xx 0
    all_goals
      have hbit := @hbit0
      rw [hb] at hbit
      simp only [if_true, Bool.false_eq_true, if_false] at hbit
      rw [hs] at cK
      rw [hb] at hf
      have f0 : f 0 = rcan r xx (bitN o k) 0 := by rw [hf, hb]
      refine TDq.pureC cK (by simp [cloL, clo, encR, encY, encRule, encZ, encS, ints_clo, encYs_clo]) rfl (And.intro rfl rfl) ?_
      (repeat' (first | (intro rx hrx; obtain rfl := hwrp hrx (by omega); clear hrx) | (intro rx hrx; obtain rfl := hshr hrx (by omega); clear hrx) | (intro rx hrx; obtain rfl := hbit hrx; clear hrx) | (refine Ev.go ?_; conv => whnf) | refine And.intro ?_ ?_ | exact True.intro | exact rfl | (intro rx hrx; rw [IntWalk.i64_in _ (by omega)] at hrx) | (intro hcx; exfalso; omega) | (intro hcx; exfalso; simp only [ints_len, encYs_len] at hcx; omega) | (intro ex hex; (first | obtain ⟨xx, hxx, rfl⟩ := ints_at hex | obtain ⟨xx, hxx, rfl⟩ := encYs_at hex | obtain ⟨xx, hxx, rfl⟩ := encYs_cut hex); clear hex; try simp only [Int.toNat_natCast] at hxx) | intro _))
      all_goals (first | (refine ⟨?_⟩; first | rfl | exact List.cons_ne_nil _ _ | (show (_ : Nat) * _ ≤ _; simp [catS, repl, chunks, ints_len, encYs_len] <;> omega) | exact shS _ _ | exact shM _ | exact shN | exact encM_clo _ | exact ⟨rfl, rfl⟩ | exact ⟨rfl, rfl, rfl⟩ | omega | (simp only [ints_len, encYs_len]; omega) | (simp; omega) | (simp [cloL, clo, catS, repl, ints_clo, encYs_clo, encR, encY, encS]; done) | (show chkGo _ _ _ _ _ = true; kernel_rfl)) | (simp [cloL, clo, catS, repl, ints_clo, encYs_clo, encR, encY, encS]; done) | skip)
      refine TWq.loopB (fun p : Nat × List (List Int) => [(11, .int .i64 p.1), (10, match p.2 with | [] => .nils | _ :: _ => .own 5), (12, .junk)])
        (fun p => [(4, .cells [.bool (f 0), .bool (f 1), .bool (f 2), .bool (f 3)]), (5, match p.2 with | [] => .dead | _ :: _ => .arr 22 1 (encLs p.2))])
        (fun p => p.1 ≤ A.length ∧ p.2 = (A.take p.1).flatMap (fun l => (ksN f 4).map fun k => l ++ [k])) (fun p => A.length - p.1) (0, []) [] ?_ ⟨by omega, by simp⟩ ?_
      · (repeat' (first | (refine Ev.go ?_; conv => whnf) | refine And.intro ?_ ?_ | exact True.intro | exact rfl | (intro rx hrx; rw [IntWalk.i64_in _ (by omega)] at hrx) | (intro hcx; exfalso; omega) | (intro hcx; exfalso; simp only [ints_len, encYs_len] at hcx; omega) | (intro ex hex; (first | obtain ⟨xx, hxx, rfl⟩ := ints_at hex | obtain ⟨xx, hxx, rfl⟩ := encYs_at hex | obtain ⟨xx, hxx, rfl⟩ := encYs_cut hex); clear hex; try simp only [Int.toNat_natCast] at hxx) | intro _))
        all_goals (first | (refine ⟨?_⟩; first | rfl | exact List.cons_ne_nil _ _ | (show (_ : Nat) * _ ≤ _; simp [catS, repl, chunks, ints_len, encYs_len] <;> omega) | exact shS _ _ | exact shM _ | exact shN | exact encM_clo _ | exact ⟨rfl, rfl⟩ | exact ⟨rfl, rfl, rfl⟩ | omega | (simp only [ints_len, encYs_len]; omega) | (simp; omega) | (simp [cloL, clo, catS, repl, ints_clo, encYs_clo, encR, encY, encS]; done) | (show chkGo _ _ _ _ _ = true; kernel_rfl)) | (simp [cloL, clo, catS, repl, ints_clo, encYs_clo, encR, encY, encS]; done) | skip)
        all_goals (first | exact ⟨encLs_clo _⟩ | (refine ⟨?_⟩; rw [hf]; unfold rcan; simp [hs]))
      · rintro ⟨a, nx⟩ ⟨ha, hnx⟩
        dsimp only at ha hnx ⊢
        obtain ⟨NX, hNX⟩ : ∃ NX, NX = nx := ⟨_, rfl⟩
        rw [← hNX] at hnx
        have hAl := encLs_len A
        have hNXl : NX.length ≤ A.length * 4 := by
          rw [hnx]
          refine Nat.le_trans (flatMap_len (n := 4) fun x _ => by simpa using ksN_len _ 4) ?_
          simp; omega
        rcases nx with _ | ⟨n0, ns⟩
        all_goals
          (repeat' (first | (refine Ev.go ?_; conv => whnf) | refine And.intro ?_ ?_ | exact True.intro | exact rfl | (intro rx hrx; rw [IntWalk.i64_in _ (by omega)] at hrx) | (intro hcx; exfalso; omega) | (intro hcx; exfalso; simp only [ints_len, encYs_len] at hcx; omega) | (intro ex hex; (first | obtain ⟨xx, hxx, rfl⟩ := ints_at hex | obtain ⟨xx, hxx, rfl⟩ := encYs_at hex | obtain ⟨xx, hxx, rfl⟩ := encYs_cut hex); clear hex; try simp only [Int.toNat_natCast] at hxx) | intro _))
          all_goals (first | exact ⟨encLs_clo _⟩ | skip)
          · have hal : a < A.length := by omega
            obtain ⟨l, hl⟩ : ∃ l, A[a]? = some l := ⟨_, List.getElem?_eq_getElem hal⟩
            have hgetY : ∀ {n : Nat} {e : SV}, n = a → (encLs A)[n]? = some e → e = .sl 1 (ints l) := by
              rintro n e rfl he
              obtain ⟨x, hx, rfl⟩ := encLs_at he
              rw [hl] at hx; cases hx; rfl
            have hll : l.length = k := hAeach l (List.mem_of_getElem? hl)
            have hlz := ints_len l
            first
              | refine TWq.loopB (fun p : Nat × List (List Int) => [(12, .int .i64 p.1), (10, match p.2 with | [] => .nils | _ :: _ => .own 5)])
                  (fun p => [(5, match p.2 with | [] => .dead | _ :: _ => .arr 22 1 (encLs p.2))])
                  (fun p => p.1 ≤ 4 ∧ p.2 = NX ++ (ksN f p.1).map fun k => l ++ [k]) (fun p => 4 - p.1) (0, n0 :: ns) [] ?_ ⟨by omega, by rw [hNX]; simp [ksN]⟩ ?_
              | refine TWq.loopB (fun p : Nat × List (List Int) => [(12, .int .i64 p.1), (10, match p.2 with | [] => .nils | _ :: _ => .own 5)])
                  (fun p => [(5, match p.2 with | [] => .dead | _ :: _ => .arr 22 1 (encLs p.2))])
                  (fun p => p.1 ≤ 4 ∧ p.2 = NX ++ (ksN f p.1).map fun k => l ++ [k]) (fun p => 4 - p.1) (0, []) [] ?_ ⟨by omega, by rw [hNX]; simp [ksN]⟩ ?_
            · (repeat' (first | (refine Ev.go ?_; conv => whnf) | refine And.intro ?_ ?_ | exact True.intro | exact rfl | (intro rx hrx; rw [IntWalk.i64_in _ (by omega)] at hrx) | (intro hcx; exfalso; omega) | (intro hcx; exfalso; simp only [ints_len, encYs_len] at hcx; omega) | (intro ex hex; (first | obtain ⟨xx, hxx, rfl⟩ := ints_at hex | obtain ⟨xx, hxx, rfl⟩ := encYs_at hex | obtain ⟨xx, hxx, rfl⟩ := encYs_cut hex); clear hex; try simp only [Int.toNat_natCast] at hxx) | intro _))
              all_goals (first | (refine ⟨?_⟩; first | rfl | exact List.cons_ne_nil _ _ | (show (_ : Nat) * _ ≤ _; simp [catS, repl, chunks, ints_len, encYs_len] <;> omega) | exact shS _ _ | exact shM _ | exact shN | exact encM_clo _ | exact ⟨rfl, rfl⟩ | exact ⟨rfl, rfl, rfl⟩ | omega | (simp only [ints_len, encYs_len]; omega) | (simp; omega) | (simp [cloL, clo, catS, repl, ints_clo, encYs_clo, encR, encY, encS]; done) | (show chkGo _ _ _ _ _ = true; kernel_rfl)) | (simp [cloL, clo, catS, repl, ints_clo, encYs_clo, encR, encY, encS]; done) | skip)
              all_goals (first | exact ⟨encLs_clo _⟩ | skip)
            · rintro ⟨q, nq⟩ ⟨hq, hnq⟩
              dsimp only at hq hnq ⊢
              have hks := ksN_succ f q
              have hksl := ksN_len f q
              have hnql : nq.length ≤ A.length * 4 + 4 := by rw [hnq]; simp; omega
              rcases nq with _ | ⟨m0, ms⟩
              all_goals
                (repeat' (first | (refine Ev.go ?_; conv => whnf) | refine And.intro ?_ ?_ | exact True.intro | exact rfl | (intro rx hrx; rw [IntWalk.i64_in _ (by omega)] at hrx) | (intro hcx; exfalso; omega) | (intro hcx; exfalso; simp only [ints_len, encYs_len] at hcx; omega) | (intro ex hex; (first | obtain ⟨xx, hxx, rfl⟩ := ints_at hex | obtain ⟨xx, hxx, rfl⟩ := encYs_at hex | obtain ⟨xx, hxx, rfl⟩ := encYs_cut hex); clear hex; try simp only [Int.toNat_natCast] at hxx) | intro _))
                all_goals (first | (refine ⟨?_⟩; first | rfl | exact List.cons_ne_nil _ _ | (show (_ : Nat) * _ ≤ _; simp [catS, repl, chunks, ints_len, encYs_len] <;> omega) | exact shS _ _ | exact shM _ | exact shN | exact encM_clo _ | exact ⟨rfl, rfl⟩ | exact ⟨rfl, rfl, rfl⟩ | omega | (simp only [ints_len, encYs_len]; omega) | (simp; omega) | (simp [cloL, clo, catS, repl, ints_clo, encYs_clo, encR, encY, encS]; done) | (show chkGo _ _ _ _ _ = true; kernel_rfl)) | (simp [cloL, clo, catS, repl, ints_clo, encYs_clo, encR, encY, encS]; done) | skip)
                all_goals (first | exact ⟨encLs_clo _⟩ | skip)
                · refine getK_of (flR_at (by omega)) ?_
                  cases hfq : f (q : Int)
                  · (repeat' (first | (refine Ev.go ?_; conv => whnf) | refine And.intro ?_ ?_ | exact True.intro | exact rfl | (intro rx hrx; rw [IntWalk.i64_in _ (by omega)] at hrx) | (intro hcx; exfalso; omega) | (intro hcx; exfalso; simp only [ints_len, encYs_len] at hcx; omega) | (intro ex hex; (first | obtain ⟨xx, hxx, rfl⟩ := ints_at hex | obtain ⟨xx, hxx, rfl⟩ := encYs_at hex | obtain ⟨xx, hxx, rfl⟩ := encYs_cut hex); clear hex; try simp only [Int.toNat_natCast] at hxx) | intro _))
                    all_goals (first | (refine ⟨?_⟩; first | rfl | exact List.cons_ne_nil _ _ | (show (_ : Nat) * _ ≤ _; simp [catS, repl, chunks, ints_len, encYs_len] <;> omega) | exact shS _ _ | exact shM _ | exact shN | exact encM_clo _ | exact ⟨rfl, rfl⟩ | exact ⟨rfl, rfl, rfl⟩ | omega | (simp only [ints_len, encYs_len]; omega) | (simp; omega) | (simp [cloL, clo, catS, repl, ints_clo, encYs_clo, encR, encY, encS]; done) | (show chkGo _ _ _ _ _ = true; kernel_rfl)) | (simp [cloL, clo, catS, repl, ints_clo, encYs_clo, encR, encY, encS]; done) | skip)
                    have hk0 : ksN f (q + 1) = ksN f q := by rw [hks, hfq]; rfl
                    refine ⟨⟨[], ?_⟩⟩
                    (repeat' (first | (refine Ev.go ?_; conv => whnf) | refine And.intro ?_ ?_ | exact True.intro | exact rfl | (intro rx hrx; rw [IntWalk.i64_in _ (by omega)] at hrx) | (intro hcx; exfalso; omega) | (intro hcx; exfalso; simp only [ints_len, encYs_len] at hcx; omega) | (intro ex hex; (first | obtain ⟨xx, hxx, rfl⟩ := ints_at hex | obtain ⟨xx, hxx, rfl⟩ := encYs_at hex | obtain ⟨xx, hxx, rfl⟩ := encYs_cut hex); clear hex; try simp only [Int.toNat_natCast] at hxx) | intro _))
                    first | refine ⟨⟨[], (q + 1, m0 :: ms), ?_, ?_, ?_⟩⟩ | refine ⟨⟨[], (q + 1, []), ?_, ?_, ?_⟩⟩
                    · exact ⟨by dsimp only; omega, by rw [hk0]; exact hnq⟩
                    · dsimp only; omega
                    · (repeat' (first | (refine Ev.go ?_; conv => whnf) | refine And.intro ?_ ?_ | exact True.intro | exact rfl | (intro rx hrx; rw [IntWalk.i64_in _ (by omega)] at hrx) | (intro hcx; exfalso; omega) | (intro hcx; exfalso; simp only [ints_len, encYs_len] at hcx; omega) | (intro ex hex; (first | obtain ⟨xx, hxx, rfl⟩ := ints_at hex | obtain ⟨xx, hxx, rfl⟩ := encYs_at hex | obtain ⟨xx, hxx, rfl⟩ := encYs_cut hex); clear hex; try simp only [Int.toNat_natCast] at hxx) | intro _))
                      all_goals (first | (refine ⟨?_⟩; first | rfl | exact List.cons_ne_nil _ _ | (show (_ : Nat) * _ ≤ _; simp [catS, repl, chunks, ints_len, encYs_len] <;> omega) | exact shS _ _ | exact shM _ | exact shN | exact encM_clo _ | exact ⟨rfl, rfl⟩ | exact ⟨rfl, rfl, rfl⟩ | omega | (simp only [ints_len, encYs_len]; omega) | (simp; omega) | (simp [cloL, clo, catS, repl, ints_clo, encYs_clo, encR, encY, encS]; done) | (show chkGo _ _ _ _ _ = true; kernel_rfl)) | (simp [cloL, clo, catS, repl, ints_clo, encYs_clo, encR, encY, encS]; done) | skip)
                      all_goals (first | exact ⟨encLs_clo _⟩ | skip)
                  · have hk1 : ksN f (q + 1) = ksN f q ++ [(q : Int)] := by rw [hks, hfq]; rfl
                    (repeat' (first | (intro ex hex; obtain rfl := hgetY (by omega) hex; clear hex) | (refine Ev.go ?_; conv => whnf) | refine And.intro ?_ ?_ | exact True.intro | exact rfl | (intro rx hrx; rw [IntWalk.i64_in _ (by omega)] at hrx) | (intro rx hrx; obtain ⟨kx, rfl, hkx⟩ := tmod_ex hrx (by omega) (by omega)) | (intro rx hrx; obtain ⟨kx, rfl, hkx⟩ := tdiv_ex hrx (by omega) (by omega)) | (intro hcx; exfalso; omega) | (intro hcx; exfalso; simp only [ints_len, encYs_len] at hcx; omega) | (intro ex hex; (first | obtain ⟨xx, hxx, rfl⟩ := ints_at hex | obtain ⟨xx, hxx, rfl⟩ := encYs_at hex | obtain ⟨xx, hxx, rfl⟩ := encYs_cut hex); clear hex; try simp only [Int.toNat_natCast] at hxx) | intro _))
                    all_goals (first | (refine ⟨?_⟩; first | rfl | exact List.cons_ne_nil _ _ | (show (_ : Nat) * _ ≤ _; simp [catS, repl, chunks, ints_len, encYs_len] <;> omega) | exact shS _ _ | exact shM _ | exact shN | exact encM_clo _ | exact ⟨rfl, rfl⟩ | exact ⟨rfl, rfl, rfl⟩ | omega | (simp only [ints_len, encYs_len]; omega) | (simp; omega) | (simp [cloL, clo, catS, repl, ints_clo, encYs_clo, encR, encY, encS]; done) | (show chkGo _ _ _ _ _ = true; kernel_rfl)) | (simp [cloL, clo, catS, repl, ints_clo, encYs_clo, encR, encY, encS]; done) | skip)
                    all_goals (try (refine ⟨?_⟩; (show (_ : Nat) * _ ≤ _); simp [catS, repl, chunks, encLs_len] at hnql ⊢; omega))
                    refine ⟨⟨[9], ?_⟩⟩
                    (repeat' (first | (refine Ev.go ?_; conv => whnf) | refine And.intro ?_ ?_ | exact True.intro | exact rfl | (intro rx hrx; rw [IntWalk.i64_in _ (by omega)] at hrx) | (intro hcx; exfalso; omega) | (intro hcx; exfalso; simp only [ints_len, encYs_len] at hcx; omega) | (intro ex hex; (first | obtain ⟨xx, hxx, rfl⟩ := ints_at hex | obtain ⟨xx, hxx, rfl⟩ := encYs_at hex | obtain ⟨xx, hxx, rfl⟩ := encYs_cut hex); clear hex; try simp only [Int.toNat_natCast] at hxx) | intro _))
                    all_goals (try (refine ⟨?_⟩; rw [cloL_iff]; intro s hs; simp [catS, repl, chunks] at hs; (first | (rcases hs with hs | rfl; exact cloL_iff.1 (ints_clo l) s hs; simp [clo]) | (subst hs; simp [clo])); done))
                    all_goals (first | (refine ⟨?_⟩; first | rfl | exact List.cons_ne_nil _ _ | (show (_ : Nat) * _ ≤ _; simp [catS, repl, chunks, ints_len, encYs_len] <;> omega) | exact shS _ _ | exact shM _ | exact shN | exact encM_clo _ | exact ⟨rfl, rfl⟩ | exact ⟨rfl, rfl, rfl⟩ | omega | (simp only [ints_len, encYs_len]; omega) | (simp; omega) | (simp [cloL, clo, catS, repl, ints_clo, encYs_clo, encR, encY, encS]; done) | (show chkGo _ _ _ _ _ = true; kernel_rfl)) | (simp [cloL, clo, catS, repl, ints_clo, encYs_clo, encR, encY, encS]; done) | skip)
                    first | refine ⟨⟨[(5, 11)], (q + 1, (m0 :: ms) ++ [l ++ [(q : Int)]]), ?_, ?_, ?_⟩⟩ | refine ⟨⟨[(5, 11)], (q + 1, [l ++ [(q : Int)]]), ?_, ?_, ?_⟩⟩
                    · exact ⟨by dsimp only; omega, by dsimp only; rw [hk1, List.map_append, ← List.append_assoc, ← hnq]; rfl⟩
                    · dsimp only; omega
                    · (repeat' (first | (refine Ev.go ?_; conv => whnf) | refine And.intro ?_ ?_ | exact True.intro | exact rfl | (intro rx hrx; rw [IntWalk.i64_in _ (by omega)] at hrx) | (intro hcx; exfalso; omega) | (intro hcx; exfalso; simp only [ints_len, encYs_len] at hcx; omega) | (intro ex hex; (first | obtain ⟨xx, hxx, rfl⟩ := ints_at hex | obtain ⟨xx, hxx, rfl⟩ := encYs_at hex | obtain ⟨xx, hxx, rfl⟩ := encYs_cut hex); clear hex; try simp only [Int.toNat_natCast] at hxx) | intro _))
                      all_goals (first | (refine ⟨?_⟩; first | rfl | exact List.cons_ne_nil _ _ | (show (_ : Nat) * _ ≤ _; simp [catS, repl, chunks, ints_len, encYs_len] <;> omega) | exact shS _ _ | exact shM _ | exact shN | exact encM_clo _ | exact ⟨rfl, rfl⟩ | exact ⟨rfl, rfl, rfl⟩ | omega | (simp only [ints_len, encYs_len]; omega) | (simp; omega) | (simp [cloL, clo, catS, repl, ints_clo, encYs_clo, encR, encY, encS]; done) | (show chkGo _ _ _ _ _ = true; kernel_rfl)) | (simp [cloL, clo, catS, repl, ints_clo, encYs_clo, encR, encY, encS]; done) | skip)
                      all_goals (first | exact ⟨encLs_clo _⟩ | skip)
                      all_goals (try (refine ⟨?_⟩; first | exact encLs_keep _ _ _ _ | (rw [encLs_snoc, subAL_append, encLs_keep]; simp [subAL, subA, catS, repl, chunks, ints]; done) | (simp [subAL, subA, encLs, catS, repl, chunks, ints]; done)))
                have hq4 : q = 4 := by omega
                subst hq4
                have hA1 : A.take (a + 1) = A.take a ++ [l] := take_snoc hl
                refine ⟨⟨[], ?_⟩⟩
                (repeat' (first | (refine Ev.go ?_; conv => whnf) | refine And.intro ?_ ?_ | exact True.intro | exact rfl | (intro rx hrx; rw [IntWalk.i64_in _ (by omega)] at hrx) | (intro hcx; exfalso; omega) | (intro hcx; exfalso; simp only [ints_len, encYs_len] at hcx; omega) | (intro ex hex; (first | obtain ⟨xx, hxx, rfl⟩ := ints_at hex | obtain ⟨xx, hxx, rfl⟩ := encYs_at hex | obtain ⟨xx, hxx, rfl⟩ := encYs_cut hex); clear hex; try simp only [Int.toNat_natCast] at hxx) | intro _))
                first | refine ⟨⟨[], (a + 1, m0 :: ms), ?_, ?_, ?_⟩⟩ | refine ⟨⟨[], (a + 1, []), ?_, ?_, ?_⟩⟩
                · exact ⟨by dsimp only; omega, by dsimp only; rw [hA1, List.flatMap_append, ← hnx]; exact hnq.trans (by simp)⟩
                · dsimp only; omega
                · (repeat' (first | (refine Ev.go ?_; conv => whnf) | refine And.intro ?_ ?_ | exact True.intro | exact rfl | (intro rx hrx; rw [IntWalk.i64_in _ (by omega)] at hrx) | (intro hcx; exfalso; omega) | (intro hcx; exfalso; simp only [ints_len, encYs_len] at hcx; omega) | (intro ex hex; (first | obtain ⟨xx, hxx, rfl⟩ := ints_at hex | obtain ⟨xx, hxx, rfl⟩ := encYs_at hex | obtain ⟨xx, hxx, rfl⟩ := encYs_cut hex); clear hex; try simp only [Int.toNat_natCast] at hxx) | intro _))
                  all_goals (first | (refine ⟨?_⟩; first | rfl | exact List.cons_ne_nil _ _ | (show (_ : Nat) * _ ≤ _; simp [catS, repl, chunks, ints_len, encYs_len] <;> omega) | exact shS _ _ | exact shM _ | exact shN | exact encM_clo _ | exact ⟨rfl, rfl⟩ | exact ⟨rfl, rfl, rfl⟩ | omega | (simp only [ints_len, encYs_len]; omega) | (simp; omega) | (simp [cloL, clo, catS, repl, ints_clo, encYs_clo, encR, encY, encS]; done) | (show chkGo _ _ _ _ _ = true; kernel_rfl)) | (simp [cloL, clo, catS, repl, ints_clo, encYs_clo, encR, encY, encS]; done) | skip)
                  all_goals (first | exact ⟨encLs_clo _⟩ | skip)
          all_goals (first | (refine ⟨?_⟩; first | rfl | exact List.cons_ne_nil _ _ | (show (_ : Nat) * _ ≤ _; simp [catS, repl, chunks, ints_len, encYs_len] <;> omega) | exact shS _ _ | exact shM _ | exact shN | exact encM_clo _ | exact ⟨rfl, rfl⟩ | exact ⟨rfl, rfl, rfl⟩ | omega | (simp only [ints_len, encYs_len]; omega) | (simp; omega) | (simp [cloL, clo, catS, repl, ints_clo, encYs_clo, encR, encY, encS]; done) | (show chkGo _ _ _ _ _ = true; kernel_rfl)) | (simp [cloL, clo, catS, repl, ints_clo, encYs_clo, encR, encY, encS]; done) | skip)
          have haA : a = A.length := by omega
          rw [haA, List.take_length, ← hls] at hnx
          first
            | (have hcons : NX = n0 :: ns := hNX
               refine ⟨⟨[], ?_⟩⟩
               (repeat' (first | (refine Ev.go ?_; conv => whnf) | refine And.intro ?_ ?_ | exact True.intro | exact rfl | (intro rx hrx; rw [IntWalk.i64_in _ (by omega)] at hrx) | (intro hcx; exfalso; omega) | (intro hcx; exfalso; simp only [ints_len, encYs_len] at hcx; omega) | (intro ex hex; (first | obtain ⟨xx, hxx, rfl⟩ := ints_at hex | obtain ⟨xx, hxx, rfl⟩ := encYs_at hex | obtain ⟨xx, hxx, rfl⟩ := encYs_cut hex); clear hex; try simp only [Int.toNat_natCast] at hxx) | intro _))
               refine ⟨⟨[(3, 5)], k + 1, by omega, by omega, ?_⟩⟩
               (repeat' (first | (refine Ev.go ?_; conv => whnf) | refine And.intro ?_ ?_ | exact True.intro | exact rfl | (intro rx hrx; rw [IntWalk.i64_in _ (by omega)] at hrx) | (intro hcx; exfalso; omega) | (intro hcx; exfalso; simp only [ints_len, encYs_len] at hcx; omega) | (intro ex hex; (first | obtain ⟨xx, hxx, rfl⟩ := ints_at hex | obtain ⟨xx, hxx, rfl⟩ := encYs_at hex | obtain ⟨xx, hxx, rfl⟩ := encYs_cut hex); clear hex; try simp only [Int.toNat_natCast] at hxx) | intro _))
               all_goals (first | (refine ⟨?_⟩; first | rfl | exact List.cons_ne_nil _ _ | (show (_ : Nat) * _ ≤ _; simp [catS, repl, chunks, ints_len, encYs_len] <;> omega) | exact shS _ _ | exact shM _ | exact shN | exact encM_clo _ | exact ⟨rfl, rfl⟩ | exact ⟨rfl, rfl, rfl⟩ | omega | (simp only [ints_len, encYs_len]; omega) | (simp; omega) | (simp [cloL, clo, catS, repl, ints_clo, encYs_clo, encR, encY, encS]; done) | (show chkGo _ _ _ _ _ = true; kernel_rfl)) | (simp [cloL, clo, catS, repl, ints_clo, encYs_clo, encR, encY, encS]; done) | skip)
               all_goals (first | exact ⟨encLs_clo _⟩ | (refine ⟨?_⟩; rw [← hnx, hNX]) | skip))
            | (exfalso; exact lists_ne hy (o := o) (k + 1) (by omega) (by rw [← hnx, hNX]))
  · exact ⟨encLs_clo _⟩
  · rename_i k hk hkl
    have : k = z.years.length := by omega
    rw [this]
end Go.Proofs.Ytelnonfenpjjcaa
