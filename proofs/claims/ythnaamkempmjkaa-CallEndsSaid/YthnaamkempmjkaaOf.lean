/- Bounds, as the document says. -/
import Derived.Test.YthnaamkempmjkaaOe
set_option linter.unusedSimpArgs false
set_option linter.unusedVariables false
open Go Go.TV
namespace Go.Proofs.Ythnaamkempmjkaa

def R0 : Rng := ⟨1099511627776, -1⟩
/-- Bounds so far. -/
def bR (g : Int → Int) (lo : Int) : Nat → Rng
  | 0 => R0
  | j + 1 => uB (bR g lo j) (g (lo + j))
theorem bndF_snoc (g : Int → Int) {l : List Int} (h : l ≠ []) (n : Int) : bndF g (l ++ [n]) = uB (bndF g l) (g n) := by
  cases l with
  | nil => exact absurd rfl h
  | cons a l => simp [bndF]
theorem bR_eq {g : Int → Int} {lo : Int} (hg : ∀ j : Nat, 0 ≤ g (lo + j) ∧ g (lo + j) ≤ 1000000) : ∀ j : Nat, bR g lo (j + 1) = bndF g ((List.range (j + 1)).map fun (i : Nat) => lo + i)
  | 0 => by
    have := hg 0
    have e : g (lo + (0 : Nat)) = g lo := by simp
    simp only [bR, uB, R0, List.range_succ, List.range_zero, List.nil_append, List.map_cons, List.map_nil, bndF, List.foldl_nil, Rng.mk.injEq]
    simp at this ⊢; omega
  | j + 1 => by
    rw [bR, bR_eq hg j, List.range_succ (n := j + 1), List.map_append, List.map_cons, List.map_nil, bndF_snoc]
    simp
theorem bR_every {g : Int → Int} {r : Rng} (hg : ∀ n, r.lo ≤ n → n ≤ r.hi → 0 ≤ g n ∧ g n ≤ 1000000) (h : r.lo ≤ r.hi) {j : Nat} (hj : r.lo + j = r.hi + 1) : bR g r.lo j = bndF g (every r) := by
  have key : ∀ (g' : Int → Int), (∀ n, 0 ≤ g' n ∧ g' n ≤ 1000000) → (∀ n, r.lo ≤ n → n ≤ r.hi → g' n = g n) → bR g r.lo j = bndF g (every r) := by
    intro g' h1 h2
    obtain ⟨i, rfl⟩ : ∃ i, j = i + 1 := ⟨j - 1, by omega⟩
    have e1 : ∀ k, k ≤ i + 1 → bR g r.lo k = bR g' r.lo k := by
      intro k
      induction k with
      | zero => intro _; rfl
      | succ k ih => intro hk; rw [bR, bR, ih (by omega), h2 _ (by omega) (by omega)]
    have e2 : every r = (List.range (i + 1)).map fun (i : Nat) => r.lo + i := by unfold every; rw [show (r.hi - r.lo + 1).toNat = i + 1 by omega]
    have e3 : bndF g (every r) = bndF g' (every r) := by
      rw [e2]
      have : ∀ n ∈ (List.range (i + 1)).map (fun (i : Nat) => r.lo + i), g n = g' n := fun n hn => by
        simp only [List.mem_map, List.mem_range] at hn
        obtain ⟨q, hq, rfl⟩ := hn
        exact (h2 _ (by omega) (by omega)).symm
      revert this
      generalize (List.range (i + 1)).map (fun (i : Nat) => r.lo + i) = L
      intro hL
      cases L with
      | nil => rfl
      | cons a L =>
        simp only [bndF]
        rw [hL a (by simp)]
        have : ∀ (L : List Int) (R : Rng), (∀ n ∈ L, g n = g' n) → L.foldl (fun r n => uB r (g n)) R = L.foldl (fun r n => uB r (g' n)) R := by
          intro L
          induction L with
          | nil => intro R _; rfl
          | cons b L ih => intro R h; simp only [List.foldl_cons]; rw [h b (by simp), ih _ fun n hn => h n (by simp [hn])]
        exact this L _ fun n hn => hL n (by simp [hn])
    rw [e3, e1 _ (Nat.le_refl _), bR_eq (fun j => h1 _), e2]
  refine key (fun n => if r.lo ≤ n ∧ n ≤ r.hi then g n else 0) (fun n => ?_) (fun n h1 h2 => by simp [h1, h2])
  split
  · rename_i h; exact hg n h.1 h.2
  · omega
def tabR (n : Nat) (h : Nat → Rng) : List Rng := (List.range n).map h
theorem tabR_len (n : Nat) (h : Nat → Rng) : (tabR n h).length = n := by simp [tabR]
theorem tabR_congr {n : Nat} {o o' : Nat → Rng} (h : ∀ i, i < n → o i = o' i) : tabR n o = tabR n o' := List.map_congr_left fun i hi => h i (List.mem_range.1 hi)
theorem tabR_set {n k : Nat} (o : Nat → Rng) {o' : Nat → Rng} {v : Rng} (h1 : v = o' k) (h2 : ∀ i, i ≠ k → o i = o' i) : (encRs (tabR n o)).set k (encR v) = encRs (tabR n o') := by
  apply List.ext_getElem?
  intro i
  rw [List.getElem?_set]
  simp only [encRs, tabR, List.map_map, List.length_map, List.length_range, List.getElem?_map]
  by_cases e : k = i
  · subst e
    rw [if_pos rfl]
    by_cases hk : k < n
    · rw [if_pos hk, List.getElem?_range hk]; simp [h1]
    · rw [if_neg hk, List.getElem?_eq_none (by simp; omega)]; rfl
  · rw [if_neg e]
    by_cases hi : i < n
    · rw [List.getElem?_range hi]; simp [h2 i (fun h => e h.symm)]
    · rw [List.getElem?_eq_none (by simp; omega)]; rfl
theorem tabR_at {n k : Nat} {o : Nat → Rng} (hk : k < n) : ∀ {m : Nat} {e : SV}, m = k → (encRs (tabR n o))[m]? = some e → e = encR (o k) := by
  rintro m e rfl he
  obtain ⟨x, hx, rfl⟩ := encRs_at he
  simp only [tabR, List.getElem?_map, List.getElem?_range hk, Option.map_some, Option.some.injEq] at hx
  rw [hx]
theorem tab_at {n k : Nat} {o : Nat → Int} (hk : k < n) : ∀ {m : Nat} {e : SV}, m = k → (ints (tab n o))[m]? = some e → e = .int .i64 (o k) := by
  rintro m e rfl he
  obtain ⟨x, hx, rfl⟩ := ints_at he
  simp only [tab, List.getElem?_map, List.getElem?_range hk, Option.map_some, Option.some.injEq] at hx
  rw [hx]
/-- What is paid, and what is short, for a need. -/
def payF (s : Soc) (f : Nat → Bool) (n : Int) (i : Nat) : Int := (callsF s.members 6 f n fun _ => 0).1 i
def shoF (s : Soc) (f : Nat → Bool) (n : Int) : Int := (callsF s.members 6 f n fun _ => 0).2
def mixR (A B : Nat → Rng) (k i : Nat) : Rng := if i < k then B i else A i
theorem mixR_0 {A B : Nat → Rng} (i : Nat) : A i = mixR A B 0 i := by simp [mixR]
theorem mixR_n {A B : Nat → Rng} {n i : Nat} (h : i < n) : mixR A B n i = B i := by simp [mixR, h]
theorem mixR_cur {A B : Nat → Rng} (k : Nat) : mixR A B k k = A k := by simp [mixR]
theorem mixR_at {A B : Nat → Rng} (k : Nat) : B k = mixR A B (k + 1) k := by simp [mixR]
theorem mixR_other {A B : Nat → Rng} {k i : Nat} (h : i ≠ k) : mixR A B k i = mixR A B (k + 1) i := by
  unfold mixR
  have : i < k ↔ i < k + 1 := by omega
  simp only [this]

set_option maxHeartbeats 8000000 in
set_option maxRecDepth 100000 in
theorem c43g (s : Soc) (o : Nat) (N : Rng) (L : Nat) (g : Nat → Int → Int) (z : Int → Int) (h1 : 1 ≤ s.members.length) (hl : s.members.length ≤ 5) (ho : o < 1000) (hN : 0 ≤ N.lo ∧ N.lo + L = N.hi + 1 ∧ N.hi ≤ 300000) (d34 : PF Try.prog 34 [encSoc s] (· = encR N))
    (d50 : ∀ n, 0 ≤ n ∧ n ≤ 300000 → PF Try.prog 50 [encSoc s, .int .i64 (o : Int), .int .i64 n] (· = .tup [.sl 1 (ints (tab s.members.length fun i => g i n)), .int .i64 (z n)])) :
    PF Try.prog 43 [encSoc s, .int .i64 (o : Int)] (· = .tup [.sl 2 (encRs (tabR s.members.length fun i => bR (g i) N.lo L)), encR (bR z N.lo L)]) := by
  have hz := encYs_len s.members
  have hsub1 : ∀ {x a b : Int}, x = min a b → (0 : Int) ≤ 0 → x = min a b := fun h _ => h
  have hsub2 : ∀ {x a b : Int}, x = max a b → (0 : Int) ≤ 0 → x = max a b := fun h _ => h
  refine PF.of (TF.ev fn_43 (Ev.at ?_))
  (repeat' (first | (intro rx hrx; have hq := hsub1 hrx (by omega); subst hq; clear hrx) | (intro rx hrx; have hq := hsub2 hrx (by omega); subst hq; clear hrx) | (intro ex hex; have hq := hg1 (by omega) hex; subst hq; clear hex) | (intro ex hex; have hq := hg2 (by omega) hex; subst hq; clear hex) | (refine Ev.go ?_; conv => whnf) | refine And.intro ?_ ?_ | exact True.intro | exact rfl | (intro rx hrx; rw [IntWalk.i64_in _ (by omega)] at hrx) | (intro hcx; exfalso; omega) | intro _))
  all_goals (first | (refine ⟨?_⟩; exact vc) | exact cl | skip)
  refine TSq.pureC d34 cl rfl (And.intro rfl rfl) ?_
  (repeat' (first | (intro rx hrx; have hq := hsub1 hrx (by omega); subst hq; clear hrx) | (intro rx hrx; have hq := hsub2 hrx (by omega); subst hq; clear hrx) | (intro ex hex; have hq := hg1 (by omega) hex; subst hq; clear hex) | (intro ex hex; have hq := hg2 (by omega) hex; subst hq; clear hex) | (refine Ev.go ?_; conv => whnf) | refine And.intro ?_ ?_ | exact True.intro | exact rfl | (intro rx hrx; rw [IntWalk.i64_in _ (by omega)] at hrx) | (intro hcx; exfalso; omega) | intro _))
  all_goals (first | (refine ⟨?_⟩; exact vc) | exact cl | skip)
  refine TWq.loopP (fun p : Nat × List Rng => [(9, .int .i64 p.1), (7, match p.2 with | [] => .nils | _ :: _ => .own 4)])
    (fun p => [(4, match p.2 with | [] => .dead | _ :: _ => .arr 25 2 (encRs p.2))])
    (fun p => p.1 ≤ s.members.length ∧ p.2 = List.replicate p.1 R0) (fun p => s.members.length - p.1) (0, []) [] ?_ ⟨by omega, by simp⟩ ?_
  · (repeat' (first | (intro rx hrx; have hq := hsub1 hrx (by omega); subst hq; clear hrx) | (intro rx hrx; have hq := hsub2 hrx (by omega); subst hq; clear hrx) | (intro ex hex; have hq := hg1 (by omega) hex; subst hq; clear hex) | (intro ex hex; have hq := hg2 (by omega) hex; subst hq; clear hex) | (refine Ev.go ?_; conv => whnf) | refine And.intro ?_ ?_ | exact True.intro | exact rfl | (intro rx hrx; rw [IntWalk.i64_in _ (by omega)] at hrx) | (intro hcx; exfalso; omega) | intro _))
    all_goals (first | (refine ⟨?_⟩; exact vc) | exact cl | skip)
  · rintro ⟨k, y⟩ ⟨hk, hy⟩
    dsimp only at hk hy ⊢
    have hyl : y.length = k := by rw [hy]; simp
    rcases Nat.lt_or_ge k s.members.length with hkl | hkl
    · rcases y with _ | ⟨a, l⟩
      · have hk0 : k = 0 := by simpa using hyl.symm
        subst hk0
        (repeat' (first | (intro rx hrx; have hq := hsub1 hrx (by omega); subst hq; clear hrx) | (intro rx hrx; have hq := hsub2 hrx (by omega); subst hq; clear hrx) | (intro ex hex; have hq := hg1 (by omega) hex; subst hq; clear hex) | (intro ex hex; have hq := hg2 (by omega) hex; subst hq; clear hex) | (refine Ev.go ?_; conv => whnf) | refine And.intro ?_ ?_ | exact True.intro | exact rfl | (intro rx hrx; rw [IntWalk.i64_in _ (by omega)] at hrx) | (intro hcx; exfalso; omega) | intro _))
        all_goals (first | (refine ⟨?_⟩; exact vc) | exact cl | skip)
        refine ⟨⟨[(4, 6)], (1, [R0]), ⟨by dsimp only; omega, rfl⟩, by dsimp only; omega, ?_⟩⟩
        (repeat' (first | (intro rx hrx; have hq := hsub1 hrx (by omega); subst hq; clear hrx) | (intro rx hrx; have hq := hsub2 hrx (by omega); subst hq; clear hrx) | (intro ex hex; have hq := hg1 (by omega) hex; subst hq; clear hex) | (intro ex hex; have hq := hg2 (by omega) hex; subst hq; clear hex) | (refine Ev.go ?_; conv => whnf) | refine And.intro ?_ ?_ | exact True.intro | exact rfl | (intro rx hrx; rw [IntWalk.i64_in _ (by omega)] at hrx) | (intro hcx; exfalso; omega) | intro _))
        all_goals (first | (refine ⟨?_⟩; exact vc) | exact cl | skip)
        all_goals (try (refine ⟨?_⟩; simp [encRs, encR, R0, catS, repl, chunks]))
      · simp only [List.length_cons] at hyl
        have hln : (encRs (a :: l)).length = l.length + 1 := by rw [encRs_len]; simp
        (repeat' (first | (intro rx hrx; have hq := hsub1 hrx (by omega); subst hq; clear hrx) | (intro rx hrx; have hq := hsub2 hrx (by omega); subst hq; clear hrx) | (intro ex hex; have hq := hg1 (by omega) hex; subst hq; clear hex) | (intro ex hex; have hq := hg2 (by omega) hex; subst hq; clear hex) | (refine Ev.go ?_; conv => whnf) | refine And.intro ?_ ?_ | exact True.intro | exact rfl | (intro rx hrx; rw [IntWalk.i64_in _ (by omega)] at hrx) | (intro hcx; exfalso; omega) | intro _))
        all_goals (first | (refine ⟨?_⟩; exact vc) | exact cl | skip)
        all_goals (try (refine ⟨?_⟩; simp only [hln]; simp [catS, repl, chunks]; omega))
        refine ⟨⟨[(4, 6)], (k + 1, (a :: l) ++ [R0]), ⟨by dsimp only; omega, by dsimp only; rw [hy]; exact (List.replicate_succ' ..).symm⟩, by dsimp only; omega, ?_⟩⟩
        (repeat' (first | (intro rx hrx; have hq := hsub1 hrx (by omega); subst hq; clear hrx) | (intro rx hrx; have hq := hsub2 hrx (by omega); subst hq; clear hrx) | (intro ex hex; have hq := hg1 (by omega) hex; subst hq; clear hex) | (intro ex hex; have hq := hg2 (by omega) hex; subst hq; clear hex) | (refine Ev.go ?_; conv => whnf) | refine And.intro ?_ ?_ | exact True.intro | exact rfl | (intro rx hrx; rw [IntWalk.i64_in _ (by omega)] at hrx) | (intro hcx; exfalso; omega) | intro _))
        all_goals (first | (refine ⟨?_⟩; exact vc) | exact cl | skip)
        all_goals (try (refine ⟨?_⟩; simp [encRs, encR, R0, catS, repl, chunks]))
    · have hke : k = s.members.length := by omega
      have hy2 : y = tabR s.members.length fun i => bR (g i) N.lo 0 := by
        rw [hy, hke]; simp only [tabR, bR]; rw [List.map_const']; simp
      rcases y with _ | ⟨a, l⟩
      · simp at hyl; omega
      · clear hy
        (repeat' (first | (intro rx hrx; have hq := hsub1 hrx (by omega); subst hq; clear hrx) | (intro rx hrx; have hq := hsub2 hrx (by omega); subst hq; clear hrx) | (intro ex hex; have hq := hg1 (by omega) hex; subst hq; clear hex) | (intro ex hex; have hq := hg2 (by omega) hex; subst hq; clear hex) | (refine Ev.go ?_; conv => whnf) | refine And.intro ?_ ?_ | exact True.intro | exact rfl | (intro rx hrx; rw [IntWalk.i64_in _ (by omega)] at hrx) | (intro hcx; exfalso; omega) | intro _))
        all_goals (first | (refine ⟨?_⟩; exact vc) | exact cl | skip)
        refine TWq.loop (fun j : Nat => [(10, .int .i64 (N.lo + j))]) (fun j => [(3, .cells [.int .i64 (bR z N.lo j).lo, .int .i64 (bR z N.lo j).hi]), (4, .arr 25 2 (encRs (tabR s.members.length fun i => bR (g i) N.lo j)))]) (fun j => j ≤ L) (fun j => L - j) 0 [] [] ?_ (by omega) ?_
        · (repeat' (first | (intro rx hrx; have hq := hsub1 hrx (by omega); subst hq; clear hrx) | (intro rx hrx; have hq := hsub2 hrx (by omega); subst hq; clear hrx) | (intro ex hex; have hq := hg1 (by omega) hex; subst hq; clear hex) | (intro ex hex; have hq := hg2 (by omega) hex; subst hq; clear hex) | (refine Ev.go ?_; conv => whnf) | refine And.intro ?_ ?_ | exact True.intro | exact rfl | (intro rx hrx; rw [IntWalk.i64_in _ (by omega)] at hrx) | (intro hcx; exfalso; omega) | intro _))
          all_goals (first | (refine ⟨?_⟩; exact vc) | exact cl | skip)
          all_goals (try exact ⟨congrArg encRs hy2⟩)
        · intro j hj
          rcases Nat.lt_or_ge j L with hjl | hjl
          · have d := d50 (N.lo + j) (by omega)
            have hla : (ints (tab s.members.length fun i => g i (N.lo + j))).length = s.members.length := by rw [ints_len, tab_len]
            have hes : (⟨min (bR z N.lo j).lo (z (N.lo + j)), max (bR z N.lo j).hi (z (N.lo + j))⟩ : Rng) = bR z N.lo (j + 1) := rfl
            (repeat' (first | (intro rx hrx; have hq := hsub1 hrx (by omega); subst hq; clear hrx) | (intro rx hrx; have hq := hsub2 hrx (by omega); subst hq; clear hrx) | (intro ex hex; have hq := hg1 (by omega) hex; subst hq; clear hex) | (intro ex hex; have hq := hg2 (by omega) hex; subst hq; clear hex) | (refine Ev.go ?_; conv => whnf) | refine And.intro ?_ ?_ | exact True.intro | exact rfl | (intro rx hrx; rw [IntWalk.i64_in _ (by omega)] at hrx) | (intro hcx; exfalso; omega) | intro _))
            all_goals (try (exfalso; omega))
            refine TSq.pureC d cl rfl (And.intro rfl rfl) ?_
            (repeat' (first | (intro rx hrx; have hq := hsub1 hrx (by omega); subst hq; clear hrx) | (intro rx hrx; have hq := hsub2 hrx (by omega); subst hq; clear hrx) | (intro ex hex; have hq := hg1 (by omega) hex; subst hq; clear hex) | (intro ex hex; have hq := hg2 (by omega) hex; subst hq; clear hex) | (refine Ev.go ?_; conv => whnf) | refine And.intro ?_ ?_ | exact True.intro | exact rfl | (intro rx hrx; rw [IntWalk.i64_in _ (by omega)] at hrx) | (intro hcx; exfalso; omega) | intro _))
            all_goals (first | (refine ⟨?_⟩; exact vc) | exact cl | skip)
            refine TWq.loop (fun k : Nat => [(13, .int .i64 k)]) (fun k => [(4, .arr 25 2 (encRs (tabR s.members.length (mixR (fun i => bR (g i) N.lo j) (fun i => bR (g i) N.lo (j + 1)) k))))]) (fun k => k ≤ s.members.length) (fun k => s.members.length - k) 0 [] [] ?_ (by omega) ?_
            · (repeat' (first | (intro rx hrx; have hq := hsub1 hrx (by omega); subst hq; clear hrx) | (intro rx hrx; have hq := hsub2 hrx (by omega); subst hq; clear hrx) | (intro ex hex; have hq := hg1 (by omega) hex; subst hq; clear hex) | (intro ex hex; have hq := hg2 (by omega) hex; subst hq; clear hex) | (refine Ev.go ?_; conv => whnf) | refine And.intro ?_ ?_ | exact True.intro | exact rfl | (intro rx hrx; rw [IntWalk.i64_in _ (by omega)] at hrx) | (intro hcx; exfalso; omega) | intro _))
              all_goals (first | (refine ⟨?_⟩; exact vc) | exact cl | skip)
            · intro k hk
              rcases Nat.lt_or_ge k s.members.length with hkl | hkl
              · have hlk : (encRs (tabR s.members.length (mixR (fun i => bR (g i) N.lo j) (fun i => bR (g i) N.lo (j + 1)) k))).length = s.members.length := by rw [encRs_len, tabR_len]
                have hg1 : ∀ {m : Nat} {e : SV}, m = k → (encRs (tabR s.members.length (mixR (fun i => bR (g i) N.lo j) (fun i => bR (g i) N.lo (j + 1)) k)))[m]? = some e → e = encR (bR (g k) N.lo j) := fun h he => by
                  rw [tabR_at hkl h he, mixR_cur]
                have hg2 := @tab_at s.members.length k (fun i => g i (N.lo + j)) hkl
                have hset := @tabR_set s.members.length k (mixR (fun i => bR (g i) N.lo j) (fun i => bR (g i) N.lo (j + 1)) k) (mixR (fun i => bR (g i) N.lo j) (fun i => bR (g i) N.lo (j + 1)) (k + 1)) ⟨min (bR (g k) N.lo j).lo (g k (N.lo + j)), max (bR (g k) N.lo j).hi (g k (N.lo + j))⟩ (mixR_at (A := fun i => bR (g i) N.lo j) (B := fun i => bR (g i) N.lo (j + 1)) k) fun i hi => mixR_other hi
                (repeat' (first | (intro rx hrx; have hq := hsub1 hrx (by omega); subst hq; clear hrx) | (intro rx hrx; have hq := hsub2 hrx (by omega); subst hq; clear hrx) | (intro ex hex; have hq := hg1 (by omega) hex; subst hq; clear hex) | (intro ex hex; have hq := hg2 (by omega) hex; subst hq; clear hex) | (refine Ev.go ?_; conv => whnf) | refine And.intro ?_ ?_ | exact True.intro | exact rfl | (intro rx hrx; rw [IntWalk.i64_in _ (by omega)] at hrx) | (intro hcx; exfalso; omega) | intro _))
                all_goals (first | (refine ⟨?_⟩; exact vk) | exact cl | skip)
                refine ⟨⟨k + 1, by omega, by omega, ?_⟩⟩
                (repeat' (first | (intro rx hrx; have hq := hsub1 hrx (by omega); subst hq; clear hrx) | (intro rx hrx; have hq := hsub2 hrx (by omega); subst hq; clear hrx) | (intro ex hex; have hq := hg1 (by omega) hex; subst hq; clear hex) | (intro ex hex; have hq := hg2 (by omega) hex; subst hq; clear hex) | (refine Ev.go ?_; conv => whnf) | refine And.intro ?_ ?_ | exact True.intro | exact rfl | (intro rx hrx; rw [IntWalk.i64_in _ (by omega)] at hrx) | (intro hcx; exfalso; omega) | intro _))
                all_goals (first | (refine ⟨?_⟩; exact vc) | exact cl | skip)
                all_goals (try exact ⟨hset⟩)
              · have hke : k = s.members.length := by omega
                subst hke
                rw [tabR_congr (n := s.members.length) (o := mixR (fun i => bR (g i) N.lo j) (fun i => bR (g i) N.lo (j + 1)) s.members.length) (o' := fun i => bR (g i) N.lo (j + 1)) fun i hi => mixR_n hi]
                (repeat' (first | (intro rx hrx; have hq := hsub1 hrx (by omega); subst hq; clear hrx) | (intro rx hrx; have hq := hsub2 hrx (by omega); subst hq; clear hrx) | (intro ex hex; have hq := hg1 (by omega) hex; subst hq; clear hex) | (intro ex hex; have hq := hg2 (by omega) hex; subst hq; clear hex) | (refine Ev.go ?_; conv => whnf) | refine And.intro ?_ ?_ | exact True.intro | exact rfl | (intro rx hrx; rw [IntWalk.i64_in _ (by omega)] at hrx) | (intro hcx; exfalso; omega) | intro _))
                all_goals (first | (refine ⟨?_⟩; exact vc) | exact cl | skip)
                refine ⟨⟨j + 1, by omega, by omega, ?_⟩⟩
                (repeat' (first | (intro rx hrx; have hq := hsub1 hrx (by omega); subst hq; clear hrx) | (intro rx hrx; have hq := hsub2 hrx (by omega); subst hq; clear hrx) | (intro ex hex; have hq := hg1 (by omega) hex; subst hq; clear hex) | (intro ex hex; have hq := hg2 (by omega) hex; subst hq; clear hex) | (refine Ev.go ?_; conv => whnf) | refine And.intro ?_ ?_ | exact True.intro | exact rfl | (intro rx hrx; rw [IntWalk.i64_in _ (by omega)] at hrx) | (intro hcx; exfalso; omega) | intro _))
                all_goals (first | (refine ⟨?_⟩; exact vc) | exact cl | skip)
                all_goals (try (refine ⟨?_⟩; omega))
          · have hje : j = L := by omega
            subst hje
            (repeat' (first | (intro rx hrx; have hq := hsub1 hrx (by omega); subst hq; clear hrx) | (intro rx hrx; have hq := hsub2 hrx (by omega); subst hq; clear hrx) | (intro ex hex; have hq := hg1 (by omega) hex; subst hq; clear hex) | (intro ex hex; have hq := hg2 (by omega) hex; subst hq; clear hex) | (refine Ev.go ?_; conv => whnf) | refine And.intro ?_ ?_ | exact True.intro | exact rfl | (intro rx hrx; rw [IntWalk.i64_in _ (by omega)] at hrx) | (intro hcx; exfalso; omega) | intro _))
            all_goals (first | (refine ⟨?_⟩; exact vk) | exact cl | skip)
            all_goals (try rfl)
/-- The bounds, of those who are not on a list. -/
theorem c43 (s : Soc) (out : List Int) (hf : fault s = 0) : PF Try.prog 43 [encSoc s, .int .i64 ((valB (askF s.members out) s.members.length : Nat) : Int)] (· = .tup [.sl 2 (encRs (boundsOf s out)), encR (shortOf s out)]) := by
  obtain ⟨hm, hr, ht, hs, h1⟩ := fault_ok hf
  have hl := (fault_len hf).1
  have hn := needs_le hf
  have hp5 : 2 ^ s.members.length ≤ 32 := Nat.pow_le_pow_right (n := 2) (by omega) hl
  have hv := valB_lt (askF s.members out) s.members.length
  have hb : bitN (valB (askF s.members out) s.members.length) = askF s.members out := bitN_ask rfl
  obtain ⟨L, hL⟩ : ∃ L : Nat, (needsOf s).lo + L = (needsOf s).hi + 1 := ⟨((needsOf s).hi + 1 - (needsOf s).lo).toNat, by omega⟩
  have h := c43g s (valB (askF s.members out) s.members.length) (needsOf s) L (fun i n => payF s (askF s.members out) n i) (fun n => shoF s (askF s.members out) n) h1 hl (by omega) ⟨by omega, hL, by omega⟩ (c34 s hf) fun n hn' => by
    have d := c50 s (valB (askF s.members out) s.members.length) n hm hl hv hn'
    rw [hb] at d; exact d
  have hpb : ∀ i n, (needsOf s).lo ≤ n → n ≤ (needsOf s).hi → i < s.members.length → 0 ≤ payF s (askF s.members out) n i ∧ payF s (askF s.members out) n i ≤ 1000000 := fun i n h2 h3 hi => by
    have := calls_bd hf out (n := n) (by omega) _ (List.mem_of_getElem? (calls_at (out := out) (n := n) hi))
    unfold payF; omega
  have e1 : tabR s.members.length (fun i => bR (fun n => payF s (askF s.members out) n i) (needsOf s).lo L) = boundsOf s out := by
    rw [boundsOf_eq hf]
    exact tabR_congr fun i hi => bR_every (fun n h2 h3 => hpb i n h2 h3 hi) hn.1.2 hL
  have e2 : bR (fun n => shoF s (askF s.members out) n) (needsOf s).lo L = shortOf s out :=
    bR_every (fun n h2 h3 => by
      have h4 := calls_short hf out (n := n) (by omega)
      have h5 := calls_sum hf out (n := n) (by omega)
      have h6 : 0 ≤ sumL (callsOf s out n).1 := by
        have := sumL_bd (l := (callsOf s out n).1) (fun x hx => by have := calls_bd hf out (n := n) (by omega) x hx; omega) (callsOf s out n).1.length
        rw [List.take_length] at this; exact this.1
      change shoF s (askF s.members out) n = _ at h4
      change _ + shoF s (askF s.members out) n = _ at h5
      omega) hn.1.2 hL
  rw [e1, e2] at h
  exact h
end Go.Proofs.Ythnaamkempmjkaa
