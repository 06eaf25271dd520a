/- Books, the document's answer: lists of days by their numbers; truths. Books, the document's answer: whether there is a truth; all truths; the error of a book. Who owns what is there: the fields of a book that was played, summed by their owners. Calls in plain Lean: free shares, members that are alike, who is not short. Calls in plain Lean: societies in which nobody is capped. The calls for a need. -/
import Derived.Test.YtjadiajfbflghaaGreatB10
import Derived.Test.YtjadiajfbflghaaGreatB9
import Derived.Test.YtjadiajfbflghaaGreatB6
import Derived.Test.YtjadiajfbflghaaGreatB8
set_option maxHeartbeats 32000000
set_option maxRecDepth 100000
set_option linter.unusedSimpArgs false
set_option linter.unusedVariables false
open Go Go.TV
namespace Go.Proofs.YtjadiajfbflghaaGreat
theorem rngs_take {b : Bok} {k : Nat} {x : Ent} (h : b.ents[k]? = some x) : b.rngs[k]? = some x.day := by
 rw [Bok.rngs, List.getElem?_append_left (by rw [List.length_map]; exact (List.getElem?_eq_some_iff.1 h).1), List.getElem?_map, h]; rfl
theorem rngs_drop {b : Bok} {k : Nat} {x : Pcl} (h : b.pcls[k]? = some x) : b.rngs[b.ents.length + k]? = some x.sown := by
 rw [Bok.rngs, List.getElem?_append_right (by rw [List.length_map]; omega), List.length_map, Nat.add_sub_cancel_left, List.getElem?_map, h]; rfl
theorem rngs_len (b : Bok) : b.rngs.length = b.ents.length + b.pcls.length := by simp [Bok.rngs]
theorem c100 (b : Bok) (hb : OkBok b) : PF Tryz.prog 100 [encBok b] (· = .int .i64 (manyS b.rngs)) := by
 have hz := encPcls_len b.pcls
 have hw := encEnts_len b.ents
 have hpl := hb.plen
 have hel := hb.elen
 have hrs := hb.rsize
 have hro := hb.rngs_ok
 have hrl := rngs_len b
 refine PF.of (TF.ev fn_100 (Ev.at ?_))
 (repeat' first | (intro rx hrx; have hq := hsub1 hrx (by omega); subst hq; clear hrx) | refine gx hg1 ?_ | (refine eg ?_; conv => whnf) | refine an ?_ ?_ | (refine iw ?_; intro rx hrx) | exact lf | intro _)
 all_goals try exact vy
 refine TWq.loop (fun k : Nat => [(3, .int .i64 (manyS (b.rngs.take k))), (4, .int .i64 k)]) (fun _ => []) (fun k => k ≤ b.ents.length) (fun k => b.ents.length - k) 0 [] [] ?_ (by omega) ?_
 ·(repeat' first | (intro rx hrx; have hq := hsub1 hrx (by omega); subst hq; clear hrx) | refine gx hg1 ?_ | (refine eg ?_; conv => whnf) | refine an ?_ ?_ | (refine iw ?_; intro rx hrx) | exact lf | intro _)
  all_goals try exact vy
 ·intro k hk
  have hbd := manyS_bd hrs k
  rcases Nat.lt_or_ge k b.ents.length with hkl | hkl
  ·obtain ⟨v, hv⟩ : ∃ v, b.ents[k]? = some v := ⟨_, List.getElem?_eq_getElem hkl⟩
   have hg1 : ∀ {n : Nat} {x : SV}, n = k → (encEnts b.ents)[n]? = some x → x = encEnt v := by
    rintro n x rfl he
    obtain ⟨y, hy, rfl⟩ := encEnts_at he
    rw [hv] at hy; cases hy; rfl
   have hr := rngs_take hv
   have hs := manyS_snoc hr
   have hm := List.mem_of_getElem? hr
   have h1 := hrs _ hm
   have h2 := hb.day_lo (hro _ hm)
   have hmul : 0 ≤ manyS (b.rngs.take k) * rsize v.day ∧ manyS (b.rngs.take k) * rsize v.day ≤ 80000 := by
    have h1' := Int.mul_nonneg (show 0 ≤ manyS (b.rngs.take k) by omega) (show 0 ≤ rsize v.day by omega)
    have h2' := Int.mul_le_mul (a := manyS (b.rngs.take k)) (b := rsize v.day) (c := 2000) (d := 31) hbd.2 h1.2 (by omega) (by omega)
    omega
   have hsub1 : ∀ {r x : Int}, r = IntKind.i64.wrap (manyS (b.rngs.take k) * x) → x = v.day.hi - v.day.lo + 1 → r = manyS (b.rngs.take k) * rsize v.day := fun h e => by
    rw [h, e, show v.day.hi - v.day.lo + 1 = rsize v.day from rfl, IntWalk.i64_in _ (by omega)]
   (repeat' first | (intro rx hrx; have hq := hsub1 hrx (by omega); subst hq; clear hrx) | refine gx hg1 ?_ | (refine eg ?_; conv => whnf) | refine an ?_ ?_ | (refine iw ?_; intro rx hrx) | exact lf | intro _)
   all_goals (try (exfalso; omega))
   all_goals try exact vz
   refine ⟨⟨k + 1, by omega, by omega, ?_⟩⟩
   (repeat' first | (intro rx hrx; have hq := hsub1 hrx (by omega); subst hq; clear hrx) | refine gx hg1 ?_ | (refine eg ?_; conv => whnf) | refine an ?_ ?_ | (refine iw ?_; intro rx hrx) | exact lf | intro _)
   all_goals try exact vy
   all_goals (refine ⟨?_⟩; rw [hs]; assumption)
  ·have hke : k = b.ents.length := by omega
   subst hke
   (repeat' first | (intro rx hrx; have hq := hsub1 hrx (by omega); subst hq; clear hrx) | refine gx hg1 ?_ | (refine eg ?_; conv => whnf) | refine an ?_ ?_ | (refine iw ?_; intro rx hrx) | exact lf | intro _)
   all_goals (try (exfalso; omega))
   all_goals try exact vy
   refine TWq.loop (fun k : Nat => [(3, .int .i64 (manyS (b.rngs.take (b.ents.length + k)))), (5, .int .i64 k)]) (fun _ => []) (fun k => k ≤ b.pcls.length) (fun k => b.pcls.length - k) 0 [] [] ?_ (by omega) ?_
   ·(repeat' first | (intro rx hrx; have hq := hsub1 hrx (by omega); subst hq; clear hrx) | refine gx hg1 ?_ | (refine eg ?_; conv => whnf) | refine an ?_ ?_ | (refine iw ?_; intro rx hrx) | exact lf | intro _)
    all_goals try exact vy
   ·intro k hk
    have hbd := manyS_bd hrs (b.ents.length + k)
    rcases Nat.lt_or_ge k b.pcls.length with hkl | hkl
    ·obtain ⟨v, hv⟩ : ∃ v, b.pcls[k]? = some v := ⟨_, List.getElem?_eq_getElem hkl⟩
     have hg1 : ∀ {n : Nat} {x : SV}, n = k → (encPcls b.pcls)[n]? = some x → x = encPcl v := by
      rintro n x rfl he
      obtain ⟨y, hy, rfl⟩ := encPcls_at he
      rw [hv] at hy; cases hy; rfl
     have hr := rngs_drop hv
     have hs := manyS_snoc hr
     have hm := List.mem_of_getElem? hr
     have h1 := hrs _ hm
     have h2 := hb.day_lo (hro _ hm)
     have hmul : 0 ≤ manyS (b.rngs.take (b.ents.length + k)) * rsize v.sown ∧ manyS (b.rngs.take (b.ents.length + k)) * rsize v.sown ≤ 80000 := by
      have h1' := Int.mul_nonneg (show 0 ≤ manyS (b.rngs.take (b.ents.length + k)) by omega) (show 0 ≤ rsize v.sown by omega)
      have h2' := Int.mul_le_mul (a := manyS (b.rngs.take (b.ents.length + k))) (b := rsize v.sown) (c := 2000) (d := 31) hbd.2 h1.2 (by omega) (by omega)
      omega
     have hsub1 : ∀ {r x : Int}, r = IntKind.i64.wrap (manyS (b.rngs.take (b.ents.length + k)) * x) → x = v.sown.hi - v.sown.lo + 1 → r = manyS (b.rngs.take (b.ents.length + k)) * rsize v.sown := fun h e => by
      rw [h, e, show v.sown.hi - v.sown.lo + 1 = rsize v.sown from rfl, IntWalk.i64_in _ (by omega)]
     (repeat' first | (intro rx hrx; have hq := hsub1 hrx (by omega); subst hq; clear hrx) | refine gx hg1 ?_ | (refine eg ?_; conv => whnf) | refine an ?_ ?_ | (refine iw ?_; intro rx hrx) | exact lf | intro _)
     all_goals (try (exfalso; omega))
     all_goals try exact vz
     refine ⟨⟨k + 1, by omega, by omega, ?_⟩⟩
     (repeat' first | (intro rx hrx; have hq := hsub1 hrx (by omega); subst hq; clear hrx) | refine gx hg1 ?_ | (refine eg ?_; conv => whnf) | refine an ?_ ?_ | (refine iw ?_; intro rx hrx) | exact lf | intro _)
     all_goals try exact vy
     all_goals (refine ⟨?_⟩; rw [← Nat.add_assoc, hs]; assumption)
    ·have hke : k = b.pcls.length := by omega
     subst hke
     (repeat' first | (intro rx hrx; have hq := hsub1 hrx (by omega); subst hq; clear hrx) | refine gx hg1 ?_ | (refine eg ?_; conv => whnf) | refine an ?_ ?_ | (refine iw ?_; intro rx hrx) | exact lf | intro _)
     all_goals (try (exfalso; omega))
     all_goals try exact vy
     rw [List.take_of_length_le (by omega)]
def remN (l : List Rng) (n : Int) : Int := l.foldl (fun m r => m / rsize r) n
def nthL : List Rng → Int → List Int
 | [], _ => []
 | r :: rs, n => (r.lo + n % rsize r) :: nthL rs (n / rsize r)
theorem nthL_len : ∀ (R : List Rng) (n : Int), (nthL R n).length = R.length
 | [], _ => rfl
 | r :: rs, n => by simp [nthL, nthL_len rs]
theorem nthL_at : ∀ {R : List Rng} {n : Int} {k : Nat} {r : Rng}, R[k]? = some r → (nthL R n)[k]? = some (r.lo + remN (R.take k) n % rsize r)
 | [], _, _, _, h => by simp at h
 | x :: rs, n, 0, r, h => by simp at h; subst h; rfl
 | x :: rs, n, k + 1, r, h => by
  have := nthL_at (R := rs) (n := n / rsize x) (k := k) (by simpa using h)
  simpa [nthL, remN] using this
theorem remN_snoc {R : List Rng} {n : Int} {k : Nat} {r : Rng} (h : R[k]? = some r) : remN (R.take (k + 1)) n = remN (R.take k) n / rsize r := by
 rw [take_snoc h]; simp only [remN, List.foldl_append, List.foldl_cons, List.foldl_nil]
theorem remN_bd {R : List Rng} (h : ∀ r ∈ R, 1 ≤ rsize r) {n : Int} (hn : 0 ≤ n) : ∀ k, 0 ≤ remN (R.take k) n ∧ remN (R.take k) n ≤ n
 | 0 => by simp [remN, hn]
 | k + 1 => by
  have ih := remN_bd h hn k
  rcases Nat.lt_or_ge k R.length with hk | hk
  ·have hx : R[k]? = some R[k] := List.getElem?_eq_getElem hk
   rw [remN_snoc hx]
   have h1 := h _ (List.mem_of_getElem? hx)
   have h2 := Int.ediv_nonneg ih.1 (show 0 ≤ rsize R[k] by omega)
   have h3 := Int.ediv_le_self (rsize R[k]) ih.1
   omega
  ·rw [List.take_of_length_le (by omega)]
   rw [List.take_of_length_le (by omega)] at ih
   exact ih
def ownI (n : Nat) (l : List Int) : SV := match l with | [] => .nils | _ :: _ => .own n
def arrI (l : List Int) : LB := match l with | [] => .dead | _ :: _ => .arr 3 1 (ints l)
def LNs (l : List Int) (s : SV) : Prop := s = .sl 1 (ints l) ∨ (l = [] ∧ s = .nils)
theorem pair_pf {f : FuncId} {args : List SV} {a b : List Int} (h : PF Tryz.prog f args fun s => ∃ x y, s = .agg [x, y] ∧ LNs a x ∧ LNs b y) : PF Tryz.prog f args (· = .agg [.sl 1 (ints a), .sl 1 (ints b)]) := by
 refine PF.res h fun v hv _ => ?_
 refine ⟨_, rfl, by simp [clo, cloL], ?_⟩
 obtain ⟨x, y, rfl, hx, hy⟩ := hv
 rcases hx with rfl | ⟨rfl, rfl⟩ <;> rcases hy with rfl | ⟨rfl, rfl⟩
 all_goals
  (repeat' first | (refine eg ?_; conv => whnf) | refine an ?_ ?_ | (refine iw ?_; intro rx hrx) | exact lf | intro _)
  all_goals try exact vy
theorem c102 (b : Bok) (n : Int) (hb : OkBok b) (hn : 0 ≤ n ∧ n ≤ 1000000) : PF Tryz.prog 102 [encBok b, .int .i64 n] (· = .agg [.sl 1 (ints ((nthL b.rngs n).take b.ents.length)), .sl 1 (ints ((nthL b.rngs n).drop b.ents.length))]) := by
 have hz := encPcls_len b.pcls
 have hw := encEnts_len b.ents
 have hpl := hb.plen
 have hel := hb.elen
 have hrs := hb.rsize
 have hro := hb.rngs_ok
 have hrl := rngs_len b
 have hnl := nthL_len b.rngs n
 refine pair_pf (PF.of (TF.ev fn_102 (Ev.at ?_)))
 (repeat' first | (intro rx hrx; have hq := hsub1 hrx (by omega); subst hq; clear hrx) | (intro rx hrx; have hq := hsub2 hrx (by omega); subst hq; clear hrx) | (intro rx hrx; have hq := hsub3 hrx (by omega); subst hq; clear hrx) | refine gx hg1 ?_ | (refine eg ?_; conv => whnf) | refine an ?_ ?_ | (refine iw ?_; intro rx hrx) | exact lf | intro _)
 all_goals try exact vy
 refine TWq.loopP (fun p : Nat × List Int => [(1, .int .i64 (remN (b.rngs.take p.1) n)), (6, .int .i64 p.1)]) (fun p => [(2, .cells [ownI 3 p.2, .nils]), (3, arrI p.2)]) (fun p => p.1 ≤ b.ents.length ∧ p.2 = (nthL b.rngs n).take p.1) (fun p => b.ents.length - p.1) (0, []) [] ?_ ⟨by omega, by simp⟩ ?_
 ·(repeat' first | (intro rx hrx; have hq := hsub1 hrx (by omega); subst hq; clear hrx) | (intro rx hrx; have hq := hsub2 hrx (by omega); subst hq; clear hrx) | (intro rx hrx; have hq := hsub3 hrx (by omega); subst hq; clear hrx) | refine gx hg1 ?_ | (refine eg ?_; conv => whnf) | refine an ?_ ?_ | (refine iw ?_; intro rx hrx) | exact lf | intro _)
  all_goals try exact vy
  all_goals (try exact ⟨ints_clo _⟩)
 ·rintro ⟨k, l⟩ ⟨hk, hl⟩
  dsimp only at hk hl ⊢
  have hbd := remN_bd (R := b.rngs) (fun r h => (hrs r h).1) hn.1 k
  have hlen : l.length = k := by rw [hl]; simp; omega
  rcases Nat.lt_or_ge k b.ents.length with hkl | hkl
  ·obtain ⟨v, hv⟩ : ∃ v, b.ents[k]? = some v := ⟨_, List.getElem?_eq_getElem hkl⟩
   have hg1 : ∀ {n : Nat} {x : SV}, n = k → (encEnts b.ents)[n]? = some x → x = encEnt v := by
    rintro n x rfl he
    obtain ⟨y, hy, rfl⟩ := encEnts_at he
    rw [hv] at hy; cases hy; rfl
   have hr := rngs_take hv
   have hs := remN_snoc (n := n) hr
   have hat := nthL_at (n := n) hr
   have h1 := hrs _ (List.mem_of_getElem? hr)
   have h2 := hb.day_lo (hro _ (List.mem_of_getElem? hr))
   have hmod := Int.emod_nonneg (remN (b.rngs.take k) n) (show rsize v.day ≠ 0 by omega)
   have hmod2 := Int.emod_lt_of_pos (remN (b.rngs.take k) n) (show 0 < rsize v.day by omega)
   have hsub1 : ∀ {r x : Int}, r = Int.tmod (remN (b.rngs.take k) n) x → x = v.day.hi - v.day.lo + 1 → r = remN (b.rngs.take k) n % rsize v.day := fun h e => by rw [h, e, Int.tmod_eq_emod_of_nonneg hbd.1]; rfl
   have hsub2 : ∀ {r x : Int}, r = IntKind.i64.wrap (Int.tdiv (remN (b.rngs.take k) n) x) → x = v.day.hi - v.day.lo + 1 → r = remN (b.rngs.take k) n / rsize v.day := fun h e => by
    have h3 := Int.ediv_le_self (rsize v.day) hbd.1
    have h4 := Int.ediv_nonneg hbd.1 (show 0 ≤ rsize v.day by omega)
    rw [h, e, Int.tdiv_eq_ediv_of_nonneg hbd.1, show v.day.hi - v.day.lo + 1 = rsize v.day from rfl, IntWalk.i64_in _ (by omega)]
   have hsub3 : ∀ {r : Int}, r = IntKind.i64.wrap (v.day.lo + remN (b.rngs.take k) n % rsize v.day) → (0 : Int) ≤ 0 → r = v.day.lo + remN (b.rngs.take k) n % rsize v.day := fun h _ => by rw [h, IntWalk.i64_in _ (by omega)]
   rcases l with _ | ⟨y, l⟩
   all_goals
    simp only [List.length_cons, List.length_nil] at hlen
    (repeat' first | (intro rx hrx; have hq := hsub1 hrx (by omega); subst hq; clear hrx) | (intro rx hrx; have hq := hsub2 hrx (by omega); subst hq; clear hrx) | (intro rx hrx; have hq := hsub3 hrx (by omega); subst hq; clear hrx) | refine gx hg1 ?_ | (refine eg ?_; conv => whnf) | refine an ?_ ?_ | (refine iw ?_; intro rx hrx) | exact lf | intro _)
    all_goals (try (exfalso; omega))
    all_goals try exact vz
    all_goals (try (refine ⟨?_⟩; simp [ints_len, catS, repl, chunks] <;> omega))
    refine ⟨⟨[(3, 6)], (k + 1, _ ++ [v.day.lo + remN (b.rngs.take k) n % rsize v.day]), ⟨by dsimp only; omega, by rw [take_snoc hat, ← hl]⟩, by dsimp only; omega, ?_⟩⟩
    (repeat' first | (intro rx hrx; have hq := hsub1 hrx (by omega); subst hq; clear hrx) | (intro rx hrx; have hq := hsub2 hrx (by omega); subst hq; clear hrx) | (intro rx hrx; have hq := hsub3 hrx (by omega); subst hq; clear hrx) | refine gx hg1 ?_ | (refine eg ?_; conv => whnf) | refine an ?_ ?_ | (refine iw ?_; intro rx hrx) | exact lf | intro _)
    all_goals try exact vy
    all_goals (refine ⟨?_⟩; first | (rw [hs]; done) | exact ints_clo _ | (simp [ints, catS, repl, chunks]; done))
  ·have hke : k = b.ents.length := by omega
   rw [hke] at hl
   subst hke
   rcases l with _ | ⟨y, l⟩
   ·(repeat' first | (intro rx hrx; have hq := hsub1 hrx (by omega); subst hq; clear hrx) | (intro rx hrx; have hq := hsub2 hrx (by omega); subst hq; clear hrx) | (intro rx hrx; have hq := hsub3 hrx (by omega); subst hq; clear hrx) | refine gx hg1 ?_ | (refine eg ?_; conv => whnf) | refine an ?_ ?_ | (refine iw ?_; intro rx hrx) | exact lf | intro _)
    all_goals (try (exfalso; omega))
    all_goals try exact vy
    refine TWq.loopP (fun p : Nat × List Int => [(1, .int .i64 (remN (b.rngs.take (b.ents.length + p.1)) n)), (8, .int .i64 p.1)]) (fun p => [(2, .cells [.nils, ownI 4 p.2]), (4, arrI p.2)]) (fun p => p.1 ≤ b.pcls.length ∧ p.2 = ((nthL b.rngs n).drop b.ents.length).take p.1) (fun p => b.pcls.length - p.1) (0, []) [] ?_ ⟨by omega, by simp⟩ ?_
    ·(repeat' first | (intro rx hrx; have hq := hsub1 hrx (by omega); subst hq; clear hrx) | (intro rx hrx; have hq := hsub2 hrx (by omega); subst hq; clear hrx) | (intro rx hrx; have hq := hsub3 hrx (by omega); subst hq; clear hrx) | refine gx hg1 ?_ | (refine eg ?_; conv => whnf) | refine an ?_ ?_ | (refine iw ?_; intro rx hrx) | exact lf | intro _)
     all_goals try exact vy
     all_goals (try exact ⟨ints_clo _⟩)
    ·rintro ⟨k, m⟩ ⟨hk, hm⟩
     dsimp only at hk hm ⊢
     have hbd := remN_bd (R := b.rngs) (fun r h => (hrs r h).1) hn.1 (b.ents.length + k)
     have hmlen : m.length = k := by rw [hm]; simp; omega
     rcases Nat.lt_or_ge k b.pcls.length with hkl | hkl
     ·obtain ⟨v, hv⟩ : ∃ v, b.pcls[k]? = some v := ⟨_, List.getElem?_eq_getElem hkl⟩
      have hg1 : ∀ {n : Nat} {x : SV}, n = k → (encPcls b.pcls)[n]? = some x → x = encPcl v := by
       rintro n x rfl he
       obtain ⟨y, hy, rfl⟩ := encPcls_at he
       rw [hv] at hy; cases hy; rfl
      have hr := rngs_drop hv
      have hs := remN_snoc (n := n) hr
      have hat : ((nthL b.rngs n).drop b.ents.length)[k]? = some (v.sown.lo + remN (b.rngs.take (b.ents.length + k)) n % rsize v.sown) := by rw [List.getElem?_drop]; exact nthL_at (n := n) hr
      have h1 := hrs _ (List.mem_of_getElem? hr)
      have h2 := hb.day_lo (hro _ (List.mem_of_getElem? hr))
      have hmod := Int.emod_nonneg (remN (b.rngs.take (b.ents.length + k)) n) (show rsize v.sown ≠ 0 by omega)
      have hmod2 := Int.emod_lt_of_pos (remN (b.rngs.take (b.ents.length + k)) n) (show 0 < rsize v.sown by omega)
      have hsub1 : ∀ {r x : Int}, r = Int.tmod (remN (b.rngs.take (b.ents.length + k)) n) x → x = v.sown.hi - v.sown.lo + 1 → r = remN (b.rngs.take (b.ents.length + k)) n % rsize v.sown := fun h e => by rw [h, e, Int.tmod_eq_emod_of_nonneg hbd.1]; rfl
      have hsub2 : ∀ {r x : Int}, r = IntKind.i64.wrap (Int.tdiv (remN (b.rngs.take (b.ents.length + k)) n) x) → x = v.sown.hi - v.sown.lo + 1 → r = remN (b.rngs.take (b.ents.length + k)) n / rsize v.sown := fun h e => by
       have h3 := Int.ediv_le_self (rsize v.sown) hbd.1
       have h4 := Int.ediv_nonneg hbd.1 (show 0 ≤ rsize v.sown by omega)
       rw [h, e, Int.tdiv_eq_ediv_of_nonneg hbd.1, show v.sown.hi - v.sown.lo + 1 = rsize v.sown from rfl, IntWalk.i64_in _ (by omega)]
      have hsub3 : ∀ {r : Int}, r = IntKind.i64.wrap (v.sown.lo + remN (b.rngs.take (b.ents.length + k)) n % rsize v.sown) → (0 : Int) ≤ 0 → r = v.sown.lo + remN (b.rngs.take (b.ents.length + k)) n % rsize v.sown := fun h _ => by rw [h, IntWalk.i64_in _ (by omega)]
      rcases m with _ | ⟨z, m⟩
      all_goals
       simp only [List.length_cons, List.length_nil] at hmlen
       (repeat' first | (intro rx hrx; have hq := hsub1 hrx (by omega); subst hq; clear hrx) | (intro rx hrx; have hq := hsub2 hrx (by omega); subst hq; clear hrx) | (intro rx hrx; have hq := hsub3 hrx (by omega); subst hq; clear hrx) | refine gx hg1 ?_ | (refine eg ?_; conv => whnf) | refine an ?_ ?_ | (refine iw ?_; intro rx hrx) | exact lf | intro _)
       all_goals (try (exfalso; omega))
       all_goals try exact vz
       all_goals (try (refine ⟨?_⟩; simp [ints_len, catS, repl, chunks] <;> omega))
       refine ⟨⟨[(4, 7)], (k + 1, _ ++ [v.sown.lo + remN (b.rngs.take (b.ents.length + k)) n % rsize v.sown]), ⟨by dsimp only; omega, by rw [take_snoc hat, ← hm]⟩, by dsimp only; omega, ?_⟩⟩
       (repeat' first | (intro rx hrx; have hq := hsub1 hrx (by omega); subst hq; clear hrx) | (intro rx hrx; have hq := hsub2 hrx (by omega); subst hq; clear hrx) | (intro rx hrx; have hq := hsub3 hrx (by omega); subst hq; clear hrx) | refine gx hg1 ?_ | (refine eg ?_; conv => whnf) | refine an ?_ ?_ | (refine iw ?_; intro rx hrx) | exact lf | intro _)
       all_goals try exact vy
       all_goals (refine ⟨?_⟩; first | (rw [← Nat.add_assoc, hs]; done) | exact ints_clo _ | (simp [ints, catS, repl, chunks]; done))
     ·have hke : k = b.pcls.length := by omega
      subst hke
      rw [List.take_of_length_le (by simp; omega)] at hm
      rcases m with _ | ⟨z, m⟩
      all_goals
       (repeat' first | (intro rx hrx; have hq := hsub1 hrx (by omega); subst hq; clear hrx) | (intro rx hrx; have hq := hsub2 hrx (by omega); subst hq; clear hrx) | (intro rx hrx; have hq := hsub3 hrx (by omega); subst hq; clear hrx) | refine gx hg1 ?_ | (refine eg ?_; conv => whnf) | refine an ?_ ?_ | (refine iw ?_; intro rx hrx) | exact lf | intro _)
       all_goals (try (exfalso; omega))
       all_goals try exact vy
       all_goals (try exact ⟨ints_clo _⟩)
       exact ⟨_, _, rfl, by first | exact .inr ⟨hl.symm, rfl⟩ | exact .inl (by rw [← hl]), by first | exact .inr ⟨hm.symm, rfl⟩ | exact .inl (by rw [← hm])⟩
   ·(repeat' first | (intro rx hrx; have hq := hsub1 hrx (by omega); subst hq; clear hrx) | (intro rx hrx; have hq := hsub2 hrx (by omega); subst hq; clear hrx) | (intro rx hrx; have hq := hsub3 hrx (by omega); subst hq; clear hrx) | refine gx hg1 ?_ | (refine eg ?_; conv => whnf) | refine an ?_ ?_ | (refine iw ?_; intro rx hrx) | exact lf | intro _)
    all_goals (try (exfalso; omega))
    all_goals try exact vy
    refine TWq.loopP (fun p : Nat × List Int => [(1, .int .i64 (remN (b.rngs.take (b.ents.length + p.1)) n)), (8, .int .i64 p.1)]) (fun p => [(2, .cells [.own 3, ownI 4 p.2]), (4, arrI p.2)]) (fun p => p.1 ≤ b.pcls.length ∧ p.2 = ((nthL b.rngs n).drop b.ents.length).take p.1) (fun p => b.pcls.length - p.1) (0, []) [] ?_ ⟨by omega, by simp⟩ ?_
    ·(repeat' first | (intro rx hrx; have hq := hsub1 hrx (by omega); subst hq; clear hrx) | (intro rx hrx; have hq := hsub2 hrx (by omega); subst hq; clear hrx) | (intro rx hrx; have hq := hsub3 hrx (by omega); subst hq; clear hrx) | refine gx hg1 ?_ | (refine eg ?_; conv => whnf) | refine an ?_ ?_ | (refine iw ?_; intro rx hrx) | exact lf | intro _)
     all_goals try exact vy
     all_goals (try exact ⟨ints_clo _⟩)
    ·rintro ⟨k, m⟩ ⟨hk, hm⟩
     dsimp only at hk hm ⊢
     have hbd := remN_bd (R := b.rngs) (fun r h => (hrs r h).1) hn.1 (b.ents.length + k)
     have hmlen : m.length = k := by rw [hm]; simp; omega
     rcases Nat.lt_or_ge k b.pcls.length with hkl | hkl
     ·obtain ⟨v, hv⟩ : ∃ v, b.pcls[k]? = some v := ⟨_, List.getElem?_eq_getElem hkl⟩
      have hg1 : ∀ {n : Nat} {x : SV}, n = k → (encPcls b.pcls)[n]? = some x → x = encPcl v := by
       rintro n x rfl he
       obtain ⟨y, hy, rfl⟩ := encPcls_at he
       rw [hv] at hy; cases hy; rfl
      have hr := rngs_drop hv
      have hs := remN_snoc (n := n) hr
      have hat : ((nthL b.rngs n).drop b.ents.length)[k]? = some (v.sown.lo + remN (b.rngs.take (b.ents.length + k)) n % rsize v.sown) := by rw [List.getElem?_drop]; exact nthL_at (n := n) hr
      have h1 := hrs _ (List.mem_of_getElem? hr)
      have h2 := hb.day_lo (hro _ (List.mem_of_getElem? hr))
      have hmod := Int.emod_nonneg (remN (b.rngs.take (b.ents.length + k)) n) (show rsize v.sown ≠ 0 by omega)
      have hmod2 := Int.emod_lt_of_pos (remN (b.rngs.take (b.ents.length + k)) n) (show 0 < rsize v.sown by omega)
      have hsub1 : ∀ {r x : Int}, r = Int.tmod (remN (b.rngs.take (b.ents.length + k)) n) x → x = v.sown.hi - v.sown.lo + 1 → r = remN (b.rngs.take (b.ents.length + k)) n % rsize v.sown := fun h e => by rw [h, e, Int.tmod_eq_emod_of_nonneg hbd.1]; rfl
      have hsub2 : ∀ {r x : Int}, r = IntKind.i64.wrap (Int.tdiv (remN (b.rngs.take (b.ents.length + k)) n) x) → x = v.sown.hi - v.sown.lo + 1 → r = remN (b.rngs.take (b.ents.length + k)) n / rsize v.sown := fun h e => by
       have h3 := Int.ediv_le_self (rsize v.sown) hbd.1
       have h4 := Int.ediv_nonneg hbd.1 (show 0 ≤ rsize v.sown by omega)
       rw [h, e, Int.tdiv_eq_ediv_of_nonneg hbd.1, show v.sown.hi - v.sown.lo + 1 = rsize v.sown from rfl, IntWalk.i64_in _ (by omega)]
      have hsub3 : ∀ {r : Int}, r = IntKind.i64.wrap (v.sown.lo + remN (b.rngs.take (b.ents.length + k)) n % rsize v.sown) → (0 : Int) ≤ 0 → r = v.sown.lo + remN (b.rngs.take (b.ents.length + k)) n % rsize v.sown := fun h _ => by rw [h, IntWalk.i64_in _ (by omega)]
      rcases m with _ | ⟨z, m⟩
      all_goals
       simp only [List.length_cons, List.length_nil] at hmlen
       (repeat' first | (intro rx hrx; have hq := hsub1 hrx (by omega); subst hq; clear hrx) | (intro rx hrx; have hq := hsub2 hrx (by omega); subst hq; clear hrx) | (intro rx hrx; have hq := hsub3 hrx (by omega); subst hq; clear hrx) | refine gx hg1 ?_ | (refine eg ?_; conv => whnf) | refine an ?_ ?_ | (refine iw ?_; intro rx hrx) | exact lf | intro _)
       all_goals (try (exfalso; omega))
       all_goals try exact vz
       all_goals (try (refine ⟨?_⟩; simp [ints_len, catS, repl, chunks] <;> omega))
       refine ⟨⟨[(4, 7)], (k + 1, _ ++ [v.sown.lo + remN (b.rngs.take (b.ents.length + k)) n % rsize v.sown]), ⟨by dsimp only; omega, by rw [take_snoc hat, ← hm]⟩, by dsimp only; omega, ?_⟩⟩
       (repeat' first | (intro rx hrx; have hq := hsub1 hrx (by omega); subst hq; clear hrx) | (intro rx hrx; have hq := hsub2 hrx (by omega); subst hq; clear hrx) | (intro rx hrx; have hq := hsub3 hrx (by omega); subst hq; clear hrx) | refine gx hg1 ?_ | (refine eg ?_; conv => whnf) | refine an ?_ ?_ | (refine iw ?_; intro rx hrx) | exact lf | intro _)
       all_goals try exact vy
       all_goals (refine ⟨?_⟩; first | (rw [← Nat.add_assoc, hs]; done) | exact ints_clo _ | (simp [ints, catS, repl, chunks]; done))
     ·have hke : k = b.pcls.length := by omega
      subst hke
      rw [List.take_of_length_le (by simp; omega)] at hm
      rcases m with _ | ⟨z, m⟩
      all_goals
       (repeat' first | (intro rx hrx; have hq := hsub1 hrx (by omega); subst hq; clear hrx) | (intro rx hrx; have hq := hsub2 hrx (by omega); subst hq; clear hrx) | (intro rx hrx; have hq := hsub3 hrx (by omega); subst hq; clear hrx) | refine gx hg1 ?_ | (refine eg ?_; conv => whnf) | refine an ?_ ?_ | (refine iw ?_; intro rx hrx) | exact lf | intro _)
       all_goals (try (exfalso; omega))
       all_goals try exact vy
       all_goals (try exact ⟨ints_clo _⟩)
       exact ⟨_, _, rfl, by first | exact .inr ⟨hl.symm, rfl⟩ | exact .inl (by rw [← hl]), by first | exact .inr ⟨hm.symm, rfl⟩ | exact .inl (by rw [← hm])⟩
end Go.Proofs.YtjadiajfbflghaaGreat
open Go Go.TV
namespace Go.Proofs.YtjadiajfbflghaaGreat
def isT (b : Bok) (v : List Int) : Bool := (playG b (v.take b.ents.length) (v.drop b.ents.length) [] (b.last.toNat + 1)).isSome
theorem atR_no {b : Bok} {v : List Int} {day : Nat} (h : isT b v = false) : atR b (v.take b.ents.length) (v.drop b.ents.length) day = .tup [.nils, .bool false] := by
 unfold isT at h
 unfold atR
 cases hp : playG b (v.take b.ents.length) (v.drop b.ents.length) [] (b.last.toNat + 1) with
 | none => rfl
 | some g => rw [hp] at h; cases h
theorem atR_yes {b : Bok} {v : List Int} {day : Nat} (h : isT b v = true) : ∃ g, atR b (v.take b.ents.length) (v.drop b.ents.length) day = .tup [.sl 5 (fdL g b.nums), .bool true] := by
 unfold isT at h
 unfold atR
 cases hp : playG b (v.take b.ents.length) (v.drop b.ents.length) [] (b.last.toNat + 1) with
 | none => rw [hp] at h; cases h
 | some g => exact ⟨_, rfl⟩
theorem any_snoc {p : Nat → Bool} (k : Nat) : (List.range (k + 1)).any p = ((List.range k).any p || p k) := by
 rw [List.range_succ, List.any_append]; simp
theorem c44 (b : Bok) (hb : OkBok b) : PF Tryz.prog 44 [encBok b, .int .i64 0] (· = .bool ((List.range (manyS b.rngs).toNat).any fun n => isT b (nthL b.rngs n))) := by
 have d1 := c100 b hb
 have hrl := rngs_len b
 have hm := manyS_bd hb.rsize b.rngs.length
 rw [List.take_length] at hm
 have hla := hb.last
 refine PF.of (TF.ev fn_44 (Ev.at ?_))
 (repeat' first | (refine eg ?_; conv => whnf) | refine an ?_ ?_ | (refine iw ?_; intro rx hrx) | exact lf | intro _)
 all_goals try exact vy
 refine TWq.loop (fun k : Nat => [(5, .int .i64 k)]) (fun _ => []) (fun k => (k : Int) ≤ manyS b.rngs ∧ (List.range k).any (fun n => isT b (nthL b.rngs n)) = false) (fun k => (manyS b.rngs).toNat - k) 0 [] [] ?_ ⟨by omega, rfl⟩ ?_
 ·(repeat' first | (refine eg ?_; conv => whnf) | refine an ?_ ?_ | (refine iw ?_; intro rx hrx) | exact lf | intro _)
  all_goals try exact vy
 ·rintro k ⟨hk, q1⟩
  have hnl := nthL_len b.rngs k
  have d2 := c102 b k hb (by omega)
  have d3 := c101 b ((nthL b.rngs k).take b.ents.length) ((nthL b.rngs k).drop b.ents.length) 0 hb (by simp; omega) (by simp; omega) (by omega)
  have hs := any_snoc (p := fun n => isT b (nthL b.rngs n)) k
  by_cases hkl : (k : Int) < manyS b.rngs
  ·cases hT : isT b (nthL b.rngs k)
   ·rw [atR_no hT] at d3
    rw [q1, hT] at hs
    (repeat' first | (refine eg ?_; conv => whnf) | refine an ?_ ?_ | (refine iw ?_; intro rx hrx) | exact lf | intro _)
    all_goals try exact vy
    refine TSq.pureC d1 (by simp [cloL, encBok_clo]) rfl (And.intro rfl rfl) ?_
    (repeat' first | (refine eg ?_; conv => whnf) | refine an ?_ ?_ | (refine iw ?_; intro rx hrx) | exact lf | intro _)
    all_goals (try (exfalso; omega))
    all_goals try exact vz
    refine TDq.pureC d2 (by simp [cloL, encBok_clo, clo]) rfl (And.intro rfl rfl) ?_
    (repeat' first | (refine eg ?_; conv => whnf) | refine an ?_ ?_ | (refine iw ?_; intro rx hrx) | exact lf | intro _)
    all_goals try exact vz
    refine TDq.pureC d3 (by simp [cloL, encBok_clo, clo]) rfl (And.intro rfl rfl) ?_
    (repeat' first | (refine eg ?_; conv => whnf) | refine an ?_ ?_ | (refine iw ?_; intro rx hrx) | exact lf | intro _)
    all_goals try exact vz
    refine ⟨⟨k + 1, ⟨by omega, hs⟩, by omega, ?_⟩⟩
    (repeat' first | (refine eg ?_; conv => whnf) | refine an ?_ ?_ | (refine iw ?_; intro rx hrx) | exact lf | intro _)
    all_goals try exact vy
   ·have hmem : k ∈ List.range (manyS b.rngs).toNat := List.mem_range.2 (by omega)
    obtain ⟨g, hg⟩ := atR_yes (day := 0) hT
    rw [hg] at d3
    (repeat' first | (refine eg ?_; conv => whnf) | refine an ?_ ?_ | (refine iw ?_; intro rx hrx) | exact lf | intro _)
    all_goals try exact vy
    refine TSq.pureC d1 (by simp [cloL, encBok_clo]) rfl (And.intro rfl rfl) ?_
    (repeat' first | (refine eg ?_; conv => whnf) | refine an ?_ ?_ | (refine iw ?_; intro rx hrx) | exact lf | intro _)
    all_goals (try (exfalso; omega))
    all_goals try exact vz
    refine TDq.pureC d2 (by simp [cloL, encBok_clo, clo]) rfl (And.intro rfl rfl) ?_
    (repeat' first | (refine eg ?_; conv => whnf) | refine an ?_ ?_ | (refine iw ?_; intro rx hrx) | exact lf | intro _)
    all_goals try exact vz
    refine TDq.pureC d3 (by simp [cloL, encBok_clo, clo]) rfl (And.intro rfl rfl) ?_
    (repeat' first | (refine eg ?_; conv => whnf) | refine an ?_ ?_ | (refine iw ?_; intro rx hrx) | exact lf | intro _)
    all_goals try exact vz
    rw [List.any_eq_true.2 ⟨k, hmem, hT⟩]
  ·have hke : (manyS b.rngs).toNat = k := by omega
   rw [hke, q1]
   (repeat' first | (refine eg ?_; conv => whnf) | refine an ?_ ?_ | (refine iw ?_; intro rx hrx) | exact lf | intro _)
   all_goals try exact vy
   refine TSq.pureC d1 (by simp [cloL, encBok_clo]) rfl (And.intro rfl rfl) ?_
   (repeat' first | (refine eg ?_; conv => whnf) | refine an ?_ ?_ | (refine iw ?_; intro rx hrx) | exact lf | intro _)
   all_goals (try (exfalso; omega))
   all_goals try exact vy
def truthsB (b : Bok) (n : Nat) : List (List Int) := ((List.range n).map fun (k : Nat) => nthL b.rngs (k : Int)).filter (isT b)
theorem truthsB_snoc (b : Bok) (k : Nat) : truthsB b (k + 1) = truthsB b k ++ if isT b (nthL b.rngs k) = true then [nthL b.rngs k] else [] := by
 simp only [truthsB, List.range_succ, List.map_append, List.filter_append, List.map_cons, List.map_nil, List.filter_cons, List.filter_nil]
def encTru (b : Bok) (v : List Int) : SV := .agg [.sl 1 (ints (v.take b.ents.length)), .sl 1 (ints (v.drop b.ents.length))]
def encTrus (b : Bok) (l : List (List Int)) : List SV := l.map (encTru b)
theorem encTrus_len (b : Bok) (l : List (List Int)) : (encTrus b l).length = l.length := List.length_map _
theorem encTrus_clo (b : Bok) (l : List (List Int)) : cloL (encTrus b l) := by
 rw [cloL_iff]; intro s hs; obtain ⟨x, _, rfl⟩ := List.mem_map.1 hs; simp [encTru, clo, cloL]
def ownT1 (b : Bok) (l : List (List Int)) : SV := match l with | [] => .nils | _ :: _ => .own 1
def arrT1 (b : Bok) (l : List (List Int)) : LB := match l with | [] => .dead | _ :: _ => .arr /-t-/144 2 (encTrus b l)
theorem c47 (b : Bok) (hb : OkBok b) : PF Tryz.prog 47 [encBok b] (· = .sl 2 (encTrus b (truthsB b (manyS b.rngs).toNat))) := by
 have d1 := c100 b hb
 have hrl := rngs_len b
 have hm := manyS_bd hb.rsize b.rngs.length
 rw [List.take_length] at hm
 have hla := hb.last
 refine TNl.pf (PF.of (TF.ev fn_47 (Ev.at ?_)))
 (repeat' first | (refine eg ?_; conv => whnf) | refine an ?_ ?_ | (refine iw ?_; intro rx hrx) | exact lf | intro _)
 all_goals try exact vy
 refine TWq.loopP (fun p : Nat × List (List Int) => [(4, .int .i64 p.1), (3, ownT1 b p.2)]) (fun p => [(1, arrT1 b p.2)]) (fun p => (p.1 : Int) ≤ manyS b.rngs ∧ p.2 = truthsB b p.1 ∧ p.2.length ≤ p.1) (fun p => (manyS b.rngs).toNat - p.1) (0, []) [] ?_ ⟨by dsimp only; omega, rfl, by simp⟩ ?_
 ·(repeat' first | (refine eg ?_; conv => whnf) | refine an ?_ ?_ | (refine iw ?_; intro rx hrx) | exact lf | intro _)
  all_goals try exact vy
 ·rintro ⟨k, l⟩ ⟨hk, hl, hll⟩
  dsimp only at hk hl hll ⊢
  have hnl := nthL_len b.rngs k
  have d2 := c102 b k hb (by omega)
  have d3 := c101 b ((nthL b.rngs k).take b.ents.length) ((nthL b.rngs k).drop b.ents.length) 0 hb (by simp; omega) (by simp; omega) (by omega)
  have hs := truthsB_snoc b k
  by_cases hkl : (k : Int) < manyS b.rngs
  ·cases hT : isT b (nthL b.rngs k)
   ·rw [atR_no hT] at d3
    rw [hT, if_neg (by simp), List.append_nil, ← hl] at hs
    rcases l with _ | ⟨y, l⟩
    all_goals
     (repeat' first | (refine eg ?_; conv => whnf) | refine an ?_ ?_ | (refine iw ?_; intro rx hrx) | exact lf | intro _)
     all_goals try exact vy
     refine TSq.pureC d1 (by simp [cloL, encBok_clo]) rfl (And.intro rfl rfl) ?_
     (repeat' first | (refine eg ?_; conv => whnf) | refine an ?_ ?_ | (refine iw ?_; intro rx hrx) | exact lf | intro _)
     all_goals (try (exfalso; omega))
     all_goals try exact vy
     refine TSq.pureC d2 (by simp [cloL, encBok_clo, clo]) rfl (And.intro rfl rfl) ?_
     (repeat' first | (refine eg ?_; conv => whnf) | refine an ?_ ?_ | (refine iw ?_; intro rx hrx) | exact lf | intro _)
     all_goals try exact vy
     refine TSq.pureC d3 (by simp [cloL, encBok_clo, clo]) rfl (And.intro rfl rfl) ?_
     (repeat' first | (refine eg ?_; conv => whnf) | refine an ?_ ?_ | (refine iw ?_; intro rx hrx) | exact lf | intro _)
     all_goals try exact vy
     refine ⟨⟨[], (k + 1, _), ⟨by dsimp only; omega, hs.symm, by dsimp only; omega⟩, by dsimp only; omega, ?_⟩⟩
     (repeat' first | (refine eg ?_; conv => whnf) | refine an ?_ ?_ | (refine iw ?_; intro rx hrx) | exact lf | intro _)
     all_goals try exact vy
     all_goals exact ⟨encTrus_clo _ _⟩
   ·obtain ⟨g, hg⟩ := atR_yes (day := 0) hT
    rw [hg] at d3
    rw [hT, if_pos rfl, ← hl] at hs
    rcases l with _ | ⟨y, l⟩
    all_goals
     simp only [List.length_cons, List.length_nil] at hll
     (repeat' first | (refine eg ?_; conv => whnf) | refine an ?_ ?_ | (refine iw ?_; intro rx hrx) | exact lf | intro _)
     all_goals try exact vy
     refine TSq.pureC d1 (by simp [cloL, encBok_clo]) rfl (And.intro rfl rfl) ?_
     (repeat' first | (refine eg ?_; conv => whnf) | refine an ?_ ?_ | (refine iw ?_; intro rx hrx) | exact lf | intro _)
     all_goals (try (exfalso; omega))
     all_goals try exact vy
     refine TSq.pureC d2 (by simp [cloL, encBok_clo, clo]) rfl (And.intro rfl rfl) ?_
     (repeat' first | (refine eg ?_; conv => whnf) | refine an ?_ ?_ | (refine iw ?_; intro rx hrx) | exact lf | intro _)
     all_goals try exact vy
     refine TSq.pureC d3 (by simp [cloL, encBok_clo, clo]) rfl (And.intro rfl rfl) ?_
     (repeat' first | (refine eg ?_; conv => whnf) | refine an ?_ ?_ | (refine iw ?_; intro rx hrx) | exact lf | intro _)
     all_goals try exact vy
     all_goals (try (refine ⟨?_⟩; simp [encTrus_len, catS, repl, chunks] <;> omega))
     refine ⟨⟨[(1, 4)], (k + 1, _), ⟨by dsimp only; omega, hs.symm, by simp <;> omega⟩, by dsimp only; omega, ?_⟩⟩
     (repeat' first | (refine eg ?_; conv => whnf) | refine an ?_ ?_ | (refine iw ?_; intro rx hrx) | exact lf | intro _)
     all_goals try exact vy
     all_goals (refine ⟨?_⟩; first | exact encTrus_clo _ _ | (simp [encTrus, encTru, catS, repl, chunks]; done))
  ·have hke : (manyS b.rngs).toNat = k := by omega
   rw [hke, ← hl]
   rcases l with _ | ⟨y, l⟩
   all_goals
    (repeat' first | (refine eg ?_; conv => whnf) | refine an ?_ ?_ | (refine iw ?_; intro rx hrx) | exact lf | intro _)
    all_goals try exact vy
    refine TSq.pureC d1 (by simp [cloL, encBok_clo]) rfl (And.intro rfl rfl) ?_
    (repeat' first | (refine eg ?_; conv => whnf) | refine an ?_ ?_ | (refine iw ?_; intro rx hrx) | exact lf | intro _)
    all_goals (try (exfalso; omega))
    all_goals try exact vy
    all_goals (first | exact ⟨encTrus_clo _ _⟩ | exact .inr ⟨rfl, rfl⟩ | exact .inl rfl)
theorem faultB_no {b : Bok} {r : Int} (hr : r ≠ 0) (h : ¬ OkBok b) : FaultB b (.int .i64 r) := ⟨r, rfl, fun h0 => absurd h0 hr, fun h1 => absurd h1 h⟩
theorem c43 (b : Bok) (hpl : b.pcls.length ≤ 1000000) (hel : b.ents.length ≤ 1000000) : PF Tryz.prog 43 [encBok b] (FaultB b) := by
 have hz := encPcls_len b.pcls
 have hw := encEnts_len b.ents
 have d1 := c97 b.last 0 30
 by_cases hpre : b.owners ≤ 4 ∧ b.pcls.length ≤ 4 ∧ b.ents.length ≤ 6
 rotate_left
 ·have hno : ¬ OkBok b := fun h => hpre ⟨h.owners.2, h.plen, h.elen⟩
  refine PF.of (TF.ev fn_43 (Ev.at ?_))
  (repeat' first | (intro rx hrx; have hq := hsub2 hrx (by omega); subst hq; clear hrx) | refine gx hg1 ?_ | (refine eg ?_; conv => whnf) | refine an ?_ ?_ | (refine iw ?_; intro rx hrx) | exact lf | intro _)
  all_goals (try (exfalso; omega))
  all_goals try exact vy
  all_goals exact faultB_no (by decide) hno
 obtain ⟨h1, h2, h3⟩ := hpre
 by_cases hla : within b.last 0 30 = true
 rotate_left
 ·have hno : ¬ OkBok b := fun h => hla (by simp only [within, decide_eq_true_eq]; exact h.last)
  simp only [Bool.not_eq_true] at hla
  rw [hla] at d1
  refine PF.of (TF.ev fn_43 (Ev.at ?_))
  (repeat' first | (intro rx hrx; have hq := hsub2 hrx (by omega); subst hq; clear hrx) | refine gx hg1 ?_ | (refine eg ?_; conv => whnf) | refine an ?_ ?_ | (refine iw ?_; intro rx hrx) | exact lf | intro _)
  all_goals (try (exfalso; omega))
  all_goals try exact vy
  refine TSq.pureC d1 (by simp [cloL, clo]) rfl (And.intro rfl rfl) ?_
  (repeat' first | (intro rx hrx; have hq := hsub2 hrx (by omega); subst hq; clear hrx) | refine gx hg1 ?_ | (refine eg ?_; conv => whnf) | refine an ?_ ?_ | (refine iw ?_; intro rx hrx) | exact lf | intro _)
  all_goals try exact vy
  all_goals exact faultB_no (by decide) hno
 rw [hla] at d1
 simp only [within, decide_eq_true_eq] at hla
 by_cases how : 1 ≤ b.owners
 rotate_left
 ·have hno : ¬ OkBok b := fun h => how h.owners.1
  refine PF.of (TF.ev fn_43 (Ev.at ?_))
  (repeat' first | (intro rx hrx; have hq := hsub2 hrx (by omega); subst hq; clear hrx) | refine gx hg1 ?_ | (refine eg ?_; conv => whnf) | refine an ?_ ?_ | (refine iw ?_; intro rx hrx) | exact lf | intro _)
  all_goals (try (exfalso; omega))
  all_goals try exact vy
  refine TSq.pureC d1 (by simp [cloL, clo]) rfl (And.intro rfl rfl) ?_
  (repeat' first | (intro rx hrx; have hq := hsub2 hrx (by omega); subst hq; clear hrx) | refine gx hg1 ?_ | (refine eg ?_; conv => whnf) | refine an ?_ ?_ | (refine iw ?_; intro rx hrx) | exact lf | intro _)
  all_goals (try (exfalso; omega))
  all_goals try exact vy
  all_goals exact faultB_no (by decide) hno
 refine PF.of (TF.ev fn_43 (Ev.at ?_))
 (repeat' first | (intro rx hrx; have hq := hsub2 hrx (by omega); subst hq; clear hrx) | refine gx hg1 ?_ | (refine eg ?_; conv => whnf) | refine an ?_ ?_ | (refine iw ?_; intro rx hrx) | exact lf | intro _)
 all_goals (try (exfalso; omega))
 all_goals try exact vy
 refine TSq.pureC d1 (by simp [cloL, clo]) rfl (And.intro rfl rfl) ?_
 (repeat' first | (intro rx hrx; have hq := hsub2 hrx (by omega); subst hq; clear hrx) | refine gx hg1 ?_ | (refine eg ?_; conv => whnf) | refine an ?_ ?_ | (refine iw ?_; intro rx hrx) | exact lf | intro _)
 all_goals (try (exfalso; omega))
 all_goals try exact vy
 have hsub2 : ∀ {r : Int}, r = IntKind.i64.wrap (b.owners - 1) → (0 : Int) ≤ 0 → r = b.owners - 1 := fun h _ => by rw [h, ij _ (by omega)]
 refine TWq.loop (fun k : Nat => [(3, .int .i64 k)]) (fun _ => []) (fun k => k ≤ b.pcls.length ∧ ∀ p ∈ b.pcls.take k, OkPcl b p) (fun k => b.pcls.length - k) 0 [] [] ?_ ⟨by omega, by simp⟩ ?_
 ·(repeat' first | (intro rx hrx; have hq := hsub2 hrx (by omega); subst hq; clear hrx) | refine gx hg1 ?_ | (refine eg ?_; conv => whnf) | refine an ?_ ?_ | (refine iw ?_; intro rx hrx) | exact lf | intro _)
  all_goals try exact vy
 ·rintro k ⟨hk, q1⟩
  rcases Nat.lt_or_ge k b.pcls.length with hkl | hkl
  ·obtain ⟨v, hv⟩ : ∃ v, b.pcls[k]? = some v := ⟨_, List.getElem?_eq_getElem hkl⟩
   have hg1 : ∀ {n : Nat} {x : SV}, n = k → (encPcls b.pcls)[n]? = some x → x = encPcl v := by
    rintro n x rfl he
    obtain ⟨y, hy, rfl⟩ := encPcls_at he
    rw [hv] at hy; cases hy; rfl
   have hno : ¬ OkPcl b v → ¬ OkBok b := fun h h' => h (h'.pcl v (List.mem_of_getElem? hv))
   have d2 := c97 v.owner 0 (b.owners - 1)
   have d3 := c97 v.value 0 1000
   have d4 := c98 b v.sown
   (repeat' first | (intro rx hrx; have hq := hsub2 hrx (by omega); subst hq; clear hrx) | refine gx hg1 ?_ | (refine eg ?_; conv => whnf) | refine an ?_ ?_ | (refine iw ?_; intro rx hrx) | exact lf | intro _)
   all_goals (try (exfalso; omega))
   all_goals try exact vy
   refine TSq.pureBC d2 cl rfl (And.intro rfl rfl) ?_ ?_ <;> intro b1 <;> simp only [within, decide_eq_true_eq, decide_eq_false_iff_not] at b1
   rotate_left
   ·(repeat' first | (intro rx hrx; have hq := hsub2 hrx (by omega); subst hq; clear hrx) | refine gx hg1 ?_ | (refine eg ?_; conv => whnf) | refine an ?_ ?_ | (refine iw ?_; intro rx hrx) | exact lf | intro _)
    all_goals try exact vy
    all_goals exact faultB_no (by decide) (hno fun h => b1 (by have := h.owner; omega))
   (repeat' first | (intro rx hrx; have hq := hsub2 hrx (by omega); subst hq; clear hrx) | refine gx hg1 ?_ | (refine eg ?_; conv => whnf) | refine an ?_ ?_ | (refine iw ?_; intro rx hrx) | exact lf | intro _)
   all_goals try exact vy
   refine TSq.pureBC d3 cl rfl (And.intro rfl rfl) ?_ ?_ <;> intro b2 <;> simp only [within, decide_eq_true_eq, decide_eq_false_iff_not] at b2
   rotate_left
   ·(repeat' first | (intro rx hrx; have hq := hsub2 hrx (by omega); subst hq; clear hrx) | refine gx hg1 ?_ | (refine eg ?_; conv => whnf) | refine an ?_ ?_ | (refine iw ?_; intro rx hrx) | exact lf | intro _)
    all_goals try exact vy
    all_goals exact faultB_no (by decide) (hno fun h => b2 h.value)
   (repeat' first | (intro rx hrx; have hq := hsub2 hrx (by omega); subst hq; clear hrx) | refine gx hg1 ?_ | (refine eg ?_; conv => whnf) | refine an ?_ ?_ | (refine iw ?_; intro rx hrx) | exact lf | intro _)
   all_goals try exact vy
   refine TSq.pureBC d4 (by simp [cloL, encBok_clo, clo, encR]) rfl (And.intro rfl rfl) ?_ ?_ <;> intro b3
   rotate_left
   ·(repeat' first | (intro rx hrx; have hq := hsub2 hrx (by omega); subst hq; clear hrx) | refine gx hg1 ?_ | (refine eg ?_; conv => whnf) | refine an ?_ ?_ | (refine iw ?_; intro rx hrx) | exact lf | intro _)
    all_goals try exact vy
    all_goals exact faultB_no (by decide) (hno fun h => by rw [daysB_iff.2 h.sown] at b3; cases b3)
   (repeat' first | (intro rx hrx; have hq := hsub2 hrx (by omega); subst hq; clear hrx) | refine gx hg1 ?_ | (refine eg ?_; conv => whnf) | refine an ?_ ?_ | (refine iw ?_; intro rx hrx) | exact lf | intro _)
   all_goals try exact vy
   refine ⟨⟨k + 1, ⟨by omega, fun p hp => ?_⟩, by omega, ?_⟩⟩
   ·rw [take_snoc hv] at hp
    rcases List.mem_append.1 hp with h | h
    ·exact q1 p h
    ·simp at h; subst h; exact ⟨by omega, b2, daysB_iff.1 b3⟩
   ·(repeat' first | (intro rx hrx; have hq := hsub2 hrx (by omega); subst hq; clear hrx) | refine gx hg1 ?_ | (refine eg ?_; conv => whnf) | refine an ?_ ?_ | (refine iw ?_; intro rx hrx) | exact lf | intro _)
    all_goals try exact vy
  ·have hke : k = b.pcls.length := by omega
   subst hke
   rw [List.take_length] at q1
   (repeat' first | (intro rx hrx; have hq := hsub2 hrx (by omega); subst hq; clear hrx) | refine gx hg1 ?_ | (refine eg ?_; conv => whnf) | refine an ?_ ?_ | (refine iw ?_; intro rx hrx) | exact lf | intro _)
   all_goals (try (exfalso; omega))
   all_goals try exact vy
   refine TWq.loop (fun k : Nat => [(5, .int .i64 k)]) (fun _ => []) (fun k => k ≤ b.ents.length ∧ ∀ p ∈ b.ents.take k, OkEnt b p) (fun k => b.ents.length - k) 0 [] [] ?_ ⟨by omega, by simp⟩ ?_
   ·(repeat' first | (intro rx hrx; have hq := hsub2 hrx (by omega); subst hq; clear hrx) | refine gx hg1 ?_ | (refine eg ?_; conv => whnf) | refine an ?_ ?_ | (refine iw ?_; intro rx hrx) | exact lf | intro _)
    all_goals try exact vy
   ·rintro k ⟨hk, q2⟩
    rcases Nat.lt_or_ge k b.ents.length with hkl | hkl
    ·obtain ⟨v, hv⟩ : ∃ v, b.ents[k]? = some v := ⟨_, List.getElem?_eq_getElem hkl⟩
     have hg1 : ∀ {n : Nat} {x : SV}, n = k → (encEnts b.ents)[n]? = some x → x = encEnt v := by
      rintro n x rfl he
      obtain ⟨y, hy, rfl⟩ := encEnts_at he
      rw [hv] at hy; cases hy; rfl
     have d2 := c99 b v ⟨how, h1⟩ h2 h3
     (repeat' first | (intro rx hrx; have hq := hsub2 hrx (by omega); subst hq; clear hrx) | refine gx hg1 ?_ | (refine eg ?_; conv => whnf) | refine an ?_ ?_ | (refine iw ?_; intro rx hrx) | exact lf | intro _)
     all_goals (try (exfalso; omega))
     all_goals try exact vz
     refine TDq.pureBC d2 (by simp [cloL, encBok_clo, clo, encEnt]) rfl (And.intro rfl rfl) ?_ ?_ <;> intro b1
     rotate_left
     ·(repeat' first | (intro rx hrx; have hq := hsub2 hrx (by omega); subst hq; clear hrx) | refine gx hg1 ?_ | (refine eg ?_; conv => whnf) | refine an ?_ ?_ | (refine iw ?_; intro rx hrx) | exact lf | intro _)
      all_goals try exact vz
      all_goals exact faultB_no (by decide) fun h => by rw [entB_iff.2 (h.ent v (List.mem_of_getElem? hv))] at b1; cases b1
     (repeat' first | (intro rx hrx; have hq := hsub2 hrx (by omega); subst hq; clear hrx) | refine gx hg1 ?_ | (refine eg ?_; conv => whnf) | refine an ?_ ?_ | (refine iw ?_; intro rx hrx) | exact lf | intro _)
     all_goals try exact vz
     refine ⟨⟨k + 1, ⟨by omega, fun p hp => ?_⟩, by omega, ?_⟩⟩
     ·rw [take_snoc hv] at hp
      rcases List.mem_append.1 hp with h | h
      ·exact q2 p h
      ·simp at h; subst h; exact entB_iff.1 b1
     ·(repeat' first | (intro rx hrx; have hq := hsub2 hrx (by omega); subst hq; clear hrx) | refine gx hg1 ?_ | (refine eg ?_; conv => whnf) | refine an ?_ ?_ | (refine iw ?_; intro rx hrx) | exact lf | intro _)
      all_goals try exact vy
    ·have hke : k = b.ents.length := by omega
     subst hke
     rw [List.take_length] at q2
     have hok : OkBok b := ⟨hla, ⟨how, h1⟩, h2, h3, q1, q2⟩
     have d2 := c100 b hok
     (repeat' first | (intro rx hrx; have hq := hsub2 hrx (by omega); subst hq; clear hrx) | refine gx hg1 ?_ | (refine eg ?_; conv => whnf) | refine an ?_ ?_ | (refine iw ?_; intro rx hrx) | exact lf | intro _)
     all_goals (try (exfalso; omega))
     all_goals try exact vy
     refine TSq.pureC d2 (by simp [cloL, encBok_clo]) rfl (And.intro rfl rfl) ?_
     by_cases hm : manyS b.rngs ≤ 1000
     ·(repeat' first | (intro rx hrx; have hq := hsub2 hrx (by omega); subst hq; clear hrx) | refine gx hg1 ?_ | (refine eg ?_; conv => whnf) | refine an ?_ ?_ | (refine iw ?_; intro rx hrx) | exact lf | intro _)
      all_goals (try (exfalso; omega))
      all_goals try exact vy
      exact ⟨0, rfl, fun _ => ⟨hok, hm⟩, fun _ => (if_pos hm).symm⟩
     ·(repeat' first | (intro rx hrx; have hq := hsub2 hrx (by omega); subst hq; clear hrx) | refine gx hg1 ?_ | (refine eg ?_; conv => whnf) | refine an ?_ ?_ | (refine iw ?_; intro rx hrx) | exact lf | intro _)
      all_goals (try (exfalso; omega))
      all_goals try exact vy
      exact ⟨3, rfl, fun h => by omega, fun _ => (if_neg hm).symm⟩
end Go.Proofs.YtjadiajfbflghaaGreat
open Go Go.TV
namespace Go.Proofs.YtjadiajfbflghaaGreat
def InG (b : Bok) (g : Fds) : Prop := ∀ k, (g k).there = true → (0 ≤ (g k).owner ∧ (g k).owner < b.owners) ∧ k < b.nums
theorem InG_upd {b : Bok} {g : Fds} (h : InG b g) (p : Nat) {x : Fd} (hx : x.there = true → (0 ≤ x.owner ∧ x.owner < b.owners) ∧ p < b.nums) : InG b (updF g p x) := by
 intro k hk
 by_cases hp : k = p
 ·subst hp
  rw [updF_self] at hk ⊢
  exact hx hk
 ·rw [updF_ne _ _ hp] at hk ⊢
  exact h k hk
theorem InG_begin {b : Bok} (h : OkBok b) (sown : List Int) : InG b (beginG b sown) := by
 intro k
 unfold beginG
 split
 ·rename_i p s hp _
  intro _
  have h1 := (h.pcl p (List.mem_of_getElem? hp)).owner
  have h2 := (List.getElem?_eq_some_iff.1 hp).1
  exact ⟨h1, by unfold Bok.nums; omega⟩
 ·intro q; cases q
theorem up_there {g : Fds} {p : Nat} (h : upF g p = true) : (g p).there = true := by
 simp only [upF, Bool.and_eq_true] at h; exact h.1
theorem InG_act {b : Bok} {i : Nat} {x : Ent} {d : Int} {g : Fds} (h : InG b g) (hi : b.ents[i]? = some x) (hx : OkKind b x) (hB : actB x d g = true) : InG b (actG b i x g) := by
 unfold actG
 unfold actB at hB
 split
 ·rename_i k0
  rw [if_pos k0] at hB
  simp only [sellB, Bool.and_eq_true] at hB
  have h1 := h _ (up_there hB.1)
  refine InG_upd h _ fun _ => ⟨?_, h1.2⟩
  dsimp only
  rcases hx with q | q | q | q <;> omega
 ·rename_i k0
  rw [if_neg k0] at hB
  split
  ·rename_i k1
   rw [if_pos k1] at hB
   simp only [splitB, Bool.and_eq_true] at hB
   have h1 := h _ (up_there hB.1)
   have h2 : InG b (updF g x.parcel.toNat { g x.parcel.toNat with value := (g x.parcel.toNat).value - x.part }) := InG_upd h _ fun _ => h1
   refine InG_upd h2 _ fun _ => ⟨?_, made_lt hi k1⟩
   dsimp only
   rw [updF_self]
   exact h1.1
  ·rename_i k1
   rw [if_neg k1] at hB
   split
   ·rename_i k2
    rw [if_pos k2] at hB
    simp only [swapB, Bool.and_eq_true] at hB
    have h1 := h _ (up_there hB.1)
    have h2 := h _ (up_there hB.2.1)
    have h3 : InG b (updF g x.parcel.toNat { g x.parcel.toNat with owner := (g x.other.toNat).owner }) := InG_upd h _ fun _ => ⟨h2.1, h1.2⟩
    exact InG_upd h3 _ fun _ => ⟨h1.1, h2.2⟩
   ·exact InG_upd h _ (h _)
theorem dayG_in {b : Bok} (hb : OkBok b) {days out : List Int} {d : Nat} {g : Fds} (h : InG b g) : ∀ {k : Nat} {g' : Fds}, dayG b days out d g k = some g' → InG b g'
 | 0, g', e => by cases e; exact h
 | k + 1, g', e => by
  rw [dayG] at e
  obtain ⟨g1, h1, h2⟩ := Option.bind_eq_some_iff.1 e
  have ih := dayG_in hb h h1
  unfold stepG at h2
  split at h2
  ·rename_i x t hx ht
   split at h2
   ·split at h2
    ·rename_i hB
     cases h2
     exact InG_act ih hx (hb.ent x (List.mem_of_getElem? hx)).kind hB
    ·cases h2
   ·cases h2; exact ih
  ·cases h2
theorem playG_in {b : Bok} (hb : OkBok b) {days sown out : List Int} : ∀ {d : Nat} {g : Fds}, playG b days sown out d = some g → InG b g
 | 0, g, e => by cases e; exact InG_begin hb sown
 | d + 1, g, e => by
  rw [playG] at e
  obtain ⟨g1, h1, h2⟩ := Option.bind_eq_some_iff.1 e
  exact dayG_in hb (playG_in hb h1) h2
theorem seenF_in {b : Bok} (hb : OkBok b) {out v : List Int} {day : Nat} {a : Fds} (h : seenF b out day v = some a) : InG b a := by
 unfold seenF at h
 split at h
 ·cases h
 ·exact playG_in hb h
def covK (a : Fds) (d : Int) : Nat → Int
 | 0 => 0
 | k + 1 => covK a d k + if covF (a k) d = true then (a k).value else 0
def sumO (f : Nat → Int) : Nat → Int
 | 0 => 0
 | n + 1 => sumO f n + f n
theorem sumO_add (f g : Nat → Int) : ∀ n, sumO (fun o => f o + g o) n = sumO f n + sumO g n
 | 0 => rfl
 | n + 1 => by simp only [sumO, sumO_add f g n]; omega
theorem sumO_congr {f g : Nat → Int} : ∀ {n}, (∀ o, o < n → f o = g o) → sumO f n = sumO g n
 | 0, _ => rfl
 | n + 1, h => by simp only [sumO]; rw [sumO_congr fun o ho => h o (by omega), h n (by omega)]
theorem sumO_pick (v : Int) (p : Int) (c : Prop) [Decidable c] : ∀ n : Nat, 0 ≤ p → sumO (fun o => if p = (o : Int) ∧ c then v else 0) n = if p < n ∧ c then v else 0
 | 0, h => by simp only [sumO]; rw [if_neg (by omega)]
 | n + 1, h => by
  simp only [sumO, sumO_pick v p c n h]
  by_cases hc : c
  ·by_cases h1 : p < n
   ·rw [if_pos ⟨h1, hc⟩, if_neg (by omega), if_pos ⟨by omega, hc⟩]; omega
   ·by_cases h2 : p = n
    ·rw [if_neg (by omega), if_pos ⟨h2, hc⟩, if_pos ⟨by omega, hc⟩]; omega
    ·rw [if_neg (by omega), if_neg (by omega), if_neg (by omega)]; omega
  ·rw [if_neg (fun q => hc q.2), if_neg (fun q => hc q.2), if_neg (fun q => hc q.2)]; omega
theorem cov_there {x : Fd} {d : Int} (h : covF x d = true) : x.there = true := by
 simp only [covF, Bool.and_eq_true] at h; exact h.1
theorem sum_val {b : Bok} {a : Fds} (h : InG b a) (d : Int) : ∀ k, sumO (fun o => valK a o d k) b.owners.toNat = covK a d k
 | 0 => by
  simp only [valK, covK]
  exact Nat.rec (motive := fun n => sumO (fun _ => 0) n = 0) rfl (fun n ih => by simp only [sumO, ih]; rfl) b.owners.toNat
 | k + 1 => by
  simp only [valK, covK]
  rw [sumO_add, sum_val h d k]
  by_cases hc : covF (a k) d = true
  ·have h1 := (h k (cov_there hc)).1
   rw [sumO_pick _ _ _ _ h1.1, if_pos ⟨by omega, hc⟩, if_pos hc]
  ·rw [if_neg hc, sumO_congr (g := fun _ => 0) fun o _ => if_neg fun q => hc q.2]
   have : ∀ n, sumO (fun _ => 0) n = 0 := fun n => Nat.rec (motive := fun n => sumO (fun _ => 0) n = 0) rfl (fun n ih => by simp only [sumO, ih]; rfl) n
   rw [this]
theorem cov_nums {b : Bok} {a : Fds} (h : InG b a) (d : Int) : ∀ j, covK a d (b.nums + j) = covK a d b.nums
 | 0 => rfl
 | j + 1 => by
  rw [← Nat.add_assoc, covK, cov_nums h d j, if_neg, Int.add_zero]
  intro hc
  have := (h _ (cov_there hc)).2
  omega
theorem cov_ten {b : Bok} (hb : OkBok b) {a : Fds} (h : InG b a) (d : Int) : covK a d 10 = covK a d b.nums := by
 have h1 := hb.nums_le
 have h2 := cov_nums h d (10 - b.nums)
 rwa [show b.nums + (10 - b.nums) = 10 by omega] at h2
def inB (q : Option (Int × Int)) (n : Int) : Prop := loO q ≤ n ∧ n ≤ hiO q
theorem bd_fold : ∀ (l : List Int) (q : Int × Int), ∃ p, l.foldl (fun r n => match r with | none => some (n, n) | some q => some (min q.1 n, max q.2 n)) (some q) = some p ∧ p.1 ≤ q.1 ∧ q.2 ≤ p.2 ∧ ∀ n ∈ l, p.1 ≤ n ∧ n ≤ p.2
 | [], q => ⟨q, rfl, by omega, by omega, by simp⟩
 | x :: l, q => by
  obtain ⟨p, h1, h2, h3, h4⟩ := bd_fold l (min q.1 x, max q.2 x)
  dsimp only at h2 h3
  refine ⟨p, h1, by omega, by omega, fun n hn => ?_⟩
  rcases List.mem_cons.1 hn with rfl | hn
  ·omega
  ·exact h4 n hn
theorem bdL_in {l : List Int} {n : Int} (h : n ∈ l) : inB (bdL l) n := by
 match l, h with
 | x :: l, h =>
  obtain ⟨p, h1, h2, h3, h4⟩ := bd_fold l (x, x)
  have e : bdL (x :: l) = some p := h1
  rw [e]
  dsimp only at h2 h3
  show p.1 ≤ n ∧ n ≤ p.2
  rcases List.mem_cons.1 h with rfl | h
  ·omega
  ·exact h4 n h
theorem bdL_one {l : List Int} (h : loO (bdL l) = hiO (bdL l)) {n : Int} (hn : n ∈ l) : n = loO (bdL l) := by
 have := bdL_in hn
 unfold inB at this
 omega
theorem known_sum {b : Bok} (hb : OkBok b) {day : Nat} {v : List Int} {a : Fds} (hv : v ∈ listsL b.rngs) (ha : seenF b [] day v = some a) (hk : ∀ o : Nat, (o : Int) < b.owners → loO (bdL (worthL b o day)) = hiO (bdL (worthL b o day))) :
  sumO (fun o => loO (bdL (worthL b o day))) b.owners.toNat = covK a day b.nums := by
 have hi := seenF_in hb ha
 rw [← cov_ten hb hi, ← sum_val hi]
 refine sumO_congr fun o ho => ?_
 have hm : valK a o day 10 ∈ worthL b o day := List.mem_map.2 ⟨a, List.mem_filterMap.2 ⟨v, hv, ha⟩, rfl⟩
 exact (bdL_one (hk o (by omega)) hm).symm
end Go.Proofs.YtjadiajfbflghaaGreat
namespace Go.Proofs.YtjadiajfbflghaaGreat
theorem cntF_bd (p : Nat → Bool) (n : Nat) : 0 ≤ cntF p n ∧ cntF p n ≤ n := by
 have := cnt_le p (List.range n)
 rw [cntF_eq]; simp at this; omega
theorem askF_len {ms : List Mem} {out : List Int} (i : Nat) (h : askF ms out i = true) : i < ms.length := by
 simp only [askF, Bool.and_eq_true, decide_eq_true_eq] at h
 exact h.1
theorem callsF_ok {ms : List Mem} (h : OkMs ms) {f : Nat → Bool} (hlt : ∀ i, f i = true → i < ms.length) {need : Int} (hn : 0 ≤ need) (o : Nat → Int) : Paid ms f need o (callsF ms 6 f need o) :=
 callsF_paid h 6 f need o (by have := cntF_bd f ms.length; have := h.1; omega) hlt hn
theorem rst_bd {ms : List Mem} {need U : Int} (hU : 1 ≤ U) (i : Nat) : 0 ≤ rst ms need U i ∧ rst ms need U i < U := ⟨Int.emod_nonneg _ (by omega), Int.emod_lt_of_pos _ (by omega)⟩
theorem quo_rst (ms : List Mem) (need U : Int) (i : Nat) : need * un ms i = U * quo ms need U i + rst ms need U i := by
 have := Int.mul_ediv_add_emod (need * un ms i) U; simp only [quo, rst]; omega
theorem left_rst {ms : List Mem} {f : Nat → Bool} {need : Int} : unitsF ms f ms.length * leftF ms f need (unitsF ms f ms.length) ms.length = sumF (fun i => if f i = true then rst ms need (unitsF ms f ms.length) i else 0) ms.length := by
 have hs : need * unitsF ms f ms.length = unitsF ms f ms.length * sumF (fun i => if f i = true then quo ms need (unitsF ms f ms.length) i else 0) ms.length + sumF (fun i => if f i = true then rst ms need (unitsF ms f ms.length) i else 0) ms.length := by
  conv => lhs; rw [unitsF_sum]
  rw [← sumF_mul, ← sumF_mul]
  refine sumF_add fun i _ => ?_
  split
  ·exact quo_rst ms need _ i
  ·simp
 rw [leftF_sum, Int.mul_sub]; rw [Int.mul_comm] at hs; omega
theorem before_zero {ms : List Mem} {f : Nat → Bool} {need : Int} {i : Nat} (hU : 1 ≤ unitsF ms f ms.length) (h0 : rst ms need (unitsF ms f ms.length) i = 0) :
  leftF ms f need (unitsF ms f ms.length) ms.length ≤ beforeF ms f need (unitsF ms f ms.length) i := by
 have hR := left_rst (ms := ms) (f := f) (need := need)
 generalize unitsF ms f ms.length = U at *
 have hb : cntF (fun k => f k && decide (0 < rst ms need U k)) ms.length ≤ beforeF ms f need U i := by
  unfold beforeF
  rw [h0]
  have := cntF_bd (fun k => f k && decide (rst ms need U k = 0)) i
  omega
 have h1 : sumF (fun i => if f i = true then rst ms need U i else 0) ms.length ≤ (U - 1) * cntF (fun k => f k && decide (0 < rst ms need U k)) ms.length := by
  rw [← sumF_cnt, ← sumF_mul]
  refine sumF_le fun k _ => ?_
  have := rst_bd (ms := ms) (need := need) hU k
  cases f k <;> simp
  split <;> omega
 have hc := (cntF_bd (fun k => f k && decide (0 < rst ms need U k)) ms.length).1
 generalize cntF (fun k => f k && decide (0 < rst ms need U k)) ms.length = c at *
 generalize leftF ms f need U ms.length = l at *
 rw [← hR] at h1
 rcases Int.lt_or_le c l with h | h
 ·exfalso
  have h2 : U * (c + 1) ≤ U * l := Int.mul_le_mul_of_nonneg_left (by omega) (by omega)
  rw [Int.mul_add] at h2
  rw [Int.sub_mul] at h1
  omega
 ·omega
theorem share_near {ms : List Mem} {f : Nat → Bool} {need : Int} {i : Nat} (hU : 1 ≤ unitsF ms f ms.length) (hi : i < ms.length) (hf : f i = true) :
  (shareF ms f need i = quo ms need (unitsF ms f ms.length) i ∨ shareF ms f need i = quo ms need (unitsF ms f ms.length) i + 1) ∧
  -unitsF ms f ms.length < shareF ms f need i * unitsF ms f ms.length - need * un ms i ∧ shareF ms f need i * unitsF ms f ms.length - need * un ms i < unitsF ms f ms.length := by
 have hz := before_zero (ms := ms) (f := f) (need := need) (i := i) hU
 have hq := quo_rst ms need (unitsF ms f ms.length) i
 have hr := rst_bd (ms := ms) (need := need) hU i
 unfold shareF
 rw [if_pos ⟨hi, hf⟩]
 generalize unitsF ms f ms.length = U at *
 generalize quo ms need U i = q at *
 generalize rst ms need U i = r at *
 rw [Int.mul_comm] at hq
 split
 ·have : r ≠ 0 := fun h => by have := hz h; omega
  refine ⟨.inr rfl, ?_⟩
  rw [Int.add_mul]; rw [Int.mul_comm need] at *; rw [Int.mul_comm U] at hq; omega
 ·refine ⟨.inl (by omega), ?_⟩
  rw [Int.add_zero]; rw [Int.mul_comm need] at *; rw [Int.mul_comm U] at hq; omega
theorem share_le {ms : List Mem} (h : OkMs ms) {f : Nat → Bool} {need : Int} (hn : 0 ≤ need) {i : Nat} (hi : i < ms.length) (hf : f i = true) : shareF ms f need i ≤ need := by
 have h1 := (sumF_share ms f need (h.units hi hf).2).2
 have h2 := sumF_pos (g := shareF ms f need) (n := ms.length) (i := i) (fun k _ => shareF_nn h hn k) hi
 omega
theorem callsF_free {ms : List Mem} (h : OkMs ms) {f : Nat → Bool} {need : Int} (hn : 0 ≤ need) (hfree : ∀ i, i < ms.length → f i = true → need ≤ mst ms i) (t : Nat) (o : Nat → Int) :
  callsF ms (t + 1) f need o = (if any5 f = false then (o, need) else (fun i => if f i = true ∧ i < ms.length then shareF ms f need i else o i, 0)) := by
 rw [callsF]
 split
 ·rfl
 ·rw [if_pos]
  rcases hc : any5 (capF ms f need) with _ | _
  ·rfl
  ·obtain ⟨i, _, hi⟩ := any5_true (f := capF ms f need) (by rw [hc]; simp)
   obtain ⟨h1, h2, h3⟩ := capF_t.1 hi
   have := share_le h hn h1 h2
   have := hfree i h1 h2
   omega
end Go.Proofs.YtjadiajfbflghaaGreat
namespace Go.Proofs.YtjadiajfbflghaaGreat
def FreeMs (ms : List Mem) (n : Int) : Prop := ∀ i, i < ms.length → n ≤ mst ms i
theorem ask_nil (ms : List Mem) (i : Nat) : askF ms [] i = decide (i < ms.length) := by simp [askF]
theorem free_calls {ms : List Mem} (h : OkMs ms) {n : Int} (hn : 0 ≤ n) (hf : FreeMs ms n) (out : List Int) :
  (∀ i, i < ms.length → (callsF ms 6 (askF ms out) n fun _ => 0).1 i = if askF ms out i = true then shareF ms (askF ms out) n i else 0) ∧
  ((callsF ms 6 (askF ms out) n fun _ => 0).2 = if any5 (askF ms out) = false then n else 0) := by
 rw [callsF_free h hn (fun i hi _ => hf i hi) 5]
 split
 ·rename_i ha
  refine ⟨fun i hi => ?_, rfl⟩
  rw [if_neg]
  rw [any5_false ha i (by have := h.1; omega)]; simp
 ·refine ⟨fun i hi => ?_, rfl⟩
  cases hq : askF ms out i <;> simp [hq, hi]
theorem free_short {ms : List Mem} (h : OkMs ms) {n : Int} (hn : 0 ≤ n) (hf : FreeMs ms n) (h1 : 1 ≤ ms.length) : (callsF ms 6 (askF ms []) n fun _ => 0).2 = 0 := by
 rw [(free_calls h hn hf []).2, if_neg]
 exact any5_eq (i := 0) (by omega) (by rw [ask_nil]; exact decide_eq_true (by omega))
def allU (ms : List Mem) : Int := sumL (ms.map Mem.units)
theorem sumF_un (ms : List Mem) : sumF (un ms) ms.length = allU ms := by
 rw [allU, ← sumL_tab]
 congr 1
 refine List.ext_getElem? fun i => ?_
 simp only [tab, List.getElem?_map]
 rcases Nat.lt_or_ge i ms.length with h | h
 ·rw [List.getElem?_range h, List.getElem?_eq_getElem h]; simp [un, List.getElem?_eq_getElem h]
 ·rw [List.getElem?_eq_none (by simpa using h), List.getElem?_eq_none h]; rfl
theorem units_all (ms : List Mem) : unitsF ms (askF ms []) ms.length = allU ms := by
 rw [unitsF_sum, ← sumF_un]
 exact sumF_congr fun i hi => by rw [ask_nil, if_pos (decide_eq_true hi)]
theorem allU_pos {ms : List Mem} (h : OkMs ms) (h1 : 1 ≤ ms.length) : 1 ≤ allU ms := by
 rw [← units_all]
 exact (h.units (f := askF ms []) (i := 0) (by omega) (by rw [ask_nil]; exact decide_eq_true (by omega))).2
theorem free_near {ms : List Mem} (h : OkMs ms) {n : Int} (hn : 0 ≤ n) (hf : FreeMs ms n) {i : Nat} (hi : i < ms.length) :
  ((callsF ms 6 (askF ms []) n fun _ => 0).1 i = n * un ms i / allU ms ∨ (callsF ms 6 (askF ms []) n fun _ => 0).1 i = n * un ms i / allU ms + 1) ∧
  -allU ms < (callsF ms 6 (askF ms []) n fun _ => 0).1 i * allU ms - n * un ms i ∧ (callsF ms 6 (askF ms []) n fun _ => 0).1 i * allU ms - n * un ms i < allU ms := by
 have hq : askF ms [] i = true := by rw [ask_nil]; exact decide_eq_true hi
 rw [(free_calls h hn hf []).1 i hi, if_pos hq]
 have := share_near (ms := ms) (f := askF ms []) (need := n) (i := i) (by rw [units_all]; exact allU_pos h (by omega)) hi hq
 rw [units_all] at this
 exact this
end Go.Proofs.YtjadiajfbflghaaGreat
open Go Go.TV
namespace Go.Proofs.YtjadiajfbflghaaGreat
section
variable {ms : List Mem} {f : Nat → Bool} {need : Int}
theorem quo_nnK (hm : ∀ m ∈ ms, OkM m) (h0 : 0 ≤ need) {U : Int} (hU : 0 ≤ U) (i : Nat) : 0 ≤ quo ms need U i := Int.ediv_nonneg (Int.mul_nonneg h0 (un_nn hm i).1) hU
theorem leftF_anti (hm : ∀ m ∈ ms, OkM m) (h0 : 0 ≤ need) {U : Int} (hU : 0 ≤ U) (j : Nat) : ∀ k, leftF ms f need U (j + k) ≤ leftF ms f need U j
 | 0 => Int.le_refl _
 | k + 1 => by
  have ih := leftF_anti hm h0 hU j k
  have q := quo_nnK hm h0 hU (j + k)
  have e : leftF ms f need U (j + (k + 1)) = leftF ms f need U (j + k) - (if f (j + k) = true then quo ms need U (j + k) else 0) := rfl
  rw [e]
  split <;> omega
theorem leftF_mul {U : Int} (hU : 0 < U) : ∀ k, need * (U - unitsF ms f k) ≤ U * leftF ms f need U k
 | 0 => by simp only [unitsF, leftF, Int.sub_zero]; rw [Int.mul_comm]; exact Int.le_refl _
 | k + 1 => by
  have ih := leftF_mul hU k
  simp only [unitsF, leftF]
  split
  ·have h1 : U * quo ms need U k ≤ need * un ms k := by
    unfold quo; exact Int.mul_ediv_self_le (by omega)
   have e1 : need * (U - (unitsF ms f k + un ms k)) = need * (U - unitsF ms f k) - need * un ms k := by rw [← Int.mul_sub]; congr 1; omega
   have e2 : U * (leftF ms f need U k - quo ms need U k) = U * leftF ms f need U k - U * quo ms need U k := Int.mul_sub ..
   rw [e1, e2]; omega
  ·simpa using ih
theorem leftF_nn (hU : 0 < unitsF ms f ms.length) : 0 ≤ leftF ms f need (unitsF ms f ms.length) ms.length := by
 have h := leftF_mul (ms := ms) (f := f) (need := need) hU ms.length
 rw [Int.sub_self, Int.mul_zero] at h
 exact Int.le_of_mul_le_mul_left (a := unitsF ms f ms.length) (by rw [Int.mul_zero]; exact h) hU
theorem cap_quo {i : Nat} (h : capF ms f need i = true) : i < ms.length ∧ f i = true ∧ mst ms i ≤ quo ms need (unitsF ms f ms.length) i := by
 simp only [capF, Bool.and_eq_true, decide_eq_true_eq] at h
 obtain ⟨h1, h2, h3⟩ := h
 refine ⟨h1, h2, ?_⟩
 unfold shareF at h3
 rw [if_pos ⟨h1, h2⟩] at h3
 split at h3 <;> omega
theorem mst_nn (hm : ∀ m ∈ ms, OkM m) (i : Nat) : 0 ≤ mst ms i ∧ mst ms i ≤ 100000 := by
 unfold mst
 cases hi : ms[i]? with
 | none => simp
 | some m => have := (hm m (List.mem_of_getElem? hi)).2.2; simp only; omega
theorem needF_ok (hm : ∀ m ∈ ms, OkM m) (h0 : 0 ≤ need) : ∀ k, k ≤ ms.length → leftF ms f need (unitsF ms f ms.length) k ≤ needF ms (capF ms f need) need k ∧ needF ms (capF ms f need) need k ≤ need
 | 0, _ => by simp [leftF, needF]
 | k + 1, hk => by
  have ih := needF_ok hm h0 k (by omega)
  have hU := (unitsF_le hm f ms.length).1
  have q := quo_nnK (need := need) hm h0 hU k
  have mm := mst_nn hm k
  simp only [leftF, needF]
  by_cases hc : capF ms f need k = true
  ·have := cap_quo hc
   rw [if_pos hc, if_pos this.2.1]
   omega
  ·rw [if_neg hc]
   split <;> omega
end
theorem capF_of {ms : List Mem} {f : Nat → Bool} {need : Int} {k : Nat} (hk : k < ms.length) (hf : f k = true) : capF ms f need k = decide (mst ms k < shareF ms f need k) := by simp [capF, hk, hf]
theorem capF_no {ms : List Mem} {f : Nat → Bool} {need : Int} {k : Nat} (hf : f k = false) : capF ms f need k = false := by simp [capF, hf]
theorem capU_0 {ms : List Mem} {f : Nat → Bool} {need : Int} (i : Nat) : f i = capU ms f need 0 i := by simp [capU]
theorem capU_other {ms : List Mem} {f : Nat → Bool} {need : Int} {k i : Nat} (h : i ≠ k) : capU ms f need k i = capU ms f need (k + 1) i := by
 unfold capU
 have : i < k ↔ i < k + 1 := by omega
 simp only [this]
theorem capU_at {ms : List Mem} {f : Nat → Bool} {need : Int} {k : Nat} (h : capF ms f need k = true) : false = capU ms f need (k + 1) k := by
 simp [capU, h]
theorem capU_not {ms : List Mem} {f : Nat → Bool} {need : Int} {k : Nat} (h : capF ms f need k = false) (i : Nat) : capU ms f need k i = capU ms f need (k + 1) i := by
 by_cases e : i = k
 ·subst e; simp [capU, h]
 ·exact capU_other e
theorem capU_n {ms : List Mem} {f : Nat → Bool} {need : Int} (i : Nat) : capU ms f need ms.length i = (f i && !capF ms f need i) := by
 unfold capU capF
 by_cases h : i < ms.length <;> simp [h]
theorem tab_len (n : Nat) (o : Nat → Int) : (tab n o).length = n := by simp [tab]
theorem tab_set {n k : Nat} (o : Nat → Int) {o' : Nat → Int} {v : Int} (h1 : v = o' k) (h2 : ∀ i, i ≠ k → o i = o' i) : (ints (tab n o)).set k (.int .i64 v) = ints (tab n o') := by
 apply List.ext_getElem?
 intro i
 rw [List.getElem?_set]
 simp only [ints, tab, List.map_map, List.length_map, List.length_range, List.getElem?_map]
 by_cases e : k = i
 ·subst e
  rw [if_pos rfl]
  by_cases hk : k < n
  ·rw [if_pos hk, List.getElem?_range hk]; simp [h1]
  ·rw [if_neg hk, List.getElem?_eq_none (by simp; omega)]; rfl
 ·rw [if_neg e]
  by_cases hi : i < n
  ·rw [List.getElem?_range hi]; simp [h2 i (fun h => e h.symm)]
  ·rw [List.getElem?_eq_none (by simp; omega)]; rfl
theorem tab_congr {n : Nat} {o o' : Nat → Int} (h : ∀ i, i < n → o i = o' i) : tab n o = tab n o' := List.map_congr_left fun i hi => h i (List.mem_range.1 hi)
theorem cntB_lt {f c : Nat → Bool} (h : any5 c = true) (hc : ∀ i, c i = true → f i = true) : cntB (fun i => f i && !c i) < cntB f := by
 simp only [any5, Bool.or_eq_true] at h
 unfold cntB
 have h0 := hc 0; have h1 := hc 1; have h2 := hc 2; have h3 := hc 3; have h4 := hc 4
 cases e0 : c 0 <;> cases e1 : c 1 <;> cases e2 : c 2 <;> cases e3 : c 3 <;> cases e4 : c 4 <;> simp_all <;> omega
end Go.Proofs.YtjadiajfbflghaaGreat
