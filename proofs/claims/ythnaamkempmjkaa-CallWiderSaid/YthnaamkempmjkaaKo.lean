/- The bounds of all numbers that are asked, in all truths. -/
import Derived.Test.YthnaamkempmjkaaKn
set_option linter.unusedSimpArgs false
set_option linter.unusedVariables false
open Go Go.TV
namespace Go.Proofs.Ythnaamkempmjkaa

theorem stepB_ge : ∀ {bs : List Rng} {k : Nat} {l : List Int}, k ≤ bs.length → k + l.length ≤ (stepB bs k l).length ∧ bs.length ≤ (stepB bs k l).length
  | bs, k, [], h => by simp [stepB]; omega
  | bs, k, n :: l, h => by
    have h1 := putB_len (n := n) h
    have h2 := stepB_ge (bs := putB bs k n) (k := k + 1) (l := l) h1.1
    simp only [stepB, List.length_cons]; omega
theorem stepB_snoc : ∀ {bs : List Rng} {k : Nat} {l : List Int} {n : Int}, stepB bs k (l ++ [n]) = putB (stepB bs k l) (k + l.length) n
  | bs, k, [], n => by simp [stepB]
  | bs, k, a :: l, n => by
    simp only [List.cons_append, stepB, stepB_snoc (l := l), List.length_cons]
    rw [show k + 1 + l.length = k + (l.length + 1) by omega]
theorem stepB_next {x : List Rng} {L : List Int} {k : Nat} {v : Int} (h : L[k]? = some v) : stepB x 0 (L.take (k + 1)) = putB (stepB x 0 (L.take k)) k v := by
  have := (List.getElem?_eq_some_iff.1 h).1
  rw [take_snoc h, stepB_snoc, List.length_take]; congr 1; omega
def newB (v : Int) : List SV := chunks 2 1 (SV.int .i64 v :: SV.int .i64 v :: catS [] (repl 0 [SV.int .i64 0, SV.int .i64 0]))
theorem newB_eq (v : Int) : newB v = encRs [⟨v, v⟩] := rfl
theorem putB_at {y : List Rng} {k : Nat} {v : Int} {r : Rng} (h : y[k]? = some r) : putB y k v = y.set k ⟨min r.lo v, max r.hi v⟩ := by simp only [putB, h]
theorem putB_end {y : List Rng} {k : Nat} {v : Int} (h : k = y.length) : putB y k v = y ++ [⟨v, v⟩] := by subst h; exact putB_app
theorem set_old {y y' : List Rng} {k : Nat} {v a c : Int} {r : Rng} (h : y[k]? = some r) (hp : putB y k v = y') (ha : a = min r.lo v) (hc : c = max r.hi v) : (encRs y).set (k : Int).toNat (.agg [.int .i64 a, .int .i64 c]) = encRs y' := by
  rw [← hp, putB_at h, ha, hc, encRs, encRs, List.map_set]; rfl
theorem set_new {y y' : List Rng} {k : Nat} {v a c : Int} (h : k = y.length) (hp : putB y k v = y') (ha : a = v) (hc : c = v) : (encRs y ++ newB v).set (k : Int).toNat (.agg [.int .i64 a, .int .i64 c]) = encRs y' := by
  have e : encRs y ++ newB v = encRs (y ++ [⟨v, v⟩]) := by simp [newB_eq, encRs]
  rw [e, ← hp, putB_end h, ha, hc, Int.toNat_natCast]
  refine List.ext_getElem? fun i => ?_
  rw [List.getElem?_set]
  split
  · rename_i hi
    subst hi
    subst h
    simp [encRs, encR]
  · rfl
theorem putB_cons {b : Rng} {m : List Rng} {k : Nat} {v : Int} : ∃ b' m', putB (b :: m) k v = b' :: m' := by
  have := putB_len (bs := b :: m) (k := 0) (n := v) (by simp)
  unfold putB
  split
  · exact ⟨_, _, rfl⟩
  · cases k <;> exact ⟨_, _, rfl⟩
def bndL (y : List Rng) : List (Nat × LB) := match y with
  | [] => [(3, .cells [.nils])]
  | a :: l => [(3, .cells [.own 5]), (5, .arr 35 2 (encRs (a :: l)))]
set_option maxHeartbeats 4000000 in
set_option maxRecDepth 100000 in
theorem c63 (s : Soc) (out : List Int) (o : SV) (g : FuncId) (F : Int → List Int) (N : Rng) (ho : LN out o) (hg : g = 62 ∨ g = 68) (d59 : PF Try.prog 59 [encSoc s] (· = encR N)) (hN : 0 ≤ N.lo ∧ N.lo ≤ N.hi ∧ N.hi ≤ 10000000)
    (hF : ∀ n, N.lo ≤ n → n ≤ N.hi → PF Try.prog g [encSoc s, o, .int .i64 n] (· = .sl 1 (ints (F n)))) (hlen : ∀ n, N.lo ≤ n → n ≤ N.hi → (F n).length ≤ 5) (hne : foldB F (every N) ≠ []) :
    PF Try.prog 63 [.agg [.fn g [] []], encSoc s, o] (· = .sl 2 (encRs (foldB F (every N)))) := by
  have hev : ∀ n ∈ every N, N.lo ≤ n ∧ n ≤ N.hi := by
    intro n hn
    exact every_mem.1 hn
  have hoc := ho.clo
  rcases ho with rfl | ⟨rfl, rfl⟩ <;> rcases hg with rfl | rfl
  all_goals
    refine PF.of (TF.ev fn_63 (Ev.at ?_))
    (repeat' (first | (intro ex hex; have hq := hg1 (by omega) hex; subst hq; clear hex) | (intro ex hex; have hq := hg2 (by omega) hex; subst hq; clear hex) | (refine Ev.go ?_; conv => whnf) | refine And.intro ?_ ?_ | exact True.intro | exact rfl | (intro rx hrx; rw [IntWalk.i64_in _ (by omega)] at hrx) | (intro hcx; exfalso; omega) | intro _))
    all_goals (first | (refine ⟨?_⟩; exact vc) | exact cl | skip)
    refine TSq.pureC d59 cl rfl (And.intro rfl rfl) ?_
    (repeat' (first | (intro ex hex; have hq := hg1 (by omega) hex; subst hq; clear hex) | (intro ex hex; have hq := hg2 (by omega) hex; subst hq; clear hex) | (refine Ev.go ?_; conv => whnf) | refine And.intro ?_ ?_ | exact True.intro | exact rfl | (intro rx hrx; rw [IntWalk.i64_in _ (by omega)] at hrx) | (intro hcx; exfalso; omega) | intro _))
    refine TSq.pureC (c83 N) cl rfl (And.intro rfl rfl) ?_
    (repeat' (first | (intro ex hex; have hq := hg1 (by omega) hex; subst hq; clear hex) | (intro ex hex; have hq := hg2 (by omega) hex; subst hq; clear hex) | (refine Ev.go ?_; conv => whnf) | refine And.intro ?_ ?_ | exact True.intro | exact rfl | (intro rx hrx; rw [IntWalk.i64_in _ (by omega)] at hrx) | (intro hcx; exfalso; omega) | intro _))
    refine TWq.rng (α := List Rng) (β := Empty) true (every N) (fun n => [.int .i64 n]) (fun _ y => bndL y) (fun i y => y = foldB F ((every N).take i) ∧ y.length ≤ 5) [] (fun e => e.elim) (fun e => e.elim) (fun _ => False) [] [] [] rfl (it95 N hN.1 hN.2.1 hN.2.2) cl cl (fun _ => rfl) ⟨by simp [foldB], by simp⟩ ?_ ?_ ?_ ?_ ?_ ?_
    · (repeat' (first | (intro ex hex; have hq := hg1 (by omega) hex; subst hq; clear hex) | (intro ex hex; have hq := hg2 (by omega) hex; subst hq; clear hex) | (refine Ev.go ?_; conv => whnf) | refine And.intro ?_ ?_ | exact True.intro | exact rfl | (intro rx hrx; rw [IntWalk.i64_in _ (by omega)] at hrx) | (intro hcx; exfalso; omega) | intro _))
      all_goals (first | (refine ⟨?_⟩; exact vc) | exact cl | skip)
    · (repeat' (first | (intro ex hex; have hq := hg1 (by omega) hex; subst hq; clear hex) | (intro ex hex; have hq := hg2 (by omega) hex; subst hq; clear hex) | (refine Ev.go ?_; conv => whnf) | refine And.intro ?_ ?_ | exact True.intro | exact rfl | (intro rx hrx; rw [IntWalk.i64_in _ (by omega)] at hrx) | (intro hcx; exfalso; omega) | intro _))
      all_goals (first | (refine ⟨?_⟩; exact vc) | exact cl | skip)
    · intro i y _
      rcases y with _ | ⟨a, l⟩
      all_goals (repeat' (first | (intro ex hex; have hq := hg1 (by omega) hex; subst hq; clear hex) | (intro ex hex; have hq := hg2 (by omega) hex; subst hq; clear hex) | (refine Ev.go ?_; conv => whnf) | refine And.intro ?_ ?_ | exact True.intro | exact rfl | (intro rx hrx; rw [IntWalk.i64_in _ (by omega)] at hrx) | (intro hcx; exfalso; omega) | intro _))
    · rintro i n x hn ⟨hx, hxl⟩
      have hnr := hev n (List.mem_of_getElem? hn)
      have dF := hF n hnr.1 hnr.2
      have hL := hlen n hnr.1 hnr.2
      have hz := ints_len (F n)
      have hnext : foldB F ((every N).take (i + 1)) = stepB x 0 (F n) := by
        rw [take_snoc hn]; simp only [foldB, List.foldl_append, List.foldl_cons, List.foldl_nil]; rw [hx]; rfl
      have hsl := stepB_len (bs := x) (k := 0) (l := F n) (by omega)
      generalize F n = L at *
      have hX : x.length ≤ 5 := hxl
      clear hev hn hx d59 hF hlen
      rcases x with _ | ⟨a, l⟩
      · (repeat' (first | (intro ex hex; have hq := hg1 (by omega) hex; subst hq; clear hex) | (intro ex hex; have hq := hg2 (by omega) hex; subst hq; clear hex) | (refine Ev.go ?_; conv => whnf) | refine And.intro ?_ ?_ | exact True.intro | exact rfl | (intro rx hrx; rw [IntWalk.i64_in _ (by omega)] at hrx) | (intro hcx; exfalso; omega) | intro _))
        refine TSq.pureC dF (by simp [cloL, clo, encSoc, encYs_clo, encRs_clo, ints_clo]) rfl (And.intro rfl rfl) ?_
        (repeat' (first | (intro ex hex; have hq := hg1 (by omega) hex; subst hq; clear hex) | (intro ex hex; have hq := hg2 (by omega) hex; subst hq; clear hex) | (refine Ev.go ?_; conv => whnf) | refine And.intro ?_ ?_ | exact True.intro | exact rfl | (intro rx hrx; rw [IntWalk.i64_in _ (by omega)] at hrx) | (intro hcx; exfalso; omega) | intro _))
        refine TWq.loopP (fun p : Nat × List Rng => [(21, .int .i64 p.1)]) (fun p => match p.2 with
            | [] => [(3, .cells [.nils])]
            | a :: l => [(3, .cells [.own 5]), (5, .arr 35 2 (encRs (a :: l)))]) (fun p => p.1 ≤ L.length ∧ p.2 = stepB [] 0 (L.take p.1)) (fun p => L.length - p.1) (0, []) [] ?_ ⟨by omega, rfl⟩ ?_
        · (repeat' (first | (intro ex hex; have hq := hg1 (by omega) hex; subst hq; clear hex) | (intro ex hex; have hq := hg2 (by omega) hex; subst hq; clear hex) | (refine Ev.go ?_; conv => whnf) | refine And.intro ?_ ?_ | exact True.intro | exact rfl | (intro rx hrx; rw [IntWalk.i64_in _ (by omega)] at hrx) | (intro hcx; exfalso; omega) | intro _))
          all_goals (first | (refine ⟨?_⟩; exact vc) | exact cl | skip)
        · rintro ⟨k, y⟩ ⟨hk, hy⟩
          dsimp only at hk hy ⊢
          have hge := stepB_ge (bs := []) (k := 0) (l := L.take k) (by simp)
          have hle := stepB_len (bs := []) (k := 0) (l := L.take k) (by simp)
          rw [← hy, List.length_take, Nat.min_eq_left hk] at hge
          rw [← hy, List.length_take, Nat.min_eq_left hk] at hle
          rcases Nat.lt_or_ge k L.length with hkl | hkl
          · obtain ⟨v, hv⟩ : ∃ v, L[k]? = some v := ⟨_, List.getElem?_eq_getElem hkl⟩
            have hst := stepB_next (x := []) hv
            rw [← hy] at hst
            have hg1 : ∀ {n : Nat} {e : SV}, n = k → (ints L)[n]? = some e → e = .int .i64 v := by
              rintro n e rfl he
              obtain ⟨x, hx, rfl⟩ := ints_at he
              rw [hv] at hx; cases hx; rfl
            rcases y with _ | ⟨b, m⟩
            · simp only [List.length_nil] at hge hle
              have hk0 : k = 0 := by omega
              have hput : putB [] k v = [⟨v, v⟩] := by subst hk0; rfl
              have hg2 : ∀ {n : Nat} {e : SV}, n = k → (chunks 2 1 (SV.int .i64 v :: SV.int .i64 v :: catS [] (repl 0 [SV.int .i64 0, SV.int .i64 0])))[n]? = some e → e = .agg [.int .i64 v, .int .i64 v] := by
                rintro n e rfl he
                subst hk0
                exact (Option.some.inj he).symm
              have hc1 : (chunks 2 1 (SV.int .i64 v :: SV.int .i64 v :: catS [] (repl 0 [SV.int .i64 0, SV.int .i64 0]))).length = 1 := rfl
              (repeat' (first | (intro ex hex; have hq := hg1 (by omega) hex; subst hq; clear hex) | (intro ex hex; have hq := hg2 (by omega) hex; subst hq; clear hex) | (refine Ev.go ?_; conv => whnf) | refine And.intro ?_ ?_ | exact True.intro | exact rfl | (intro rx hrx; rw [IntWalk.i64_in _ (by omega)] at hrx) | (intro hcx; exfalso; omega) | intro _))
              all_goals (first | (refine ⟨?_⟩; exact vc) | exact cl | skip)
              all_goals (try (exfalso; omega))
              all_goals (try (refine ⟨?_⟩; rw [hc1]; omega))
              have d81 := c81 [v, v] (by simp) (by simp)
              refine TDq.lendC d81 (by simp [scal, ints]) rfl (And.intro rfl ?_)
              (repeat' (first | (intro ex hex; have hq := hg1 (by omega) hex; subst hq; clear hex) | (intro ex hex; have hq := hg2 (by omega) hex; subst hq; clear hex) | (refine Ev.go ?_; conv => whnf) | refine And.intro ?_ ?_ | exact True.intro | exact rfl | (intro rx hrx; rw [IntWalk.i64_in _ (by omega)] at hrx) | (intro hcx; exfalso; omega) | intro _))
              all_goals (first | (refine ⟨?_⟩; exact vk) | exact cl | skip)
              all_goals (try (refine ⟨?_⟩; rw [hc1]; omega))
              refine ⟨⟨[(5, 6)], (k + 1, [⟨v, v⟩]), ⟨by omega, by rw [hst, hput]⟩, by dsimp only; omega, ?_⟩⟩
              (repeat' (first | (intro ex hex; have hq := hg1 (by omega) hex; subst hq; clear hex) | (intro ex hex; have hq := hg2 (by omega) hex; subst hq; clear hex) | (refine Ev.go ?_; conv => whnf) | refine And.intro ?_ ?_ | exact True.intro | exact rfl | (intro rx hrx; rw [IntWalk.i64_in _ (by omega)] at hrx) | (intro hcx; exfalso; omega) | intro _))
              all_goals (first | (refine ⟨?_⟩; exact vc) | exact cl | skip)
              all_goals (try exact ⟨set_new (y := []) (by simp; omega) hput (by simp [minL]) (by omega)⟩)
            · simp only [List.length_cons] at hge hle
              have hzb := encRs_len (b :: m)
              simp only [List.length_cons] at hzb
              obtain ⟨b', m', hbm⟩ := putB_cons (b := b) (m := m) (k := k) (v := v)
              rcases Nat.lt_or_ge k (m.length + 1) with hkm | hkm
              · obtain ⟨r, hr⟩ : ∃ r, (b :: m)[k]? = some r := ⟨_, List.getElem?_eq_getElem (by simpa using hkm)⟩
                have hg2 : ∀ {n : Nat} {e : SV}, n = k → (encRs (b :: m))[n]? = some e → e = encR r := by
                  rintro n e rfl he
                  obtain ⟨x, hx, rfl⟩ := encRs_at he
                  rw [hr] at hx; cases hx; rfl
                (repeat' (first | (intro ex hex; have hq := hg1 (by omega) hex; subst hq; clear hex) | (intro ex hex; have hq := hg2 (by omega) hex; subst hq; clear hex) | (refine Ev.go ?_; conv => whnf) | refine And.intro ?_ ?_ | exact True.intro | exact rfl | (intro rx hrx; rw [IntWalk.i64_in _ (by omega)] at hrx) | (intro hcx; exfalso; omega) | intro _))
                all_goals (first | (refine ⟨?_⟩; exact vc) | exact cl | skip)
                have d81 := c81 [r.lo, v] (by simp) (by simp)
                refine TDq.lendC d81 (by simp [scal, ints]) rfl (And.intro rfl ?_)
                (repeat' (first | (intro ex hex; have hq := hg1 (by omega) hex; subst hq; clear hex) | (intro ex hex; have hq := hg2 (by omega) hex; subst hq; clear hex) | (refine Ev.go ?_; conv => whnf) | refine And.intro ?_ ?_ | exact True.intro | exact rfl | (intro rx hrx; rw [IntWalk.i64_in _ (by omega)] at hrx) | (intro hcx; exfalso; omega) | intro _))
                all_goals (first | (refine ⟨?_⟩; exact vk) | exact cl | skip)
                refine ⟨⟨[], (k + 1, b' :: m'), ⟨by omega, by rw [hst, hbm]⟩, by dsimp only; omega, ?_⟩⟩
                (repeat' (first | (intro ex hex; have hq := hg1 (by omega) hex; subst hq; clear hex) | (intro ex hex; have hq := hg2 (by omega) hex; subst hq; clear hex) | (refine Ev.go ?_; conv => whnf) | refine And.intro ?_ ?_ | exact True.intro | exact rfl | (intro rx hrx; rw [IntWalk.i64_in _ (by omega)] at hrx) | (intro hcx; exfalso; omega) | intro _))
                all_goals (first | (refine ⟨?_⟩; exact vc) | exact cl | skip)
                all_goals (try exact ⟨set_old hr hbm (by simp [minL]) (by omega)⟩)
              · have hke : k = (b :: m).length := by simp only [List.length_cons]; omega
                have hg2 : ∀ {n : Nat} {e : SV}, n = k → (encRs (b :: m) ++ chunks 2 1 (SV.int .i64 v :: SV.int .i64 v :: catS [] (repl 0 [SV.int .i64 0, SV.int .i64 0])))[n]? = some e → e = .agg [.int .i64 v, .int .i64 v] := by
                  rintro n e rfl he
                  rw [List.getElem?_append_right (by rw [encRs_len]; omega)] at he
                  rw [encRs_len, hke, Nat.sub_self] at he
                  exact (Option.some.inj he).symm
                have hc1 : (encRs (b :: m) ++ chunks 2 1 (SV.int .i64 v :: SV.int .i64 v :: catS [] (repl 0 [SV.int .i64 0, SV.int .i64 0]))).length = m.length + 2 := by
                  rw [List.length_append, encRs_len]; rfl
                (repeat' (first | (intro ex hex; have hq := hg1 (by omega) hex; subst hq; clear hex) | (intro ex hex; have hq := hg2 (by omega) hex; subst hq; clear hex) | (refine Ev.go ?_; conv => whnf) | refine And.intro ?_ ?_ | exact True.intro | exact rfl | (intro rx hrx; rw [IntWalk.i64_in _ (by omega)] at hrx) | (intro hcx; exfalso; omega) | intro _))
                all_goals (first | (refine ⟨?_⟩; exact vc) | exact cl | skip)
                all_goals (try (refine ⟨?_⟩; rw [hc1]; omega))
                have d81 := c81 [v, v] (by simp) (by simp)
                refine TDq.lendC d81 (by simp [scal, ints]) rfl (And.intro rfl ?_)
                (repeat' (first | (intro ex hex; have hq := hg1 (by omega) hex; subst hq; clear hex) | (intro ex hex; have hq := hg2 (by omega) hex; subst hq; clear hex) | (refine Ev.go ?_; conv => whnf) | refine And.intro ?_ ?_ | exact True.intro | exact rfl | (intro rx hrx; rw [IntWalk.i64_in _ (by omega)] at hrx) | (intro hcx; exfalso; omega) | intro _))
                all_goals (first | (refine ⟨?_⟩; exact vk) | exact cl | skip)
                all_goals (try (refine ⟨?_⟩; rw [hc1]; omega))
                refine ⟨⟨[(5, 7)], (k + 1, b' :: m'), ⟨by omega, by rw [hst, hbm]⟩, by dsimp only; omega, ?_⟩⟩
                (repeat' (first | (intro ex hex; have hq := hg1 (by omega) hex; subst hq; clear hex) | (intro ex hex; have hq := hg2 (by omega) hex; subst hq; clear hex) | (refine Ev.go ?_; conv => whnf) | refine And.intro ?_ ?_ | exact True.intro | exact rfl | (intro rx hrx; rw [IntWalk.i64_in _ (by omega)] at hrx) | (intro hcx; exfalso; omega) | intro _))
                all_goals (first | (refine ⟨?_⟩; exact vc) | exact cl | skip)
                all_goals (try exact ⟨set_new hke hbm (by simp [minL]) (by omega)⟩)
          · have hke : k = L.length := by omega
            have hyl : y = stepB [] 0 L := by rw [hy, hke, List.take_length]
            have hy5 : y.length ≤ 5 := by rw [hyl]; have := hsl; simp only [List.length_nil, List.length_cons] at this hX; omega
            rcases y with _ | ⟨b, m⟩
            all_goals
              (repeat' (first | (intro ex hex; have hq := hg1 (by omega) hex; subst hq; clear hex) | (intro ex hex; have hq := hg2 (by omega) hex; subst hq; clear hex) | (refine Ev.go ?_; conv => whnf) | refine And.intro ?_ ?_ | exact True.intro | exact rfl | (intro rx hrx; rw [IntWalk.i64_in _ (by omega)] at hrx) | (intro hcx; exfalso; omega) | intro _))
              all_goals (first | (refine ⟨?_⟩; exact vc) | exact cl | skip)
              refine ⟨⟨_, ⟨hyl.trans hnext.symm, hy5⟩, ?_⟩⟩
              (repeat' (first | (intro ex hex; have hq := hg1 (by omega) hex; subst hq; clear hex) | (intro ex hex; have hq := hg2 (by omega) hex; subst hq; clear hex) | (refine Ev.go ?_; conv => whnf) | refine And.intro ?_ ?_ | exact True.intro | exact rfl | (intro rx hrx; rw [IntWalk.i64_in _ (by omega)] at hrx) | (intro hcx; exfalso; omega) | intro _))
              all_goals (first | (refine ⟨?_⟩; exact vc) | exact cl | skip)
      · (repeat' (first | (intro ex hex; have hq := hg1 (by omega) hex; subst hq; clear hex) | (intro ex hex; have hq := hg2 (by omega) hex; subst hq; clear hex) | (refine Ev.go ?_; conv => whnf) | refine And.intro ?_ ?_ | exact True.intro | exact rfl | (intro rx hrx; rw [IntWalk.i64_in _ (by omega)] at hrx) | (intro hcx; exfalso; omega) | intro _))
        refine TSq.pureC dF (by simp [cloL, clo, encSoc, encYs_clo, encRs_clo, ints_clo]) rfl (And.intro rfl rfl) ?_
        (repeat' (first | (intro ex hex; have hq := hg1 (by omega) hex; subst hq; clear hex) | (intro ex hex; have hq := hg2 (by omega) hex; subst hq; clear hex) | (refine Ev.go ?_; conv => whnf) | refine And.intro ?_ ?_ | exact True.intro | exact rfl | (intro rx hrx; rw [IntWalk.i64_in _ (by omega)] at hrx) | (intro hcx; exfalso; omega) | intro _))
        refine TWq.loopP (fun p : Nat × List Rng => [(21, .int .i64 p.1)]) (fun p => match p.2 with
            | [] => [(3, .cells [.nils])]
            | a :: l => [(3, .cells [.own 5]), (5, .arr 35 2 (encRs (a :: l)))]) (fun p => p.1 ≤ L.length ∧ p.2 = stepB (a :: l) 0 (L.take p.1)) (fun p => L.length - p.1) (0, a :: l) [] ?_ ⟨by omega, rfl⟩ ?_
        · (repeat' (first | (intro ex hex; have hq := hg1 (by omega) hex; subst hq; clear hex) | (intro ex hex; have hq := hg2 (by omega) hex; subst hq; clear hex) | (refine Ev.go ?_; conv => whnf) | refine And.intro ?_ ?_ | exact True.intro | exact rfl | (intro rx hrx; rw [IntWalk.i64_in _ (by omega)] at hrx) | (intro hcx; exfalso; omega) | intro _))
          all_goals (first | (refine ⟨?_⟩; exact vc) | exact cl | skip)
        · rintro ⟨k, y⟩ ⟨hk, hy⟩
          dsimp only at hk hy ⊢
          have hge := stepB_ge (bs := a :: l) (k := 0) (l := L.take k) (by simp)
          have hle := stepB_len (bs := a :: l) (k := 0) (l := L.take k) (by simp)
          rw [← hy, List.length_take, Nat.min_eq_left hk] at hge
          rw [← hy, List.length_take, Nat.min_eq_left hk] at hle
          rcases Nat.lt_or_ge k L.length with hkl | hkl
          · obtain ⟨v, hv⟩ : ∃ v, L[k]? = some v := ⟨_, List.getElem?_eq_getElem hkl⟩
            have hst := stepB_next (x := a :: l) hv
            rw [← hy] at hst
            have hg1 : ∀ {n : Nat} {e : SV}, n = k → (ints L)[n]? = some e → e = .int .i64 v := by
              rintro n e rfl he
              obtain ⟨x, hx, rfl⟩ := ints_at he
              rw [hv] at hx; cases hx; rfl
            rcases y with _ | ⟨b, m⟩
            · simp only [List.length_nil, List.length_cons] at hge
              omega
            · simp only [List.length_cons] at hge hle
              have hzb := encRs_len (b :: m)
              simp only [List.length_cons] at hzb
              obtain ⟨b', m', hbm⟩ := putB_cons (b := b) (m := m) (k := k) (v := v)
              rcases Nat.lt_or_ge k (m.length + 1) with hkm | hkm
              · obtain ⟨r, hr⟩ : ∃ r, (b :: m)[k]? = some r := ⟨_, List.getElem?_eq_getElem (by simpa using hkm)⟩
                have hg2 : ∀ {n : Nat} {e : SV}, n = k → (encRs (b :: m))[n]? = some e → e = encR r := by
                  rintro n e rfl he
                  obtain ⟨x, hx, rfl⟩ := encRs_at he
                  rw [hr] at hx; cases hx; rfl
                (repeat' (first | (intro ex hex; have hq := hg1 (by omega) hex; subst hq; clear hex) | (intro ex hex; have hq := hg2 (by omega) hex; subst hq; clear hex) | (refine Ev.go ?_; conv => whnf) | refine And.intro ?_ ?_ | exact True.intro | exact rfl | (intro rx hrx; rw [IntWalk.i64_in _ (by omega)] at hrx) | (intro hcx; exfalso; omega) | intro _))
                all_goals (first | (refine ⟨?_⟩; exact vc) | exact cl | skip)
                have d81 := c81 [r.lo, v] (by simp) (by simp)
                refine TDq.lendC d81 (by simp [scal, ints]) rfl (And.intro rfl ?_)
                (repeat' (first | (intro ex hex; have hq := hg1 (by omega) hex; subst hq; clear hex) | (intro ex hex; have hq := hg2 (by omega) hex; subst hq; clear hex) | (refine Ev.go ?_; conv => whnf) | refine And.intro ?_ ?_ | exact True.intro | exact rfl | (intro rx hrx; rw [IntWalk.i64_in _ (by omega)] at hrx) | (intro hcx; exfalso; omega) | intro _))
                all_goals (first | (refine ⟨?_⟩; exact vk) | exact cl | skip)
                refine ⟨⟨[], (k + 1, b' :: m'), ⟨by omega, by rw [hst, hbm]⟩, by dsimp only; omega, ?_⟩⟩
                (repeat' (first | (intro ex hex; have hq := hg1 (by omega) hex; subst hq; clear hex) | (intro ex hex; have hq := hg2 (by omega) hex; subst hq; clear hex) | (refine Ev.go ?_; conv => whnf) | refine And.intro ?_ ?_ | exact True.intro | exact rfl | (intro rx hrx; rw [IntWalk.i64_in _ (by omega)] at hrx) | (intro hcx; exfalso; omega) | intro _))
                all_goals (first | (refine ⟨?_⟩; exact vc) | exact cl | skip)
                all_goals (try exact ⟨set_old hr hbm (by simp [minL]) (by omega)⟩)
              · have hke : k = (b :: m).length := by simp only [List.length_cons]; omega
                have hg2 : ∀ {n : Nat} {e : SV}, n = k → (encRs (b :: m) ++ chunks 2 1 (SV.int .i64 v :: SV.int .i64 v :: catS [] (repl 0 [SV.int .i64 0, SV.int .i64 0])))[n]? = some e → e = .agg [.int .i64 v, .int .i64 v] := by
                  rintro n e rfl he
                  rw [List.getElem?_append_right (by rw [encRs_len]; omega)] at he
                  rw [encRs_len, hke, Nat.sub_self] at he
                  exact (Option.some.inj he).symm
                have hc1 : (encRs (b :: m) ++ chunks 2 1 (SV.int .i64 v :: SV.int .i64 v :: catS [] (repl 0 [SV.int .i64 0, SV.int .i64 0]))).length = m.length + 2 := by
                  rw [List.length_append, encRs_len]; rfl
                (repeat' (first | (intro ex hex; have hq := hg1 (by omega) hex; subst hq; clear hex) | (intro ex hex; have hq := hg2 (by omega) hex; subst hq; clear hex) | (refine Ev.go ?_; conv => whnf) | refine And.intro ?_ ?_ | exact True.intro | exact rfl | (intro rx hrx; rw [IntWalk.i64_in _ (by omega)] at hrx) | (intro hcx; exfalso; omega) | intro _))
                all_goals (first | (refine ⟨?_⟩; exact vc) | exact cl | skip)
                all_goals (try (refine ⟨?_⟩; rw [hc1]; omega))
                have d81 := c81 [v, v] (by simp) (by simp)
                refine TDq.lendC d81 (by simp [scal, ints]) rfl (And.intro rfl ?_)
                (repeat' (first | (intro ex hex; have hq := hg1 (by omega) hex; subst hq; clear hex) | (intro ex hex; have hq := hg2 (by omega) hex; subst hq; clear hex) | (refine Ev.go ?_; conv => whnf) | refine And.intro ?_ ?_ | exact True.intro | exact rfl | (intro rx hrx; rw [IntWalk.i64_in _ (by omega)] at hrx) | (intro hcx; exfalso; omega) | intro _))
                all_goals (first | (refine ⟨?_⟩; exact vk) | exact cl | skip)
                all_goals (try (refine ⟨?_⟩; rw [hc1]; omega))
                refine ⟨⟨[(5, 7)], (k + 1, b' :: m'), ⟨by omega, by rw [hst, hbm]⟩, by dsimp only; omega, ?_⟩⟩
                (repeat' (first | (intro ex hex; have hq := hg1 (by omega) hex; subst hq; clear hex) | (intro ex hex; have hq := hg2 (by omega) hex; subst hq; clear hex) | (refine Ev.go ?_; conv => whnf) | refine And.intro ?_ ?_ | exact True.intro | exact rfl | (intro rx hrx; rw [IntWalk.i64_in _ (by omega)] at hrx) | (intro hcx; exfalso; omega) | intro _))
                all_goals (first | (refine ⟨?_⟩; exact vc) | exact cl | skip)
                all_goals (try exact ⟨set_new hke hbm (by simp [minL]) (by omega)⟩)
          · have hke : k = L.length := by omega
            have hyl : y = stepB (a :: l) 0 L := by rw [hy, hke, List.take_length]
            have hy5 : y.length ≤ 5 := by rw [hyl]; have := hsl; simp only [List.length_nil, List.length_cons] at this hX; omega
            rcases y with _ | ⟨b, m⟩
            all_goals
              (repeat' (first | (intro ex hex; have hq := hg1 (by omega) hex; subst hq; clear hex) | (intro ex hex; have hq := hg2 (by omega) hex; subst hq; clear hex) | (refine Ev.go ?_; conv => whnf) | refine And.intro ?_ ?_ | exact True.intro | exact rfl | (intro rx hrx; rw [IntWalk.i64_in _ (by omega)] at hrx) | (intro hcx; exfalso; omega) | intro _))
              all_goals (first | (refine ⟨?_⟩; exact vc) | exact cl | skip)
              refine ⟨⟨_, ⟨hyl.trans hnext.symm, hy5⟩, ?_⟩⟩
              (repeat' (first | (intro ex hex; have hq := hg1 (by omega) hex; subst hq; clear hex) | (intro ex hex; have hq := hg2 (by omega) hex; subst hq; clear hex) | (refine Ev.go ?_; conv => whnf) | refine And.intro ?_ ?_ | exact True.intro | exact rfl | (intro rx hrx; rw [IntWalk.i64_in _ (by omega)] at hrx) | (intro hcx; exfalso; omega) | intro _))
              all_goals (first | (refine ⟨?_⟩; exact vc) | exact cl | skip)
    · rintro y ⟨hy, hyl⟩
      rw [List.take_length] at hy
      rw [← hy] at hne ⊢
      rcases y with _ | ⟨b, m⟩
      · exact absurd rfl hne
      · (repeat' (first | (intro ex hex; have hq := hg1 (by omega) hex; subst hq; clear hex) | (intro ex hex; have hq := hg2 (by omega) hex; subst hq; clear hex) | (refine Ev.go ?_; conv => whnf) | refine And.intro ?_ ?_ | exact True.intro | exact rfl | (intro rx hrx; rw [IntWalk.i64_in _ (by omega)] at hrx) | (intro hcx; exfalso; omega) | intro _))
        all_goals (first | (refine ⟨?_⟩; exact vc) | exact cl | skip)
    · exact fun e => e.elim
end Go.Proofs.Ythnaamkempmjkaa
