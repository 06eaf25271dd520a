/- The shares of all who share. -/
import Derived.Test.YthnaamkempmjkaaKg
set_option linter.unusedSimpArgs false
set_option linter.unusedVariables false
open Go Go.TV
namespace Go.Proofs.Ythnaamkempmjkaa

def socC (s : Soc) : List SV := [.sl 3 (encYs s.members), .sl 2 (encRs s.losses), .int .i64 s.treaty.lo, .int .i64 s.treaty.hi, .int .i64 s.reserve]
def fi5 (g : Nat → Int) : List SV := [.int .i64 (g 0), .int .i64 (g 1), .int .i64 (g 2), .int .i64 (g 3), .int .i64 (g 4)]
theorem un_nn {ms : List Mem} (h : ∀ m ∈ ms, OkM m) (i : Nat) : 0 ≤ un ms i ∧ un ms i ≤ 10000 := by
  unfold un
  cases hi : ms[i]? with
  | none => simp
  | some m => have := (h m (List.mem_of_getElem? hi)).units; simp only; omega
theorem unitsF_le {ms : List Mem} (h : ∀ m ∈ ms, OkM m) (f : Nat → Bool) : ∀ k : Nat, 0 ≤ unitsF ms f k ∧ unitsF ms f k ≤ k * 10000
  | 0 => by simp [unitsF]
  | k + 1 => by
    have ih := unitsF_le h f k
    have := un_nn h k
    simp only [unitsF]
    split <;> omega
theorem unitsF_mono {ms : List Mem} (h : ∀ m ∈ ms, OkM m) (f : Nat → Bool) (j : Nat) : ∀ k, unitsF ms f j ≤ unitsF ms f (j + k)
  | 0 => Int.le_refl _
  | k + 1 => by
    have ih := unitsF_mono h f j k
    have := un_nn h (j + k)
    have e : unitsF ms f (j + (k + 1)) = unitsF ms f (j + k) + (if f (j + k) = true then un ms (j + k) else 0) := rfl
    rw [e]
    split <;> omega
theorem unitsF_pos {ms : List Mem} (h : ∀ m ∈ ms, OkM m) {f : Nat → Bool} {k n : Nat} {m : Mem} (hm : ms[k]? = some m) (hk : k < n) (hf : f k = true) : 1 ≤ unitsF ms f n := by
  have h1 := unitsF_mono h f (k + 1) (n - (k + 1))
  rw [show k + 1 + (n - (k + 1)) = n by omega] at h1
  have h2 := (unitsF_le h f k).1
  have h3 : unitsF ms f (k + 1) = unitsF ms f k + un ms k := by simp only [unitsF, hf, if_true]
  have h4 := (h m (List.mem_of_getElem? hm)).units
  rw [un_at hm] at h3
  omega

def g2 (ms : List Mem) (f : Nat → Bool) (need U : Int) (k i : Nat) : Int := if i < k ∧ f i = true then quo ms need U i else 0
def g3 (ms : List Mem) (f : Nat → Bool) (need U : Int) (k i : Nat) : Int := if i < ms.length ∧ f i = true then quo ms need U i + (if i < k ∧ beforeF ms f need U i < leftF ms f need U ms.length then 1 else 0) else 0

theorem g2_skip {ms : List Mem} {f : Nat → Bool} {need U : Int} {k : Nat} (h : f k = false) (i : Nat) : g2 ms f need U k i = g2 ms f need U (k + 1) i := by
  unfold g2
  by_cases e : i = k
  · subst e; simp [h]
  · have : i < k ↔ i < k + 1 := by omega
    simp only [this]
theorem g2_other {ms : List Mem} {f : Nat → Bool} {need U : Int} {k i : Nat} (h : i ≠ k) : g2 ms f need U k i = g2 ms f need U (k + 1) i := by
  unfold g2
  have : i < k ↔ i < k + 1 := by omega
  simp only [this]
theorem g2_at {ms : List Mem} {f : Nat → Bool} {need U : Int} {k : Nat} (h : f k = true) : quo ms need U k = g2 ms f need U (k + 1) k := by
  unfold g2
  rw [if_pos ⟨by omega, h⟩]
theorem g3_0 {ms : List Mem} {f : Nat → Bool} {need U : Int} (i : Nat) : g2 ms f need U ms.length i = g3 ms f need U 0 i := by
  unfold g2 g3
  simp
theorem g3_skip {ms : List Mem} {f : Nat → Bool} {need U : Int} {k : Nat} (h : f k = false) (i : Nat) : g3 ms f need U k i = g3 ms f need U (k + 1) i := by
  unfold g3
  by_cases e : i = k
  · subst e; simp [h]
  · have : i < k ↔ i < k + 1 := by omega
    simp only [this]
theorem g3_other {ms : List Mem} {f : Nat → Bool} {need U : Int} {k i : Nat} (h : i ≠ k) : g3 ms f need U k i = g3 ms f need U (k + 1) i := by
  unfold g3
  have : i < k ↔ i < k + 1 := by omega
  simp only [this]
theorem g3_no {ms : List Mem} {f : Nat → Bool} {need U : Int} {k : Nat} (h : ¬ beforeF ms f need U k < leftF ms f need U ms.length) (i : Nat) : g3 ms f need U k i = g3 ms f need U (k + 1) i := by
  unfold g3
  by_cases e : i = k
  · subst e; simp [h]
  · have : i < k ↔ i < k + 1 := by omega
    simp only [this]
theorem g3_at {ms : List Mem} {f : Nat → Bool} {need U : Int} {k : Nat} (hk : k < ms.length) (hf : f k = true) (h : beforeF ms f need U k < leftF ms f need U ms.length) : g3 ms f need U k k = quo ms need U k ∧ g3 ms f need U (k + 1) k = quo ms need U k + 1 := by
  unfold g3
  simp [hk, hf, h]
theorem g3_n {ms : List Mem} {f : Nat → Bool} {need : Int} (i : Nat) : g3 ms f need (unitsF ms f ms.length) ms.length i = shareF ms f need i := by
  unfold g3 shareF
  by_cases h : i < ms.length
  · simp [h]
  · simp [h]
theorem TF.cutTo {P : Program} {f : FuncId} {args : List SV} {h h0 : List LB} {R : SV → Prop} (hT : TF P f args h fun s h' => Ev (fitS h.length [] ⟨[s], h', []⟩ ⟨[s], h0, []⟩) ∧ Ev (R s)) : TF P f args h (fun s h' => h' = h0 ∧ R s) := by
  refine ⟨hT.ok, fun hm g w vals h1 h2 h3 h4 h5 => (hT.run hm g w vals h1 h2 h3 h4 h5).mono ?_⟩
  rintro _ w' ⟨v, s, h', g', rfl, q, k1, k2, k3, k4, k5⟩
  have hno : g'.hid = none := k5.hid.trans h1
  obtain ⟨g2, s2, e2⟩ := Wk.fit (P := P) [] q.1.at g' ⟨#[v], []⟩ w' ⟨k1, k2, by simp only [Gh.denL, denL]; exact ⟨v, [], rfl, k3, rfl⟩, k4, by simp [dfden]⟩
  have d2 := s2.tm
  simp only [Gh.denL, denL] at d2
  obtain ⟨u, us, e, d2, _⟩ := d2
  have : u = v := by simpa using (List.cons.inj e).1.symm
  subst this
  exact ⟨u, s, h0, g2, rfl, ⟨rfl, q.2.at⟩, s2.ok, s2.lt, d2, s2.hp, ((k5.exw h.length).trans e2).ext h3 h1⟩
/-- The parts that are counted so far. -/
structure PartsOK (ms : List Mem) (f : Nat → Bool) (need U : Int) (k : Nat) (es : List ((Int × Int) × Int)) : Prop where
  nd : (es.map (·.1)).Nodup
  nn : ∀ e ∈ es, 0 ≤ e.2 ∧ e.2 ≤ k
  tot : ∀ x, totG es x = cntF (fun j => f j && decide (x < rst ms need U j)) k

theorem PartsOK.skip {ms : List Mem} {f : Nat → Bool} {need U : Int} {k : Nat} {es : List ((Int × Int) × Int)} (h : PartsOK ms f need U k es) (hf : f k = false) : PartsOK ms f need U (k + 1) es := by
  refine ⟨h.nd, fun e he => ?_, fun x => ?_⟩
  · have := h.nn e he; omega
  · rw [h.tot]; simp [cntF, hf]
theorem PartsOK.old {ms : List Mem} {f : Nat → Bool} {need U : Int} {k : Nat} {a b : List ((Int × Int) × Int)} {p : Int × Int} {c : Int} (h : PartsOK ms f need U k (a ++ (p, c) :: b)) (hf : f k = true) (hp : p = (quo ms need U k, rst ms need U k)) : PartsOK ms f need U (k + 1) (a ++ (p, c + 1) :: b) := by
  refine ⟨?_, fun e he => ?_, fun x => ?_⟩
  · have := h.nd; simpa using this
  · have hc := h.nn (p, c) (by simp)
    simp only [List.mem_append, List.mem_cons] at he
    rcases he with he | rfl | he
    · have := h.nn e (by simp [he]); omega
    · simp only at hc ⊢; omega
    · have := h.nn e (by simp [he]); omega
  · have ht := h.tot x
    simp only [totG_append, totG, cntF, hf, hp, Bool.true_and, decide_eq_true_eq] at ht ⊢
    split at ht <;> split <;> omega
theorem PartsOK.new {ms : List Mem} {f : Nat → Bool} {need U : Int} {k : Nat} {es : List ((Int × Int) × Int)} {p : Int × Int} (h : PartsOK ms f need U k es) (hf : f k = true) (hp : p = (quo ms need U k, rst ms need U k)) (hno : ∀ e ∈ es, p ≠ e.1) : PartsOK ms f need U (k + 1) (es ++ [(p, 1)]) := by
  refine ⟨?_, fun e he => ?_, fun x => ?_⟩
  · rw [List.map_append, List.nodup_append]
    refine ⟨h.nd, by simp, fun a ha b hb e => ?_⟩
    simp at hb
    subst hb
    obtain ⟨q, hq, rfl⟩ := List.mem_map.1 ha
    exact hno q hq e.symm
  · simp only [List.mem_append, List.mem_singleton] at he
    rcases he with he | rfl
    · have := h.nn e he; omega
    · simp only; omega
  · have ht := h.tot x
    simp only [totG_append, totG, cntF, hf, hp, Bool.true_and, decide_eq_true_eq, ht]
    split <;> omega
theorem leftF_le {ms : List Mem} {f : Nat → Bool} {need U : Int} (h : ∀ i, i < ms.length → f i = true → 0 ≤ quo ms need U i ∧ quo ms need U i ≤ 3000000000) (h0 : 0 ≤ need ∧ need ≤ 300000) : ∀ k : Nat, k ≤ ms.length → leftF ms f need U k ≤ 300000 ∧ - (k * 3000000000) ≤ leftF ms f need U k
  | 0, _ => by simp [leftF]; omega
  | k + 1, hk => by
    have ih := leftF_le h h0 k (by omega)
    simp only [leftF]
    split
    · have := h k (by omega) (by assumption); omega
    · omega

set_option maxHeartbeats 8000000 in
set_option maxRecDepth 100000 in
theorem t89 (s : Soc) (f : Nat → Bool) (need : Int) (O : List Int) (hm : ∀ m ∈ s.members, OkM m) (hl : s.members.length ≤ 5) (hn : 0 ≤ need ∧ need ≤ 300000) :
    TF Try.prog 89 [.ptr 2 0, .int .i64 need] [.cells (socC s), .cells (socC s), .cells (encW s f .junk), .arr 3 1 (ints O)] (fun r h' => h' = [.cells (socC s), .cells (socC s), .cells (encW s f .junk), .arr 3 1 (ints O)] ∧ r = .agg (fi5 (shareF s.members f need))) := by
  have hz := encYs_len s.members
  have hU := fun k => unitsF_le hm f k
  refine TF.cutTo (TF.ev fn_89 (Ev.at ?_))
  (repeat' (first | (intro ex hex; have hq := hg1 (by omega) hex; subst hq; clear hex) | (refine Ev.go ?_; conv => whnf) | refine And.intro ?_ ?_ | exact True.intro | exact rfl | (intro rx hrx; rw [IntWalk.i64_in _ (by omega)] at hrx) | (intro hcx; exfalso; omega) | intro _))
  all_goals (first | (refine ⟨?_⟩; exact vc) | exact cl | skip)
  refine TWq.loop (fun k : Nat => [(5, .int .i64 (unitsF s.members f k)), (19, .int .i64 k), (7, .junk), (8, .junk)]) (fun _ => []) (fun k => k ≤ s.members.length) (fun k => s.members.length - k) 0 [] [] ?_ (by omega) ?_
  · (repeat' (first | (intro ex hex; have hq := hg1 (by omega) hex; subst hq; clear hex) | (refine Ev.go ?_; conv => whnf) | refine And.intro ?_ ?_ | exact True.intro | exact rfl | (intro rx hrx; rw [IntWalk.i64_in _ (by omega)] at hrx) | (intro hcx; exfalso; omega) | intro _))
    all_goals (first | (refine ⟨?_⟩; exact vc) | exact cl | skip)
  · intro k hk
    have hUk := hU k
    have hUk1 := hU (k + 1)
    rcases Nat.lt_or_ge k s.members.length with hkl | hkl
    · obtain ⟨m, hmk⟩ : ∃ m, s.members[k]? = some m := ⟨_, List.getElem?_eq_getElem hkl⟩
      have om := hm m (List.mem_of_getElem? hmk)
      have ou := om.units
      have d82 := c82 m (by have := om.1; omega) (by have := om.2.1; omega)
      have hg1 : ∀ {n : Nat} {e : SV}, n = k → (encYs s.members)[n]? = some e → e = encY m := by
        rintro n e rfl he
        obtain ⟨x, hx, rfl⟩ := encYs_at he
        rw [hmk] at hx; cases hx; rfl
      have hat : (encW s f .junk)[0 + 5 + (k : Int).toNat * 1]? = some (.bool (f k)) := by
        rw [show 0 + 5 + (k : Int).toNat * 1 = 5 + k by simp]; exact encW_at (by omega)
      have hs1 : unitsF s.members f (k + 1) = unitsF s.members f k + (if f k = true then un s.members k else 0) := rfl
      rw [un_at hmk] at hs1
      cases hf : f k
      · rw [hf] at hat hs1
        simp only [Bool.false_eq_true, if_false] at hs1
        (repeat' (first | (intro ex hex; have hq := hg1 (by omega) hex; subst hq; clear hex) | (refine Ev.go ?_; conv => whnf) | refine And.intro ?_ ?_ | exact True.intro | exact rfl | (intro rx hrx; rw [IntWalk.i64_in _ (by omega)] at hrx) | (intro hcx; exfalso; omega) | intro _))
        all_goals (first | (refine ⟨?_⟩; exact vc) | exact cl | skip)
        refine getK_of hat ?_
        (repeat' (first | (intro ex hex; have hq := hg1 (by omega) hex; subst hq; clear hex) | (refine Ev.go ?_; conv => whnf) | refine And.intro ?_ ?_ | exact True.intro | exact rfl | (intro rx hrx; rw [IntWalk.i64_in _ (by omega)] at hrx) | (intro hcx; exfalso; omega) | intro _))
        all_goals (first | (refine ⟨?_⟩; exact vc) | exact cl | skip)
        refine ⟨⟨k + 1, by omega, by omega, ?_⟩⟩
        (repeat' (first | (intro ex hex; have hq := hg1 (by omega) hex; subst hq; clear hex) | (refine Ev.go ?_; conv => whnf) | refine And.intro ?_ ?_ | exact True.intro | exact rfl | (intro rx hrx; rw [IntWalk.i64_in _ (by omega)] at hrx) | (intro hcx; exfalso; omega) | intro _))
        all_goals (first | (refine ⟨?_⟩; exact vc) | exact cl | skip)
        all_goals (refine ⟨?_⟩; rw [hs1]; omega)
      · rw [hf] at hat hs1
        simp only [if_true] at hs1
        (repeat' (first | (intro ex hex; have hq := hg1 (by omega) hex; subst hq; clear hex) | (refine Ev.go ?_; conv => whnf) | refine And.intro ?_ ?_ | exact True.intro | exact rfl | (intro rx hrx; rw [IntWalk.i64_in _ (by omega)] at hrx) | (intro hcx; exfalso; omega) | intro _))
        all_goals (first | (refine ⟨?_⟩; exact vc) | exact cl | skip)
        refine getK_of hat ?_
        (repeat' (first | (intro ex hex; have hq := hg1 (by omega) hex; subst hq; clear hex) | (refine Ev.go ?_; conv => whnf) | refine And.intro ?_ ?_ | exact True.intro | exact rfl | (intro rx hrx; rw [IntWalk.i64_in _ (by omega)] at hrx) | (intro hcx; exfalso; omega) | intro _))
        refine TSq.pureC d82 cl rfl (And.intro rfl rfl) ?_
        (repeat' (first | (intro ex hex; have hq := hg1 (by omega) hex; subst hq; clear hex) | (refine Ev.go ?_; conv => whnf) | refine And.intro ?_ ?_ | exact True.intro | exact rfl | (intro rx hrx; rw [IntWalk.i64_in _ (by omega)] at hrx) | (intro hcx; exfalso; omega) | intro _))
        all_goals (first | (refine ⟨?_⟩; exact vc) | exact cl | skip)
        refine ⟨⟨k + 1, by omega, by omega, ?_⟩⟩
        (repeat' (first | (intro ex hex; have hq := hg1 (by omega) hex; subst hq; clear hex) | (refine Ev.go ?_; conv => whnf) | refine And.intro ?_ ?_ | exact True.intro | exact rfl | (intro rx hrx; rw [IntWalk.i64_in _ (by omega)] at hrx) | (intro hcx; exfalso; omega) | intro _))
        all_goals (first | (refine ⟨?_⟩; exact vc) | exact cl | skip)
        all_goals (refine ⟨?_⟩; rw [hs1]; omega)
    · have hke : k = s.members.length := by omega
      subst hke
      (repeat' (first | (intro ex hex; have hq := hg1 (by omega) hex; subst hq; clear hex) | (refine Ev.go ?_; conv => whnf) | refine And.intro ?_ ?_ | exact True.intro | exact rfl | (intro rx hrx; rw [IntWalk.i64_in _ (by omega)] at hrx) | (intro hcx; exfalso; omega) | intro _))
      all_goals (first | (refine ⟨?_⟩; exact vc) | exact cl | skip)
      have hpart : ∀ (k : Nat) (m : Mem), s.members[k]? = some m → f k = true → (1 ≤ unitsF s.members f s.members.length ∧ unitsF s.members f s.members.length ≤ 50000) ∧
          (0 ≤ quo s.members need (unitsF s.members f s.members.length) k ∧ quo s.members need (unitsF s.members f s.members.length) k ≤ 3000000000) := fun k m hk' hf => by
        have hkl := (List.getElem?_eq_some_iff.1 hk').1
        have h1 := unitsF_pos hm hk' hkl hf
        have h2 : unitsF s.members f s.members.length ≤ 50000 := by omega
        obtain ⟨_, _, _, a4, _⟩ := part_ok (need := need) (u := m.units) hn (hm m (List.mem_of_getElem? hk')).units ⟨h1, h2⟩
        rw [quo, un_at hk']
        exact ⟨⟨h1, h2⟩, a4⟩
      generalize hUU : unitsF s.members f s.members.length = U at *
      have hleft := leftF_le (ms := s.members) (f := f) (need := need) (U := U) (fun i hi hf => (hpart i _ (List.getElem?_eq_getElem hi) hf).2) hn
      refine TWq.loop (fun p : Nat × List ((Int × Int) × Int) => [(6, .int .i64 (leftF s.members f need U p.1)), (45, .int .i64 p.1), (9, .junk), (10, .junk)])
        (fun p => [(4, .cells (fi5 (g2 s.members f need U p.1))), (5, .map (encM p.2))]) (fun p => p.1 ≤ s.members.length ∧ PartsOK s.members f need U p.1 p.2) (fun p => s.members.length - p.1) (0, []) [] [] ?_ ⟨by omega, by simp, by simp, by simp [totG, cntF]⟩ ?_
      · (repeat' (first | (intro ex hex; have hq := hg1 (by omega) hex; subst hq; clear hex) | (refine Ev.go ?_; conv => whnf) | refine And.intro ?_ ?_ | exact True.intro | exact rfl | (intro rx hrx; rw [IntWalk.i64_in _ (by omega)] at hrx) | (intro hcx; exfalso; omega) | intro _))
        all_goals (first | (refine ⟨?_⟩; exact vc) | exact cl | skip)
        all_goals (refine ⟨?_⟩; simp [g2, encM])
      · rintro ⟨k, es⟩ ⟨hk, hpo⟩
        dsimp only at hk hpo ⊢
        have hlk := hleft k hk
        rcases Nat.lt_or_ge k s.members.length with hkl | hkl
        · obtain ⟨m, hmk⟩ : ∃ m, s.members[k]? = some m := ⟨_, List.getElem?_eq_getElem hkl⟩
          have hlk1 := hleft (k + 1) hkl
          have hls : leftF s.members f need U (k + 1) = leftF s.members f need U k - (if f k = true then quo s.members need U k else 0) := rfl
          have hat : (encW s f (.mp 5))[0 + 5 + (k : Int).toNat * 1]? = some (.bool (f k)) := by
            rw [show 0 + 5 + (k : Int).toNat * 1 = 5 + k by simp]; exact encW_at (by omega)
          cases hf : f k
          · rw [hf] at hat hls
            simp only [Bool.false_eq_true, if_false] at hls
            (repeat' (first | (intro ex hex; have hq := hg1 (by omega) hex; subst hq; clear hex) | (refine Ev.go ?_; conv => whnf) | refine And.intro ?_ ?_ | exact True.intro | exact rfl | (intro rx hrx; rw [IntWalk.i64_in _ (by omega)] at hrx) | (intro hcx; exfalso; omega) | intro _))
            all_goals (first | (refine ⟨?_⟩; exact vc) | exact cl | skip)
            refine getK_of hat ?_
            (repeat' (first | (intro ex hex; have hq := hg1 (by omega) hex; subst hq; clear hex) | (refine Ev.go ?_; conv => whnf) | refine And.intro ?_ ?_ | exact True.intro | exact rfl | (intro rx hrx; rw [IntWalk.i64_in _ (by omega)] at hrx) | (intro hcx; exfalso; omega) | intro _))
            all_goals (first | (refine ⟨?_⟩; exact vc) | exact cl | skip)
            refine ⟨⟨(k + 1, es), ⟨by dsimp only; omega, hpo.skip hf⟩, by dsimp only; omega, ?_⟩⟩
            (repeat' (first | (intro ex hex; have hq := hg1 (by omega) hex; subst hq; clear hex) | (refine Ev.go ?_; conv => whnf) | refine And.intro ?_ ?_ | exact True.intro | exact rfl | (intro rx hrx; rw [IntWalk.i64_in _ (by omega)] at hrx) | (intro hcx; exfalso; omega) | intro _))
            all_goals (first | (refine ⟨?_⟩; exact vc) | exact cl | skip)
            all_goals (exact ⟨g2_skip hf _⟩)
          · rw [hf] at hat hls
            simp only [if_true] at hls
            obtain ⟨hU1, hq1⟩ := hpart k m hmk hf
            have d99 := c99 s f es k m need U hmk (hm m (List.mem_of_getElem? hmk)) hn hU1
            have hcs : k = 0 ∨ k = 1 ∨ k = 2 ∨ k = 3 ∨ k = 4 := by omega
            rcases hcs with rfl | rfl | rfl | rfl | rfl
            all_goals
              unfold encW at d99
              rw [hf] at d99
              (repeat' (first | (intro ex hex; have hq := hg1 (by omega) hex; subst hq; clear hex) | (refine Ev.go ?_; conv => whnf) | refine And.intro ?_ ?_ | exact True.intro | exact rfl | (intro rx hrx; rw [IntWalk.i64_in _ (by omega)] at hrx) | (intro hcx; exfalso; omega) | intro _))
              all_goals (first | (refine ⟨?_⟩; exact vc) | exact cl | skip)
              rw [hf]
              conv => whnf
              (repeat' (first | (intro ex hex; have hq := hg1 (by omega) hex; subst hq; clear hex) | (refine Ev.go ?_; conv => whnf) | refine And.intro ?_ ?_ | exact True.intro | exact rfl | (intro rx hrx; rw [IntWalk.i64_in _ (by omega)] at hrx) | (intro hcx; exfalso; omega) | intro _))
              refine TSq.lendC d99 (by simp [scal, scalL, encS]) rfl (And.intro rfl ?_) ?_
              · (repeat' (first | (intro ex hex; have hq := hg1 (by omega) hex; subst hq; clear hex) | (refine Ev.go ?_; conv => whnf) | refine And.intro ?_ ?_ | exact True.intro | exact rfl | (intro rx hrx; rw [IntWalk.i64_in _ (by omega)] at hrx) | (intro hcx; exfalso; omega) | intro _))
                all_goals (first | (refine ⟨?_⟩; exact vc) | exact cl | skip)
              (repeat' (first | (intro ex hex; have hq := hg1 (by omega) hex; subst hq; clear hex) | (refine Ev.go ?_; conv => whnf) | refine And.intro ?_ ?_ | exact True.intro | exact rfl | (intro rx hrx; rw [IntWalk.i64_in _ (by omega)] at hrx) | (intro hcx; exfalso; omega) | intro _))
              all_goals (first | (refine ⟨?_⟩; exact vc) | exact cl | skip)
              refine TWq.incr ?_
              (repeat' (first | (intro ex hex; have hq := hg1 (by omega) hex; subst hq; clear hex) | (refine Ev.go ?_; conv => whnf) | refine And.intro ?_ ?_ | exact True.intro | exact rfl | (intro rx hrx; rw [IntWalk.i64_in _ (by omega)] at hrx) | (intro hcx; exfalso; omega) | intro _))
              all_goals (first | (refine ⟨?_⟩; exact vc) | exact cl | skip)
              refine upd_cases (encM_nodup hpo.nd) ?_ ?_
              · intro pre' v0 post' he'
                obtain ⟨a', x', b', rfl, rfl, hx', rfl, rfl⟩ := encM_split he'
                have hx' := encS_inj hx'
                obtain ⟨xp, xc⟩ := x'
                dsimp only at hx'
                have hc := hpo.nn (xp, xc) (by simp)
                dsimp only at hc
                have hpn := hpo.old hf hx'.symm
                subst hx'
                (repeat' (first | (intro ex hex; have hq := hg1 (by omega) hex; subst hq; clear hex) | (refine Ev.go ?_; conv => whnf) | refine And.intro ?_ ?_ | exact True.intro | exact rfl | (intro rx hrx; rw [IntWalk.i64_in _ (by omega)] at hrx) | (intro hcx; exfalso; omega) | intro _))
                all_goals (first | (refine ⟨?_⟩; exact vc) | exact cl | skip)
                refine ⟨⟨(_, _), ⟨?_, hpn⟩, ?_, ?_⟩⟩
                · dsimp only; omega
                · dsimp only; omega
                (repeat' (first | (intro ex hex; have hq := hg1 (by omega) hex; subst hq; clear hex) | (refine Ev.go ?_; conv => whnf) | refine And.intro ?_ ?_ | exact True.intro | exact rfl | (intro rx hrx; rw [IntWalk.i64_in _ (by omega)] at hrx) | (intro hcx; exfalso; omega) | intro _))
                all_goals (first | (refine ⟨?_⟩; exact vc) | exact cl | skip)
                all_goals (first | exact ⟨g2_at hf⟩ | exact ⟨g2_other (by decide)⟩ | exact ⟨hf.symm⟩ | (refine ⟨?_⟩; rw [hls]; omega) | (refine ⟨?_⟩; simp [encM, encS]; done) | (refine ⟨?_⟩; simp [encM, encS]; assumption))
              · intro hno
                have hno' : ∀ e ∈ es, (quo s.members need U _, rst s.members need U _) ≠ e.1 := fun e he q => hno (encS e.1, .int .i64 e.2) (List.mem_map.2 ⟨e, he, rfl⟩) (by rw [← q]; rfl)
                have hpn := hpo.new hf rfl hno'
                (repeat' (first | (intro ex hex; have hq := hg1 (by omega) hex; subst hq; clear hex) | (refine Ev.go ?_; conv => whnf) | refine And.intro ?_ ?_ | exact True.intro | exact rfl | (intro rx hrx; rw [IntWalk.i64_in _ (by omega)] at hrx) | (intro hcx; exfalso; omega) | intro _))
                all_goals (first | (refine ⟨?_⟩; exact vc) | exact cl | skip)
                refine ⟨⟨(_, _), ⟨?_, hpn⟩, ?_, ?_⟩⟩
                · dsimp only; omega
                · dsimp only; omega
                (repeat' (first | (intro ex hex; have hq := hg1 (by omega) hex; subst hq; clear hex) | (refine Ev.go ?_; conv => whnf) | refine And.intro ?_ ?_ | exact True.intro | exact rfl | (intro rx hrx; rw [IntWalk.i64_in _ (by omega)] at hrx) | (intro hcx; exfalso; omega) | intro _))
                all_goals (first | (refine ⟨?_⟩; exact vc) | exact cl | skip)
                all_goals (first | exact ⟨g2_at hf⟩ | exact ⟨g2_other (by decide)⟩ | exact ⟨hf.symm⟩ | (refine ⟨?_⟩; rw [hls]; omega) | (refine ⟨?_⟩; simp [encM, encS]; done) | (refine ⟨?_⟩; simp [encM, encS]; assumption))
        · have hke : k = s.members.length := by omega
          subst hke
          (repeat' (first | (intro ex hex; have hq := hg1 (by omega) hex; subst hq; clear hex) | (refine Ev.go ?_; conv => whnf) | refine And.intro ?_ ?_ | exact True.intro | exact rfl | (intro rx hrx; rw [IntWalk.i64_in _ (by omega)] at hrx) | (intro hcx; exfalso; omega) | intro _))
          all_goals (first | (refine ⟨?_⟩; exact vc) | exact cl | skip)
          refine TWq.loop (fun k : Nat => [(83, .int .i64 k), (11, .junk)]) (fun k => [(4, .cells (fi5 (g3 s.members f need U k)))]) (fun k => k ≤ s.members.length) (fun k => s.members.length - k) 0 [] [] ?_ (by omega) ?_
          · (repeat' (first | (intro ex hex; have hq := hg1 (by omega) hex; subst hq; clear hex) | (refine Ev.go ?_; conv => whnf) | refine And.intro ?_ ?_ | exact True.intro | exact rfl | (intro rx hrx; rw [IntWalk.i64_in _ (by omega)] at hrx) | (intro hcx; exfalso; omega) | intro _))
            all_goals (first | (refine ⟨?_⟩; exact vc) | exact cl | skip)
            all_goals (exact ⟨g3_0 _⟩)
          · intro k hk
            rcases Nat.lt_or_ge k s.members.length with hkl | hkl
            · obtain ⟨m, hmk⟩ : ∃ m, s.members[k]? = some m := ⟨_, List.getElem?_eq_getElem hkl⟩
              have hat : (encW s f (.mp 5))[0 + 5 + (k : Int).toNat * 1]? = some (.bool (f k)) := by
                rw [show 0 + 5 + (k : Int).toNat * 1 = 5 + k by simp]; exact encW_at (by omega)
              cases hf : f k
              · rw [hf] at hat
                (repeat' (first | (intro ex hex; have hq := hg1 (by omega) hex; subst hq; clear hex) | (refine Ev.go ?_; conv => whnf) | refine And.intro ?_ ?_ | exact True.intro | exact rfl | (intro rx hrx; rw [IntWalk.i64_in _ (by omega)] at hrx) | (intro hcx; exfalso; omega) | intro _))
                all_goals (first | (refine ⟨?_⟩; exact vc) | exact cl | skip)
                refine getK_of hat ?_
                (repeat' (first | (intro ex hex; have hq := hg1 (by omega) hex; subst hq; clear hex) | (refine Ev.go ?_; conv => whnf) | refine And.intro ?_ ?_ | exact True.intro | exact rfl | (intro rx hrx; rw [IntWalk.i64_in _ (by omega)] at hrx) | (intro hcx; exfalso; omega) | intro _))
                all_goals (first | (refine ⟨?_⟩; exact vc) | exact cl | skip)
                refine ⟨⟨k + 1, by omega, by omega, ?_⟩⟩
                (repeat' (first | (intro ex hex; have hq := hg1 (by omega) hex; subst hq; clear hex) | (refine Ev.go ?_; conv => whnf) | refine And.intro ?_ ?_ | exact True.intro | exact rfl | (intro rx hrx; rw [IntWalk.i64_in _ (by omega)] at hrx) | (intro hcx; exfalso; omega) | intro _))
                all_goals (first | (refine ⟨?_⟩; exact vc) | exact cl | skip)
                all_goals (exact ⟨g3_skip hf _⟩)
              · obtain ⟨hU1, hq1⟩ := hpart k m hmk hf
                have d100 := c100 s f es k need U hm hl hkl hn hU1 (fun e he => (hpo.nn e he).1) hpo.tot
                have hbe : 0 ≤ beforeF s.members f need U k ∧ beforeF s.members f need U k ≤ 100 := by
                  have q1 := cntF_le (fun j => f j && decide (rst s.members need U k < rst s.members need U j)) s.members.length
                  have q2 := cntF_le (fun j => f j && decide (rst s.members need U j = rst s.members need U k)) k
                  unfold beforeF
                  omega
                have g3a := g3_at (need := need) (U := U) hkl hf
                have g3b := fun h => g3_no (ms := s.members) (f := f) (need := need) (U := U) (k := k) h
                generalize beforeF s.members f need U k = BE at *
                have hcs : k = 0 ∨ k = 1 ∨ k = 2 ∨ k = 3 ∨ k = 4 := by omega
                obtain ⟨k1, hk1⟩ : ∃ k1, k1 = k + 1 := ⟨_, rfl⟩
                rcases hcs with rfl | rfl | rfl | rfl | rfl
                all_goals
                  unfold encW at d100
                  rw [hf] at d100
                  rcases Int.lt_or_le BE (leftF s.members f need U s.members.length) with hlt | hge
                  · obtain ⟨ga, gb⟩ := g3a hlt
                    (repeat' (first | (intro ex hex; have hq := hg1 (by omega) hex; subst hq; clear hex) | (refine Ev.go ?_; conv => whnf) | refine And.intro ?_ ?_ | exact True.intro | exact rfl | (intro rx hrx; rw [IntWalk.i64_in _ (by omega)] at hrx) | (intro hcx; exfalso; omega) | intro _))
                    all_goals (first | (refine ⟨?_⟩; exact vc) | exact cl | skip)
                    rw [hf]
                    conv => whnf
                    (repeat' (first | (intro ex hex; have hq := hg1 (by omega) hex; subst hq; clear hex) | (refine Ev.go ?_; conv => whnf) | refine And.intro ?_ ?_ | exact True.intro | exact rfl | (intro rx hrx; rw [IntWalk.i64_in _ (by omega)] at hrx) | (intro hcx; exfalso; omega) | intro _))
                    refine TSq.lendC d100 (by simp [scal, scalL, encS]) rfl (And.intro rfl ?_) ?_
                    · (repeat' (first | (intro ex hex; have hq := hg1 (by omega) hex; subst hq; clear hex) | (refine Ev.go ?_; conv => whnf) | refine And.intro ?_ ?_ | exact True.intro | exact rfl | (intro rx hrx; rw [IntWalk.i64_in _ (by omega)] at hrx) | (intro hcx; exfalso; omega) | intro _))
                      all_goals (first | (refine ⟨?_⟩; exact vc) | exact cl | skip)
                    (repeat' (first | (intro ex hex; have hq := hg1 (by omega) hex; subst hq; clear hex) | (refine Ev.go ?_; conv => whnf) | refine And.intro ?_ ?_ | exact True.intro | exact rfl | (intro rx hrx; rw [IntWalk.i64_in _ (by omega)] at hrx) | (intro hcx; exfalso; omega) | intro _))
                    all_goals (first | (refine ⟨?_⟩; exact vc) | exact cl | skip)
                    refine ⟨⟨k1, by omega, by omega, ?_⟩⟩
                    subst hk1
                    (repeat' (first | (intro ex hex; have hq := hg1 (by omega) hex; subst hq; clear hex) | (refine Ev.go ?_; conv => whnf) | refine And.intro ?_ ?_ | exact True.intro | exact rfl | (intro rx hrx; rw [IntWalk.i64_in _ (by omega)] at hrx) | (intro hcx; exfalso; omega) | intro _))
                    all_goals (first | (refine ⟨?_⟩; exact vc) | exact cl | skip)
                    all_goals (first | exact ⟨g3_other (by decide)⟩ | exact ⟨hf.symm⟩ | (refine ⟨?_⟩; rw [gb]; omega))
                  · have gc := g3b (by omega)
                    (repeat' (first | (intro ex hex; have hq := hg1 (by omega) hex; subst hq; clear hex) | (refine Ev.go ?_; conv => whnf) | refine And.intro ?_ ?_ | exact True.intro | exact rfl | (intro rx hrx; rw [IntWalk.i64_in _ (by omega)] at hrx) | (intro hcx; exfalso; omega) | intro _))
                    all_goals (first | (refine ⟨?_⟩; exact vc) | exact cl | skip)
                    rw [hf]
                    conv => whnf
                    (repeat' (first | (intro ex hex; have hq := hg1 (by omega) hex; subst hq; clear hex) | (refine Ev.go ?_; conv => whnf) | refine And.intro ?_ ?_ | exact True.intro | exact rfl | (intro rx hrx; rw [IntWalk.i64_in _ (by omega)] at hrx) | (intro hcx; exfalso; omega) | intro _))
                    refine TSq.lendC d100 (by simp [scal, scalL, encS]) rfl (And.intro rfl ?_) ?_
                    · (repeat' (first | (intro ex hex; have hq := hg1 (by omega) hex; subst hq; clear hex) | (refine Ev.go ?_; conv => whnf) | refine And.intro ?_ ?_ | exact True.intro | exact rfl | (intro rx hrx; rw [IntWalk.i64_in _ (by omega)] at hrx) | (intro hcx; exfalso; omega) | intro _))
                      all_goals (first | (refine ⟨?_⟩; exact vc) | exact cl | skip)
                    (repeat' (first | (intro ex hex; have hq := hg1 (by omega) hex; subst hq; clear hex) | (refine Ev.go ?_; conv => whnf) | refine And.intro ?_ ?_ | exact True.intro | exact rfl | (intro rx hrx; rw [IntWalk.i64_in _ (by omega)] at hrx) | (intro hcx; exfalso; omega) | intro _))
                    all_goals (first | (refine ⟨?_⟩; exact vc) | exact cl | skip)
                    refine ⟨⟨k1, by omega, by omega, ?_⟩⟩
                    subst hk1
                    (repeat' (first | (intro ex hex; have hq := hg1 (by omega) hex; subst hq; clear hex) | (refine Ev.go ?_; conv => whnf) | refine And.intro ?_ ?_ | exact True.intro | exact rfl | (intro rx hrx; rw [IntWalk.i64_in _ (by omega)] at hrx) | (intro hcx; exfalso; omega) | intro _))
                    all_goals (first | (refine ⟨?_⟩; exact vc) | exact cl | skip)
                    all_goals (first | exact ⟨gc _⟩ | exact ⟨hf.symm⟩)
            · have hke : k = s.members.length := by omega
              subst hke
              (repeat' (first | (intro ex hex; have hq := hg1 (by omega) hex; subst hq; clear hex) | (refine Ev.go ?_; conv => whnf) | refine And.intro ?_ ?_ | exact True.intro | exact rfl | (intro rx hrx; rw [IntWalk.i64_in _ (by omega)] at hrx) | (intro hcx; exfalso; omega) | intro _))
              all_goals (first | (refine ⟨?_⟩; exact vc) | exact cl | skip)
              subst hUU
              simp only [g3_n, fi5]
end Go.Proofs.Ythnaamkempmjkaa
