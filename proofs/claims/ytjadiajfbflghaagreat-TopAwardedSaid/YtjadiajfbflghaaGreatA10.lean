/- The shares of all who share. Tariffs: the part that is paid, and the payment on a claim, by an office at work whose map is empty. Tariffs: claims that are valid, by the program. Tariffs: all over lists of claims (printed by a program). Tariffs at work: start, and asked. Tariffs: the payment on a claim. Functions of the program in the calculus' compact form: the form is found by reduction, and shown to be the program's. Cases: as data, as trees, and what is valid. The statements' arguments, as cases. -/
import Derived.Test.YtjadiajfbflghaaGreatA9
import Derived.Test.YtjadiajfbflghaaGreatProg
import Derived.Test.YtjadiajfbflghaaGreatA4
import Derived.Test.YtjadiajfbflghaaGreatA5
import Derived.Test.YtjadiajfbflghaaGreatA7
set_option linter.unusedSimpArgs false
set_option linter.unusedVariables false
set_option linter.unusedSimpArgs false
set_option linter.unusedVariables false
open Go Go.TV
namespace Go.Proofs.YtjadiajfbflghaaGreat
def socC (s : Soc) : List SV := [.sl 3 (encYs s.members), .sl 2 (encRs s.losses), .int .i64 s.treaty.lo, .int .i64 s.treaty.hi, .int .i64 s.reserve]
def fi5 (g : Nat → Int) : List SV := [.int .i64 (g 0), .int .i64 (g 1), .int .i64 (g 2), .int .i64 (g 3), .int .i64 (g 4)]
theorem un_nn {ms : List Mem} (h : ∀ m ∈ ms, OkM m) (i : Nat) : 0 ≤ un ms i ∧ un ms i ≤ 10000 := by
  unfold un
  cases hi : ms[i]? with
  | none => simp
  | some m => have := (h m (List.mem_of_getElem? hi)).units; simp only; omega
theorem unitsF_le {ms : List Mem} (h : ∀ m ∈ ms, OkM m) (f : Nat → Bool) : ∀ k : Nat, 0 ≤ unitsF ms f k ∧ unitsF ms f k ≤ k * 10000
  | 0 => by simp [unitsF]
  | k + 1 => by
    have ih := unitsF_le h f k
    have := un_nn h k
    simp only [unitsF]
    split <;> omega
theorem unitsF_mono {ms : List Mem} (h : ∀ m ∈ ms, OkM m) (f : Nat → Bool) (j : Nat) : ∀ k, unitsF ms f j ≤ unitsF ms f (j + k)
  | 0 => Int.le_refl _
  | k + 1 => by
    have ih := unitsF_mono h f j k
    have := un_nn h (j + k)
    have e : unitsF ms f (j + (k + 1)) = unitsF ms f (j + k) + (if f (j + k) = true then un ms (j + k) else 0) := rfl
    rw [e]
    split <;> omega
theorem unitsF_pos {ms : List Mem} (h : ∀ m ∈ ms, OkM m) {f : Nat → Bool} {k n : Nat} {m : Mem} (hm : ms[k]? = some m) (hk : k < n) (hf : f k = true) : 1 ≤ unitsF ms f n := by
  have h1 := unitsF_mono h f (k + 1) (n - (k + 1))
  rw [show k + 1 + (n - (k + 1)) = n by omega] at h1
  have h2 := (unitsF_le h f k).1
  have h3 : unitsF ms f (k + 1) = unitsF ms f k + un ms k := by simp only [unitsF, hf, if_true]
  have h4 := (h m (List.mem_of_getElem? hm)).units
  rw [un_at hm] at h3
  omega
def g2 (ms : List Mem) (f : Nat → Bool) (need U : Int) (k i : Nat) : Int := if i < k ∧ f i = true then quo ms need U i else 0
def g3 (ms : List Mem) (f : Nat → Bool) (need U : Int) (k i : Nat) : Int := if i < ms.length ∧ f i = true then quo ms need U i + (if i < k ∧ beforeF ms f need U i < leftF ms f need U ms.length then 1 else 0) else 0
theorem g2_skip {ms : List Mem} {f : Nat → Bool} {need U : Int} {k : Nat} (h : f k = false) (i : Nat) : g2 ms f need U k i = g2 ms f need U (k + 1) i := by
  unfold g2
  by_cases e : i = k
  · subst e; simp [h]
  · have : i < k ↔ i < k + 1 := by omega
    simp only [this]
theorem g2_other {ms : List Mem} {f : Nat → Bool} {need U : Int} {k i : Nat} (h : i ≠ k) : g2 ms f need U k i = g2 ms f need U (k + 1) i := by
  unfold g2
  have : i < k ↔ i < k + 1 := by omega
  simp only [this]
theorem g2_at {ms : List Mem} {f : Nat → Bool} {need U : Int} {k : Nat} (h : f k = true) : quo ms need U k = g2 ms f need U (k + 1) k := by
  unfold g2
  rw [if_pos ⟨by omega, h⟩]
theorem g3_0 {ms : List Mem} {f : Nat → Bool} {need U : Int} (i : Nat) : g2 ms f need U ms.length i = g3 ms f need U 0 i := by
  unfold g2 g3
  simp
theorem g3_skip {ms : List Mem} {f : Nat → Bool} {need U : Int} {k : Nat} (h : f k = false) (i : Nat) : g3 ms f need U k i = g3 ms f need U (k + 1) i := by
  unfold g3
  by_cases e : i = k
  · subst e; simp [h]
  · have : i < k ↔ i < k + 1 := by omega
    simp only [this]
theorem g3_other {ms : List Mem} {f : Nat → Bool} {need U : Int} {k i : Nat} (h : i ≠ k) : g3 ms f need U k i = g3 ms f need U (k + 1) i := by
  unfold g3
  have : i < k ↔ i < k + 1 := by omega
  simp only [this]
theorem g3_no {ms : List Mem} {f : Nat → Bool} {need U : Int} {k : Nat} (h : ¬ beforeF ms f need U k < leftF ms f need U ms.length) (i : Nat) : g3 ms f need U k i = g3 ms f need U (k + 1) i := by
  unfold g3
  by_cases e : i = k
  · subst e; simp [h]
  · have : i < k ↔ i < k + 1 := by omega
    simp only [this]
theorem g3_at {ms : List Mem} {f : Nat → Bool} {need U : Int} {k : Nat} (hk : k < ms.length) (hf : f k = true) (h : beforeF ms f need U k < leftF ms f need U ms.length) : g3 ms f need U k k = quo ms need U k ∧ g3 ms f need U (k + 1) k = quo ms need U k + 1 := by
  unfold g3
  simp [hk, hf, h]
theorem g3_n {ms : List Mem} {f : Nat → Bool} {need : Int} (i : Nat) : g3 ms f need (unitsF ms f ms.length) ms.length i = shareF ms f need i := by
  unfold g3 shareF
  by_cases h : i < ms.length
  · simp [h]
  · simp [h]
theorem TF.cutTo {P : Program} {f : FuncId} {args : List SV} {h h0 : List LB} {R : SV → Prop} (hT : TF P f args h fun s h' => Ev (fitS h.length [] ⟨[s], h', []⟩ ⟨[s], h0, []⟩) ∧ Ev (R s)) : TF P f args h (fun s h' => h' = h0 ∧ R s) := by
  refine ⟨hT.ok, fun hm g w vals h1 h2 h3 h4 h5 => (hT.run hm g w vals h1 h2 h3 h4 h5).mono ?_⟩
  rintro _ w' ⟨v, s, h', g', rfl, q, k1, k2, k3, k4, k5⟩
  have hno : g'.hid = none := k5.hid.trans h1
  obtain ⟨g2, s2, e2⟩ := Wk.fit (P := P) [] q.1.at g' ⟨#[v], []⟩ w' ⟨k1, k2, by simp only [Gh.denL, denL]; exact ⟨v, [], rfl, k3, rfl⟩, k4, by simp [dfden]⟩
  have d2 := s2.tm
  simp only [Gh.denL, denL] at d2
  obtain ⟨u, us, e, d2, _⟩ := d2
  have : u = v := by simpa using (List.cons.inj e).1.symm
  subst this
  exact ⟨u, s, h0, g2, rfl, ⟨rfl, q.2.at⟩, s2.ok, s2.lt, d2, s2.hp, ((k5.exw h.length).trans e2).ext h3 h1⟩
structure PartsOK (ms : List Mem) (f : Nat → Bool) (need U : Int) (k : Nat) (es : List ((Int × Int) × Int)) : Prop where
  nd : (es.map (·.1)).Nodup
  nn : ∀ e ∈ es, 0 ≤ e.2 ∧ e.2 ≤ k
  tot : ∀ x, totG es x = cntF (fun j => f j && decide (x < rst ms need U j)) k
theorem PartsOK.skip {ms : List Mem} {f : Nat → Bool} {need U : Int} {k : Nat} {es : List ((Int × Int) × Int)} (h : PartsOK ms f need U k es) (hf : f k = false) : PartsOK ms f need U (k + 1) es := by
  refine ⟨h.nd, fun e he => ?_, fun x => ?_⟩
  · have := h.nn e he; omega
  · rw [h.tot]; simp [cntF, hf]
theorem PartsOK.old {ms : List Mem} {f : Nat → Bool} {need U : Int} {k : Nat} {a b : List ((Int × Int) × Int)} {p : Int × Int} {c : Int} (h : PartsOK ms f need U k (a ++ (p, c) :: b)) (hf : f k = true) (hp : p = (quo ms need U k, rst ms need U k)) : PartsOK ms f need U (k + 1) (a ++ (p, c + 1) :: b) := by
  refine ⟨?_, fun e he => ?_, fun x => ?_⟩
  · have := h.nd; simpa using this
  · have hc := h.nn (p, c) (by simp)
    simp only [List.mem_append, List.mem_cons] at he
    rcases he with he | rfl | he
    · have := h.nn e (by simp [he]); omega
    · simp only at hc ⊢; omega
    · have := h.nn e (by simp [he]); omega
  · have ht := h.tot x
    simp only [totG_append, totG, cntF, hf, hp, Bool.true_and, decide_eq_true_eq] at ht ⊢
    split at ht <;> split <;> omega
theorem PartsOK.new {ms : List Mem} {f : Nat → Bool} {need U : Int} {k : Nat} {es : List ((Int × Int) × Int)} {p : Int × Int} (h : PartsOK ms f need U k es) (hf : f k = true) (hp : p = (quo ms need U k, rst ms need U k)) (hno : ∀ e ∈ es, p ≠ e.1) : PartsOK ms f need U (k + 1) (es ++ [(p, 1)]) := by
  refine ⟨?_, fun e he => ?_, fun x => ?_⟩
  · rw [List.map_append, List.nodup_append]
    refine ⟨h.nd, by simp, fun a ha b hb e => ?_⟩
    simp at hb
    subst hb
    obtain ⟨q, hq, rfl⟩ := List.mem_map.1 ha
    exact hno q hq e.symm
  · simp only [List.mem_append, List.mem_singleton] at he
    rcases he with he | rfl
    · have := h.nn e he; omega
    · simp only; omega
  · have ht := h.tot x
    simp only [totG_append, totG, cntF, hf, hp, Bool.true_and, decide_eq_true_eq, ht]
    split <;> omega
theorem leftF_le {ms : List Mem} {f : Nat → Bool} {need U : Int} (h : ∀ i, i < ms.length → f i = true → 0 ≤ quo ms need U i ∧ quo ms need U i ≤ 3000000000) (h0 : 0 ≤ need ∧ need ≤ 300000) : ∀ k : Nat, k ≤ ms.length → leftF ms f need U k ≤ 300000 ∧ - (k * 3000000000) ≤ leftF ms f need U k
  | 0, _ => by simp [leftF]; omega
  | k + 1, hk => by
    have ih := leftF_le h h0 k (by omega)
    simp only [leftF]
    split
    · have := h k (by omega) (by assumption); omega
    · omega
set_option maxHeartbeats 8000000 in
set_option maxRecDepth 100000 in
theorem t134 (s : Soc) (f : Nat → Bool) (need : Int) (O : List Int) (hm : ∀ m ∈ s.members, OkM m) (hl : s.members.length ≤ 5) (hn : 0 ≤ need ∧ need ≤ 300000) :
    TF Tryz.prog 134 [.ptr 2 0, .int .i64 need] [.cells (socC s), .cells (socC s), .cells (encW s f .junk), .arr 3 1 (ints O)] (fun r h' => h' = [.cells (socC s), .cells (socC s), .cells (encW s f .junk), .arr 3 1 (ints O)] ∧ r = .agg (fi5 (shareF s.members f need))) := by
  have hz := encYs_len s.members
  have hU := fun k => unitsF_le hm f k
  refine TF.cutTo (TF.ev fn_134 (Ev.at ?_))
  (repeat' (first | (intro ex hex; have hq := hg1 (by omega) hex; subst hq; clear hex) | (refine Ev.go ?_; conv => whnf) | refine And.intro ?_ ?_ | exact True.intro | exact rfl | (intro rx hrx; rw [ij _ (by omega)] at hrx) | (intro hcx; exfalso; omega) | intro _))
  all_goals (first | (refine ⟨?_⟩; exact vc) | exact cl | skip)
  refine TWq.loop (fun k : Nat => [(5, .int .i64 (unitsF s.members f k)), (19, .int .i64 k), (7, .junk), (8, .junk)]) (fun _ => []) (fun k => k ≤ s.members.length) (fun k => s.members.length - k) 0 [] [] ?_ (by omega) ?_
  · (repeat' (first | (intro ex hex; have hq := hg1 (by omega) hex; subst hq; clear hex) | (refine Ev.go ?_; conv => whnf) | refine And.intro ?_ ?_ | exact True.intro | exact rfl | (intro rx hrx; rw [ij _ (by omega)] at hrx) | (intro hcx; exfalso; omega) | intro _))
    all_goals (first | (refine ⟨?_⟩; exact vc) | exact cl | skip)
  · intro k hk
    have hUk := hU k
    have hUk1 := hU (k + 1)
    rcases Nat.lt_or_ge k s.members.length with hkl | hkl
    · obtain ⟨m, hmk⟩ : ∃ m, s.members[k]? = some m := ⟨_, List.getElem?_eq_getElem hkl⟩
      have om := hm m (List.mem_of_getElem? hmk)
      have ou := om.units
      have d82 := c197 m (by have := om.1; omega) (by have := om.2.1; omega)
      have hg1 : ∀ {n : Nat} {e : SV}, n = k → (encYs s.members)[n]? = some e → e = encY m := by
        rintro n e rfl he
        obtain ⟨x, hx, rfl⟩ := encYs_at he
        rw [hmk] at hx; cases hx; rfl
      have hat : (encW s f .junk)[0 + 5 + (k : Int).toNat * 1]? = some (.bool (f k)) := by
        rw [show 0 + 5 + (k : Int).toNat * 1 = 5 + k by simp]; exact encW_at (by omega)
      have hs1 : unitsF s.members f (k + 1) = unitsF s.members f k + (if f k = true then un s.members k else 0) := rfl
      rw [un_at hmk] at hs1
      cases hf : f k
      · rw [hf] at hat hs1
        simp only [Bool.false_eq_true, if_false] at hs1
        (repeat' (first | (intro ex hex; have hq := hg1 (by omega) hex; subst hq; clear hex) | (refine Ev.go ?_; conv => whnf) | refine And.intro ?_ ?_ | exact True.intro | exact rfl | (intro rx hrx; rw [ij _ (by omega)] at hrx) | (intro hcx; exfalso; omega) | intro _))
        all_goals (first | (refine ⟨?_⟩; exact vc) | exact cl | skip)
        refine getK_of hat ?_
        (repeat' (first | (intro ex hex; have hq := hg1 (by omega) hex; subst hq; clear hex) | (refine Ev.go ?_; conv => whnf) | refine And.intro ?_ ?_ | exact True.intro | exact rfl | (intro rx hrx; rw [ij _ (by omega)] at hrx) | (intro hcx; exfalso; omega) | intro _))
        all_goals (first | (refine ⟨?_⟩; exact vc) | exact cl | skip)
        refine ⟨⟨k + 1, by omega, by omega, ?_⟩⟩
        (repeat' (first | (intro ex hex; have hq := hg1 (by omega) hex; subst hq; clear hex) | (refine Ev.go ?_; conv => whnf) | refine And.intro ?_ ?_ | exact True.intro | exact rfl | (intro rx hrx; rw [ij _ (by omega)] at hrx) | (intro hcx; exfalso; omega) | intro _))
        all_goals (first | (refine ⟨?_⟩; exact vc) | exact cl | skip)
        all_goals (refine ⟨?_⟩; rw [hs1]; omega)
      · rw [hf] at hat hs1
        simp only [if_true] at hs1
        (repeat' (first | (intro ex hex; have hq := hg1 (by omega) hex; subst hq; clear hex) | (refine Ev.go ?_; conv => whnf) | refine And.intro ?_ ?_ | exact True.intro | exact rfl | (intro rx hrx; rw [ij _ (by omega)] at hrx) | (intro hcx; exfalso; omega) | intro _))
        all_goals (first | (refine ⟨?_⟩; exact vc) | exact cl | skip)
        refine getK_of hat ?_
        (repeat' (first | (intro ex hex; have hq := hg1 (by omega) hex; subst hq; clear hex) | (refine Ev.go ?_; conv => whnf) | refine And.intro ?_ ?_ | exact True.intro | exact rfl | (intro rx hrx; rw [ij _ (by omega)] at hrx) | (intro hcx; exfalso; omega) | intro _))
        refine TSq.pureC d82 cl rfl (And.intro rfl rfl) ?_
        (repeat' (first | (intro ex hex; have hq := hg1 (by omega) hex; subst hq; clear hex) | (refine Ev.go ?_; conv => whnf) | refine And.intro ?_ ?_ | exact True.intro | exact rfl | (intro rx hrx; rw [ij _ (by omega)] at hrx) | (intro hcx; exfalso; omega) | intro _))
        all_goals (first | (refine ⟨?_⟩; exact vc) | exact cl | skip)
        refine ⟨⟨k + 1, by omega, by omega, ?_⟩⟩
        (repeat' (first | (intro ex hex; have hq := hg1 (by omega) hex; subst hq; clear hex) | (refine Ev.go ?_; conv => whnf) | refine And.intro ?_ ?_ | exact True.intro | exact rfl | (intro rx hrx; rw [ij _ (by omega)] at hrx) | (intro hcx; exfalso; omega) | intro _))
        all_goals (first | (refine ⟨?_⟩; exact vc) | exact cl | skip)
        all_goals (refine ⟨?_⟩; rw [hs1]; omega)
    · have hke : k = s.members.length := by omega
      subst hke
      (repeat' (first | (intro ex hex; have hq := hg1 (by omega) hex; subst hq; clear hex) | (refine Ev.go ?_; conv => whnf) | refine And.intro ?_ ?_ | exact True.intro | exact rfl | (intro rx hrx; rw [ij _ (by omega)] at hrx) | (intro hcx; exfalso; omega) | intro _))
      all_goals (first | (refine ⟨?_⟩; exact vc) | exact cl | skip)
      have hpart : ∀ (k : Nat) (m : Mem), s.members[k]? = some m → f k = true → (1 ≤ unitsF s.members f s.members.length ∧ unitsF s.members f s.members.length ≤ 50000) ∧
          (0 ≤ quo s.members need (unitsF s.members f s.members.length) k ∧ quo s.members need (unitsF s.members f s.members.length) k ≤ 3000000000) := fun k m hk' hf => by
        have hkl := (List.getElem?_eq_some_iff.1 hk').1
        have h1 := unitsF_pos hm hk' hkl hf
        have h2 : unitsF s.members f s.members.length ≤ 50000 := by omega
        obtain ⟨_, _, _, a4, _⟩ := part_ok (need := need) (u := m.units) hn (hm m (List.mem_of_getElem? hk')).units ⟨h1, h2⟩
        rw [quo, un_at hk']
        exact ⟨⟨h1, h2⟩, a4⟩
      generalize hUU : unitsF s.members f s.members.length = U at *
      have hleft := leftF_le (ms := s.members) (f := f) (need := need) (U := U) (fun i hi hf => (hpart i _ (List.getElem?_eq_getElem hi) hf).2) hn
      refine TWq.loop (fun p : Nat × List ((Int × Int) × Int) => [(6, .int .i64 (leftF s.members f need U p.1)), (45, .int .i64 p.1), (9, .junk), (10, .junk)])
        (fun p => [(4, .cells (fi5 (g2 s.members f need U p.1))), (5, .map (encM p.2))]) (fun p => p.1 ≤ s.members.length ∧ PartsOK s.members f need U p.1 p.2) (fun p => s.members.length - p.1) (0, []) [] [] ?_ ⟨by omega, by simp, by simp, by simp [totG, cntF]⟩ ?_
      · (repeat' (first | (intro ex hex; have hq := hg1 (by omega) hex; subst hq; clear hex) | (refine Ev.go ?_; conv => whnf) | refine And.intro ?_ ?_ | exact True.intro | exact rfl | (intro rx hrx; rw [ij _ (by omega)] at hrx) | (intro hcx; exfalso; omega) | intro _))
        all_goals (first | (refine ⟨?_⟩; exact vc) | exact cl | skip)
        all_goals (refine ⟨?_⟩; simp [g2, encM])
      · rintro ⟨k, es⟩ ⟨hk, hpo⟩
        dsimp only at hk hpo ⊢
        have hlk := hleft k hk
        rcases Nat.lt_or_ge k s.members.length with hkl | hkl
        · obtain ⟨m, hmk⟩ : ∃ m, s.members[k]? = some m := ⟨_, List.getElem?_eq_getElem hkl⟩
          have hlk1 := hleft (k + 1) hkl
          have hls : leftF s.members f need U (k + 1) = leftF s.members f need U k - (if f k = true then quo s.members need U k else 0) := rfl
          have hat : (encW s f (.mp 5))[0 + 5 + (k : Int).toNat * 1]? = some (.bool (f k)) := by
            rw [show 0 + 5 + (k : Int).toNat * 1 = 5 + k by simp]; exact encW_at (by omega)
          cases hf : f k
          · rw [hf] at hat hls
            simp only [Bool.false_eq_true, if_false] at hls
            (repeat' (first | (intro ex hex; have hq := hg1 (by omega) hex; subst hq; clear hex) | (refine Ev.go ?_; conv => whnf) | refine And.intro ?_ ?_ | exact True.intro | exact rfl | (intro rx hrx; rw [ij _ (by omega)] at hrx) | (intro hcx; exfalso; omega) | intro _))
            all_goals (first | (refine ⟨?_⟩; exact vc) | exact cl | skip)
            refine getK_of hat ?_
            (repeat' (first | (intro ex hex; have hq := hg1 (by omega) hex; subst hq; clear hex) | (refine Ev.go ?_; conv => whnf) | refine And.intro ?_ ?_ | exact True.intro | exact rfl | (intro rx hrx; rw [ij _ (by omega)] at hrx) | (intro hcx; exfalso; omega) | intro _))
            all_goals (first | (refine ⟨?_⟩; exact vc) | exact cl | skip)
            refine ⟨⟨(k + 1, es), ⟨by dsimp only; omega, hpo.skip hf⟩, by dsimp only; omega, ?_⟩⟩
            (repeat' (first | (intro ex hex; have hq := hg1 (by omega) hex; subst hq; clear hex) | (refine Ev.go ?_; conv => whnf) | refine And.intro ?_ ?_ | exact True.intro | exact rfl | (intro rx hrx; rw [ij _ (by omega)] at hrx) | (intro hcx; exfalso; omega) | intro _))
            all_goals (first | (refine ⟨?_⟩; exact vc) | exact cl | skip)
            all_goals (exact ⟨g2_skip hf _⟩)
          · rw [hf] at hat hls
            simp only [if_true] at hls
            obtain ⟨hU1, hq1⟩ := hpart k m hmk hf
            have d99 := c198 s f es k m need U hmk (hm m (List.mem_of_getElem? hmk)) hn hU1
            have hcs : k = 0 ∨ k = 1 ∨ k = 2 ∨ k = 3 ∨ k = 4 := by omega
            rcases hcs with rfl | rfl | rfl | rfl | rfl
            all_goals
              unfold encW at d99
              rw [hf] at d99
              (repeat' (first | (intro ex hex; have hq := hg1 (by omega) hex; subst hq; clear hex) | (refine Ev.go ?_; conv => whnf) | refine And.intro ?_ ?_ | exact True.intro | exact rfl | (intro rx hrx; rw [ij _ (by omega)] at hrx) | (intro hcx; exfalso; omega) | intro _))
              all_goals (first | (refine ⟨?_⟩; exact vc) | exact cl | skip)
              rw [hf]
              conv => whnf
              (repeat' (first | (intro ex hex; have hq := hg1 (by omega) hex; subst hq; clear hex) | (refine Ev.go ?_; conv => whnf) | refine And.intro ?_ ?_ | exact True.intro | exact rfl | (intro rx hrx; rw [ij _ (by omega)] at hrx) | (intro hcx; exfalso; omega) | intro _))
              refine TSq.lendC d99 (by simp [scal, scalL, encS]) rfl (And.intro rfl ?_) ?_
              · (repeat' (first | (intro ex hex; have hq := hg1 (by omega) hex; subst hq; clear hex) | (refine Ev.go ?_; conv => whnf) | refine And.intro ?_ ?_ | exact True.intro | exact rfl | (intro rx hrx; rw [ij _ (by omega)] at hrx) | (intro hcx; exfalso; omega) | intro _))
                all_goals (first | (refine ⟨?_⟩; exact vc) | exact cl | skip)
              (repeat' (first | (intro ex hex; have hq := hg1 (by omega) hex; subst hq; clear hex) | (refine Ev.go ?_; conv => whnf) | refine And.intro ?_ ?_ | exact True.intro | exact rfl | (intro rx hrx; rw [ij _ (by omega)] at hrx) | (intro hcx; exfalso; omega) | intro _))
              all_goals (first | (refine ⟨?_⟩; exact vc) | exact cl | skip)
              refine TWq.incr ?_
              (repeat' (first | (intro ex hex; have hq := hg1 (by omega) hex; subst hq; clear hex) | (refine Ev.go ?_; conv => whnf) | refine And.intro ?_ ?_ | exact True.intro | exact rfl | (intro rx hrx; rw [ij _ (by omega)] at hrx) | (intro hcx; exfalso; omega) | intro _))
              all_goals (first | (refine ⟨?_⟩; exact vc) | exact cl | skip)
              refine upd_cases (encM_nodup hpo.nd) ?_ ?_
              · intro pre' v0 post' he'
                obtain ⟨a', x', b', rfl, rfl, hx', rfl, rfl⟩ := encM_split he'
                have hx' := encS_inj hx'
                obtain ⟨xp, xc⟩ := x'
                dsimp only at hx'
                have hc := hpo.nn (xp, xc) (by simp)
                dsimp only at hc
                have hpn := hpo.old hf hx'.symm
                subst hx'
                (repeat' (first | (intro ex hex; have hq := hg1 (by omega) hex; subst hq; clear hex) | (refine Ev.go ?_; conv => whnf) | refine And.intro ?_ ?_ | exact True.intro | exact rfl | (intro rx hrx; rw [ij _ (by omega)] at hrx) | (intro hcx; exfalso; omega) | intro _))
                all_goals (first | (refine ⟨?_⟩; exact vc) | exact cl | skip)
                refine ⟨⟨(_, _), ⟨?_, hpn⟩, ?_, ?_⟩⟩
                · dsimp only; omega
                · dsimp only; omega
                (repeat' (first | (intro ex hex; have hq := hg1 (by omega) hex; subst hq; clear hex) | (refine Ev.go ?_; conv => whnf) | refine And.intro ?_ ?_ | exact True.intro | exact rfl | (intro rx hrx; rw [ij _ (by omega)] at hrx) | (intro hcx; exfalso; omega) | intro _))
                all_goals (first | (refine ⟨?_⟩; exact vc) | exact cl | skip)
                all_goals (first | exact ⟨g2_at hf⟩ | exact ⟨g2_other (by decide)⟩ | exact ⟨hf.symm⟩ | (refine ⟨?_⟩; rw [hls]; omega) | (refine ⟨?_⟩; simp [encM, encS]; done) | (refine ⟨?_⟩; simp [encM, encS]; assumption))
              · intro hno
                have hno' : ∀ e ∈ es, (quo s.members need U _, rst s.members need U _) ≠ e.1 := fun e he q => hno (encS e.1, .int .i64 e.2) (List.mem_map.2 ⟨e, he, rfl⟩) (by rw [← q]; rfl)
                have hpn := hpo.new hf rfl hno'
                (repeat' (first | (intro ex hex; have hq := hg1 (by omega) hex; subst hq; clear hex) | (refine Ev.go ?_; conv => whnf) | refine And.intro ?_ ?_ | exact True.intro | exact rfl | (intro rx hrx; rw [ij _ (by omega)] at hrx) | (intro hcx; exfalso; omega) | intro _))
                all_goals (first | (refine ⟨?_⟩; exact vc) | exact cl | skip)
                refine ⟨⟨(_, _), ⟨?_, hpn⟩, ?_, ?_⟩⟩
                · dsimp only; omega
                · dsimp only; omega
                (repeat' (first | (intro ex hex; have hq := hg1 (by omega) hex; subst hq; clear hex) | (refine Ev.go ?_; conv => whnf) | refine And.intro ?_ ?_ | exact True.intro | exact rfl | (intro rx hrx; rw [ij _ (by omega)] at hrx) | (intro hcx; exfalso; omega) | intro _))
                all_goals (first | (refine ⟨?_⟩; exact vc) | exact cl | skip)
                all_goals (first | exact ⟨g2_at hf⟩ | exact ⟨g2_other (by decide)⟩ | exact ⟨hf.symm⟩ | (refine ⟨?_⟩; rw [hls]; omega) | (refine ⟨?_⟩; simp [encM, encS]; done) | (refine ⟨?_⟩; simp [encM, encS]; assumption))
        · have hke : k = s.members.length := by omega
          subst hke
          (repeat' (first | (intro ex hex; have hq := hg1 (by omega) hex; subst hq; clear hex) | (refine Ev.go ?_; conv => whnf) | refine And.intro ?_ ?_ | exact True.intro | exact rfl | (intro rx hrx; rw [ij _ (by omega)] at hrx) | (intro hcx; exfalso; omega) | intro _))
          all_goals (first | (refine ⟨?_⟩; exact vc) | exact cl | skip)
          refine TWq.loop (fun k : Nat => [(83, .int .i64 k), (11, .junk)]) (fun k => [(4, .cells (fi5 (g3 s.members f need U k)))]) (fun k => k ≤ s.members.length) (fun k => s.members.length - k) 0 [] [] ?_ (by omega) ?_
          · (repeat' (first | (intro ex hex; have hq := hg1 (by omega) hex; subst hq; clear hex) | (refine Ev.go ?_; conv => whnf) | refine And.intro ?_ ?_ | exact True.intro | exact rfl | (intro rx hrx; rw [ij _ (by omega)] at hrx) | (intro hcx; exfalso; omega) | intro _))
            all_goals (first | (refine ⟨?_⟩; exact vc) | exact cl | skip)
            all_goals (exact ⟨g3_0 _⟩)
          · intro k hk
            rcases Nat.lt_or_ge k s.members.length with hkl | hkl
            · obtain ⟨m, hmk⟩ : ∃ m, s.members[k]? = some m := ⟨_, List.getElem?_eq_getElem hkl⟩
              have hat : (encW s f (.mp 5))[0 + 5 + (k : Int).toNat * 1]? = some (.bool (f k)) := by
                rw [show 0 + 5 + (k : Int).toNat * 1 = 5 + k by simp]; exact encW_at (by omega)
              cases hf : f k
              · rw [hf] at hat
                (repeat' (first | (intro ex hex; have hq := hg1 (by omega) hex; subst hq; clear hex) | (refine Ev.go ?_; conv => whnf) | refine And.intro ?_ ?_ | exact True.intro | exact rfl | (intro rx hrx; rw [ij _ (by omega)] at hrx) | (intro hcx; exfalso; omega) | intro _))
                all_goals (first | (refine ⟨?_⟩; exact vc) | exact cl | skip)
                refine getK_of hat ?_
                (repeat' (first | (intro ex hex; have hq := hg1 (by omega) hex; subst hq; clear hex) | (refine Ev.go ?_; conv => whnf) | refine And.intro ?_ ?_ | exact True.intro | exact rfl | (intro rx hrx; rw [ij _ (by omega)] at hrx) | (intro hcx; exfalso; omega) | intro _))
                all_goals (first | (refine ⟨?_⟩; exact vc) | exact cl | skip)
                refine ⟨⟨k + 1, by omega, by omega, ?_⟩⟩
                (repeat' (first | (intro ex hex; have hq := hg1 (by omega) hex; subst hq; clear hex) | (refine Ev.go ?_; conv => whnf) | refine And.intro ?_ ?_ | exact True.intro | exact rfl | (intro rx hrx; rw [ij _ (by omega)] at hrx) | (intro hcx; exfalso; omega) | intro _))
                all_goals (first | (refine ⟨?_⟩; exact vc) | exact cl | skip)
                all_goals (exact ⟨g3_skip hf _⟩)
              · obtain ⟨hU1, hq1⟩ := hpart k m hmk hf
                have d100 := c199 s f es k need U hm hl hkl hn hU1 (fun e he => (hpo.nn e he).1) hpo.tot
                have hbe : 0 ≤ beforeF s.members f need U k ∧ beforeF s.members f need U k ≤ 100 := by
                  have q1 := cntF_le (fun j => f j && decide (rst s.members need U k < rst s.members need U j)) s.members.length
                  have q2 := cntF_le (fun j => f j && decide (rst s.members need U j = rst s.members need U k)) k
                  unfold beforeF
                  omega
                have g3a := g3_at (need := need) (U := U) hkl hf
                have g3b := fun h => g3_no (ms := s.members) (f := f) (need := need) (U := U) (k := k) h
                generalize beforeF s.members f need U k = BE at *
                have hcs : k = 0 ∨ k = 1 ∨ k = 2 ∨ k = 3 ∨ k = 4 := by omega
                obtain ⟨k1, hk1⟩ : ∃ k1, k1 = k + 1 := ⟨_, rfl⟩
                rcases hcs with rfl | rfl | rfl | rfl | rfl
                all_goals
                  unfold encW at d100
                  rw [hf] at d100
                  rcases Int.lt_or_le BE (leftF s.members f need U s.members.length) with hlt | hge
                  · obtain ⟨ga, gb⟩ := g3a hlt
                    (repeat' (first | (intro ex hex; have hq := hg1 (by omega) hex; subst hq; clear hex) | (refine Ev.go ?_; conv => whnf) | refine And.intro ?_ ?_ | exact True.intro | exact rfl | (intro rx hrx; rw [ij _ (by omega)] at hrx) | (intro hcx; exfalso; omega) | intro _))
                    all_goals (first | (refine ⟨?_⟩; exact vc) | exact cl | skip)
                    rw [hf]
                    conv => whnf
                    (repeat' (first | (intro ex hex; have hq := hg1 (by omega) hex; subst hq; clear hex) | (refine Ev.go ?_; conv => whnf) | refine And.intro ?_ ?_ | exact True.intro | exact rfl | (intro rx hrx; rw [ij _ (by omega)] at hrx) | (intro hcx; exfalso; omega) | intro _))
                    refine TSq.lendC d100 (by simp [scal, scalL, encS]) rfl (And.intro rfl ?_) ?_
                    · (repeat' (first | (intro ex hex; have hq := hg1 (by omega) hex; subst hq; clear hex) | (refine Ev.go ?_; conv => whnf) | refine And.intro ?_ ?_ | exact True.intro | exact rfl | (intro rx hrx; rw [ij _ (by omega)] at hrx) | (intro hcx; exfalso; omega) | intro _))
                      all_goals (first | (refine ⟨?_⟩; exact vc) | exact cl | skip)
                    (repeat' (first | (intro ex hex; have hq := hg1 (by omega) hex; subst hq; clear hex) | (refine Ev.go ?_; conv => whnf) | refine And.intro ?_ ?_ | exact True.intro | exact rfl | (intro rx hrx; rw [ij _ (by omega)] at hrx) | (intro hcx; exfalso; omega) | intro _))
                    all_goals (first | (refine ⟨?_⟩; exact vc) | exact cl | skip)
                    refine ⟨⟨k1, by omega, by omega, ?_⟩⟩
                    subst hk1
                    (repeat' (first | (intro ex hex; have hq := hg1 (by omega) hex; subst hq; clear hex) | (refine Ev.go ?_; conv => whnf) | refine And.intro ?_ ?_ | exact True.intro | exact rfl | (intro rx hrx; rw [ij _ (by omega)] at hrx) | (intro hcx; exfalso; omega) | intro _))
                    all_goals (first | (refine ⟨?_⟩; exact vc) | exact cl | skip)
                    all_goals (first | exact ⟨g3_other (by decide)⟩ | exact ⟨hf.symm⟩ | (refine ⟨?_⟩; rw [gb]; omega))
                  · have gc := g3b (by omega)
                    (repeat' (first | (intro ex hex; have hq := hg1 (by omega) hex; subst hq; clear hex) | (refine Ev.go ?_; conv => whnf) | refine And.intro ?_ ?_ | exact True.intro | exact rfl | (intro rx hrx; rw [ij _ (by omega)] at hrx) | (intro hcx; exfalso; omega) | intro _))
                    all_goals (first | (refine ⟨?_⟩; exact vc) | exact cl | skip)
                    rw [hf]
                    conv => whnf
                    (repeat' (first | (intro ex hex; have hq := hg1 (by omega) hex; subst hq; clear hex) | (refine Ev.go ?_; conv => whnf) | refine And.intro ?_ ?_ | exact True.intro | exact rfl | (intro rx hrx; rw [ij _ (by omega)] at hrx) | (intro hcx; exfalso; omega) | intro _))
                    refine TSq.lendC d100 (by simp [scal, scalL, encS]) rfl (And.intro rfl ?_) ?_
                    · (repeat' (first | (intro ex hex; have hq := hg1 (by omega) hex; subst hq; clear hex) | (refine Ev.go ?_; conv => whnf) | refine And.intro ?_ ?_ | exact True.intro | exact rfl | (intro rx hrx; rw [ij _ (by omega)] at hrx) | (intro hcx; exfalso; omega) | intro _))
                      all_goals (first | (refine ⟨?_⟩; exact vc) | exact cl | skip)
                    (repeat' (first | (intro ex hex; have hq := hg1 (by omega) hex; subst hq; clear hex) | (refine Ev.go ?_; conv => whnf) | refine And.intro ?_ ?_ | exact True.intro | exact rfl | (intro rx hrx; rw [ij _ (by omega)] at hrx) | (intro hcx; exfalso; omega) | intro _))
                    all_goals (first | (refine ⟨?_⟩; exact vc) | exact cl | skip)
                    refine ⟨⟨k1, by omega, by omega, ?_⟩⟩
                    subst hk1
                    (repeat' (first | (intro ex hex; have hq := hg1 (by omega) hex; subst hq; clear hex) | (refine Ev.go ?_; conv => whnf) | refine And.intro ?_ ?_ | exact True.intro | exact rfl | (intro rx hrx; rw [ij _ (by omega)] at hrx) | (intro hcx; exfalso; omega) | intro _))
                    all_goals (first | (refine ⟨?_⟩; exact vc) | exact cl | skip)
                    all_goals (first | exact ⟨gc _⟩ | exact ⟨hf.symm⟩)
            · have hke : k = s.members.length := by omega
              subst hke
              (repeat' (first | (intro ex hex; have hq := hg1 (by omega) hex; subst hq; clear hex) | (refine Ev.go ?_; conv => whnf) | refine And.intro ?_ ?_ | exact True.intro | exact rfl | (intro rx hrx; rw [ij _ (by omega)] at hrx) | (intro hcx; exfalso; omega) | intro _))
              all_goals (first | (refine ⟨?_⟩; exact vc) | exact cl | skip)
              subst hUU
              simp only [g3_n, fi5]
end Go.Proofs.YtjadiajfbflghaaGreat
set_option linter.unusedSimpArgs false
set_option linter.unusedVariables false
open Go Go.TV
namespace Go.Proofs.YtjadiajfbflghaaGreat
def partF (t : Tf) (crop day count : Int) : Int := if t.least ≤ lossF t crop day count then (if t.whole = true then lossF t crop day count else lossF t crop day count - t.least) else 0
theorem c210 (t : Tf) (n : Int) : PF Tryz.prog 210 [encTf t, .int .i64 n] (· = .int .i64 n) := by
  refine PF.of (TF.ev fn_210 (Ev.at ?_))
  (repeat' (first | (refine Ev.go ?_; conv => whnf) | refine And.intro ?_ ?_ | exact True.intro | exact rfl | (intro rx hrx; rw [ij _ (by omega)] at hrx) | (intro hcx; exfalso; omega) | intro _))
  try rfl
theorem c211 (t : Tf) (n : Int) (hn : 0 ≤ n ∧ n ≤ 1000) (hl : 0 ≤ t.least ∧ t.least ≤ 1000) : PF Tryz.prog 211 [encTf t, .int .i64 n] (· = .int .i64 (n - t.least)) := by
  refine PF.of (TF.ev fn_211 (Ev.at ?_))
  (repeat' (first | (refine Ev.go ?_; conv => whnf) | refine And.intro ?_ ?_ | exact True.intro | exact rfl | (intro rx hrx; rw [ij _ (by omega)] at hrx) | (intro hcx; exfalso; omega) | intro _))
  all_goals (first | (refine ⟨?_⟩; exact vc) | exact cl | skip)
  all_goals (first | rfl | (subst hrx; rfl))
theorem c155 (t : Tf) : PF Tryz.prog 155 [encTf t] (· = .agg [.fn (if t.whole = true then 210 else 211) [] []]) := by
  obtain ⟨frm, whole, least, weeks, counts, rates⟩ := t
  cases whole
  all_goals
    refine PF.of (TF.ev fn_155 (Ev.at ?_))
    (repeat' (first | (refine Ev.go ?_; conv => whnf) | refine And.intro ?_ ?_ | exact True.intro | exact rfl | (intro rx hrx; rw [ij _ (by omega)] at hrx) | (intro hcx; exfalso; omega) | intro _))
    all_goals (first | (refine ⟨?_⟩; exact vc) | exact cl | skip)
    all_goals (try rfl)
theorem shP (a b c : Int) : shOK (.st [(0, 1, false, .int .i64), (1, 1, false, .int .i64), (2, 1, false, .int .i64)]) (.agg [.int .i64 a, .int .i64 b, .int .i64 c]) := by simp [shOK, shF, partK, getK, lenIs]
theorem shQ : ∀ e ∈ ([] : List (SV × SV)), shOK (.st [(0, 1, false, .int .i64), (1, 1, false, .int .i64), (2, 1, false, .int .i64)]) e.1 := by simp
def offB (l : List Tf) (es : List (SV × SV)) : List LB := [.map es, .cells [.sl 6 (encTfs l), .mp 0]]
set_option maxHeartbeats 4000000 in
set_option maxRecDepth 100000 in
theorem t89 (l : List Tf) (t : Tf) (crop day count : Int) (hl : l.length ≤ 1000) (ht : atF l day l.length = some t) (o : OkT t) (hc : 0 ≤ crop ∧ crop < t.rates.length) (hn : 0 ≤ count ∧ count ≤ 100) :
    TF Tryz.prog 89 [.ptr 1 0, .agg [.int .i64 crop, .int .i64 day, .int .i64 count]] (offB l []) (fun r h' => h' = offB l [(.agg [.int .i64 crop, .int .i64 day, .int .i64 count], .int .i64 (partF t crop day count))] ∧ r = .int .i64 (partF t crop day count)) := by
  have d1 := c153 l day t hl ht
  obtain ⟨d2, hb1, hb2⟩ := c154 t o crop day count hc hn
  have d3 := c155 t
  have d4 := c210 t (lossF t crop day count)
  have d5 := c211 t (lossF t crop day count) (by omega) (by have := o.least; omega)
  have hle := o.least
  have hP : partF t crop day count = if t.least ≤ lossF t crop day count then (if t.whole = true then lossF t crop day count else lossF t crop day count - t.least) else 0 := rfl
  generalize lossF t crop day count = L at *
  generalize partF t crop day count = Q at *
  refine TF.cutTo (TF.ev fn_89 (Ev.at ?_))
  unfold offB
  (repeat' (first | (refine Ev.go ?_; conv => whnf) | refine And.intro ?_ ?_ | exact True.intro | exact rfl | (intro rx hrx; rw [ij _ (by omega)] at hrx) | (intro hcx; exfalso; omega) | intro _))
  all_goals (first | exact ⟨shP _ _ _⟩ | exact ⟨shQ⟩ | skip)
  refine .inr ⟨by simp, ?_⟩
  (repeat' (first | (refine Ev.go ?_; conv => whnf) | refine And.intro ?_ ?_ | exact True.intro | exact rfl | (intro rx hrx; rw [ij _ (by omega)] at hrx) | (intro hcx; exfalso; omega) | intro _))
  all_goals (first | (refine ⟨?_⟩; exact vk) | exact cl | skip)
  refine TDq.pureC d1 (by simp [cloL, clo, encTfs_clo]) rfl (And.intro rfl rfl) ?_
  (repeat' (first | (refine Ev.go ?_; conv => whnf) | refine And.intro ?_ ?_ | exact True.intro | exact rfl | (intro rx hrx; rw [ij _ (by omega)] at hrx) | (intro hcx; exfalso; omega) | intro _))
  all_goals (first | (refine ⟨?_⟩; exact vk) | exact cl | skip)
  refine TSq.pureC d2 (by simp [cloL, clo, encTf, encCrs_clo, ints_clo]) rfl (And.intro rfl rfl) ?_
  (repeat' (first | (refine Ev.go ?_; conv => whnf) | refine And.intro ?_ ?_ | exact True.intro | exact rfl | (intro rx hrx; rw [ij _ (by omega)] at hrx) | (intro hcx; exfalso; omega) | intro _))
  all_goals (first | (refine ⟨?_⟩; exact vc) | exact cl | skip)
  · rw [if_pos (by assumption)] at hP
    by_cases hwh : t.whole = true
    · rw [if_pos hwh] at d3 hP
      refine TDq.pureC d3 (by simp [cloL, clo, encTf, encCrs_clo, ints_clo]) rfl (And.intro rfl rfl) ?_
      (repeat' (first | (refine Ev.go ?_; conv => whnf) | refine And.intro ?_ ?_ | exact True.intro | exact rfl | (intro rx hrx; rw [ij _ (by omega)] at hrx) | (intro hcx; exfalso; omega) | intro _))
      all_goals (first | (refine ⟨?_⟩; exact vk) | exact cl | skip)
      refine TDq.pureC d4 (by simp [cloL, clo, encTf, encCrs_clo, ints_clo]) rfl (And.intro rfl rfl) ?_
      (repeat' (first | (refine Ev.go ?_; conv => whnf) | refine And.intro ?_ ?_ | exact True.intro | exact rfl | (intro rx hrx; rw [ij _ (by omega)] at hrx) | (intro hcx; exfalso; omega) | intro _))
      all_goals (first | (refine ⟨?_⟩; exact vk) | exact cl | skip)
      all_goals (first | exact ⟨shP _ _ _⟩ | exact ⟨shQ⟩ | skip)
      refine .inr ⟨by simp, ?_⟩
      rw [hP]
      (repeat' (first | (refine Ev.go ?_; conv => whnf) | refine And.intro ?_ ?_ | exact True.intro | exact rfl | (intro rx hrx; rw [ij _ (by omega)] at hrx) | (intro hcx; exfalso; omega) | intro _))
      all_goals (first | (refine ⟨?_⟩; exact vk) | exact cl | skip)
      all_goals (try (refine ⟨?_⟩; simp [cloM, clo, cloL]; done))
      all_goals (try rfl)
    · rw [if_neg hwh] at d3 hP
      refine TDq.pureC d3 (by simp [cloL, clo, encTf, encCrs_clo, ints_clo]) rfl (And.intro rfl rfl) ?_
      (repeat' (first | (refine Ev.go ?_; conv => whnf) | refine And.intro ?_ ?_ | exact True.intro | exact rfl | (intro rx hrx; rw [ij _ (by omega)] at hrx) | (intro hcx; exfalso; omega) | intro _))
      all_goals (first | (refine ⟨?_⟩; exact vk) | exact cl | skip)
      refine TDq.pureC d5 (by simp [cloL, clo, encTf, encCrs_clo, ints_clo]) rfl (And.intro rfl rfl) ?_
      (repeat' (first | (refine Ev.go ?_; conv => whnf) | refine And.intro ?_ ?_ | exact True.intro | exact rfl | (intro rx hrx; rw [ij _ (by omega)] at hrx) | (intro hcx; exfalso; omega) | intro _))
      all_goals (first | (refine ⟨?_⟩; exact vk) | exact cl | skip)
      all_goals (first | exact ⟨shP _ _ _⟩ | exact ⟨shQ⟩ | skip)
      refine .inr ⟨by simp, ?_⟩
      rw [hP]
      (repeat' (first | (refine Ev.go ?_; conv => whnf) | refine And.intro ?_ ?_ | exact True.intro | exact rfl | (intro rx hrx; rw [ij _ (by omega)] at hrx) | (intro hcx; exfalso; omega) | intro _))
      all_goals (first | (refine ⟨?_⟩; exact vk) | exact cl | skip)
      all_goals (try (refine ⟨?_⟩; simp [cloM, clo, cloL]; done))
      all_goals (try rfl)
  · rw [if_neg (by omega)] at hP
    all_goals (first | exact ⟨shP _ _ _⟩ | exact ⟨shQ⟩ | skip)
  · rw [if_neg (by omega)] at hP
    refine .inr ⟨by simp, ?_⟩
    rw [hP]
    (repeat' (first | (refine Ev.go ?_; conv => whnf) | refine And.intro ?_ ?_ | exact True.intro | exact rfl | (intro rx hrx; rw [ij _ (by omega)] at hrx) | (intro hcx; exfalso; omega) | intro _))
    all_goals (first | (refine ⟨?_⟩; exact vk) | exact cl | skip)
    all_goals (try (refine ⟨?_⟩; simp [cloM, clo, cloL]; done))
    all_goals (try rfl)
end Go.Proofs.YtjadiajfbflghaaGreat
set_option linter.unusedSimpArgs false
set_option linter.unusedVariables false
open Go Go.TV
namespace Go.Proofs.YtjadiajfbflghaaGreat
structure Clm where
  crop : Int
  value : Int
  day : Rng
  count : Rng
def encClm (c : Clm) : SV := .agg [.int .i64 c.crop, .int .i64 c.value, .int .i64 c.day.lo, .int .i64 c.day.hi, .int .i64 c.count.lo, .int .i64 c.count.hi]
def Rng.ofB (r : Rng) (m : Int) : Bool := decide (0 ≤ r.lo) && (decide (r.lo ≤ r.hi) && decide (r.hi ≤ m))
theorem c137 (r : Rng) (n : Int) : PF Tryz.prog 137 [encR r, .int .i64 n] (· = .bool (within n r.lo r.hi)) := by
  refine PF.of (TF.ev fn_137 (Ev.at ?_))
  (repeat' (first | (refine Ev.go ?_; conv => whnf) | refine And.intro ?_ ?_ | exact True.intro | exact rfl | (intro rx hrx; rw [ij _ (by omega)] at hrx) | (intro hcx; exfalso; omega) | intro _))
  all_goals (first | (refine ⟨?_⟩; exact vc) | exact cl | skip)
  refine TSq.pureC (c152 n r.lo r.hi) cl rfl (And.intro rfl rfl) ?_
  (repeat' (first | (refine Ev.go ?_; conv => whnf) | refine And.intro ?_ ?_ | exact True.intro | exact rfl | (intro rx hrx; rw [ij _ (by omega)] at hrx) | (intro hcx; exfalso; omega) | intro _))
  try rfl
theorem c204 (r : Rng) (m : Int) : PF Tryz.prog 204 [encR r, .int .i64 m] (· = .bool (r.ofB m)) := by
  refine PF.of (TF.ev fn_204 (Ev.at ?_))
  (repeat' (first | (refine Ev.go ?_; conv => whnf) | refine And.intro ?_ ?_ | exact True.intro | exact rfl | (intro rx hrx; rw [ij _ (by omega)] at hrx) | (intro hcx; exfalso; omega) | intro _))
  all_goals (first | (refine ⟨?_⟩; exact vc) | exact cl | skip)
  all_goals (rw [SV.bool_iff]; simp only [Rng.ofB, Bool.and_eq_true, decide_eq_true_eq]; simp; omega)
theorem c87 (l : List Tf) (t : Tf) (n : Int) (ht : l[0]? = some t) (hl : t.rates.length ≤ 1000) (hll : l.length ≤ 1000) : PF Tryz.prog 87 [.agg [.sl 6 (encTfs l)], .int .i64 n] (· = .bool (within n 0 (t.rates.length - 1))) := by
  have hz := encTfs_len l
  have hw := encCrs_len t.rates
  have h0 := (List.getElem?_eq_some_iff.1 ht).1
  have hg1 : ∀ {n : Nat} {e : SV}, n = 0 → (encTfs l)[n]? = some e → e = encTf t := by
    rintro n e rfl he
    obtain ⟨x, hx, rfl⟩ := encTfs_at he
    rw [ht] at hx; cases hx; rfl
  refine PF.of (TF.ev fn_87 (Ev.at ?_))
  (repeat' (first | (intro ex hex; have hq := hg1 (by omega) hex; subst hq; clear hex) | (refine Ev.go ?_; conv => whnf) | refine And.intro ?_ ?_ | exact True.intro | exact rfl | (intro rx hrx; rw [ij _ (by omega)] at hrx) | (intro hcx; exfalso; omega) | intro _))
  all_goals (first | (refine ⟨?_⟩; exact vc) | exact cl | skip)
  obtain rfl : rx = (t.rates.length : Int) - 1 := by omega
  refine TSq.pureC (c152 n 0 (t.rates.length - 1)) cl rfl (And.intro rfl rfl) ?_
  (repeat' (first | (intro ex hex; have hq := hg1 (by omega) hex; subst hq; clear hex) | (refine Ev.go ?_; conv => whnf) | refine And.intro ?_ ?_ | exact True.intro | exact rfl | (intro rx hrx; rw [ij _ (by omega)] at hrx) | (intro hcx; exfalso; omega) | intro _))
  try rfl
def Clm.ok (c : Clm) (m : Int) : Bool := within c.crop 0 m && (within c.value 0 100000 && (c.day.ofB 120 && (decide (c.day.hi - c.day.lo ≤ 10) && c.count.ofB 100)))
theorem c149 (l : List Tf) (t : Tf) (c : Clm) (ht : l[0]? = some t) (hl : t.rates.length ≤ 1000) (hll : l.length ≤ 1000) (hok : c.ok (t.rates.length - 1) = true) : PF Tryz.prog 149 [.agg [.sl 6 (encTfs l)], encClm c] (· = .bool true) := by
  simp only [Clm.ok, Bool.and_eq_true, decide_eq_true_eq] at hok
  obtain ⟨h1, h2, h3, h4, h5⟩ := hok
  have d1 := c87 l t c.crop ht hl hll
  have d2 := c152 c.value 0 100000
  have d3 := c204 c.day 120
  have d4 := c204 c.count 100
  rw [h1] at d1; rw [h2] at d2; rw [h3] at d3; rw [h5] at d4
  have h3' := h3
  simp only [Rng.ofB, Bool.and_eq_true, decide_eq_true_eq] at h3'
  refine PF.of (TF.ev fn_149 (Ev.at ?_))
  (repeat' (first | (refine Ev.go ?_; conv => whnf) | refine And.intro ?_ ?_ | exact True.intro | exact rfl | (intro rx hrx; rw [ij _ (by omega)] at hrx) | (intro hcx; exfalso; omega) | intro _))
  all_goals (first | (refine ⟨?_⟩; exact vc) | exact cl | skip)
  refine TSq.pureC d1 (by simp [cloL, clo, encTfs_clo]) rfl (And.intro rfl rfl) ?_
  (repeat' (first | (refine Ev.go ?_; conv => whnf) | refine And.intro ?_ ?_ | exact True.intro | exact rfl | (intro rx hrx; rw [ij _ (by omega)] at hrx) | (intro hcx; exfalso; omega) | intro _))
  refine TSq.pureC d2 cl rfl (And.intro rfl rfl) ?_
  (repeat' (first | (refine Ev.go ?_; conv => whnf) | refine And.intro ?_ ?_ | exact True.intro | exact rfl | (intro rx hrx; rw [ij _ (by omega)] at hrx) | (intro hcx; exfalso; omega) | intro _))
  refine TSq.pureC d3 cl rfl (And.intro rfl rfl) ?_
  (repeat' (first | (refine Ev.go ?_; conv => whnf) | refine And.intro ?_ ?_ | exact True.intro | exact rfl | (intro rx hrx; rw [ij _ (by omega)] at hrx) | (intro hcx; exfalso; omega) | intro _))
  all_goals (try (exfalso; omega))
  refine TSq.pureC d4 cl rfl (And.intro rfl rfl) ?_
  (repeat' (first | (refine Ev.go ?_; conv => whnf) | refine And.intro ?_ ?_ | exact True.intro | exact rfl | (intro rx hrx; rw [ij _ (by omega)] at hrx) | (intro hcx; exfalso; omega) | intro _))
  try rfl
end Go.Proofs.YtjadiajfbflghaaGreat
set_option linter.unusedSimpArgs false
set_option linter.unusedVariables false
open Go Go.TV
namespace Go.Proofs.YtjadiajfbflghaaGreat
set_option linter.unusedSimpArgs false
def encClms (l : List Clm) : List SV := l.map encClm
theorem encClms_len (l : List Clm) : (encClms l).length = l.length := List.length_map _
theorem encClms_at {l : List Clm} {n : Nat} {e : SV} (h : (encClms l)[n]? = some e) : ∃ x, l[n]? = some x ∧ e = encClm x := map_at h
theorem encClms_clo (l : List Clm) : cloL (encClms l) := by
  rw [cloL_iff]; intro s hs; obtain ⟨x, _, rfl⟩ := List.mem_map.1 hs; simp [encClm, clo, cloL]
theorem noClm (l0 : List Tf) (y : Clm) (b : Bool) (h : PF Tryz.prog 149 [.agg [.sl 6 (encTfs l0)], encClm y] (· = .bool b)) : PF Tryz.prog 206 [encClm y, .iptr (.agg [.fn 149 [.agg [.sl 6 (encTfs l0)]] []]) 0] (· = .bool !b) := by
  refine PF.of (TF.ev fn_206 (Ev.at ?_))
  (repeat' (first | (refine Ev.go ?_; conv => whnf) | refine And.intro ?_ ?_ | exact True.intro | exact rfl | (intro rx hrx; rw [ij _ (by omega)] at hrx) | (intro hcx; exfalso; omega) | intro _))
  all_goals (first | (refine ⟨?_⟩; exact vc) | exact cl | skip)
  refine TSq.pureBC h (by simp [cloL, clo, encClm, encTfs_clo, encClms_clo]) rfl (And.intro rfl rfl) ?_ ?_ <;> intro hb
  all_goals
    subst hb
    (repeat' (first | (refine Ev.go ?_; conv => whnf) | refine And.intro ?_ ?_ | exact True.intro | exact rfl | (intro rx hrx; rw [ij _ (by omega)] at hrx) | (intro hcx; exfalso; omega) | intro _))
    try rfl
theorem ixClm (l0 : List Tf) (l : List (Clm)) (p : Clm → Bool) (hp : ∀ y ∈ l, PF Tryz.prog 149 [.agg [.sl 6 (encTfs l0)], encClm y] (· = .bool (p y))) (hlen : l.length ≤ 1000000) :
    PF Tryz.prog 242 [.sl 6 (encClms l), .fn 206 [] [.iptr (.agg [.fn 149 [.agg [.sl 6 (encTfs l0)]] []]) 0]] fun s => ∃ i : Int, s = .int .i64 i ∧ (0 ≤ i ↔ l.any (fun y => !p y) = true) := by
  have hz := encClms_len l
  refine PF.of (TF.ev fn_242 (Ev.at ?_))
  (repeat' (first | (intro ex hex; have hq := hg1 (by omega) hex; subst hq; clear hex) | (refine Ev.go ?_; conv => whnf) | refine And.intro ?_ ?_ | exact True.intro | exact rfl | (intro rx hrx; rw [ij _ (by omega)] at hrx) | (intro hcx; exfalso; omega) | intro _))
  refine TWq.loop (fun k : Nat => [(8, .int .i64 k)]) (fun _ => []) (fun k => k ≤ l.length ∧ (l.take k).any (fun y => !p y) = false) (fun k => l.length - k) 0 [] [] ?_ ⟨by omega, by simp⟩ ?_
  · (repeat' (first | (intro ex hex; have hq := hg1 (by omega) hex; subst hq; clear hex) | (refine Ev.go ?_; conv => whnf) | refine And.intro ?_ ?_ | exact True.intro | exact rfl | (intro rx hrx; rw [ij _ (by omega)] at hrx) | (intro hcx; exfalso; omega) | intro _))
    all_goals (first | (refine ⟨?_⟩; exact vc) | exact cl | skip)
  · rintro k ⟨hk, hno⟩
    rcases Nat.lt_or_ge k l.length with hkl | hkl
    · obtain ⟨v, hv⟩ : ∃ v, l[k]? = some v := ⟨_, List.getElem?_eq_getElem hkl⟩
      have hm := List.mem_of_getElem? hv
      have hg1 : ∀ {n : Nat} {e : SV}, n = k → (encClms l)[n]? = some e → e = encClm v := by
        rintro n e rfl he
        obtain ⟨x, hx, rfl⟩ := encClms_at he
        rw [hv] at hx; cases hx; rfl
      have hno1 := noClm l0 v _ (hp v hm)
      (repeat' (first | (intro ex hex; have hq := hg1 (by omega) hex; subst hq; clear hex) | (refine Ev.go ?_; conv => whnf) | refine And.intro ?_ ?_ | exact True.intro | exact rfl | (intro rx hrx; rw [ij _ (by omega)] at hrx) | (intro hcx; exfalso; omega) | intro _))
      all_goals (first | (refine ⟨?_⟩; exact vc) | exact cl | skip)
      refine TSq.pureBC hno1 (by simp [cloL, clo, encClm, encTfs_clo, encClms_clo]) rfl (And.intro rfl rfl) ?_ ?_ <;> intro hb
      · (repeat' (first | (intro ex hex; have hq := hg1 (by omega) hex; subst hq; clear hex) | (refine Ev.go ?_; conv => whnf) | refine And.intro ?_ ?_ | exact True.intro | exact rfl | (intro rx hrx; rw [ij _ (by omega)] at hrx) | (intro hcx; exfalso; omega) | intro _))
        all_goals (first | (refine ⟨?_⟩; exact vc) | exact cl | skip)
        exact ⟨k, rfl, ⟨fun _ => List.any_eq_true.2 ⟨v, hm, hb⟩, fun _ => by omega⟩⟩
      · (repeat' (first | (intro ex hex; have hq := hg1 (by omega) hex; subst hq; clear hex) | (refine Ev.go ?_; conv => whnf) | refine And.intro ?_ ?_ | exact True.intro | exact rfl | (intro rx hrx; rw [ij _ (by omega)] at hrx) | (intro hcx; exfalso; omega) | intro _))
        all_goals (first | (refine ⟨?_⟩; exact vc) | exact cl | skip)
        refine ⟨⟨k + 1, ⟨by omega, by rw [take_snoc hv, List.any_append, hno]; simp_all⟩, by omega, ?_⟩⟩
        (repeat' (first | (intro ex hex; have hq := hg1 (by omega) hex; subst hq; clear hex) | (refine Ev.go ?_; conv => whnf) | refine And.intro ?_ ?_ | exact True.intro | exact rfl | (intro rx hrx; rw [ij _ (by omega)] at hrx) | (intro hcx; exfalso; omega) | intro _))
        all_goals (first | (refine ⟨?_⟩; exact vc) | exact cl | skip)
    · have hke : k = l.length := by omega
      subst hke
      rw [List.take_length] at hno
      (repeat' (first | (intro ex hex; have hq := hg1 (by omega) hex; subst hq; clear hex) | (refine Ev.go ?_; conv => whnf) | refine And.intro ?_ ?_ | exact True.intro | exact rfl | (intro rx hrx; rw [ij _ (by omega)] at hrx) | (intro hcx; exfalso; omega) | intro _))
      all_goals (first | (refine ⟨?_⟩; exact vc) | exact cl | skip)
      exact ⟨-1, rfl, by rw [hno]; simp⟩
theorem coClm (l0 : List Tf) (l : List (Clm)) (p : Clm → Bool) (hp : ∀ y ∈ l, PF Tryz.prog 149 [.agg [.sl 6 (encTfs l0)], encClm y] (· = .bool (p y))) (hlen : l.length ≤ 1000000) :
    PF Tryz.prog 205 [.sl 6 (encClms l), .fn 206 [] [.iptr (.agg [.fn 149 [.agg [.sl 6 (encTfs l0)]] []]) 0]] (· = .bool (l.any fun y => !p y)) := by
  refine PF.of (TF.ev fn_205 (Ev.at ?_))
  (repeat' (first | (refine Ev.go ?_; conv => whnf) | refine And.intro ?_ ?_ | exact True.intro | exact rfl | (intro rx hrx; rw [ij _ (by omega)] at hrx) | (intro hcx; exfalso; omega) | intro _))
  refine TSq.pureQ rfl (ixClm l0 l p hp hlen) (by simp [cloL, clo, encClm, encTfs_clo, encClms_clo]) rfl (And.intro rfl rfl) ?_
  rintro s ⟨i, rfl, hi⟩ _
  (repeat' (first | (refine Ev.go ?_; conv => whnf) | refine And.intro ?_ ?_ | exact True.intro | exact rfl | (intro rx hrx; rw [ij _ (by omega)] at hrx) | (intro hcx; exfalso; omega) | intro _))
  all_goals (rw [SV.bool_iff]; rw [← hi]; simp; omega)
theorem alClm (l0 : List Tf) (l : List (Clm)) (p : Clm → Bool) (hp : ∀ y ∈ l, PF Tryz.prog 149 [.agg [.sl 6 (encTfs l0)], encClm y] (· = .bool (p y))) (hlen : l.length ≤ 1000000) :
    PF Tryz.prog 150 [.sl 6 (encClms l), .fn 149 [.agg [.sl 6 (encTfs l0)]] []] (· = .bool (l.all p)) := by
  refine PF.of (TF.ev fn_150 (Ev.at ?_))
  (repeat' (first | (refine Ev.go ?_; conv => whnf) | refine And.intro ?_ ?_ | exact True.intro | exact rfl | (intro rx hrx; rw [ij _ (by omega)] at hrx) | (intro hcx; exfalso; omega) | intro _))
  refine TSq.lendBC (coClm l0 l p hp hlen) rfl (And.intro rfl ?_) ?_ ?_
  · (repeat' (first | (refine Ev.go ?_; conv => whnf) | refine And.intro ?_ ?_ | exact True.intro | exact rfl | (intro rx hrx; rw [ij _ (by omega)] at hrx) | (intro hcx; exfalso; omega) | intro _))
    all_goals (first | (refine ⟨?_⟩; exact vc) | exact cl | skip)
  all_goals
    intro hb
    (repeat' (first | (refine Ev.go ?_; conv => whnf) | refine And.intro ?_ ?_ | exact True.intro | exact rfl | (intro rx hrx; rw [ij _ (by omega)] at hrx) | (intro hcx; exfalso; omega) | intro _))
    all_goals (first | (refine ⟨?_⟩; exact vc) | exact cl | skip)
    all_goals (rw [SV.bool_iff]; simp_all [List.all_eq_not_any_not])
end Go.Proofs.YtjadiajfbflghaaGreat
set_option linter.unusedSimpArgs false
set_option linter.unusedVariables false
open Go Go.TV
namespace Go.Proofs.YtjadiajfbflghaaGreat
set_option maxRecDepth 100000 in
theorem t148 (l : List Tf) : TF Tryz.prog 148 [.sl 6 (encTfs l)] [] (fun r h' => h' = offB l [] ∧ r = .ptr 1 0) := by
  refine TF.cutTo (TF.ev fn_148 (Ev.at ?_))
  unfold offB
  (repeat' (first | (refine Ev.go ?_; conv => whnf) | refine And.intro ?_ ?_ | exact True.intro | exact rfl | (intro rx hrx; rw [ij _ (by omega)] at hrx) | (intro hcx; exfalso; omega) | intro _))
  all_goals (first | (refine ⟨?_⟩; exact vc) | exact cl | skip)
  all_goals (try exact ⟨by simp [cloM]⟩)
  all_goals (try rfl)
set_option maxRecDepth 100000 in
set_option maxHeartbeats 4000000 in
theorem t84 (l : List Tf) (cs : List Clm) (hv : ValidTs l) (hok : ∀ c ∈ cs, ∀ t, l[0]? = some t → c.ok (t.rates.length - 1) = true) (hl : cs.length ≤ 1000) :
    TF Tryz.prog 84 [.sl 6 (encTfs l), .sl 6 (encClms cs)] [] (fun r h' => h' = offB l [] ∧ r = .tup [.ptr 1 0, .int .i64 0]) := by
  have d1 := c115 l hv
  have hl3 := hv.len
  obtain ⟨a, ha⟩ : ∃ a, l[0]? = some a := ⟨_, List.getElem?_eq_getElem hv.ne⟩
  have hf := hv.few a (List.mem_of_getElem? ha)
  simp only [Tf.few, Bool.and_eq_true, decide_eq_true_eq] at hf
  have d2 := alClm l cs (fun _ => true) (fun c hc => c149 l a c ha (by omega) (by omega) (hok c hc a ha)) (by omega)
  rw [show (cs.all fun _ => true) = true from List.all_eq_true.2 fun y hy => rfl] at d2
  have d3 := t148 l
  refine TF.cutTo (TF.ev fn_84 (Ev.at ?_))
  unfold offB at d3 ⊢
  (repeat' (first | (refine Ev.go ?_; conv => whnf) | refine And.intro ?_ ?_ | exact True.intro | exact rfl | (intro rx hrx; rw [ij _ (by omega)] at hrx) | (intro hcx; exfalso; omega) | intro _))
  refine TSq.pureC d1 (by simp [cloL, clo, encTfs_clo]) rfl (And.intro rfl rfl) ?_
  (repeat' (first | (refine Ev.go ?_; conv => whnf) | refine And.intro ?_ ?_ | exact True.intro | exact rfl | (intro rx hrx; rw [ij _ (by omega)] at hrx) | (intro hcx; exfalso; omega) | intro _))
  refine TSq.callT rfl rfl (calleeK_const (And.intro rfl rfl) (d3.mono ?_))
  rintro _ _ ⟨rfl, rfl⟩
  (repeat' (first | (refine Ev.go ?_; conv => whnf) | refine And.intro ?_ ?_ | exact True.intro | exact rfl | (intro rx hrx; rw [ij _ (by omega)] at hrx) | (intro hcx; exfalso; omega) | intro _))
  all_goals (first | (refine ⟨?_⟩; exact vc) | exact cl | skip)
  refine TSq.pureC d2 (by simp [cloL, clo, encTfs_clo, encClms_clo]) rfl (And.intro rfl rfl) ?_
  (repeat' (first | (refine Ev.go ?_; conv => whnf) | refine And.intro ?_ ?_ | exact True.intro | exact rfl | (intro rx hrx; rw [ij _ (by omega)] at hrx) | (intro hcx; exfalso; omega) | intro _))
  all_goals (first | (refine ⟨?_⟩; exact vc) | exact cl | skip)
  all_goals (try exact ⟨by simp [cloM]⟩)
  all_goals (try rfl)
end Go.Proofs.YtjadiajfbflghaaGreat
set_option linter.unusedSimpArgs false
set_option linter.unusedVariables false
open Go Go.TV
namespace Go.Proofs.YtjadiajfbflghaaGreat
theorem at_mem {l : List Tf} {d : Int} {t : Tf} : ∀ {k : Nat}, atF l d k = some t → ∃ i : Nat, l[i]? = some t
  | k + 1, h => by
    rw [atF] at h
    split at h
    · rename_i v hv
      split at h
      · cases h; exact ⟨k, hv⟩
      · exact at_mem h
    · exact at_mem h
theorem at_some {l : List Tf} {d : Int} (hf : ∀ t, l[0]? = some t → t.frm = 0) (hd : 0 ≤ d) : ∀ {k : Nat}, 0 < k → k ≤ l.length → ∃ t, atF l d k = some t
  | k + 1, _, hk => by
    rw [atF]
    have hv : l[k]? = some (l[k]'(by omega)) := List.getElem?_eq_getElem (by omega)
    rw [hv]
    dsimp only
    split
    · exact ⟨_, rfl⟩
    · rename_i hne
      rcases Nat.eq_zero_or_pos k with h0 | h0
      · subst h0
        have := hf _ hv
        omega
      · exact at_some hf hd h0 (by omega)
theorem partF_le {t : Tf} (o : OkT t) {crop day count : Int} (hc : 0 ≤ crop ∧ crop < t.rates.length) (hn : 0 ≤ count ∧ count ≤ 100) : 0 ≤ partF t crop day count ∧ partF t crop day count ≤ 100 := by
  obtain ⟨_, h1, h2⟩ := c154 t o crop day count hc hn
  have hl := o.least
  unfold partF
  split
  · split <;> omega
  · omega
set_option maxHeartbeats 4000000 in
set_option maxRecDepth 100000 in
theorem t138 (l : List Tf) (t : Tf) (c : Clm) (d n : Int) (hl : l.length ≤ 1000) (ht : atF l d l.length = some t) (o : OkT t) (hc : 0 ≤ c.crop ∧ c.crop < t.rates.length) (hn : 0 ≤ n ∧ n ≤ 100) (hv : 0 ≤ c.value ∧ c.value ≤ 100000) :
    TF Tryz.prog 138 [.ptr 1 0, encClm c, .agg [.int .i64 d, .int .i64 n]] (offB l []) (fun r h' => h' = offB l [(.agg [.int .i64 c.crop, .int .i64 d, .int .i64 n], .int .i64 (partF t c.crop d n))] ∧ r = .int .i64 (c.value * partF t c.crop d n / 100)) := by
  have d1 := t89 l t c.crop d n hl ht o hc hn
  obtain ⟨hp1, hp2⟩ := partF_le (day := d) o hc hn
  have m1 : 0 ≤ c.value * partF t c.crop d n := Int.mul_nonneg hv.1 hp1
  have m2 : c.value * partF t c.crop d n ≤ 100000 * 100 := Int.mul_le_mul hv.2 hp2 hp1 (by omega)
  have hsub1 : ∀ {x y : Int}, x = IntKind.i64.wrap (c.value * y) → y = partF t c.crop d n → x = c.value * partF t c.crop d n := fun h e => by rw [h, e, IntWalk.i64_in _ (by omega)]
  have hsub2 : ∀ {x y : Int}, x = IntKind.i64.wrap (y.tdiv 100) → y = c.value * partF t c.crop d n → x = c.value * partF t c.crop d n / 100 := fun h e => by
    rw [h, e, Int.tdiv_eq_ediv_of_nonneg m1, IntWalk.i64_in _ (by omega)]
  have hz : c.value * partF t c.crop d n / 100 = c.value * partF t c.crop d n / 100 := rfl
  generalize partF t c.crop d n = Q at *
  generalize c.value * Q = z at *
  generalize z / 100 = q at *
  refine TF.cutTo (TF.ev fn_138 (Ev.at ?_))
  unfold offB at *
  (repeat' (first | (intro rx hrx; have hq := hsub1 hrx (by omega); subst hq; clear hrx) | (intro rx hrx; have hq := hsub2 hrx (by omega); subst hq; clear hrx) | (refine Ev.go ?_; conv => whnf) | refine And.intro ?_ ?_ | exact True.intro | exact rfl | (intro rx hrx; rw [ij _ (by omega)] at hrx) | (intro hcx; exfalso; omega) | intro _))
  all_goals (first | (refine ⟨?_⟩; exact vc) | exact cl | skip)
  refine TDq.callF [0, 1] [(0, .map [(.agg [.int .i64 c.crop, .int .i64 d, .int .i64 n], .int .i64 Q)]), (1, .cells [.sl 6 (encTfs l), .mp 0])] d1 rfl (And.intro rfl rfl) rfl rfl (by decide) (allLt_iff rfl) (fun _ => rfl) (fun _ => rfl)
    (fun N a ha => by match a, ha with | 0, _ => exact ⟨rfl, rfl⟩ | 1, _ => exact ⟨rfl, rfl⟩) (fun N a ha => by match a, ha with | 0, _ => exact ⟨rfl, rfl⟩ | 1, _ => exact ⟨rfl, rfl⟩) rfl ?_
  (repeat' (first | (intro rx hrx; have hq := hsub1 hrx (by omega); subst hq; clear hrx) | (intro rx hrx; have hq := hsub2 hrx (by omega); subst hq; clear hrx) | (refine Ev.go ?_; conv => whnf) | refine And.intro ?_ ?_ | exact True.intro | exact rfl | (intro rx hrx; rw [ij _ (by omega)] at hrx) | (intro hcx; exfalso; omega) | intro _))
  all_goals (first | (refine ⟨?_⟩; exact vk) | exact cl | skip)
  all_goals (try (refine ⟨?_⟩; simp [cloM, clo, cloL]; done))
  all_goals (try rfl)
def payF (l : List Tf) (crop value day n : Int) : Int := match atF l day l.length with
  | some t => value * partF t crop day n / 100
  | none => 0
set_option maxHeartbeats 4000000 in
set_option maxRecDepth 100000 in
theorem c76 (l : List Tf) (a : Tf) (crop value d n : Int) (hv : ValidTs l) (ha : l[0]? = some a) (hc : 0 ≤ crop ∧ crop < a.rates.length) (hva : 0 ≤ value ∧ value ≤ 100000) (hd : 0 ≤ d ∧ d ≤ 120) (hn : 0 ≤ n ∧ n ≤ 100) :
    PF Tryz.prog 76 [.sl 6 (encTfs l), encClm ⟨crop, value, ⟨d, d⟩, ⟨n, n⟩⟩, .agg [.int .i64 d, .int .i64 n]] (· = .tup [.int .i64 (payF l crop value d n), .int .i64 0]) := by
  obtain ⟨t, ht⟩ := at_some hv.first hd.1 hv.ne (Nat.le_refl _)
  obtain ⟨i, hi⟩ := at_mem ht
  have hm := List.mem_of_getElem? hi
  have o := okT (hv.few t hm) (hv.valid t hm)
  have hr := hv.crops i a t ha hi
  have hl3 := hv.len
  have hP : payF l crop value d n = value * partF t crop d n / 100 := by simp only [payF, ht]
  rw [hP]
  have d1 := t84 l [⟨crop, value, ⟨d, d⟩, ⟨n, n⟩⟩] hv (fun c hc t ht => by
    rw [ha] at ht; cases ht
    simp at hc; subst hc
    simp only [Clm.ok, Rng.ofB, within, Bool.and_eq_true, decide_eq_true_eq]
    omega) (by simp)
  have d2 := t138 l t ⟨crop, value, ⟨d, d⟩, ⟨n, n⟩⟩ d n (by omega) ht o (by dsimp only; omega) hn hva
  have d3 := c137 ⟨d, d⟩ d
  have d4 := c137 ⟨n, n⟩ n
  rw [show within d (⟨d, d⟩ : Rng).lo (⟨d, d⟩ : Rng).hi = true by simp [within]] at d3
  rw [show within n (⟨n, n⟩ : Rng).lo (⟨n, n⟩ : Rng).hi = true by simp [within]] at d4
  dsimp only at d2
  generalize partF t crop d n = Q at *
  generalize value * Q / 100 = q at *
  refine PF.of (TF.ev fn_76 (Ev.at ?_))
  (repeat' (first | (refine Ev.go ?_; conv => whnf) | refine And.intro ?_ ?_ | exact True.intro | exact rfl | (intro rx hrx; rw [ij _ (by omega)] at hrx) | (intro hcx; exfalso; omega) | intro _))
  all_goals (first | (refine ⟨?_⟩; exact vc) | exact cl | skip)
  refine TSq.pubS 2 ?_
  (repeat' (first | (refine Ev.go ?_; conv => whnf) | refine And.intro ?_ ?_ | exact True.intro | exact rfl | (intro rx hrx; rw [ij _ (by omega)] at hrx) | (intro hcx; exfalso; omega) | intro _))
  all_goals (first | (refine ⟨?_⟩; exact vc) | exact cl | skip)
  all_goals (try (refine ⟨?_⟩; simp [chunks, cloL, clo]; done))
  refine TSq.callD [] [(3, .map []), (4, .cells [.sl 6 (encTfs l), .mp 3])] d1 rfl rfl (And.intro rfl rfl) rfl (by decide) (allLt_iff rfl) rfl (fun a ha => absurd ha (Nat.not_lt_zero a)) rfl rfl (Nat.zero_le _) rfl
    (fun a ha => by match a, ha with | 0, _ => exact ⟨rfl, rfl⟩ | 1, _ => exact ⟨rfl, rfl⟩) rfl ?_
  (repeat' (first | (refine Ev.go ?_; conv => whnf) | refine And.intro ?_ ?_ | exact True.intro | exact rfl | (intro rx hrx; rw [ij _ (by omega)] at hrx) | (intro hcx; exfalso; omega) | intro _))
  all_goals (first | (refine ⟨?_⟩; exact vc) | exact cl | skip)
  refine TSq.pureC d3 cl rfl (And.intro rfl rfl) ?_
  (repeat' (first | (refine Ev.go ?_; conv => whnf) | refine And.intro ?_ ?_ | exact True.intro | exact rfl | (intro rx hrx; rw [ij _ (by omega)] at hrx) | (intro hcx; exfalso; omega) | intro _))
  refine TSq.pureC d4 cl rfl (And.intro rfl rfl) ?_
  (repeat' (first | (refine Ev.go ?_; conv => whnf) | refine And.intro ?_ ?_ | exact True.intro | exact rfl | (intro rx hrx; rw [ij _ (by omega)] at hrx) | (intro hcx; exfalso; omega) | intro _))
  refine TSq.callD [3, 4] [(3, .map [(.agg [.int .i64 crop, .int .i64 d, .int .i64 n], .int .i64 Q)]), (4, .cells [.sl 6 (encTfs l), .mp 3])] d2 rfl rfl (And.intro rfl rfl) rfl (by decide) (allLt_iff rfl) rfl (fun a ha => by match a, ha with | 0, _ => exact ⟨rfl, rfl⟩ | 1, _ => exact ⟨rfl, rfl⟩) rfl rfl (Nat.le_refl _) rfl
    (fun a ha => by match a, ha with | 0, _ => exact ⟨rfl, rfl⟩ | 1, _ => exact ⟨rfl, rfl⟩) rfl ?_
  (repeat' (first | (refine Ev.go ?_; conv => whnf) | refine And.intro ?_ ?_ | exact True.intro | exact rfl | (intro rx hrx; rw [ij _ (by omega)] at hrx) | (intro hcx; exfalso; omega) | intro _))
  all_goals (first | (refine ⟨?_⟩; exact vc) | exact cl | skip)
  all_goals (try rfl)
end Go.Proofs.YtjadiajfbflghaaGreat
set_option linter.unusedSimpArgs false
set_option linter.unusedVariables false
open Go Go.TV
namespace Go.Proofs.YtjadiajfbflghaaGreat
set_option maxRecDepth 100000
set_option maxHeartbeats 4000000
def tg6 : { t : TFn // fnOf Tryz.prog 6 = some t } := by
  refine ⟨?_, ?_⟩
  rotate_left
  conv => lhs; reduce; (try dsimp only [Int.ofNat_eq_natCast, Int.cast_ofNat_Int])
def tf6 : TFn := tg6.1
theorem fn_6 : fnOf Tryz.prog 6 = some tf6 := tg6.2
def tg7 : { t : TFn // fnOf Tryz.prog 7 = some t } := by
  refine ⟨?_, ?_⟩
  rotate_left
  conv => lhs; reduce; (try dsimp only [Int.ofNat_eq_natCast, Int.cast_ofNat_Int])
def tf7 : TFn := tg7.1
theorem fn_7 : fnOf Tryz.prog 7 = some tf7 := tg7.2
def tg11 : { t : TFn // fnOf Tryz.prog 11 = some t } := by
  refine ⟨?_, ?_⟩
  rotate_left
  conv => lhs; reduce; (try dsimp only [Int.ofNat_eq_natCast, Int.cast_ofNat_Int])
def tf11 : TFn := tg11.1
theorem fn_11 : fnOf Tryz.prog 11 = some tf11 := tg11.2
def tg12 : { t : TFn // fnOf Tryz.prog 12 = some t } := by
  refine ⟨?_, ?_⟩
  rotate_left
  conv => lhs; reduce; (try dsimp only [Int.ofNat_eq_natCast, Int.cast_ofNat_Int])
def tf12 : TFn := tg12.1
theorem fn_12 : fnOf Tryz.prog 12 = some tf12 := tg12.2
def tg13 : { t : TFn // fnOf Tryz.prog 13 = some t } := by
  refine ⟨?_, ?_⟩
  rotate_left
  conv => lhs; reduce; (try dsimp only [Int.ofNat_eq_natCast, Int.cast_ofNat_Int])
def tf13 : TFn := tg13.1
theorem fn_13 : fnOf Tryz.prog 13 = some tf13 := tg13.2
def tg14 : { t : TFn // fnOf Tryz.prog 14 = some t } := by
  refine ⟨?_, ?_⟩
  rotate_left
  conv => lhs; reduce; (try dsimp only [Int.ofNat_eq_natCast, Int.cast_ofNat_Int])
def tf14 : TFn := tg14.1
theorem fn_14 : fnOf Tryz.prog 14 = some tf14 := tg14.2
def tg15 : { t : TFn // fnOf Tryz.prog 15 = some t } := by
  refine ⟨?_, ?_⟩
  rotate_left
  conv => lhs; reduce; (try dsimp only [Int.ofNat_eq_natCast, Int.cast_ofNat_Int])
def tf15 : TFn := tg15.1
theorem fn_15 : fnOf Tryz.prog 15 = some tf15 := tg15.2
def tg51 : { t : TFn // fnOf Tryz.prog 51 = some t } := by
  refine ⟨?_, ?_⟩
  rotate_left
  conv => lhs; reduce; (try dsimp only [Int.ofNat_eq_natCast, Int.cast_ofNat_Int])
def tf51 : TFn := tg51.1
theorem fn_51 : fnOf Tryz.prog 51 = some tf51 := tg51.2
def tg54 : { t : TFn // fnOf Tryz.prog 54 = some t } := by
  refine ⟨?_, ?_⟩
  rotate_left
  conv => lhs; reduce; (try dsimp only [Int.ofNat_eq_natCast, Int.cast_ofNat_Int])
def tf54 : TFn := tg54.1
theorem fn_54 : fnOf Tryz.prog 54 = some tf54 := tg54.2
def tg55 : { t : TFn // fnOf Tryz.prog 55 = some t } := by
  refine ⟨?_, ?_⟩
  rotate_left
  conv => lhs; reduce; (try dsimp only [Int.ofNat_eq_natCast, Int.cast_ofNat_Int])
def tf55 : TFn := tg55.1
theorem fn_55 : fnOf Tryz.prog 55 = some tf55 := tg55.2
def tg56 : { t : TFn // fnOf Tryz.prog 56 = some t } := by
  refine ⟨?_, ?_⟩
  rotate_left
  conv => lhs; reduce; (try dsimp only [Int.ofNat_eq_natCast, Int.cast_ofNat_Int])
def tf56 : TFn := tg56.1
theorem fn_56 : fnOf Tryz.prog 56 = some tf56 := tg56.2
def tg57 : { t : TFn // fnOf Tryz.prog 57 = some t } := by
  refine ⟨?_, ?_⟩
  rotate_left
  conv => lhs; reduce; (try dsimp only [Int.ofNat_eq_natCast, Int.cast_ofNat_Int])
def tf57 : TFn := tg57.1
theorem fn_57 : fnOf Tryz.prog 57 = some tf57 := tg57.2
def tg58 : { t : TFn // fnOf Tryz.prog 58 = some t } := by
  refine ⟨?_, ?_⟩
  rotate_left
  conv => lhs; reduce; (try dsimp only [Int.ofNat_eq_natCast, Int.cast_ofNat_Int])
def tf58 : TFn := tg58.1
theorem fn_58 : fnOf Tryz.prog 58 = some tf58 := tg58.2
def tg59 : { t : TFn // fnOf Tryz.prog 59 = some t } := by
  refine ⟨?_, ?_⟩
  rotate_left
  conv => lhs; reduce; (try dsimp only [Int.ofNat_eq_natCast, Int.cast_ofNat_Int])
def tf59 : TFn := tg59.1
theorem fn_59 : fnOf Tryz.prog 59 = some tf59 := tg59.2
def tg60 : { t : TFn // fnOf Tryz.prog 60 = some t } := by
  refine ⟨?_, ?_⟩
  rotate_left
  conv => lhs; reduce; (try dsimp only [Int.ofNat_eq_natCast, Int.cast_ofNat_Int])
def tf60 : TFn := tg60.1
theorem fn_60 : fnOf Tryz.prog 60 = some tf60 := tg60.2
def tg61 : { t : TFn // fnOf Tryz.prog 61 = some t } := by
  refine ⟨?_, ?_⟩
  rotate_left
  conv => lhs; reduce; (try dsimp only [Int.ofNat_eq_natCast, Int.cast_ofNat_Int])
def tf61 : TFn := tg61.1
theorem fn_61 : fnOf Tryz.prog 61 = some tf61 := tg61.2
def tg62 : { t : TFn // fnOf Tryz.prog 62 = some t } := by
  refine ⟨?_, ?_⟩
  rotate_left
  conv => lhs; reduce; (try dsimp only [Int.ofNat_eq_natCast, Int.cast_ofNat_Int])
def tf62 : TFn := tg62.1
theorem fn_62 : fnOf Tryz.prog 62 = some tf62 := tg62.2
def tg116 : { t : TFn // fnOf Tryz.prog 116 = some t } := by
  refine ⟨?_, ?_⟩
  rotate_left
  conv => lhs; reduce; (try dsimp only [Int.ofNat_eq_natCast, Int.cast_ofNat_Int])
def tf116 : TFn := tg116.1
theorem fn_116 : fnOf Tryz.prog 116 = some tf116 := tg116.2
def tg117 : { t : TFn // fnOf Tryz.prog 117 = some t } := by
  refine ⟨?_, ?_⟩
  rotate_left
  conv => lhs; reduce; (try dsimp only [Int.ofNat_eq_natCast, Int.cast_ofNat_Int])
def tf117 : TFn := tg117.1
theorem fn_117 : fnOf Tryz.prog 117 = some tf117 := tg117.2
def tg118 : { t : TFn // fnOf Tryz.prog 118 = some t } := by
  refine ⟨?_, ?_⟩
  rotate_left
  conv => lhs; reduce; (try dsimp only [Int.ofNat_eq_natCast, Int.cast_ofNat_Int])
def tf118 : TFn := tg118.1
theorem fn_118 : fnOf Tryz.prog 118 = some tf118 := tg118.2
def tf119 : TFn := ⟨61, [(.tmp 2)], (.seq (.region false [⟨(some 1), (.box (.t 0)), none, [], []⟩, ⟨(some 2), (.mv (.c .nilp)), none, [], []⟩]) (.seq (.region false [⟨(some 12), (.load true 4 (.t 1)), none, [], []⟩, ⟨(some 13), (.build [.nils, (.int .i64 0), (.int .i64 0), .nils, .nils] [(0, (4, (.t 12))), (4, (1, (.c .nils)))]), none, [], []⟩, ⟨(some 14), (.box (.t 13)), none, [], []⟩, ⟨(some 3), (.alloc [.nilp]), none, [], []⟩, ⟨none, (.store 1 (.t 3) (.t 14)), none, [], []⟩]) (.seq (.seq (.region false [⟨(some 15), (.load false 1 (.t 3)), none, [], []⟩, ⟨(some 16), (.nilck (.t 15)), none, [], []⟩, ⟨(some 17), (.faddr 0 (.t 16)), none, [], []⟩, ⟨(some 18), (.faddr 3 (.t 17)), none, [], []⟩, ⟨(some 19), (.load false 1 (.t 18)), none, [], []⟩, ⟨(some 20), (.lenS (.t 19)), none, [], []⟩, ⟨(some 21), (.mv (.c (.int .i64 0))), none, [], []⟩]) (.block 0 (.loop (.seq (.region false [⟨(some 22), (.cmp .lss (.t 21) (.t 20)), none, [], []⟩]) (.seq (.cond (.t 22) .skip (.exit 0)) (.seq (.block 1 (.seq (.region false [⟨(some 23), (.idxS 9 (.t 19) (.t 21)), none, [], []⟩, ⟨(some 24), (.load true 9 (.t 23)), none, [], []⟩, ⟨(some 5), (.alloc [(.int .i64 0), (.int .i64 0), (.int .i64 0), (.int .i64 0), (.int .i64 0), (.int .i64 0), (.int .i64 0), (.int .i64 0), (.int .i64 0)]), none, [], []⟩, ⟨none, (.store 9 (.t 5) (.t 24)), none, [], []⟩]) (.seq (.region false [⟨(some 25), .mkmap, none, [], []⟩, ⟨(some 6), (.alloc [.nilm]), none, [], []⟩, ⟨none, (.store 1 (.t 6) (.t 25)), none, [], []⟩]) (.seq (.seq (.region false [⟨(some 26), (.load true 9 (.t 5)), none, [], []⟩, ⟨(some 27), (.call 183 [(.t 26)]), none, [], []⟩]) (.block 2 (.rfunc (.t 27) [28] (.region false [⟨(some 7), (.alloc [(.int .i64 0), (.int .i64 0), (.int .i64 0)]), none, [], []⟩, ⟨none, (.store 3 (.t 7) (.t 28)), none, [], []⟩]) (.block 3 (.seq (.region false [⟨(some 30), (.load true 9 (.t 5)), none, [], []⟩, ⟨(some 31), (.load true 3 (.t 7)), none, [], []⟩, ⟨(some 32), (.call 59 [(.t 30), (.t 31)]), none, [], []⟩, ⟨(some 29), (.mv (.t 32)), none, [], []⟩, ⟨(some 33), (.extract (.t 29) 0), none, [], []⟩, ⟨(some 34), (.extract (.t 29) 1), none, [], []⟩, ⟨(some 8), (.mv (.t 33)), none, [], []⟩, ⟨(some 9), (.mv (.t 34)), none, [], []⟩]) (.seq (.region true [⟨(some 36), (.load false 1 (.t 3)), none, [], [3]⟩, ⟨(some 37), (.nilck (.t 36)), none, [0], [36]⟩, ⟨(some 38), (.faddr 0 (.t 37)), none, [1], [37]⟩, ⟨(some 39), (.load true 4 (.t 38)), none, [2], [38]⟩, ⟨(some 40), (.load true 9 (.t 5)), none, [], [5]⟩, ⟨(some 41), (.mv (.t 8)), none, [], [8]⟩, ⟨(some 42), (.call 60 [(.t 39), (.t 40), (.t 41)]), none, [3, 4, 5], [39, 40, 41]⟩, ⟨(some 35), (.mv (.t 42)), none, [6], [42]⟩, ⟨(some 43), (.extract (.t 35) 0), none, [7], [35]⟩, ⟨(some 44), (.extract (.t 35) 1), none, [7], [35]⟩, ⟨(some 10), (.mv (.t 43)), none, [8, 6, 0, 1, 2, 3, 4, 5, 6, 7, 8], [43]⟩, ⟨(some 11), (.mv (.t 44)), none, [9, 10, 0, 1, 2, 3, 4, 5, 6, 7, 8, 9, 10], [44]⟩]) (.region false [⟨(some 45), (.load false 1 (.t 6)), none, [], []⟩, ⟨(some 46), (.mv (.t 10)), none, [], []⟩, ⟨(some 47), (.mv (.t 9)), none, [], []⟩, ⟨(some 48), (.build [(.int .i64 0), (.int .i64 0)] [(0, (1, (.t 46))), (1, (1, (.t 47)))]), none, [], []⟩, ⟨none, (.mapUpd (.st [(0, (1, (false, (.int .i64)))), (1, (1, (false, (.int .i64))))]) (.t 45) (.t 48) (.c (.bool true))), none, [], []⟩]))))))) (.region true [⟨(some 49), (.load false 1 (.t 3)), none, [], [3]⟩, ⟨(some 50), (.load false 1 (.t 3)), none, [], [3]⟩, ⟨(some 51), (.nilck (.t 50)), none, [1], [50]⟩, ⟨(some 52), (.faddr 4 (.t 51)), none, [2], [51]⟩, ⟨(some 53), (.load false 1 (.t 52)), none, [3], [52]⟩, ⟨(some 54), (.load false 1 (.t 6)), none, [], [6]⟩, ⟨(some 55), (.bslice 348 false 1 1 [.nilm] [(0, (1, (.t 54)))]), none, [5], [54]⟩, ⟨(some 56), (.append 348 1 8 (.t 53) (.t 55)), none, [4, 6], [53, 55]⟩, ⟨(some 57), (.nilck (.t 49)), none, [0, 0, 1, 2, 3, 4, 5, 6, 7], [49]⟩, ⟨(some 58), (.faddr 4 (.t 57)), none, [8, 0, 1, 2, 3, 4, 5, 6, 7], [57]⟩, ⟨none, (.store 1 (.t 58) (.t 56)), none, [9, 7, 7, 0, 1, 2, 3, 4, 5, 6, 7], [58, 56]⟩]))))) (.region false [⟨(some 59), (.arith .add (.t 21) (.c (.int .i64 1))), none, [], []⟩, ⟨(some 21), (.mv (.t 59)), none, [], []⟩]))))))) (.seq (.region false [⟨(some 60), (.load false 1 (.t 3)), none, [], []⟩, ⟨(some 2), (.mv (.t 60)), none, [], []⟩]) .ret))))⟩
theorem fn_119 : fnOf Tryz.prog 119 = some tf119 := by kernel_rfl
def tg120 : { t : TFn // fnOf Tryz.prog 120 = some t } := by
  refine ⟨?_, ?_⟩
  rotate_left
  conv => lhs; reduce; (try dsimp only [Int.ofNat_eq_natCast, Int.cast_ofNat_Int])
def tf120 : TFn := tg120.1
theorem fn_120 : fnOf Tryz.prog 120 = some tf120 := tg120.2
def tg121 : { t : TFn // fnOf Tryz.prog 121 = some t } := by
  refine ⟨?_, ?_⟩
  rotate_left
  conv => lhs; reduce; (try dsimp only [Int.ofNat_eq_natCast, Int.cast_ofNat_Int])
def tf121 : TFn := tg121.1
theorem fn_121 : fnOf Tryz.prog 121 = some tf121 := tg121.2
def tg122 : { t : TFn // fnOf Tryz.prog 122 = some t } := by
  refine ⟨?_, ?_⟩
  rotate_left
  conv => lhs; reduce; (try dsimp only [Int.ofNat_eq_natCast, Int.cast_ofNat_Int])
def tf122 : TFn := tg122.1
theorem fn_122 : fnOf Tryz.prog 122 = some tf122 := tg122.2
def tg123 : { t : TFn // fnOf Tryz.prog 123 = some t } := by
  refine ⟨?_, ?_⟩
  rotate_left
  conv => lhs; reduce; (try dsimp only [Int.ofNat_eq_natCast, Int.cast_ofNat_Int])
def tf123 : TFn := tg123.1
theorem fn_123 : fnOf Tryz.prog 123 = some tf123 := tg123.2
def tg124 : { t : TFn // fnOf Tryz.prog 124 = some t } := by
  refine ⟨?_, ?_⟩
  rotate_left
  conv => lhs; reduce; (try dsimp only [Int.ofNat_eq_natCast, Int.cast_ofNat_Int])
def tf124 : TFn := tg124.1
theorem fn_124 : fnOf Tryz.prog 124 = some tf124 := tg124.2
def tg125 : { t : TFn // fnOf Tryz.prog 125 = some t } := by
  refine ⟨?_, ?_⟩
  rotate_left
  conv => lhs; reduce; (try dsimp only [Int.ofNat_eq_natCast, Int.cast_ofNat_Int])
def tf125 : TFn := tg125.1
theorem fn_125 : fnOf Tryz.prog 125 = some tf125 := tg125.2
def tg180 : { t : TFn // fnOf Tryz.prog 180 = some t } := by
  refine ⟨?_, ?_⟩
  rotate_left
  conv => lhs; reduce; (try dsimp only [Int.ofNat_eq_natCast, Int.cast_ofNat_Int])
def tf180 : TFn := tg180.1
theorem fn_180 : fnOf Tryz.prog 180 = some tf180 := tg180.2
def tg181 : { t : TFn // fnOf Tryz.prog 181 = some t } := by
  refine ⟨?_, ?_⟩
  rotate_left
  conv => lhs; reduce; (try dsimp only [Int.ofNat_eq_natCast, Int.cast_ofNat_Int])
def tf181 : TFn := tg181.1
theorem fn_181 : fnOf Tryz.prog 181 = some tf181 := tg181.2
def tg182 : { t : TFn // fnOf Tryz.prog 182 = some t } := by
  refine ⟨?_, ?_⟩
  rotate_left
  conv => lhs; reduce; (try dsimp only [Int.ofNat_eq_natCast, Int.cast_ofNat_Int])
def tf182 : TFn := tg182.1
theorem fn_182 : fnOf Tryz.prog 182 = some tf182 := tg182.2
def tg183 : { t : TFn // fnOf Tryz.prog 183 = some t } := by
  refine ⟨?_, ?_⟩
  rotate_left
  conv => lhs; reduce; (try dsimp only [Int.ofNat_eq_natCast, Int.cast_ofNat_Int])
def tf183 : TFn := tg183.1
theorem fn_183 : fnOf Tryz.prog 183 = some tf183 := tg183.2
def tf184 : TFn := ⟨36, [], (.seq (.region false [⟨(some 5), (.box (.t 0)), none, [], []⟩]) (.seq (.seq (.region false [⟨(some 8), (.mv (.t 1)), none, [], []⟩, ⟨(some 9), (.load false 1 (.t 2)), none, [], []⟩, ⟨(some 10), (.nilck (.t 9)), none, [], []⟩, ⟨(some 11), (.faddr 4 (.t 10)), none, [], []⟩, ⟨(some 12), (.load false 1 (.t 11)), none, [], []⟩, ⟨(some 13), (.lenS (.t 12)), none, [], []⟩, ⟨(some 14), (.cmp .eql (.t 8) (.t 13)), none, [], []⟩]) (.cond (.t 14) (.seq (.region false [⟨(some 15), (.load false 1 (.t 3)), none, [], []⟩, ⟨(some 16), (.load true 5 (.t 5)), none, [], []⟩, ⟨none, (.mapUpd (.st [(0, (1, (false, (.int .i64)))), (1, (4, (true, (.arr 4 1 false (.int .i64)))))]) (.t 15) (.t 16) (.c (.bool true))), none, [], []⟩]) .ret) .skip)) (.seq (.region false [⟨(some 17), (.load false 1 (.t 2)), none, [], []⟩, ⟨(some 18), (.nilck (.t 17)), none, [], []⟩, ⟨(some 19), (.faddr 4 (.t 18)), none, [], []⟩, ⟨(some 20), (.load false 1 (.t 19)), none, [], []⟩, ⟨(some 21), (.mv (.t 1)), none, [], []⟩, ⟨(some 22), (.idxS 1 (.t 20) (.t 21)), none, [], []⟩, ⟨(some 23), (.load false 1 (.t 22)), none, [], []⟩, ⟨(some 24), (.range (.t 23)), none, [], []⟩]) (.block 0 (.loop (.seq (.region false [⟨(some 25), (.next (.t 24)), none, [], []⟩, ⟨(some 26), (.extract (.t 25) 0), none, [], []⟩]) (.seq (.cond (.t 26) .skip (.exit 0)) (.block 1 (.seq (.region false [⟨(some 27), (.entry (.t 24)), none, [], []⟩, ⟨(some 28), (.extract (.t 27) 0), none, [], []⟩, ⟨(some 7), (.alloc [(.int .i64 0), (.int .i64 0)]), none, [], []⟩, ⟨none, (.store 2 (.t 7) (.t 28)), none, [], []⟩]) (.region true [⟨(some 29), (.load false 1 (.t 4)), none, [], [4]⟩, ⟨(some 30), (.load true 5 (.t 5)), none, [], [5]⟩, ⟨(some 31), (.load true 2 (.t 7)), none, [], [7]⟩, ⟨(some 32), (.call 61 [(.t 30), (.t 31)]), none, [1, 2], [30, 31]⟩, ⟨(some 33), (.mv (.t 1)), none, [], [1]⟩, ⟨(some 34), (.arith .add (.t 33) (.c (.int .i64 1))), none, [4], [33]⟩, ⟨(some 35), (.callv (.t 29) [(.t 32), (.t 34)]), none, [0, 3, 5, 3], [29, 32, 34]⟩]))))))))))⟩
theorem fn_184 : fnOf Tryz.prog 184 = some tf184 := by kernel_rfl
def tg232 : { t : TFn // fnOf Tryz.prog 232 = some t } := by
  refine ⟨?_, ?_⟩
  rotate_left
  conv => lhs; reduce; (try dsimp only [Int.ofNat_eq_natCast, Int.cast_ofNat_Int])
def tf232 : TFn := tg232.1
theorem fn_232 : fnOf Tryz.prog 232 = some tf232 := tg232.2
def tg233 : { t : TFn // fnOf Tryz.prog 233 = some t } := by
  refine ⟨?_, ?_⟩
  rotate_left
  conv => lhs; reduce; (try dsimp only [Int.ofNat_eq_natCast, Int.cast_ofNat_Int])
def tf233 : TFn := tg233.1
theorem fn_233 : fnOf Tryz.prog 233 = some tf233 := tg233.2
def tg234 : { t : TFn // fnOf Tryz.prog 234 = some t } := by
  refine ⟨?_, ?_⟩
  rotate_left
  conv => lhs; reduce; (try dsimp only [Int.ofNat_eq_natCast, Int.cast_ofNat_Int])
def tf234 : TFn := tg234.1
theorem fn_234 : fnOf Tryz.prog 234 = some tf234 := tg234.2
def tg259 : { t : TFn // fnOf Tryz.prog 259 = some t } := by
  refine ⟨?_, ?_⟩
  rotate_left
  conv => lhs; reduce; (try dsimp only [Int.ofNat_eq_natCast, Int.cast_ofNat_Int])
def tf259 : TFn := tg259.1
theorem fn_259 : fnOf Tryz.prog 259 = some tf259 := tg259.2
end Go.Proofs.YtjadiajfbflghaaGreat
set_option linter.unusedSimpArgs false
set_option linter.unusedVariables false
open Go Go.TV
namespace Go.Proofs.YtjadiajfbflghaaGreat
structure Fld where
  crop : Int
  value : Int
  near : Int
  fi : Rng
  se : Rng
  um : Rng
structure Cas where
  tfs : List Tf
  day : Int
  fee : Int
  flds : List Fld
structure Thr where
  a : Int
  b : Int
  u : Int
def encFld (f : Fld) : SV := .agg [.int .i64 f.crop, .int .i64 f.value, .int .i64 f.near, .int .i64 f.fi.lo, .int .i64 f.fi.hi, .int .i64 f.se.lo, .int .i64 f.se.hi, .int .i64 f.um.lo, .int .i64 f.um.hi]
def encFlds (l : List Fld) : List SV := l.map encFld
def encCas (c : Cas) : SV := .agg [.sl 6 (encTfs c.tfs), .int .i64 c.day, .int .i64 c.fee, .sl 9 (encFlds c.flds)]
def encThr (x : Thr) : SV := .agg [.int .i64 x.a, .int .i64 x.b, .int .i64 x.u]
def encThrs (l : List Thr) : List SV := l.map encThr
theorem encFlds_len (l : List Fld) : (encFlds l).length = l.length := List.length_map _
theorem encThrs_len (l : List Thr) : (encThrs l).length = l.length := List.length_map _
theorem encFlds_at {l : List Fld} {n : Nat} {e : SV} (h : (encFlds l)[n]? = some e) : ∃ x, l[n]? = some x ∧ e = encFld x := map_at h
theorem encThrs_at {l : List Thr} {n : Nat} {e : SV} (h : (encThrs l)[n]? = some e) : ∃ x, l[n]? = some x ∧ e = encThr x := map_at h
theorem encFlds_clo (l : List Fld) : cloL (encFlds l) := by
  rw [cloL_iff]; intro s hs; obtain ⟨x, _, rfl⟩ := List.mem_map.1 hs; simp [encFld, clo, cloL]
theorem encThrs_clo (l : List Thr) : cloL (encThrs l) := by
  rw [cloL_iff]; intro s hs; obtain ⟨x, _, rfl⟩ := List.mem_map.1 hs; simp [encThr, clo, cloL]
theorem encFld_clo (f : Fld) : clo (encFld f) := by simp [encFld, clo, cloL]
theorem encCas_clo (c : Cas) : clo (encCas c) := by simp [encCas, clo, cloL]
def Rng.cntB (r : Rng) : Bool := decide (0 ≤ r.lo) && (decide (r.lo ≤ r.hi) && (decide (r.hi ≤ 100) && decide (r.hi - r.lo ≤ 4)))
structure OkF (k : Int) (f : Fld) : Prop where
  crop : 0 ≤ f.crop ∧ f.crop < k
  value : 0 ≤ f.value ∧ f.value ≤ 100000
  near : 0 ≤ f.near ∧ f.near ≤ 100
  fi : f.fi.cntB = true
  se : f.se.cntB = true
  um : f.um.cntB = true
structure OkC (c : Cas) : Prop where
  tfs : ValidTs c.tfs
  day : 0 ≤ c.day ∧ c.day ≤ 120
  fee : 0 ≤ c.fee ∧ c.fee ≤ 10000
  few : c.flds.length ≤ 3
  flds : ∀ a, c.tfs[0]? = some a → ∀ f ∈ c.flds, OkF a.rates.length f
theorem cnt_of {r : Rng} (h : r.cntB = true) : 0 ≤ r.lo ∧ r.lo ≤ r.hi ∧ r.hi ≤ 100 ∧ r.hi - r.lo ≤ 4 := by
  simp only [Rng.cntB, Bool.and_eq_true, decide_eq_true_eq] at h; exact h
def payC (c : Cas) (f : Fld) (n : Int) : Int := payF c.tfs f.crop f.value c.day n
def absI (n : Int) : Int := if n < 0 then -n else n
def settleF (f : Fld) (x : Thr) : Int × Int :=
  if absI (x.a - x.b) ≤ f.near then ((x.a + x.b) / 2, 0) else
    let n := min (max x.u (min x.a x.b)) (max x.a x.b)
    if absI (x.a - n) > absI (x.b - n) then (n, 2) else if absI (x.b - n) > absI (x.a - n) then (n, 3) else (n, 1)
structure Sm where
  aw : Int
  l0 : Int
  l1 : Int
  l2 : Int
  l3 : Int
def encSm (s : Sm) : SV := .agg [.int .i64 s.aw, .int .i64 s.l0, .int .i64 s.l1, .int .i64 s.l2, .int .i64 s.l3]
def sm0 : Sm := ⟨0, 0, 0, 0, 0⟩
def Sm.plus (s : Sm) (x : Int × Int) : Sm := ⟨s.aw + x.1, if x.2 = 0 then s.l0 + 1 else s.l0, if x.2 = 1 then s.l1 + 1 else s.l1, if x.2 = 2 then s.l2 + 1 else s.l2, if x.2 = 3 then s.l3 + 1 else s.l3⟩
def Sm.fees (s : Sm) (fee : Int) : Int × Int := if ¬ s.l1 + s.l2 + s.l3 > 0 then (0, 0) else if s.l2 > s.l3 then (fee, 0) else if s.l3 > s.l2 then (0, fee) else (fee - fee / 2, fee / 2)
end Go.Proofs.YtjadiajfbflghaaGreat
set_option linter.unusedSimpArgs false
set_option linter.unusedVariables false
open Go Go.TV Go.RowKit
namespace Go.Proofs.YtjadiajfbflghaaGreat
def shRow : Sh := .sl 1 false [shI]
def shCrop : Sh := .sl 1 false [shRow]
def shTf : List Sh := [shI, .bool, shI, shRow, shRow, .sl 1 false [shCrop]]
def shFld : List Sh := [shI, shI, shI, shI, shI, shI, shI, shI, shI]
def shCas : List Sh := [.sl 6 true shTf, shI, shI, .sl 9 true shFld]
theorem fits_map {α : Type} {enc : α → SV} {l : List SV} {p : SV → Prop} (h : ∀ e ∈ l, p e) (hp : ∀ e, p e → ∃ x, e = enc x) : ∃ m : List α, l = m.map enc := by
  induction l with
  | nil => exact ⟨[], rfl⟩
  | cons e l ih =>
    obtain ⟨m, rfl⟩ := ih fun e he => h e (by simp [he])
    obtain ⟨x, rfl⟩ := hp e (h e (by simp))
    exact ⟨x :: m, rfl⟩
theorem fits_row {s : SV} (h : Sh.fits shRow s) : ∃ m : List Int, s = encIs m := by
  simp only [shRow, Sh.fits] at h
  obtain ⟨l, rfl, _, hl⟩ := h
  obtain ⟨m, rfl, _⟩ := fits_ints hl
  exact ⟨m, rfl⟩
theorem fits_one {t : Sh} {e : SV} (h : ∃ cs, Sh.fitsL [t] cs ∧ e = (if false = true then .agg cs else cs.headD .junk)) : Sh.fits t e := by
  obtain ⟨cs, h1, h2⟩ := h
  simp only [Sh.fitsL] at h1
  obtain ⟨s, ss, rfl, h3, rfl⟩ := h1
  simp at h2
  subst h2
  exact h3
theorem fits_crop {s : SV} (h : Sh.fits shCrop s) : ∃ m : List (List Int), s = encCr m := by
  simp only [shCrop, Sh.fits] at h
  obtain ⟨l, rfl, _, hl⟩ := h
  obtain ⟨m, rfl⟩ := fits_map (enc := encIs) hl fun e he => fits_row (fits_one he)
  exact ⟨m, rfl⟩
theorem fits_tf {s : SV} (h : ∃ cs, Sh.fitsL shTf cs ∧ s = (if true = true then .agg cs else cs.headD .junk)) : ∃ t : Tf, s = encTf t := by
  obtain ⟨cs, h1, rfl⟩ := h
  simp only [shTf, Sh.fitsL] at h1
  obtain ⟨_, _, rfl, h2, _, _, rfl, h3, _, _, rfl, h4, _, _, rfl, h5, _, _, rfl, h6, _, _, rfl, h7, rfl⟩ := h1
  simp only [shI, Sh.fits] at h2 h3 h4 h7
  obtain ⟨a, rfl, _⟩ := h2
  obtain ⟨b, rfl⟩ := h3
  obtain ⟨c, rfl, _⟩ := h4
  obtain ⟨d, rfl⟩ := fits_row h5
  obtain ⟨e, rfl⟩ := fits_row h6
  obtain ⟨l, rfl, _, hl⟩ := h7
  obtain ⟨m, rfl⟩ := fits_map (enc := encCr) hl fun e he => fits_crop (fits_one he)
  exact ⟨⟨a, b, c, d, e, m⟩, rfl⟩
theorem fits_fld {s : SV} (h : ∃ cs, Sh.fitsL shFld cs ∧ s = (if true = true then .agg cs else cs.headD .junk)) : ∃ f : Fld, s = encFld f := by
  obtain ⟨cs, h1, rfl⟩ := h
  simp only [shFld, shI, Sh.fitsL, Sh.fits] at h1
  obtain ⟨_, _, rfl, ⟨a, rfl, _⟩, _, _, rfl, ⟨b, rfl, _⟩, _, _, rfl, ⟨c, rfl, _⟩, _, _, rfl, ⟨d, rfl, _⟩, _, _, rfl, ⟨e, rfl, _⟩, _, _, rfl, ⟨f, rfl, _⟩, _, _, rfl, ⟨g, rfl, _⟩, _, _, rfl, ⟨i, rfl, _⟩, _, _, rfl, ⟨j, rfl, _⟩, rfl⟩ := h1
  exact ⟨⟨a, b, c, ⟨d, e⟩, ⟨f, g⟩, ⟨i, j⟩⟩, rfl⟩
theorem fits_tfs {l : List SV} (h : ∀ e ∈ l, ∃ cs, Sh.fitsL shTf cs ∧ e = (if true = true then .agg cs else cs.headD .junk)) : ∃ m : List Tf, l = encTfs m := fits_map (enc := encTf) h fun _ he => fits_tf he
theorem fits_cas {s : SV} (h : fitsA (true, shCas) s) : ∃ c : Cas, s = encCas c := by
  obtain ⟨cs, h1, rfl⟩ := h
  simp only [shCas, shI, Sh.fitsL, Sh.fits] at h1
  obtain ⟨_, _, rfl, ⟨l, rfl, _, hl⟩, _, _, rfl, ⟨b, rfl, _⟩, _, _, rfl, ⟨c, rfl, _⟩, _, _, rfl, ⟨l', rfl, _, hl'⟩, rfl⟩ := h1
  obtain ⟨m, rfl⟩ := fits_tfs hl
  obtain ⟨m', rfl⟩ := fits_map (enc := encFld) hl' fun e he => fits_fld he
  exact ⟨⟨m, b, c, m'⟩, rfl⟩
def tCas : Value := .agg #[.slice none 0 0, .int .i64 0, .int .i64 0, .slice none 0 0]
end Go.Proofs.YtjadiajfbflghaaGreat
