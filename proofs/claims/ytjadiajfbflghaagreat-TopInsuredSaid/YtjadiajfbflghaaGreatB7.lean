/- The shares of all who share. Tariffs: the part that is paid, and the payment on a claim, by an office at work whose map is empty. Tariffs: claims that are valid, by the program. Tariffs: all over lists of claims (printed by a program). Tariffs at work: start, and asked. Tariffs: the payment on a claim. Functions of the program in the calculus' compact form: the form is found by reduction, and shown to be the program's. Cases: as data, as trees, and what is valid. The statements' arguments, as cases. The evaluator's loop as one step: what it leaves is handed on as one conjunction. Functions of the program in the calculus' compact form: the form is found by reduction, and shown to be the program's. Books of parcels: as data, as trees. The statements' arguments, as books of parcels. -/
import Derived.Test.YtjadiajfbflghaaGreatB6
import Derived.Test.YtjadiajfbflghaaGreatProg
import Derived.Test.YtjadiajfbflghaaGreatB3
import Derived.Test.YtjadiajfbflghaaGreatB5
set_option maxHeartbeats 32000000
set_option maxRecDepth 100000
set_option linter.unusedSimpArgs false
set_option linter.unusedVariables false
set_option linter.defProp false
open Go Go.TV
namespace Go.Proofs.YtjadiajfbflghaaGreat
def socC (s : Soc) : List SV := [.sl 3 (encYs s.members), .sl 2 (encRs s.losses), .int .i64 s.treaty.lo, .int .i64 s.treaty.hi, .int .i64 s.reserve]
def fi5 (g : Nat → Int) : List SV := [.int .i64 (g 0), .int .i64 (g 1), .int .i64 (g 2), .int .i64 (g 3), .int .i64 (g 4)]
theorem un_nn {ms : List Mem} (h : ∀ m ∈ ms, OkM m) (i : Nat) : 0 ≤ un ms i ∧ un ms i ≤ 10000 := by
 unfold un
 cases hi : ms[i]? with
 | none => simp
 | some m => have := (h m (List.mem_of_getElem? hi)).units; simp only; omega
theorem unitsF_le {ms : List Mem} (h : ∀ m ∈ ms, OkM m) (f : Nat → Bool) : ∀ k : Nat, 0 ≤ unitsF ms f k ∧ unitsF ms f k ≤ k * 10000
 | 0 => by simp [unitsF]
 | k + 1 => by
  have ih := unitsF_le h f k
  have := un_nn h k
  simp only [unitsF]
  split <;> omega
theorem unitsF_mono {ms : List Mem} (h : ∀ m ∈ ms, OkM m) (f : Nat → Bool) (j : Nat) : ∀ k, unitsF ms f j ≤ unitsF ms f (j + k)
 | 0 => Int.le_refl _
 | k + 1 => by
  have ih := unitsF_mono h f j k
  have := un_nn h (j + k)
  have e : unitsF ms f (j + (k + 1)) = unitsF ms f (j + k) + (if f (j + k) = true then un ms (j + k) else 0) := rfl
  rw [e]
  split <;> omega
theorem unitsF_pos {ms : List Mem} (h : ∀ m ∈ ms, OkM m) {f : Nat → Bool} {k n : Nat} {m : Mem} (hm : ms[k]? = some m) (hk : k < n) (hf : f k = true) : 1 ≤ unitsF ms f n := by
 have h1 := unitsF_mono h f (k + 1) (n - (k + 1))
 rw [show k + 1 + (n - (k + 1)) = n by omega] at h1
 have h2 := (unitsF_le h f k).1
 have h3 : unitsF ms f (k + 1) = unitsF ms f k + un ms k := by simp only [unitsF, hf, if_true]
 have h4 := (h m (List.mem_of_getElem? hm)).units
 rw [un_at hm] at h3
 omega
def g2 (ms : List Mem) (f : Nat → Bool) (need U : Int) (k i : Nat) : Int := if i < k ∧ f i = true then quo ms need U i else 0
def g3 (ms : List Mem) (f : Nat → Bool) (need U : Int) (k i : Nat) : Int := if i < ms.length ∧ f i = true then quo ms need U i + (if i < k ∧ beforeF ms f need U i < leftF ms f need U ms.length then 1 else 0) else 0
theorem g2_skip {ms : List Mem} {f : Nat → Bool} {need U : Int} {k : Nat} (h : f k = false) (i : Nat) : g2 ms f need U k i = g2 ms f need U (k + 1) i := by
 unfold g2
 by_cases e : i = k
 ·subst e; simp [h]
 ·have : i < k ↔ i < k + 1 := by omega
  simp only [this]
theorem g2_other {ms : List Mem} {f : Nat → Bool} {need U : Int} {k i : Nat} (h : i ≠ k) : g2 ms f need U k i = g2 ms f need U (k + 1) i := by
 unfold g2
 have : i < k ↔ i < k + 1 := by omega
 simp only [this]
theorem g2_at {ms : List Mem} {f : Nat → Bool} {need U : Int} {k : Nat} (h : f k = true) : quo ms need U k = g2 ms f need U (k + 1) k := by
 unfold g2
 rw [if_pos ⟨by omega, h⟩]
theorem g3_0 {ms : List Mem} {f : Nat → Bool} {need U : Int} (i : Nat) : g2 ms f need U ms.length i = g3 ms f need U 0 i := by
 unfold g2 g3
 simp
theorem g3_skip {ms : List Mem} {f : Nat → Bool} {need U : Int} {k : Nat} (h : f k = false) (i : Nat) : g3 ms f need U k i = g3 ms f need U (k + 1) i := by
 unfold g3
 by_cases e : i = k
 ·subst e; simp [h]
 ·have : i < k ↔ i < k + 1 := by omega
  simp only [this]
theorem g3_other {ms : List Mem} {f : Nat → Bool} {need U : Int} {k i : Nat} (h : i ≠ k) : g3 ms f need U k i = g3 ms f need U (k + 1) i := by
 unfold g3
 have : i < k ↔ i < k + 1 := by omega
 simp only [this]
theorem g3_no {ms : List Mem} {f : Nat → Bool} {need U : Int} {k : Nat} (h : ¬ beforeF ms f need U k < leftF ms f need U ms.length) (i : Nat) : g3 ms f need U k i = g3 ms f need U (k + 1) i := by
 unfold g3
 by_cases e : i = k
 ·subst e; simp [h]
 ·have : i < k ↔ i < k + 1 := by omega
  simp only [this]
theorem g3_at {ms : List Mem} {f : Nat → Bool} {need U : Int} {k : Nat} (hk : k < ms.length) (hf : f k = true) (h : beforeF ms f need U k < leftF ms f need U ms.length) : g3 ms f need U k k = quo ms need U k ∧ g3 ms f need U (k + 1) k = quo ms need U k + 1 := by
 unfold g3
 simp [hk, hf, h]
theorem g3_n {ms : List Mem} {f : Nat → Bool} {need : Int} (i : Nat) : g3 ms f need (unitsF ms f ms.length) ms.length i = shareF ms f need i := by
 unfold g3 shareF
 by_cases h : i < ms.length
 ·simp [h]
 ·simp [h]
theorem TF.cutTo {P : Program} {f : FuncId} {args : List SV} {h h0 : List LB} {R : SV → Prop} (hT : TF P f args h fun s h' => Ev (fitS h.length [] ⟨[s], h', []⟩ ⟨[s], h0, []⟩) ∧ Ev (R s)) : TF P f args h (fun s h' => h' = h0 ∧ R s) := by
 refine ⟨hT.ok, fun hm g w vals h1 h2 h3 h4 h5 => (hT.run hm g w vals h1 h2 h3 h4 h5).mono ?_⟩
 rintro _ w' ⟨v, s, h', g', rfl, q, k1, k2, k3, k4, k5⟩
 have hno : g'.hid = none := k5.hid.trans h1
 obtain ⟨g2, s2, e2⟩ := Wk.fit (P := P) [] q.1.at g' ⟨#[v], []⟩ w' ⟨k1, k2, by simp only [Gh.denL, denL]; exact ⟨v, [], rfl, k3, rfl⟩, k4, by simp [dfden]⟩
 have d2 := s2.tm
 simp only [Gh.denL, denL] at d2
 obtain ⟨u, us, e, d2, _⟩ := d2
 have : u = v := by simpa using (List.cons.inj e).1.symm
 subst this
 exact ⟨u, s, h0, g2, rfl, ⟨rfl, q.2.at⟩, s2.ok, s2.lt, d2, s2.hp, ((k5.exw h.length).trans e2).ext h3 h1⟩
structure PartsOK (ms : List Mem) (f : Nat → Bool) (need U : Int) (k : Nat) (es : List ((Int × Int) × Int)) : Prop where
 nd : (es.map (·.1)).Nodup
 nn : ∀ e ∈ es, 0 ≤ e.2 ∧ e.2 ≤ k
 tot : ∀ x, totG es x = cntF (fun j => f j && decide (x < rst ms need U j)) k
theorem PartsOK.skip {ms : List Mem} {f : Nat → Bool} {need U : Int} {k : Nat} {es : List ((Int × Int) × Int)} (h : PartsOK ms f need U k es) (hf : f k = false) : PartsOK ms f need U (k + 1) es := by
 refine ⟨h.nd, fun e he => ?_, fun x => ?_⟩
 ·have := h.nn e he; omega
 ·rw [h.tot]; simp [cntF, hf]
theorem PartsOK.old {ms : List Mem} {f : Nat → Bool} {need U : Int} {k : Nat} {a b : List ((Int × Int) × Int)} {p : Int × Int} {c : Int} (h : PartsOK ms f need U k (a ++ (p, c) :: b)) (hf : f k = true) (hp : p = (quo ms need U k, rst ms need U k)) : PartsOK ms f need U (k + 1) (a ++ (p, c + 1) :: b) := by
 refine ⟨?_, fun e he => ?_, fun x => ?_⟩
 ·have := h.nd; simpa using this
 ·have hc := h.nn (p, c) (by simp)
  simp only [List.mem_append, List.mem_cons] at he
  rcases he with he | rfl | he
  ·have := h.nn e (by simp [he]); omega
  ·simp only at hc ⊢; omega
  ·have := h.nn e (by simp [he]); omega
 ·have ht := h.tot x
  simp only [totG_append, totG, cntF, hf, hp, Bool.true_and, decide_eq_true_eq] at ht ⊢
  split at ht <;> split <;> omega
theorem PartsOK.new {ms : List Mem} {f : Nat → Bool} {need U : Int} {k : Nat} {es : List ((Int × Int) × Int)} {p : Int × Int} (h : PartsOK ms f need U k es) (hf : f k = true) (hp : p = (quo ms need U k, rst ms need U k)) (hno : ∀ e ∈ es, p ≠ e.1) : PartsOK ms f need U (k + 1) (es ++ [(p, 1)]) := by
 refine ⟨?_, fun e he => ?_, fun x => ?_⟩
 ·rw [List.map_append, List.nodup_append]
  refine ⟨h.nd, by simp, fun a ha b hb e => ?_⟩
  simp at hb
  subst hb
  obtain ⟨q, hq, rfl⟩ := List.mem_map.1 ha
  exact hno q hq e.symm
 ·simp only [List.mem_append, List.mem_singleton] at he
  rcases he with he | rfl
  ·have := h.nn e he; omega
  ·simp only; omega
 ·have ht := h.tot x
  simp only [totG_append, totG, cntF, hf, hp, Bool.true_and, decide_eq_true_eq, ht]
  split <;> omega
theorem leftF_le {ms : List Mem} {f : Nat → Bool} {need U : Int} (h : ∀ i, i < ms.length → f i = true → 0 ≤ quo ms need U i ∧ quo ms need U i ≤ 3000000000) (h0 : 0 ≤ need ∧ need ≤ 300000) : ∀ k : Nat, k ≤ ms.length → leftF ms f need U k ≤ 300000 ∧ - (k * 3000000000) ≤ leftF ms f need U k
 | 0, _ => by simp [leftF]; omega
 | k + 1, hk => by
  have ih := leftF_le h h0 k (by omega)
  simp only [leftF]
  split
  ·have := h k (by omega) (by assumption); omega
  ·omega
theorem t134 (s : Soc) (f : Nat → Bool) (need : Int) (O : List Int) (hm : ∀ m ∈ s.members, OkM m) (hl : s.members.length ≤ 5) (hn : 0 ≤ need ∧ need ≤ 300000) :
  TF Tryz.prog 134 [.ptr 2 0, .int .i64 need] [.cells (socC s), .cells (socC s), .cells (encW s f .junk), .arr 3 1 (ints O)] (fun r h' => h' = [.cells (socC s), .cells (socC s), .cells (encW s f .junk), .arr 3 1 (ints O)] ∧ r = .agg (fi5 (shareF s.members f need))) := by
 have hz := encYs_len s.members
 have hU := fun k => unitsF_le hm f k
 refine TF.cutTo (TF.ev fn_134 (Ev.at ?_))
 (repeat' first | refine gx hg1 ?_ | (refine eg ?_; conv => whnf) | refine an ?_ ?_ | (refine iw ?_; intro rx hrx) | exact lf | intro _)
 all_goals try exact vy
 refine TWq.loop (fun k : Nat => [(5, .int .i64 (unitsF s.members f k)), (19, .int .i64 k), (7, .junk), (8, .junk)]) (fun _ => []) (fun k => k ≤ s.members.length) (fun k => s.members.length - k) 0 [] [] ?_ (by omega) ?_
 ·(repeat' first | refine gx hg1 ?_ | (refine eg ?_; conv => whnf) | refine an ?_ ?_ | (refine iw ?_; intro rx hrx) | exact lf | intro _)
  all_goals try exact vy
 ·intro k hk
  have hUk := hU k
  have hUk1 := hU (k + 1)
  rcases Nat.lt_or_ge k s.members.length with hkl | hkl
  ·obtain ⟨m, hmk⟩ : ∃ m, s.members[k]? = some m := ⟨_, List.getElem?_eq_getElem hkl⟩
   have om := hm m (List.mem_of_getElem? hmk)
   have ou := om.units
   have d82 := c197 m (by have := om.1; omega) (by have := om.2.1; omega)
   have hg1 : ∀ {n : Nat} {e : SV}, n = k → (encYs s.members)[n]? = some e → e = encY m := by
    rintro n e rfl he
    obtain ⟨x, hx, rfl⟩ := encYs_at he
    rw [hmk] at hx; cases hx; rfl
   have hat : (encW s f .junk)[0 + 5 + (k : Int).toNat * 1]? = some (.bool (f k)) := by
    rw [show 0 + 5 + (k : Int).toNat * 1 = 5 + k by simp]; exact encW_at (by omega)
   have hs1 : unitsF s.members f (k + 1) = unitsF s.members f k + (if f k = true then un s.members k else 0) := rfl
   rw [un_at hmk] at hs1
   cases hf : f k
   ·rw [hf] at hat hs1
    simp only [Bool.false_eq_true, if_false] at hs1
    (repeat' first | refine gx hg1 ?_ | (refine eg ?_; conv => whnf) | refine an ?_ ?_ | (refine iw ?_; intro rx hrx) | exact lf | intro _)
    all_goals try exact vy
    refine getK_of hat ?_
    (repeat' first | refine gx hg1 ?_ | (refine eg ?_; conv => whnf) | refine an ?_ ?_ | (refine iw ?_; intro rx hrx) | exact lf | intro _)
    all_goals try exact vy
    refine ⟨⟨k + 1, by omega, by omega, ?_⟩⟩
    (repeat' first | refine gx hg1 ?_ | (refine eg ?_; conv => whnf) | refine an ?_ ?_ | (refine iw ?_; intro rx hrx) | exact lf | intro _)
    all_goals try exact vy
    all_goals (refine ⟨?_⟩; rw [hs1]; omega)
   ·rw [hf] at hat hs1
    simp only [if_true] at hs1
    (repeat' first | refine gx hg1 ?_ | (refine eg ?_; conv => whnf) | refine an ?_ ?_ | (refine iw ?_; intro rx hrx) | exact lf | intro _)
    all_goals try exact vy
    refine getK_of hat ?_
    (repeat' first | refine gx hg1 ?_ | (refine eg ?_; conv => whnf) | refine an ?_ ?_ | (refine iw ?_; intro rx hrx) | exact lf | intro _)
    refine TSq.pureC d82 cl rfl (And.intro rfl rfl) ?_
    (repeat' first | refine gx hg1 ?_ | (refine eg ?_; conv => whnf) | refine an ?_ ?_ | (refine iw ?_; intro rx hrx) | exact lf | intro _)
    all_goals try exact vy
    refine ⟨⟨k + 1, by omega, by omega, ?_⟩⟩
    (repeat' first | refine gx hg1 ?_ | (refine eg ?_; conv => whnf) | refine an ?_ ?_ | (refine iw ?_; intro rx hrx) | exact lf | intro _)
    all_goals try exact vy
    all_goals (refine ⟨?_⟩; rw [hs1]; omega)
  ·have hke : k = s.members.length := by omega
   subst hke
   (repeat' first | refine gx hg1 ?_ | (refine eg ?_; conv => whnf) | refine an ?_ ?_ | (refine iw ?_; intro rx hrx) | exact lf | intro _)
   all_goals try exact vy
   have hpart : ∀ (k : Nat) (m : Mem), s.members[k]? = some m → f k = true → (1 ≤ unitsF s.members f s.members.length ∧ unitsF s.members f s.members.length ≤ 50000) ∧
     (0 ≤ quo s.members need (unitsF s.members f s.members.length) k ∧ quo s.members need (unitsF s.members f s.members.length) k ≤ 3000000000) := fun k m hk' hf => by
    have hkl := (List.getElem?_eq_some_iff.1 hk').1
    have h1 := unitsF_pos hm hk' hkl hf
    have h2 : unitsF s.members f s.members.length ≤ 50000 := by omega
    obtain ⟨_, _, _, a4, _⟩ := part_ok (need := need) (u := m.units) hn (hm m (List.mem_of_getElem? hk')).units ⟨h1, h2⟩
    rw [quo, un_at hk']
    exact ⟨⟨h1, h2⟩, a4⟩
   generalize hUU : unitsF s.members f s.members.length = U at *
   have hleft := leftF_le (ms := s.members) (f := f) (need := need) (U := U) (fun i hi hf => (hpart i _ (List.getElem?_eq_getElem hi) hf).2) hn
   refine TWq.loop (fun p : Nat × List ((Int × Int) × Int) => [(6, .int .i64 (leftF s.members f need U p.1)), (45, .int .i64 p.1), (9, .junk), (10, .junk)])
    (fun p => [(4, .cells (fi5 (g2 s.members f need U p.1))), (5, .map (encM p.2))]) (fun p => p.1 ≤ s.members.length ∧ PartsOK s.members f need U p.1 p.2) (fun p => s.members.length - p.1) (0, []) [] [] ?_ ⟨by omega, by simp, by simp, by simp [totG, cntF]⟩ ?_
   ·(repeat' first | refine gx hg1 ?_ | (refine eg ?_; conv => whnf) | refine an ?_ ?_ | (refine iw ?_; intro rx hrx) | exact lf | intro _)
    all_goals try exact vy
    all_goals (refine ⟨?_⟩; simp [g2, encM])
   ·rintro ⟨k, es⟩ ⟨hk, hpo⟩
    dsimp only at hk hpo ⊢
    have hlk := hleft k hk
    rcases Nat.lt_or_ge k s.members.length with hkl | hkl
    ·obtain ⟨m, hmk⟩ : ∃ m, s.members[k]? = some m := ⟨_, List.getElem?_eq_getElem hkl⟩
     have hlk1 := hleft (k + 1) hkl
     have hls : leftF s.members f need U (k + 1) = leftF s.members f need U k - (if f k = true then quo s.members need U k else 0) := rfl
     have hat : (encW s f (.mp 5))[0 + 5 + (k : Int).toNat * 1]? = some (.bool (f k)) := by
      rw [show 0 + 5 + (k : Int).toNat * 1 = 5 + k by simp]; exact encW_at (by omega)
     cases hf : f k
     ·rw [hf] at hat hls
      simp only [Bool.false_eq_true, if_false] at hls
      (repeat' first | refine gx hg1 ?_ | (refine eg ?_; conv => whnf) | refine an ?_ ?_ | (refine iw ?_; intro rx hrx) | exact lf | intro _)
      all_goals try exact vy
      refine getK_of hat ?_
      (repeat' first | refine gx hg1 ?_ | (refine eg ?_; conv => whnf) | refine an ?_ ?_ | (refine iw ?_; intro rx hrx) | exact lf | intro _)
      all_goals try exact vy
      refine ⟨⟨(k + 1, es), ⟨by dsimp only; omega, hpo.skip hf⟩, by dsimp only; omega, ?_⟩⟩
      (repeat' first | refine gx hg1 ?_ | (refine eg ?_; conv => whnf) | refine an ?_ ?_ | (refine iw ?_; intro rx hrx) | exact lf | intro _)
      all_goals try exact vy
      all_goals (exact ⟨g2_skip hf _⟩)
     ·rw [hf] at hat hls
      simp only [if_true] at hls
      obtain ⟨hU1, hq1⟩ := hpart k m hmk hf
      have d99 := c198 s f es k m need U hmk (hm m (List.mem_of_getElem? hmk)) hn hU1
      have hcs : k = 0 ∨ k = 1 ∨ k = 2 ∨ k = 3 ∨ k = 4 := by omega
      rcases hcs with rfl | rfl | rfl | rfl | rfl
      all_goals
       unfold encW at d99
       rw [hf] at d99
       (repeat' first | refine gx hg1 ?_ | (refine eg ?_; conv => whnf) | refine an ?_ ?_ | (refine iw ?_; intro rx hrx) | exact lf | intro _)
       all_goals try exact vy
       rw [hf]
       conv => whnf
       (repeat' first | refine gx hg1 ?_ | (refine eg ?_; conv => whnf) | refine an ?_ ?_ | (refine iw ?_; intro rx hrx) | exact lf | intro _)
       refine TSq.lendC d99 (by simp [scal, scalL, encS]) rfl (And.intro rfl ?_) ?_
       ·(repeat' first | refine gx hg1 ?_ | (refine eg ?_; conv => whnf) | refine an ?_ ?_ | (refine iw ?_; intro rx hrx) | exact lf | intro _)
        all_goals try exact vy
       (repeat' first | refine gx hg1 ?_ | (refine eg ?_; conv => whnf) | refine an ?_ ?_ | (refine iw ?_; intro rx hrx) | exact lf | intro _)
       all_goals try exact vy
       refine TWq.incr ?_
       (repeat' first | refine gx hg1 ?_ | (refine eg ?_; conv => whnf) | refine an ?_ ?_ | (refine iw ?_; intro rx hrx) | exact lf | intro _)
       all_goals try exact vy
       refine upd_cases (encM_nodup hpo.nd) ?_ ?_
       ·intro pre' v0 post' he'
        obtain ⟨a', x', b', rfl, rfl, hx', rfl, rfl⟩ := encM_split he'
        have hx' := encS_inj hx'
        obtain ⟨xp, xc⟩ := x'
        dsimp only at hx'
        have hc := hpo.nn (xp, xc) (by simp)
        dsimp only at hc
        have hpn := hpo.old hf hx'.symm
        subst hx'
        (repeat' first | refine gx hg1 ?_ | (refine eg ?_; conv => whnf) | refine an ?_ ?_ | (refine iw ?_; intro rx hrx) | exact lf | intro _)
        all_goals try exact vy
        refine ⟨⟨(_, _), ⟨?_, hpn⟩, ?_, ?_⟩⟩
        ·dsimp only; omega
        ·dsimp only; omega
        (repeat' first | refine gx hg1 ?_ | (refine eg ?_; conv => whnf) | refine an ?_ ?_ | (refine iw ?_; intro rx hrx) | exact lf | intro _)
        all_goals try exact vy
        all_goals (first | exact ⟨g2_at hf⟩ | exact ⟨g2_other (by decide)⟩ | exact ⟨hf.symm⟩ | (refine ⟨?_⟩; rw [hls]; omega) | (refine ⟨?_⟩; simp [encM, encS]; done) | (refine ⟨?_⟩; simp [encM, encS]; assumption))
       ·intro hno
        have hno' : ∀ e ∈ es, (quo s.members need U _, rst s.members need U _) ≠ e.1 := fun e he q => hno (encS e.1, .int .i64 e.2) (List.mem_map.2 ⟨e, he, rfl⟩) (by rw [← q]; rfl)
        have hpn := hpo.new hf rfl hno'
        (repeat' first | refine gx hg1 ?_ | (refine eg ?_; conv => whnf) | refine an ?_ ?_ | (refine iw ?_; intro rx hrx) | exact lf | intro _)
        all_goals try exact vy
        refine ⟨⟨(_, _), ⟨?_, hpn⟩, ?_, ?_⟩⟩
        ·dsimp only; omega
        ·dsimp only; omega
        (repeat' first | refine gx hg1 ?_ | (refine eg ?_; conv => whnf) | refine an ?_ ?_ | (refine iw ?_; intro rx hrx) | exact lf | intro _)
        all_goals try exact vy
        all_goals (first | exact ⟨g2_at hf⟩ | exact ⟨g2_other (by decide)⟩ | exact ⟨hf.symm⟩ | (refine ⟨?_⟩; rw [hls]; omega) | (refine ⟨?_⟩; simp [encM, encS]; done) | (refine ⟨?_⟩; simp [encM, encS]; assumption))
    ·have hke : k = s.members.length := by omega
     subst hke
     (repeat' first | refine gx hg1 ?_ | (refine eg ?_; conv => whnf) | refine an ?_ ?_ | (refine iw ?_; intro rx hrx) | exact lf | intro _)
     all_goals try exact vy
     refine TWq.loop (fun k : Nat => [(83, .int .i64 k), (11, .junk)]) (fun k => [(4, .cells (fi5 (g3 s.members f need U k)))]) (fun k => k ≤ s.members.length) (fun k => s.members.length - k) 0 [] [] ?_ (by omega) ?_
     ·(repeat' first | refine gx hg1 ?_ | (refine eg ?_; conv => whnf) | refine an ?_ ?_ | (refine iw ?_; intro rx hrx) | exact lf | intro _)
      all_goals try exact vy
      all_goals (exact ⟨g3_0 _⟩)
     ·intro k hk
      rcases Nat.lt_or_ge k s.members.length with hkl | hkl
      ·obtain ⟨m, hmk⟩ : ∃ m, s.members[k]? = some m := ⟨_, List.getElem?_eq_getElem hkl⟩
       have hat : (encW s f (.mp 5))[0 + 5 + (k : Int).toNat * 1]? = some (.bool (f k)) := by
        rw [show 0 + 5 + (k : Int).toNat * 1 = 5 + k by simp]; exact encW_at (by omega)
       cases hf : f k
       ·rw [hf] at hat
        (repeat' first | refine gx hg1 ?_ | (refine eg ?_; conv => whnf) | refine an ?_ ?_ | (refine iw ?_; intro rx hrx) | exact lf | intro _)
        all_goals try exact vy
        refine getK_of hat ?_
        (repeat' first | refine gx hg1 ?_ | (refine eg ?_; conv => whnf) | refine an ?_ ?_ | (refine iw ?_; intro rx hrx) | exact lf | intro _)
        all_goals try exact vy
        refine ⟨⟨k + 1, by omega, by omega, ?_⟩⟩
        (repeat' first | refine gx hg1 ?_ | (refine eg ?_; conv => whnf) | refine an ?_ ?_ | (refine iw ?_; intro rx hrx) | exact lf | intro _)
        all_goals try exact vy
        all_goals (exact ⟨g3_skip hf _⟩)
       ·obtain ⟨hU1, hq1⟩ := hpart k m hmk hf
        have d100 := c199 s f es k need U hm hl hkl hn hU1 (fun e he => (hpo.nn e he).1) hpo.tot
        have hbe : 0 ≤ beforeF s.members f need U k ∧ beforeF s.members f need U k ≤ 100 := by
         have q1 := cntF_le (fun j => f j && decide (rst s.members need U k < rst s.members need U j)) s.members.length
         have q2 := cntF_le (fun j => f j && decide (rst s.members need U j = rst s.members need U k)) k
         unfold beforeF
         omega
        have g3a := g3_at (need := need) (U := U) hkl hf
        have g3b := fun h => g3_no (ms := s.members) (f := f) (need := need) (U := U) (k := k) h
        generalize beforeF s.members f need U k = BE at *
        have hcs : k = 0 ∨ k = 1 ∨ k = 2 ∨ k = 3 ∨ k = 4 := by omega
        obtain ⟨k1, hk1⟩ : ∃ k1, k1 = k + 1 := ⟨_, rfl⟩
        rcases hcs with rfl | rfl | rfl | rfl | rfl
        all_goals
         unfold encW at d100
         rw [hf] at d100
         rcases Int.lt_or_le BE (leftF s.members f need U s.members.length) with hlt | hge
         ·obtain ⟨ga, gb⟩ := g3a hlt
          (repeat' first | refine gx hg1 ?_ | (refine eg ?_; conv => whnf) | refine an ?_ ?_ | (refine iw ?_; intro rx hrx) | exact lf | intro _)
          all_goals try exact vy
          rw [hf]
          conv => whnf
          (repeat' first | refine gx hg1 ?_ | (refine eg ?_; conv => whnf) | refine an ?_ ?_ | (refine iw ?_; intro rx hrx) | exact lf | intro _)
          refine TSq.lendC d100 (by simp [scal, scalL, encS]) rfl (And.intro rfl ?_) ?_
          ·(repeat' first | refine gx hg1 ?_ | (refine eg ?_; conv => whnf) | refine an ?_ ?_ | (refine iw ?_; intro rx hrx) | exact lf | intro _)
           all_goals try exact vy
          (repeat' first | refine gx hg1 ?_ | (refine eg ?_; conv => whnf) | refine an ?_ ?_ | (refine iw ?_; intro rx hrx) | exact lf | intro _)
          all_goals try exact vy
          refine ⟨⟨k1, by omega, by omega, ?_⟩⟩
          subst hk1
          (repeat' first | refine gx hg1 ?_ | (refine eg ?_; conv => whnf) | refine an ?_ ?_ | (refine iw ?_; intro rx hrx) | exact lf | intro _)
          all_goals try exact vy
          all_goals (first | exact ⟨g3_other (by decide)⟩ | exact ⟨hf.symm⟩ | (refine ⟨?_⟩; rw [gb]; omega))
         ·have gc := g3b (by omega)
          (repeat' first | refine gx hg1 ?_ | (refine eg ?_; conv => whnf) | refine an ?_ ?_ | (refine iw ?_; intro rx hrx) | exact lf | intro _)
          all_goals try exact vy
          rw [hf]
          conv => whnf
          (repeat' first | refine gx hg1 ?_ | (refine eg ?_; conv => whnf) | refine an ?_ ?_ | (refine iw ?_; intro rx hrx) | exact lf | intro _)
          refine TSq.lendC d100 (by simp [scal, scalL, encS]) rfl (And.intro rfl ?_) ?_
          ·(repeat' first | refine gx hg1 ?_ | (refine eg ?_; conv => whnf) | refine an ?_ ?_ | (refine iw ?_; intro rx hrx) | exact lf | intro _)
           all_goals try exact vy
          (repeat' first | refine gx hg1 ?_ | (refine eg ?_; conv => whnf) | refine an ?_ ?_ | (refine iw ?_; intro rx hrx) | exact lf | intro _)
          all_goals try exact vy
          refine ⟨⟨k1, by omega, by omega, ?_⟩⟩
          subst hk1
          (repeat' first | refine gx hg1 ?_ | (refine eg ?_; conv => whnf) | refine an ?_ ?_ | (refine iw ?_; intro rx hrx) | exact lf | intro _)
          all_goals try exact vy
          all_goals (first | exact ⟨gc _⟩ | exact ⟨hf.symm⟩)
      ·have hke : k = s.members.length := by omega
       subst hke
       (repeat' first | refine gx hg1 ?_ | (refine eg ?_; conv => whnf) | refine an ?_ ?_ | (refine iw ?_; intro rx hrx) | exact lf | intro _)
       all_goals try exact vy
       subst hUU
       simp only [g3_n, fi5]
end Go.Proofs.YtjadiajfbflghaaGreat
open Go Go.TV
namespace Go.Proofs.YtjadiajfbflghaaGreat
def partF (t : Tf) (crop day count : Int) : Int := if t.least ≤ lossF t crop day count then (if t.whole = true then lossF t crop day count else lossF t crop day count - t.least) else 0
theorem c210 (t : Tf) (n : Int) : PF Tryz.prog 210 [encTf t, .int .i64 n] (· = .int .i64 n) := by
 refine PF.of (TF.ev fn_210 (Ev.at ?_))
 (repeat' first | (refine eg ?_; conv => whnf) | refine an ?_ ?_ | (refine iw ?_; intro rx hrx) | exact lf | intro _)
 try rfl
theorem c211 (t : Tf) (n : Int) (hn : 0 ≤ n ∧ n ≤ 1000) (hl : 0 ≤ t.least ∧ t.least ≤ 1000) : PF Tryz.prog 211 [encTf t, .int .i64 n] (· = .int .i64 (n - t.least)) := by
 refine PF.of (TF.ev fn_211 (Ev.at ?_))
 (repeat' first | (refine eg ?_; conv => whnf) | refine an ?_ ?_ | (refine iw ?_; intro rx hrx) | exact lf | intro _)
 all_goals try exact vy
 all_goals (first | rfl | (subst hrx; rfl))
theorem c155 (t : Tf) : PF Tryz.prog 155 [encTf t] (· = .agg [.fn (if t.whole = true then 210 else 211) [] []]) := by
 obtain ⟨frm, whole, least, weeks, counts, rates⟩ := t
 cases whole
 all_goals
  refine PF.of (TF.ev fn_155 (Ev.at ?_))
  (repeat' first | (refine eg ?_; conv => whnf) | refine an ?_ ?_ | (refine iw ?_; intro rx hrx) | exact lf | intro _)
  all_goals try exact vy
  all_goals (try rfl)
theorem shP (a b c : Int) : shOK (.st [(0, 1, false, .int .i64), (1, 1, false, .int .i64), (2, 1, false, .int .i64)]) (.agg [.int .i64 a, .int .i64 b, .int .i64 c]) := by simp [shOK, shF, partK, getK, lenIs]
theorem shQ : ∀ e ∈ ([] : List (SV × SV)), shOK (.st [(0, 1, false, .int .i64), (1, 1, false, .int .i64), (2, 1, false, .int .i64)]) e.1 := by simp
def offB (l : List Tf) (es : List (SV × SV)) : List LB := [.map es, .cells [.sl 6 (encTfs l), .mp 0]]
theorem t89 (l : List Tf) (t : Tf) (crop day count : Int) (hl : l.length ≤ 1000) (ht : atF l day l.length = some t) (o : OkT t) (hc : 0 ≤ crop ∧ crop < t.rates.length) (hn : 0 ≤ count ∧ count ≤ 100) :
  TF Tryz.prog 89 [.ptr 1 0, .agg [.int .i64 crop, .int .i64 day, .int .i64 count]] (offB l []) (fun r h' => h' = offB l [(.agg [.int .i64 crop, .int .i64 day, .int .i64 count], .int .i64 (partF t crop day count))] ∧ r = .int .i64 (partF t crop day count)) := by
 have d1 := c153 l day t hl ht
 obtain ⟨d2, hb1, hb2⟩ := c154 t o crop day count hc hn
 have d3 := c155 t
 have d4 := c210 t (lossF t crop day count)
 have d5 := c211 t (lossF t crop day count) (by omega) (by have := o.least; omega)
 have hle := o.least
 have hP : partF t crop day count = if t.least ≤ lossF t crop day count then (if t.whole = true then lossF t crop day count else lossF t crop day count - t.least) else 0 := rfl
 generalize lossF t crop day count = L at *
 generalize partF t crop day count = Q at *
 refine TF.cutTo (TF.ev fn_89 (Ev.at ?_))
 unfold offB
 (repeat' first | (refine eg ?_; conv => whnf) | refine an ?_ ?_ | (refine iw ?_; intro rx hrx) | exact lf | intro _)
 all_goals (first | exact ⟨shP _ _ _⟩ | exact ⟨shQ⟩ | skip)
 refine .inr ⟨by simp, ?_⟩
 (repeat' first | (refine eg ?_; conv => whnf) | refine an ?_ ?_ | (refine iw ?_; intro rx hrx) | exact lf | intro _)
 all_goals try exact vz
 refine TDq.pureC d1 (by simp [cloL, clo, encTfs_clo]) rfl (And.intro rfl rfl) ?_
 (repeat' first | (refine eg ?_; conv => whnf) | refine an ?_ ?_ | (refine iw ?_; intro rx hrx) | exact lf | intro _)
 all_goals try exact vz
 refine TSq.pureC d2 (by simp [cloL, clo, encTf, encCrs_clo, ints_clo]) rfl (And.intro rfl rfl) ?_
 (repeat' first | (refine eg ?_; conv => whnf) | refine an ?_ ?_ | (refine iw ?_; intro rx hrx) | exact lf | intro _)
 all_goals try exact vy
 ·rw [if_pos (by assumption)] at hP
  by_cases hwh : t.whole = true
  ·rw [if_pos hwh] at d3 hP
   refine TDq.pureC d3 (by simp [cloL, clo, encTf, encCrs_clo, ints_clo]) rfl (And.intro rfl rfl) ?_
   (repeat' first | (refine eg ?_; conv => whnf) | refine an ?_ ?_ | (refine iw ?_; intro rx hrx) | exact lf | intro _)
   all_goals try exact vz
   refine TDq.pureC d4 (by simp [cloL, clo, encTf, encCrs_clo, ints_clo]) rfl (And.intro rfl rfl) ?_
   (repeat' first | (refine eg ?_; conv => whnf) | refine an ?_ ?_ | (refine iw ?_; intro rx hrx) | exact lf | intro _)
   all_goals try exact vz
   all_goals (first | exact ⟨shP _ _ _⟩ | exact ⟨shQ⟩ | skip)
   refine .inr ⟨by simp, ?_⟩
   rw [hP]
   (repeat' first | (refine eg ?_; conv => whnf) | refine an ?_ ?_ | (refine iw ?_; intro rx hrx) | exact lf | intro _)
   all_goals try exact vz
   all_goals (try (refine ⟨?_⟩; simp [cloM, clo, cloL]; done))
   all_goals (try rfl)
  ·rw [if_neg hwh] at d3 hP
   refine TDq.pureC d3 (by simp [cloL, clo, encTf, encCrs_clo, ints_clo]) rfl (And.intro rfl rfl) ?_
   (repeat' first | (refine eg ?_; conv => whnf) | refine an ?_ ?_ | (refine iw ?_; intro rx hrx) | exact lf | intro _)
   all_goals try exact vz
   refine TDq.pureC d5 (by simp [cloL, clo, encTf, encCrs_clo, ints_clo]) rfl (And.intro rfl rfl) ?_
   (repeat' first | (refine eg ?_; conv => whnf) | refine an ?_ ?_ | (refine iw ?_; intro rx hrx) | exact lf | intro _)
   all_goals try exact vz
   all_goals (first | exact ⟨shP _ _ _⟩ | exact ⟨shQ⟩ | skip)
   refine .inr ⟨by simp, ?_⟩
   rw [hP]
   (repeat' first | (refine eg ?_; conv => whnf) | refine an ?_ ?_ | (refine iw ?_; intro rx hrx) | exact lf | intro _)
   all_goals try exact vz
   all_goals (try (refine ⟨?_⟩; simp [cloM, clo, cloL]; done))
   all_goals (try rfl)
 ·rw [if_neg (by omega)] at hP
  all_goals (first | exact ⟨shP _ _ _⟩ | exact ⟨shQ⟩ | skip)
 ·rw [if_neg (by omega)] at hP
  refine .inr ⟨by simp, ?_⟩
  rw [hP]
  (repeat' first | (refine eg ?_; conv => whnf) | refine an ?_ ?_ | (refine iw ?_; intro rx hrx) | exact lf | intro _)
  all_goals try exact vz
  all_goals (try (refine ⟨?_⟩; simp [cloM, clo, cloL]; done))
  all_goals (try rfl)
end Go.Proofs.YtjadiajfbflghaaGreat
open Go Go.TV
namespace Go.Proofs.YtjadiajfbflghaaGreat
structure Clm where
 crop : Int
 value : Int
 day : Rng
 count : Rng
def encClm (c : Clm) : SV := .agg [.int .i64 c.crop, .int .i64 c.value, .int .i64 c.day.lo, .int .i64 c.day.hi, .int .i64 c.count.lo, .int .i64 c.count.hi]
def Rng.ofB (r : Rng) (m : Int) : Bool := decide (0 ≤ r.lo) && (decide (r.lo ≤ r.hi) && decide (r.hi ≤ m))
theorem c137 (r : Rng) (n : Int) : PF Tryz.prog 137 [encR r, .int .i64 n] (· = .bool (within n r.lo r.hi)) := by
 refine PF.of (TF.ev fn_137 (Ev.at ?_))
 (repeat' first | (refine eg ?_; conv => whnf) | refine an ?_ ?_ | (refine iw ?_; intro rx hrx) | exact lf | intro _)
 all_goals try exact vy
 refine TSq.pureC (c152 n r.lo r.hi) cl rfl (And.intro rfl rfl) ?_
 (repeat' first | (refine eg ?_; conv => whnf) | refine an ?_ ?_ | (refine iw ?_; intro rx hrx) | exact lf | intro _)
 try rfl
theorem c204 (r : Rng) (m : Int) : PF Tryz.prog 204 [encR r, .int .i64 m] (· = .bool (r.ofB m)) := by
 refine PF.of (TF.ev fn_204 (Ev.at ?_))
 (repeat' first | (refine eg ?_; conv => whnf) | refine an ?_ ?_ | (refine iw ?_; intro rx hrx) | exact lf | intro _)
 all_goals try exact vy
 all_goals (rw [SV.bool_iff]; simp only [Rng.ofB, Bool.and_eq_true, decide_eq_true_eq]; simp; omega)
theorem c87 (l : List Tf) (t : Tf) (n : Int) (ht : l[0]? = some t) (hl : t.rates.length ≤ 1000) (hll : l.length ≤ 1000) : PF Tryz.prog 87 [.agg [.sl 6 (encTfs l)], .int .i64 n] (· = .bool (within n 0 (t.rates.length - 1))) := by
 have hz := encTfs_len l
 have hw := encCrs_len t.rates
 have h0 := (List.getElem?_eq_some_iff.1 ht).1
 have hg1 : ∀ {n : Nat} {e : SV}, n = 0 → (encTfs l)[n]? = some e → e = encTf t := by
  rintro n e rfl he
  obtain ⟨x, hx, rfl⟩ := encTfs_at he
  rw [ht] at hx; cases hx; rfl
 refine PF.of (TF.ev fn_87 (Ev.at ?_))
 (repeat' first | refine gx hg1 ?_ | (refine eg ?_; conv => whnf) | refine an ?_ ?_ | (refine iw ?_; intro rx hrx) | exact lf | intro _)
 all_goals try exact vy
 obtain rfl : rx = (t.rates.length : Int) - 1 := by omega
 refine TSq.pureC (c152 n 0 (t.rates.length - 1)) cl rfl (And.intro rfl rfl) ?_
 (repeat' first | refine gx hg1 ?_ | (refine eg ?_; conv => whnf) | refine an ?_ ?_ | (refine iw ?_; intro rx hrx) | exact lf | intro _)
 try rfl
def Clm.ok (c : Clm) (m : Int) : Bool := within c.crop 0 m && (within c.value 0 100000 && (c.day.ofB 120 && (decide (c.day.hi - c.day.lo ≤ 10) && c.count.ofB 100)))
theorem c149 (l : List Tf) (t : Tf) (c : Clm) (ht : l[0]? = some t) (hl : t.rates.length ≤ 1000) (hll : l.length ≤ 1000) (hok : c.ok (t.rates.length - 1) = true) : PF Tryz.prog 149 [.agg [.sl 6 (encTfs l)], encClm c] (· = .bool true) := by
 simp only [Clm.ok, Bool.and_eq_true, decide_eq_true_eq] at hok
 obtain ⟨h1, h2, h3, h4, h5⟩ := hok
 have d1 := c87 l t c.crop ht hl hll
 have d2 := c152 c.value 0 100000
 have d3 := c204 c.day 120
 have d4 := c204 c.count 100
 rw [h1] at d1; rw [h2] at d2; rw [h3] at d3; rw [h5] at d4
 have h3' := h3
 simp only [Rng.ofB, Bool.and_eq_true, decide_eq_true_eq] at h3'
 refine PF.of (TF.ev fn_149 (Ev.at ?_))
 (repeat' first | (refine eg ?_; conv => whnf) | refine an ?_ ?_ | (refine iw ?_; intro rx hrx) | exact lf | intro _)
 all_goals try exact vy
 refine TSq.pureC d1 (by simp [cloL, clo, encTfs_clo]) rfl (And.intro rfl rfl) ?_
 (repeat' first | (refine eg ?_; conv => whnf) | refine an ?_ ?_ | (refine iw ?_; intro rx hrx) | exact lf | intro _)
 refine TSq.pureC d2 cl rfl (And.intro rfl rfl) ?_
 (repeat' first | (refine eg ?_; conv => whnf) | refine an ?_ ?_ | (refine iw ?_; intro rx hrx) | exact lf | intro _)
 refine TSq.pureC d3 cl rfl (And.intro rfl rfl) ?_
 (repeat' first | (refine eg ?_; conv => whnf) | refine an ?_ ?_ | (refine iw ?_; intro rx hrx) | exact lf | intro _)
 all_goals (try (exfalso; omega))
 refine TSq.pureC d4 cl rfl (And.intro rfl rfl) ?_
 (repeat' first | (refine eg ?_; conv => whnf) | refine an ?_ ?_ | (refine iw ?_; intro rx hrx) | exact lf | intro _)
 try rfl
end Go.Proofs.YtjadiajfbflghaaGreat
open Go Go.TV
namespace Go.Proofs.YtjadiajfbflghaaGreat
def encClms (l : List Clm) : List SV := l.map encClm
theorem encClms_len (l : List Clm) : (encClms l).length = l.length := List.length_map _
theorem encClms_at {l : List Clm} {n : Nat} {e : SV} (h : (encClms l)[n]? = some e) : ∃ x, l[n]? = some x ∧ e = encClm x := map_at h
theorem encClms_clo (l : List Clm) : cloL (encClms l) := by
 rw [cloL_iff]; intro s hs; obtain ⟨x, _, rfl⟩ := List.mem_map.1 hs; simp [encClm, clo, cloL]
theorem noClm (l0 : List Tf) (y : Clm) (b : Bool) (h : PF Tryz.prog 149 [.agg [.sl 6 (encTfs l0)], encClm y] (· = .bool b)) : PF Tryz.prog 206 [encClm y, .iptr (.agg [.fn 149 [.agg [.sl 6 (encTfs l0)]] []]) 0] (· = .bool !b) := by
 refine PF.of (TF.ev fn_206 (Ev.at ?_))
 (repeat' first | (refine eg ?_; conv => whnf) | refine an ?_ ?_ | (refine iw ?_; intro rx hrx) | exact lf | intro _)
 all_goals try exact vy
 refine TSq.pureBC h (by simp [cloL, clo, encClm, encTfs_clo, encClms_clo]) rfl (And.intro rfl rfl) ?_ ?_ <;> intro hb
 all_goals
  subst hb
  (repeat' first | (refine eg ?_; conv => whnf) | refine an ?_ ?_ | (refine iw ?_; intro rx hrx) | exact lf | intro _)
  try rfl
theorem ixClm (l0 : List Tf) (l : List (Clm)) (p : Clm → Bool) (hp : ∀ y ∈ l, PF Tryz.prog 149 [.agg [.sl 6 (encTfs l0)], encClm y] (· = .bool (p y))) (hlen : l.length ≤ 1000000) :
  PF Tryz.prog 242 [.sl 6 (encClms l), .fn 206 [] [.iptr (.agg [.fn 149 [.agg [.sl 6 (encTfs l0)]] []]) 0]] fun s => ∃ i : Int, s = .int .i64 i ∧ (0 ≤ i ↔ l.any (fun y => !p y) = true) := by
 have hz := encClms_len l
 refine PF.of (TF.ev fn_242 (Ev.at ?_))
 (repeat' first | refine gx hg1 ?_ | (refine eg ?_; conv => whnf) | refine an ?_ ?_ | (refine iw ?_; intro rx hrx) | exact lf | intro _)
 refine TWq.loop (fun k : Nat => [(8, .int .i64 k)]) (fun _ => []) (fun k => k ≤ l.length ∧ (l.take k).any (fun y => !p y) = false) (fun k => l.length - k) 0 [] [] ?_ ⟨by omega, by simp⟩ ?_
 ·(repeat' first | refine gx hg1 ?_ | (refine eg ?_; conv => whnf) | refine an ?_ ?_ | (refine iw ?_; intro rx hrx) | exact lf | intro _)
  all_goals try exact vy
 ·rintro k ⟨hk, hno⟩
  rcases Nat.lt_or_ge k l.length with hkl | hkl
  ·obtain ⟨v, hv⟩ : ∃ v, l[k]? = some v := ⟨_, List.getElem?_eq_getElem hkl⟩
   have hm := List.mem_of_getElem? hv
   have hg1 : ∀ {n : Nat} {e : SV}, n = k → (encClms l)[n]? = some e → e = encClm v := by
    rintro n e rfl he
    obtain ⟨x, hx, rfl⟩ := encClms_at he
    rw [hv] at hx; cases hx; rfl
   have hno1 := noClm l0 v _ (hp v hm)
   (repeat' first | refine gx hg1 ?_ | (refine eg ?_; conv => whnf) | refine an ?_ ?_ | (refine iw ?_; intro rx hrx) | exact lf | intro _)
   all_goals try exact vy
   refine TSq.pureBC hno1 (by simp [cloL, clo, encClm, encTfs_clo, encClms_clo]) rfl (And.intro rfl rfl) ?_ ?_ <;> intro hb
   ·(repeat' first | refine gx hg1 ?_ | (refine eg ?_; conv => whnf) | refine an ?_ ?_ | (refine iw ?_; intro rx hrx) | exact lf | intro _)
    all_goals try exact vy
    exact ⟨k, rfl, ⟨fun _ => List.any_eq_true.2 ⟨v, hm, hb⟩, fun _ => by omega⟩⟩
   ·(repeat' first | refine gx hg1 ?_ | (refine eg ?_; conv => whnf) | refine an ?_ ?_ | (refine iw ?_; intro rx hrx) | exact lf | intro _)
    all_goals try exact vy
    refine ⟨⟨k + 1, ⟨by omega, by rw [take_snoc hv, List.any_append, hno]; simp_all⟩, by omega, ?_⟩⟩
    (repeat' first | refine gx hg1 ?_ | (refine eg ?_; conv => whnf) | refine an ?_ ?_ | (refine iw ?_; intro rx hrx) | exact lf | intro _)
    all_goals try exact vy
  ·have hke : k = l.length := by omega
   subst hke
   rw [List.take_length] at hno
   (repeat' first | refine gx hg1 ?_ | (refine eg ?_; conv => whnf) | refine an ?_ ?_ | (refine iw ?_; intro rx hrx) | exact lf | intro _)
   all_goals try exact vy
   exact ⟨-1, rfl, by rw [hno]; simp⟩
theorem coClm (l0 : List Tf) (l : List (Clm)) (p : Clm → Bool) (hp : ∀ y ∈ l, PF Tryz.prog 149 [.agg [.sl 6 (encTfs l0)], encClm y] (· = .bool (p y))) (hlen : l.length ≤ 1000000) :
  PF Tryz.prog 205 [.sl 6 (encClms l), .fn 206 [] [.iptr (.agg [.fn 149 [.agg [.sl 6 (encTfs l0)]] []]) 0]] (· = .bool (l.any fun y => !p y)) := by
 refine PF.of (TF.ev fn_205 (Ev.at ?_))
 (repeat' first | (refine eg ?_; conv => whnf) | refine an ?_ ?_ | (refine iw ?_; intro rx hrx) | exact lf | intro _)
 refine TSq.pureQ rfl (ixClm l0 l p hp hlen) (by simp [cloL, clo, encClm, encTfs_clo, encClms_clo]) rfl (And.intro rfl rfl) ?_
 rintro s ⟨i, rfl, hi⟩ _
 (repeat' first | (refine eg ?_; conv => whnf) | refine an ?_ ?_ | (refine iw ?_; intro rx hrx) | exact lf | intro _)
 all_goals (rw [SV.bool_iff]; rw [← hi]; simp; omega)
theorem alClm (l0 : List Tf) (l : List (Clm)) (p : Clm → Bool) (hp : ∀ y ∈ l, PF Tryz.prog 149 [.agg [.sl 6 (encTfs l0)], encClm y] (· = .bool (p y))) (hlen : l.length ≤ 1000000) :
  PF Tryz.prog 150 [.sl 6 (encClms l), .fn 149 [.agg [.sl 6 (encTfs l0)]] []] (· = .bool (l.all p)) := by
 refine PF.of (TF.ev fn_150 (Ev.at ?_))
 (repeat' first | (refine eg ?_; conv => whnf) | refine an ?_ ?_ | (refine iw ?_; intro rx hrx) | exact lf | intro _)
 refine TSq.lendBC (coClm l0 l p hp hlen) rfl (And.intro rfl ?_) ?_ ?_
 ·(repeat' first | (refine eg ?_; conv => whnf) | refine an ?_ ?_ | (refine iw ?_; intro rx hrx) | exact lf | intro _)
  all_goals try exact vy
 all_goals
  intro hb
  (repeat' first | (refine eg ?_; conv => whnf) | refine an ?_ ?_ | (refine iw ?_; intro rx hrx) | exact lf | intro _)
  all_goals try exact vy
  all_goals (rw [SV.bool_iff]; simp_all [List.all_eq_not_any_not])
end Go.Proofs.YtjadiajfbflghaaGreat
open Go Go.TV
namespace Go.Proofs.YtjadiajfbflghaaGreat
theorem t148 (l : List Tf) : TF Tryz.prog 148 [.sl 6 (encTfs l)] [] (fun r h' => h' = offB l [] ∧ r = .ptr 1 0) := by
 refine TF.cutTo (TF.ev fn_148 (Ev.at ?_))
 unfold offB
 (repeat' first | (refine eg ?_; conv => whnf) | refine an ?_ ?_ | (refine iw ?_; intro rx hrx) | exact lf | intro _)
 all_goals try exact vy
 all_goals (try exact ⟨by simp [cloM]⟩)
 all_goals (try rfl)
theorem t84 (l : List Tf) (cs : List Clm) (hv : ValidTs l) (hok : ∀ c ∈ cs, ∀ t, l[0]? = some t → c.ok (t.rates.length - 1) = true) (hl : cs.length ≤ 1000) :
  TF Tryz.prog 84 [.sl 6 (encTfs l), .sl 6 (encClms cs)] [] (fun r h' => h' = offB l [] ∧ r = .tup [.ptr 1 0, .int .i64 0]) := by
 have d1 := c115 l hv
 have hl3 := hv.len
 obtain ⟨a, ha⟩ : ∃ a, l[0]? = some a := ⟨_, List.getElem?_eq_getElem hv.ne⟩
 have hf := hv.few a (List.mem_of_getElem? ha)
 simp only [Tf.few, Bool.and_eq_true, decide_eq_true_eq] at hf
 have d2 := alClm l cs (fun _ => true) (fun c hc => c149 l a c ha (by omega) (by omega) (hok c hc a ha)) (by omega)
 rw [show (cs.all fun _ => true) = true from List.all_eq_true.2 fun y hy => rfl] at d2
 have d3 := t148 l
 refine TF.cutTo (TF.ev fn_84 (Ev.at ?_))
 unfold offB at d3 ⊢
 (repeat' first | (refine eg ?_; conv => whnf) | refine an ?_ ?_ | (refine iw ?_; intro rx hrx) | exact lf | intro _)
 refine TSq.pureC d1 (by simp [cloL, clo, encTfs_clo]) rfl (And.intro rfl rfl) ?_
 (repeat' first | (refine eg ?_; conv => whnf) | refine an ?_ ?_ | (refine iw ?_; intro rx hrx) | exact lf | intro _)
 refine TSq.callT rfl rfl (calleeK_const (And.intro rfl rfl) (d3.mono ?_))
 rintro _ _ ⟨rfl, rfl⟩
 (repeat' first | (refine eg ?_; conv => whnf) | refine an ?_ ?_ | (refine iw ?_; intro rx hrx) | exact lf | intro _)
 all_goals try exact vy
 refine TSq.pureC d2 (by simp [cloL, clo, encTfs_clo, encClms_clo]) rfl (And.intro rfl rfl) ?_
 (repeat' first | (refine eg ?_; conv => whnf) | refine an ?_ ?_ | (refine iw ?_; intro rx hrx) | exact lf | intro _)
 all_goals try exact vy
 all_goals (try exact ⟨by simp [cloM]⟩)
 all_goals (try rfl)
end Go.Proofs.YtjadiajfbflghaaGreat
open Go Go.TV
namespace Go.Proofs.YtjadiajfbflghaaGreat
theorem at_mem {l : List Tf} {d : Int} {t : Tf} : ∀ {k : Nat}, atF l d k = some t → ∃ i : Nat, l[i]? = some t
 | k + 1, h => by
  rw [atF] at h
  split at h
  ·rename_i v hv
   split at h
   ·cases h; exact ⟨k, hv⟩
   ·exact at_mem h
  ·exact at_mem h
theorem at_some {l : List Tf} {d : Int} (hf : ∀ t, l[0]? = some t → t.frm = 0) (hd : 0 ≤ d) : ∀ {k : Nat}, 0 < k → k ≤ l.length → ∃ t, atF l d k = some t
 | k + 1, _, hk => by
  rw [atF]
  have hv : l[k]? = some (l[k]'(by omega)) := List.getElem?_eq_getElem (by omega)
  rw [hv]
  dsimp only
  split
  ·exact ⟨_, rfl⟩
  ·rename_i hne
   rcases Nat.eq_zero_or_pos k with h0 | h0
   ·subst h0
    have := hf _ hv
    omega
   ·exact at_some hf hd h0 (by omega)
theorem partF_le {t : Tf} (o : OkT t) {crop day count : Int} (hc : 0 ≤ crop ∧ crop < t.rates.length) (hn : 0 ≤ count ∧ count ≤ 100) : 0 ≤ partF t crop day count ∧ partF t crop day count ≤ 100 := by
 obtain ⟨_, h1, h2⟩ := c154 t o crop day count hc hn
 have hl := o.least
 unfold partF
 split
 ·split <;> omega
 ·omega
theorem t138 (l : List Tf) (t : Tf) (c : Clm) (d n : Int) (hl : l.length ≤ 1000) (ht : atF l d l.length = some t) (o : OkT t) (hc : 0 ≤ c.crop ∧ c.crop < t.rates.length) (hn : 0 ≤ n ∧ n ≤ 100) (hv : 0 ≤ c.value ∧ c.value ≤ 100000) :
  TF Tryz.prog 138 [.ptr 1 0, encClm c, .agg [.int .i64 d, .int .i64 n]] (offB l []) (fun r h' => h' = offB l [(.agg [.int .i64 c.crop, .int .i64 d, .int .i64 n], .int .i64 (partF t c.crop d n))] ∧ r = .int .i64 (c.value * partF t c.crop d n / 100)) := by
 have d1 := t89 l t c.crop d n hl ht o hc hn
 obtain ⟨hp1, hp2⟩ := partF_le (day := d) o hc hn
 have m1 : 0 ≤ c.value * partF t c.crop d n := Int.mul_nonneg hv.1 hp1
 have m2 : c.value * partF t c.crop d n ≤ 100000 * 100 := Int.mul_le_mul hv.2 hp2 hp1 (by omega)
 have hsub1 : ∀ {x y : Int}, x = IntKind.i64.wrap (c.value * y) → y = partF t c.crop d n → x = c.value * partF t c.crop d n := fun h e => by rw [h, e, IntWalk.i64_in _ (by omega)]
 have hsub2 : ∀ {x y : Int}, x = IntKind.i64.wrap (y.tdiv 100) → y = c.value * partF t c.crop d n → x = c.value * partF t c.crop d n / 100 := fun h e => by
  rw [h, e, Int.tdiv_eq_ediv_of_nonneg m1, IntWalk.i64_in _ (by omega)]
 have hz : c.value * partF t c.crop d n / 100 = c.value * partF t c.crop d n / 100 := rfl
 generalize partF t c.crop d n = Q at *
 generalize c.value * Q = z at *
 generalize z / 100 = q at *
 refine TF.cutTo (TF.ev fn_138 (Ev.at ?_))
 unfold offB at *
 (repeat' first | (intro rx hrx; have hq := hsub1 hrx (by omega); subst hq; clear hrx) | (intro rx hrx; have hq := hsub2 hrx (by omega); subst hq; clear hrx) | (refine eg ?_; conv => whnf) | refine an ?_ ?_ | (refine iw ?_; intro rx hrx) | exact lf | intro _)
 all_goals try exact vy
 refine TDq.callF [0, 1] [(0, .map [(.agg [.int .i64 c.crop, .int .i64 d, .int .i64 n], .int .i64 Q)]), (1, .cells [.sl 6 (encTfs l), .mp 0])] d1 rfl (And.intro rfl rfl) rfl rfl (by decide) (allLt_iff rfl) (fun _ => rfl) (fun _ => rfl)
  (fun N a ha => by match a, ha with | 0, _ => exact ⟨rfl, rfl⟩ | 1, _ => exact ⟨rfl, rfl⟩) (fun N a ha => by match a, ha with | 0, _ => exact ⟨rfl, rfl⟩ | 1, _ => exact ⟨rfl, rfl⟩) rfl ?_
 (repeat' first | (intro rx hrx; have hq := hsub1 hrx (by omega); subst hq; clear hrx) | (intro rx hrx; have hq := hsub2 hrx (by omega); subst hq; clear hrx) | (refine eg ?_; conv => whnf) | refine an ?_ ?_ | (refine iw ?_; intro rx hrx) | exact lf | intro _)
 all_goals try exact vz
 all_goals (try (refine ⟨?_⟩; simp [cloM, clo, cloL]; done))
 all_goals (try rfl)
def payF (l : List Tf) (crop value day n : Int) : Int := match atF l day l.length with
 | some t => value * partF t crop day n / 100
 | none => 0
theorem c76 (l : List Tf) (a : Tf) (crop value d n : Int) (hv : ValidTs l) (ha : l[0]? = some a) (hc : 0 ≤ crop ∧ crop < a.rates.length) (hva : 0 ≤ value ∧ value ≤ 100000) (hd : 0 ≤ d ∧ d ≤ 120) (hn : 0 ≤ n ∧ n ≤ 100) :
  PF Tryz.prog 76 [.sl 6 (encTfs l), encClm ⟨crop, value, ⟨d, d⟩, ⟨n, n⟩⟩, .agg [.int .i64 d, .int .i64 n]] (· = .tup [.int .i64 (payF l crop value d n), .int .i64 0]) := by
 obtain ⟨t, ht⟩ := at_some hv.first hd.1 hv.ne (Nat.le_refl _)
 obtain ⟨i, hi⟩ := at_mem ht
 have hm := List.mem_of_getElem? hi
 have o := okT (hv.few t hm) (hv.valid t hm)
 have hr := hv.crops i a t ha hi
 have hl3 := hv.len
 have hP : payF l crop value d n = value * partF t crop d n / 100 := by simp only [payF, ht]
 rw [hP]
 have d1 := t84 l [⟨crop, value, ⟨d, d⟩, ⟨n, n⟩⟩] hv (fun c hc t ht => by
  rw [ha] at ht; cases ht
  simp at hc; subst hc
  simp only [Clm.ok, Rng.ofB, within, Bool.and_eq_true, decide_eq_true_eq]
  omega) (by simp)
 have d2 := t138 l t ⟨crop, value, ⟨d, d⟩, ⟨n, n⟩⟩ d n (by omega) ht o (by dsimp only; omega) hn hva
 have d3 := c137 ⟨d, d⟩ d
 have d4 := c137 ⟨n, n⟩ n
 rw [show within d (⟨d, d⟩ : Rng).lo (⟨d, d⟩ : Rng).hi = true by simp [within]] at d3
 rw [show within n (⟨n, n⟩ : Rng).lo (⟨n, n⟩ : Rng).hi = true by simp [within]] at d4
 dsimp only at d2
 generalize partF t crop d n = Q at *
 generalize value * Q / 100 = q at *
 refine PF.of (TF.ev fn_76 (Ev.at ?_))
 (repeat' first | (refine eg ?_; conv => whnf) | refine an ?_ ?_ | (refine iw ?_; intro rx hrx) | exact lf | intro _)
 all_goals try exact vy
 refine TSq.pubS 2 ?_
 (repeat' first | (refine eg ?_; conv => whnf) | refine an ?_ ?_ | (refine iw ?_; intro rx hrx) | exact lf | intro _)
 all_goals try exact vy
 all_goals (try (refine ⟨?_⟩; simp [chunks, cloL, clo]; done))
 refine TSq.callD [] [(3, .map []), (4, .cells [.sl 6 (encTfs l), .mp 3])] d1 rfl rfl (And.intro rfl rfl) rfl (by decide) (allLt_iff rfl) rfl (fun a ha => absurd ha (Nat.not_lt_zero a)) rfl rfl (Nat.zero_le _) rfl
  (fun a ha => by match a, ha with | 0, _ => exact ⟨rfl, rfl⟩ | 1, _ => exact ⟨rfl, rfl⟩) rfl ?_
 (repeat' first | (refine eg ?_; conv => whnf) | refine an ?_ ?_ | (refine iw ?_; intro rx hrx) | exact lf | intro _)
 all_goals try exact vy
 refine TSq.pureC d3 cl rfl (And.intro rfl rfl) ?_
 (repeat' first | (refine eg ?_; conv => whnf) | refine an ?_ ?_ | (refine iw ?_; intro rx hrx) | exact lf | intro _)
 refine TSq.pureC d4 cl rfl (And.intro rfl rfl) ?_
 (repeat' first | (refine eg ?_; conv => whnf) | refine an ?_ ?_ | (refine iw ?_; intro rx hrx) | exact lf | intro _)
 refine TSq.callD [3, 4] [(3, .map [(.agg [.int .i64 crop, .int .i64 d, .int .i64 n], .int .i64 Q)]), (4, .cells [.sl 6 (encTfs l), .mp 3])] d2 rfl rfl (And.intro rfl rfl) rfl (by decide) (allLt_iff rfl) rfl (fun a ha => by match a, ha with | 0, _ => exact ⟨rfl, rfl⟩ | 1, _ => exact ⟨rfl, rfl⟩) rfl rfl (Nat.le_refl _) rfl
  (fun a ha => by match a, ha with | 0, _ => exact ⟨rfl, rfl⟩ | 1, _ => exact ⟨rfl, rfl⟩) rfl ?_
 (repeat' first | (refine eg ?_; conv => whnf) | refine an ?_ ?_ | (refine iw ?_; intro rx hrx) | exact lf | intro _)
 all_goals try exact vy
 all_goals (try rfl)
end Go.Proofs.YtjadiajfbflghaaGreat
open Go Go.TV
namespace Go.Proofs.YtjadiajfbflghaaGreat
def fn_11 := fo 11
def fn_54 := fo 54
def fn_55 := fo 55
def fn_56 := fo 56
def fn_59 := fo 59
def fn_60 := fo 60
def fn_61 := fo 61
def fn_116 := fo 116
def fn_117 := fo 117
def fn_118 := fo 118
def tf119 : TFn := ⟨61, [(.tmp 2)], (.seq (.region false [⟨(some 1), (.box (.t 0)), none, [], []⟩, ⟨(some 2), (.mv (.c .nilp)), none, [], []⟩]) (.seq (.region false [⟨(some 12), (.load true 4 (.t 1)), none, [], []⟩, ⟨(some 13), (.build [.nils, (.int .i64 0), (.int .i64 0), .nils, .nils] [(0, (4, (.t 12))), (4, (1, (.c .nils)))]), none, [], []⟩, ⟨(some 14), (.box (.t 13)), none, [], []⟩, ⟨(some 3), (.alloc [.nilp]), none, [], []⟩, ⟨none, (.store 1 (.t 3) (.t 14)), none, [], []⟩]) (.seq (.seq (.region false [⟨(some 15), (.load false 1 (.t 3)), none, [], []⟩, ⟨(some 16), (.nilck (.t 15)), none, [], []⟩, ⟨(some 17), (.faddr 0 (.t 16)), none, [], []⟩, ⟨(some 18), (.faddr 3 (.t 17)), none, [], []⟩, ⟨(some 19), (.load false 1 (.t 18)), none, [], []⟩, ⟨(some 20), (.lenS (.t 19)), none, [], []⟩, ⟨(some 21), (.mv (.c (.int .i64 0))), none, [], []⟩]) (.block 0 (.loop (.seq (.region false [⟨(some 22), (.cmp .lss (.t 21) (.t 20)), none, [], []⟩]) (.seq (.cond (.t 22) .skip (.exit 0)) (.seq (.block 1 (.seq (.region false [⟨(some 23), (.idxS 9 (.t 19) (.t 21)), none, [], []⟩, ⟨(some 24), (.load true 9 (.t 23)), none, [], []⟩, ⟨(some 5), (.alloc [(.int .i64 0), (.int .i64 0), (.int .i64 0), (.int .i64 0), (.int .i64 0), (.int .i64 0), (.int .i64 0), (.int .i64 0), (.int .i64 0)]), none, [], []⟩, ⟨none, (.store 9 (.t 5) (.t 24)), none, [], []⟩]) (.seq (.region false [⟨(some 25), .mkmap, none, [], []⟩, ⟨(some 6), (.alloc [.nilm]), none, [], []⟩, ⟨none, (.store 1 (.t 6) (.t 25)), none, [], []⟩]) (.seq (.seq (.region false [⟨(some 26), (.load true 9 (.t 5)), none, [], []⟩, ⟨(some 27), (.call 183 [(.t 26)]), none, [], []⟩]) (.block 2 (.rfunc (.t 27) [28] (.region false [⟨(some 7), (.alloc [(.int .i64 0), (.int .i64 0), (.int .i64 0)]), none, [], []⟩, ⟨none, (.store 3 (.t 7) (.t 28)), none, [], []⟩]) (.block 3 (.seq (.region false [⟨(some 30), (.load true 9 (.t 5)), none, [], []⟩, ⟨(some 31), (.load true 3 (.t 7)), none, [], []⟩, ⟨(some 32), (.call 59 [(.t 30), (.t 31)]), none, [], []⟩, ⟨(some 29), (.mv (.t 32)), none, [], []⟩, ⟨(some 33), (.extract (.t 29) 0), none, [], []⟩, ⟨(some 34), (.extract (.t 29) 1), none, [], []⟩, ⟨(some 8), (.mv (.t 33)), none, [], []⟩, ⟨(some 9), (.mv (.t 34)), none, [], []⟩]) (.seq (.region true [⟨(some 36), (.load false 1 (.t 3)), none, [], [3]⟩, ⟨(some 37), (.nilck (.t 36)), none, [0], [36]⟩, ⟨(some 38), (.faddr 0 (.t 37)), none, [1], [37]⟩, ⟨(some 39), (.load true 4 (.t 38)), none, [2], [38]⟩, ⟨(some 40), (.load true 9 (.t 5)), none, [], [5]⟩, ⟨(some 41), (.mv (.t 8)), none, [], [8]⟩, ⟨(some 42), (.call 60 [(.t 39), (.t 40), (.t 41)]), none, [3, 4, 5], [39, 40, 41]⟩, ⟨(some 35), (.mv (.t 42)), none, [6], [42]⟩, ⟨(some 43), (.extract (.t 35) 0), none, [7], [35]⟩, ⟨(some 44), (.extract (.t 35) 1), none, [7], [35]⟩, ⟨(some 10), (.mv (.t 43)), none, [8, 6, 0, 1, 2, 3, 4, 5, 6, 7, 8], [43]⟩, ⟨(some 11), (.mv (.t 44)), none, [9, 10, 0, 1, 2, 3, 4, 5, 6, 7, 8, 9, 10], [44]⟩]) (.region false [⟨(some 45), (.load false 1 (.t 6)), none, [], []⟩, ⟨(some 46), (.mv (.t 10)), none, [], []⟩, ⟨(some 47), (.mv (.t 9)), none, [], []⟩, ⟨(some 48), (.build [(.int .i64 0), (.int .i64 0)] [(0, (1, (.t 46))), (1, (1, (.t 47)))]), none, [], []⟩, ⟨none, (.mapUpd (.st [(0, (1, (false, (.int .i64)))), (1, (1, (false, (.int .i64))))]) (.t 45) (.t 48) (.c (.bool true))), none, [], []⟩]))))))) (.region true [⟨(some 49), (.load false 1 (.t 3)), none, [], [3]⟩, ⟨(some 50), (.load false 1 (.t 3)), none, [], [3]⟩, ⟨(some 51), (.nilck (.t 50)), none, [1], [50]⟩, ⟨(some 52), (.faddr 4 (.t 51)), none, [2], [51]⟩, ⟨(some 53), (.load false 1 (.t 52)), none, [3], [52]⟩, ⟨(some 54), (.load false 1 (.t 6)), none, [], [6]⟩, ⟨(some 55), (.bslice 348 false 1 1 [.nilm] [(0, (1, (.t 54)))]), none, [5], [54]⟩, ⟨(some 56), (.append 348 1 8 (.t 53) (.t 55)), none, [4, 6], [53, 55]⟩, ⟨(some 57), (.nilck (.t 49)), none, [0, 0, 1, 2, 3, 4, 5, 6, 7], [49]⟩, ⟨(some 58), (.faddr 4 (.t 57)), none, [8, 0, 1, 2, 3, 4, 5, 6, 7], [57]⟩, ⟨none, (.store 1 (.t 58) (.t 56)), none, [9, 7, 7, 0, 1, 2, 3, 4, 5, 6, 7], [58, 56]⟩]))))) (.region false [⟨(some 59), (.arith .add (.t 21) (.c (.int .i64 1))), none, [], []⟩, ⟨(some 21), (.mv (.t 59)), none, [], []⟩]))))))) (.seq (.region false [⟨(some 60), (.load false 1 (.t 3)), none, [], []⟩, ⟨(some 2), (.mv (.t 60)), none, [], []⟩]) .ret))))⟩
theorem fn_119 : fnOf Tryz.prog 119 = some tf119 := by kernel_rfl
def fn_120 := fo 120
def fn_121 := fo 121
def fn_123 := fo 123
def fn_124 := fo 124
def fn_180 := fo 180
def fn_181 := fo 181
def fn_182 := fo 182
def fn_183 := fo 183
def tf184 : TFn := ⟨36, [], (.seq (.region false [⟨(some 5), (.box (.t 0)), none, [], []⟩]) (.seq (.seq (.region false [⟨(some 8), (.mv (.t 1)), none, [], []⟩, ⟨(some 9), (.load false 1 (.t 2)), none, [], []⟩, ⟨(some 10), (.nilck (.t 9)), none, [], []⟩, ⟨(some 11), (.faddr 4 (.t 10)), none, [], []⟩, ⟨(some 12), (.load false 1 (.t 11)), none, [], []⟩, ⟨(some 13), (.lenS (.t 12)), none, [], []⟩, ⟨(some 14), (.cmp .eql (.t 8) (.t 13)), none, [], []⟩]) (.cond (.t 14) (.seq (.region false [⟨(some 15), (.load false 1 (.t 3)), none, [], []⟩, ⟨(some 16), (.load true 5 (.t 5)), none, [], []⟩, ⟨none, (.mapUpd (.st [(0, (1, (false, (.int .i64)))), (1, (4, (true, (.arr 4 1 false (.int .i64)))))]) (.t 15) (.t 16) (.c (.bool true))), none, [], []⟩]) .ret) .skip)) (.seq (.region false [⟨(some 17), (.load false 1 (.t 2)), none, [], []⟩, ⟨(some 18), (.nilck (.t 17)), none, [], []⟩, ⟨(some 19), (.faddr 4 (.t 18)), none, [], []⟩, ⟨(some 20), (.load false 1 (.t 19)), none, [], []⟩, ⟨(some 21), (.mv (.t 1)), none, [], []⟩, ⟨(some 22), (.idxS 1 (.t 20) (.t 21)), none, [], []⟩, ⟨(some 23), (.load false 1 (.t 22)), none, [], []⟩, ⟨(some 24), (.range (.t 23)), none, [], []⟩]) (.block 0 (.loop (.seq (.region false [⟨(some 25), (.next (.t 24)), none, [], []⟩, ⟨(some 26), (.extract (.t 25) 0), none, [], []⟩]) (.seq (.cond (.t 26) .skip (.exit 0)) (.block 1 (.seq (.region false [⟨(some 27), (.entry (.t 24)), none, [], []⟩, ⟨(some 28), (.extract (.t 27) 0), none, [], []⟩, ⟨(some 7), (.alloc [(.int .i64 0), (.int .i64 0)]), none, [], []⟩, ⟨none, (.store 2 (.t 7) (.t 28)), none, [], []⟩]) (.region true [⟨(some 29), (.load false 1 (.t 4)), none, [], [4]⟩, ⟨(some 30), (.load true 5 (.t 5)), none, [], [5]⟩, ⟨(some 31), (.load true 2 (.t 7)), none, [], [7]⟩, ⟨(some 32), (.call 61 [(.t 30), (.t 31)]), none, [1, 2], [30, 31]⟩, ⟨(some 33), (.mv (.t 1)), none, [], [1]⟩, ⟨(some 34), (.arith .add (.t 33) (.c (.int .i64 1))), none, [4], [33]⟩, ⟨(some 35), (.callv (.t 29) [(.t 32), (.t 34)]), none, [0, 3, 5, 3], [29, 32, 34]⟩]))))))))))⟩
theorem fn_184 : fnOf Tryz.prog 184 = some tf184 := by kernel_rfl
def fn_232 := fo 232
def fn_233 := fo 233
def fn_234 := fo 234
def fn_259 := fo 259
end Go.Proofs.YtjadiajfbflghaaGreat
open Go Go.TV
namespace Go.Proofs.YtjadiajfbflghaaGreat
structure Fld where
 crop : Int
 value : Int
 near : Int
 fi : Rng
 se : Rng
 um : Rng
structure Cas where
 tfs : List Tf
 day : Int
 fee : Int
 flds : List Fld
structure Thr where
 a : Int
 b : Int
 u : Int
def encFld (f : Fld) : SV := .agg [.int .i64 f.crop, .int .i64 f.value, .int .i64 f.near, .int .i64 f.fi.lo, .int .i64 f.fi.hi, .int .i64 f.se.lo, .int .i64 f.se.hi, .int .i64 f.um.lo, .int .i64 f.um.hi]
def encFlds (l : List Fld) : List SV := l.map encFld
def encCas (c : Cas) : SV := .agg [.sl 6 (encTfs c.tfs), .int .i64 c.day, .int .i64 c.fee, .sl 9 (encFlds c.flds)]
def encThr (x : Thr) : SV := .agg [.int .i64 x.a, .int .i64 x.b, .int .i64 x.u]
theorem encFlds_len (l : List Fld) : (encFlds l).length = l.length := List.length_map _
theorem encFlds_at {l : List Fld} {n : Nat} {e : SV} (h : (encFlds l)[n]? = some e) : ∃ x, l[n]? = some x ∧ e = encFld x := map_at h
theorem encFlds_clo (l : List Fld) : cloL (encFlds l) := by
 rw [cloL_iff]; intro s hs; obtain ⟨x, _, rfl⟩ := List.mem_map.1 hs; simp [encFld, clo, cloL]
theorem encFld_clo (f : Fld) : clo (encFld f) := by simp [encFld, clo, cloL]
theorem encCas_clo (c : Cas) : clo (encCas c) := by simp [encCas, clo, cloL]
def Rng.cntB (r : Rng) : Bool := decide (0 ≤ r.lo) && (decide (r.lo ≤ r.hi) && (decide (r.hi ≤ 100) && decide (r.hi - r.lo ≤ 4)))
structure OkF (k : Int) (f : Fld) : Prop where
 crop : 0 ≤ f.crop ∧ f.crop < k
 value : 0 ≤ f.value ∧ f.value ≤ 100000
 near : 0 ≤ f.near ∧ f.near ≤ 100
 fi : f.fi.cntB = true
 se : f.se.cntB = true
 um : f.um.cntB = true
structure OkC (c : Cas) : Prop where
 tfs : ValidTs c.tfs
 day : 0 ≤ c.day ∧ c.day ≤ 120
 fee : 0 ≤ c.fee ∧ c.fee ≤ 10000
 few : c.flds.length ≤ 3
 flds : ∀ a, c.tfs[0]? = some a → ∀ f ∈ c.flds, OkF a.rates.length f
theorem cnt_of {r : Rng} (h : r.cntB = true) : 0 ≤ r.lo ∧ r.lo ≤ r.hi ∧ r.hi ≤ 100 ∧ r.hi - r.lo ≤ 4 := by
 simp only [Rng.cntB, Bool.and_eq_true, decide_eq_true_eq] at h; exact h
def payC (c : Cas) (f : Fld) (n : Int) : Int := payF c.tfs f.crop f.value c.day n
def absI (n : Int) : Int := if n < 0 then -n else n
def settleF (f : Fld) (x : Thr) : Int × Int :=
 if absI (x.a - x.b) ≤ f.near then ((x.a + x.b) / 2, 0) else
  let n := min (max x.u (min x.a x.b)) (max x.a x.b)
  if absI (x.a - n) > absI (x.b - n) then (n, 2) else if absI (x.b - n) > absI (x.a - n) then (n, 3) else (n, 1)
structure Sm where
 aw : Int
 l0 : Int
 l1 : Int
 l2 : Int
 l3 : Int
def encSm (s : Sm) : SV := .agg [.int .i64 s.aw, .int .i64 s.l0, .int .i64 s.l1, .int .i64 s.l2, .int .i64 s.l3]
def sm0 : Sm := ⟨0, 0, 0, 0, 0⟩
def Sm.plus (s : Sm) (x : Int × Int) : Sm := ⟨s.aw + x.1, if x.2 = 0 then s.l0 + 1 else s.l0, if x.2 = 1 then s.l1 + 1 else s.l1, if x.2 = 2 then s.l2 + 1 else s.l2, if x.2 = 3 then s.l3 + 1 else s.l3⟩
end Go.Proofs.YtjadiajfbflghaaGreat
open Go Go.TV Go.RowKit
namespace Go.Proofs.YtjadiajfbflghaaGreat
theorem fits_map {α : Type} {enc : α → SV} {l : List SV} {p : SV → Prop} (h : ∀ e ∈ l, p e) (hp : ∀ e, p e → ∃ x, e = enc x) : ∃ m : List α, l = m.map enc := by
 induction l with
 | nil => exact ⟨[], rfl⟩
 | cons e l ih =>
  obtain ⟨m, rfl⟩ := ih fun e he => h e (by simp [he])
  obtain ⟨x, rfl⟩ := hp e (h e (by simp))
  exact ⟨x :: m, rfl⟩
end Go.Proofs.YtjadiajfbflghaaGreat
open Go Go.TV
namespace Go.Proofs.YtjadiajfbflghaaGreat
structure Hid (p : Prop) : Prop where
 h : p
theorem Hid.a {p q : Prop} (h : Hid (p ∧ q)) : p := h.h.1
theorem Hid.b {p q : Prop} (h : Hid (p ∧ q)) : Hid q := ⟨h.h.2⟩
theorem e {p q : Prop} (h : q) (k : Hid q → p := by
 intro hq0
 (repeat' first | (refine hst1 ?_ ?_; rotate_left; (first | omega | (dsimp only; omega))) | (refine hst2 ?_ ?_; rotate_left; (first | omega | (dsimp only; omega))) | (refine hst3 ?_ ?_; rotate_left; (first | omega | (dsimp only; omega))) | (intro ex hex; (first | have hq := hgf1 hex | have hq := hgf2 hex | have hq := hgf3 hex); subst hq; clear hex) | (intro ex hex; (first | obtain ⟨mx, hmx, rfl⟩ := hgx1 hex | obtain ⟨mx, hmx, rfl⟩ := hgx2 hex | obtain ⟨mx, hmx, rfl⟩ := hgx3 hex); clear hex) | (intro rx hrx; (first | have hq := hres1 hrx (by omega) | have hq := hres2 hrx (by omega) | have hq := hres3 hrx (by omega) | have hq := hres4 hrx (by omega)); clear hrx) | (intro rx hrx; (first | have hq := hsub1 hrx (by omega) | have hq := hsub2 hrx (by omega) | have hq := hsub3 hrx (by omega) | have hq := hsub4 hrx (by omega)); subst hq; clear hrx) | refine gx hg1 ?_ | refine gx hg2 ?_ | refine gx hg3 ?_ | refine gx hg4 ?_ | refine gx hg5 ?_ | refine gx hg6 ?_ | (refine eg ?_; conv => whnf) | refine an ?_ ?_ | (refine iw ?_; intro rx hrx) | exact lf | intro _)
 all_goals (first | (refine ⟨?_⟩; exact vk) | exact cl | (exfalso; omega) | skip)
 all_goals (repeat (first | (rename_i hzz; revert hzz; have hck := hq0; clear hck) | (revert rx; have hck := hq0; clear hck) | (revert mx; have hck := hq0; clear hck) | (revert hq; have hck := hq0; clear hck) | fail))
 all_goals (first | exact hq0.a | exact hq0.b.a | exact hq0.b.b.a | exact hq0.b.b.b.a | exact hq0.b.b.b.b.a)) : p := k ⟨h⟩
end Go.Proofs.YtjadiajfbflghaaGreat
open Go Go.TV
namespace Go.Proofs.YtjadiajfbflghaaGreat
def fn_42 := fo 42
def fn_43 := fo 43
def fn_44 := fo 44
def fn_45 := fo 45
def fn_46 := fo 46
def fn_47 := fo 47
def fn_48 := fo 48
def fn_49 := fo 49
def fn_97 := fo 97
def fn_98 := fo 98
def fn_99 := fo 99
def fn_100 := fo 100
def fn_101 := fo 101
def fn_102 := fo 102
def fn_103 := fo 103
def fn_104 := fo 104
def fn_105 := fo 105
def fn_106 := fo 106
def fn_107 := fo 107
def fn_108 := fo 108
def fn_109 := fo 109
def fn_110 := fo 110
def fn_111 := fo 111
def fn_112 := fo 112
def fn_113 := fo 113
def fn_114 := fo 114
def fn_162 := fo 162
def fn_163 := fo 163
def fn_164 := fo 164
def fn_165 := fo 165
def tf166 : TFn := ⟨96, [(.tmp 4)], (.seq (.region false [⟨(some 2), (.box (.t 0)), none, [], []⟩, ⟨(some 3), (.box (.t 1)), none, [], []⟩, ⟨(some 4), (.mv (.c (.bool false))), none, [], []⟩]) (.seq (.seq (.region false [⟨(some 6), (.load true 4 (.t 2)), none, [], []⟩, ⟨(some 7), (.faddr 1 (.t 3)), none, [], []⟩, ⟨(some 8), (.load false 1 (.t 7)), none, [], []⟩, ⟨(some 9), (.call 216 [(.t 6), (.t 8)]), none, [], []⟩, ⟨(some 10), (.not (.t 9)), none, [], []⟩, ⟨(some 11), (.mv (.t 10)), none, [], []⟩, ⟨(some 12), (.load true 4 (.t 2)), (some (11, false)), [], []⟩, ⟨(some 13), (.faddr 6 (.t 3)), (some (11, false)), [], []⟩, ⟨(some 14), (.load true 2 (.t 13)), (some (11, false)), [], []⟩, ⟨(some 15), (.call 215 [(.t 12), (.t 14)]), (some (11, false)), [], []⟩, ⟨(some 16), (.not (.t 15)), (some (11, false)), [], []⟩, ⟨(some 17), (.pick (.t 11) (.c (.bool true)) (.t 16)), none, [], []⟩]) (.cond (.t 17) (.seq (.region false [⟨(some 4), (.mv (.c (.bool false))), none, [], []⟩]) .ret) .skip)) (.seq (.region false [⟨(some 18), (.faddr 0 (.t 3)), none, [], []⟩, ⟨(some 19), (.load false 1 (.t 18)), none, [], []⟩, ⟨(some 20), (.faddr 1 (.t 3)), none, [], []⟩, ⟨(some 21), (.load false 1 (.t 20)), none, [], []⟩, ⟨(some 22), (.faddr 6 (.t 3)), none, [], []⟩, ⟨(some 23), (.load true 2 (.t 22)), none, [], []⟩, ⟨(some 24), (.build [(.int .i64 0), (.int .i64 0), (.int .i64 0), (.int .i64 0), (.int .i64 0), (.int .i64 0), (.int .i64 0), (.int .i64 0)] [(0, (1, (.t 19))), (1, (1, (.t 21))), (6, (2, (.t 23)))]), none, [], []⟩, ⟨(some 5), (.alloc [(.int .i64 0), (.int .i64 0), (.int .i64 0), (.int .i64 0), (.int .i64 0), (.int .i64 0), (.int .i64 0), (.int .i64 0)]), none, [], []⟩, ⟨none, (.store 8 (.t 5) (.t 24)), none, [], []⟩]) (.seq (.seq (.region false [⟨(some 25), (.faddr 0 (.t 3)), none, [], []⟩, ⟨(some 26), (.load false 1 (.t 25)), none, [], []⟩]) (.block 0 (.seq (.region false [⟨(some 28), (.cmp .eql (.t 26) (.c (.int .i64 0))), none, [], []⟩, ⟨(some 27), (.mv (.t 28)), none, [], []⟩]) (.cond (.t 27) (.seq (.region true [⟨(some 29), (.faddr 3 (.t 3)), none, [], [3]⟩, ⟨(some 30), (.load false 1 (.t 29)), none, [0], [29]⟩, ⟨(some 31), (.faddr 4 (.t 3)), none, [], [3]⟩, ⟨(some 32), (.load false 1 (.t 31)), none, [2], [31]⟩, ⟨(some 33), (.faddr 3 (.t 5)), none, [0, 1], [5]⟩, ⟨none, (.store 1 (.t 33) (.t 30)), none, [4, 1, 0, 1], [33, 30]⟩, ⟨(some 34), (.faddr 4 (.t 5)), none, [0, 1, 2, 3, 4, 5], [5]⟩, ⟨none, (.store 1 (.t 34) (.t 32)), none, [6, 3, 5, 0, 1, 2, 3, 4, 5], [34, 32]⟩]) (.seq (.region false [⟨(some 35), (.load true 8 (.t 3)), none, [], []⟩, ⟨(some 36), (.load true 8 (.t 5)), none, [], []⟩, ⟨(some 37), (.eqv (.st [(0, (1, (false, (.int .i64)))), (1, (1, (false, (.int .i64)))), (2, (1, (false, (.int .i64)))), (3, (1, (false, (.int .i64)))), (4, (1, (false, (.int .i64)))), (5, (1, (false, (.int .i64)))), (6, (2, (true, (.st [(0, (1, (false, (.int .i64)))), (1, (1, (false, (.int .i64))))]))))]) false (.t 35) (.t 36)), none, [], []⟩, ⟨(some 38), (.mv (.t 37)), none, [], []⟩, ⟨(some 39), (.load true 4 (.t 2)), (some (38, true)), [], []⟩, ⟨(some 40), (.faddr 3 (.t 3)), (some (38, true)), [], []⟩, ⟨(some 41), (.load false 1 (.t 40)), (some (38, true)), [], []⟩, ⟨(some 42), (.call 104 [(.t 39), (.t 41)]), (some (38, true)), [], []⟩, ⟨(some 43), (.pick (.t 38) (.t 42) (.c (.bool false))), none, [], []⟩, ⟨(some 44), (.mv (.t 43)), none, [], []⟩, ⟨(some 45), (.load true 4 (.t 2)), (some (44, true)), [], []⟩, ⟨(some 46), (.faddr 4 (.t 3)), (some (44, true)), [], []⟩, ⟨(some 47), (.load false 1 (.t 46)), (some (44, true)), [], []⟩, ⟨(some 48), (.call 104 [(.t 45), (.t 47)]), (some (44, true)), [], []⟩, ⟨(some 49), (.pick (.t 44) (.t 48) (.c (.bool false))), none, [], []⟩, ⟨(some 50), (.mv (.t 49)), none, [], []⟩, ⟨(some 51), (.faddr 3 (.t 3)), (some (50, true)), [], []⟩, ⟨(some 52), (.load false 1 (.t 51)), (some (50, true)), [], []⟩, ⟨(some 53), (.faddr 4 (.t 3)), (some (50, true)), [], []⟩, ⟨(some 54), (.load false 1 (.t 53)), (some (50, true)), [], []⟩, ⟨(some 55), (.cmp .neq (.t 52) (.t 54)), (some (50, true)), [], []⟩, ⟨(some 56), (.pick (.t 50) (.t 55) (.c (.bool false))), none, [], []⟩, ⟨(some 4), (.mv (.t 56)), none, [], []⟩]) .ret)) (.seq (.region false [⟨(some 58), (.cmp .eql (.t 26) (.c (.int .i64 1))), none, [], []⟩, ⟨(some 57), (.mv (.t 58)), none, [], []⟩]) (.cond (.t 57) (.seq (.region false [⟨(some 59), (.faddr 5 (.t 3)), none, [], []⟩, ⟨(some 60), (.load false 1 (.t 59)), none, [], []⟩, ⟨(some 61), (.faddr 5 (.t 5)), none, [], []⟩, ⟨none, (.store 1 (.t 61) (.t 60)), none, [], []⟩]) (.seq (.region false [⟨(some 62), (.load true 8 (.t 3)), none, [], []⟩, ⟨(some 63), (.load true 8 (.t 5)), none, [], []⟩, ⟨(some 64), (.eqv (.st [(0, (1, (false, (.int .i64)))), (1, (1, (false, (.int .i64)))), (2, (1, (false, (.int .i64)))), (3, (1, (false, (.int .i64)))), (4, (1, (false, (.int .i64)))), (5, (1, (false, (.int .i64)))), (6, (2, (true, (.st [(0, (1, (false, (.int .i64)))), (1, (1, (false, (.int .i64))))]))))]) false (.t 62) (.t 63)), none, [], []⟩, ⟨(some 65), (.mv (.t 64)), none, [], []⟩, ⟨(some 66), (.faddr 5 (.t 3)), (some (65, true)), [], []⟩, ⟨(some 67), (.load false 1 (.t 66)), (some (65, true)), [], []⟩, ⟨(some 68), (.call 167 [(.t 67), (.c (.int .i64 1)), (.c (.int .i64 1000))]), (some (65, true)), [], []⟩, ⟨(some 69), (.pick (.t 65) (.t 68) (.c (.bool false))), none, [], []⟩, ⟨(some 4), (.mv (.t 69)), none, [], []⟩]) .ret)) (.seq (.region false [⟨(some 71), (.cmp .eql (.t 26) (.c (.int .i64 2))), none, [], []⟩, ⟨(some 70), (.mv (.t 71)), none, [], []⟩]) (.cond (.t 70) (.seq (.region false [⟨(some 72), (.faddr 2 (.t 3)), none, [], []⟩, ⟨(some 73), (.load false 1 (.t 72)), none, [], []⟩, ⟨(some 74), (.faddr 2 (.t 5)), none, [], []⟩, ⟨none, (.store 1 (.t 74) (.t 73)), none, [], []⟩]) (.seq (.region false [⟨(some 75), (.load true 8 (.t 3)), none, [], []⟩, ⟨(some 76), (.load true 8 (.t 5)), none, [], []⟩, ⟨(some 77), (.eqv (.st [(0, (1, (false, (.int .i64)))), (1, (1, (false, (.int .i64)))), (2, (1, (false, (.int .i64)))), (3, (1, (false, (.int .i64)))), (4, (1, (false, (.int .i64)))), (5, (1, (false, (.int .i64)))), (6, (2, (true, (.st [(0, (1, (false, (.int .i64)))), (1, (1, (false, (.int .i64))))]))))]) false (.t 75) (.t 76)), none, [], []⟩, ⟨(some 78), (.mv (.t 77)), none, [], []⟩, ⟨(some 79), (.load true 4 (.t 2)), (some (78, true)), [], []⟩, ⟨(some 80), (.faddr 2 (.t 3)), (some (78, true)), [], []⟩, ⟨(some 81), (.load false 1 (.t 80)), (some (78, true)), [], []⟩, ⟨(some 82), (.call 216 [(.t 79), (.t 81)]), (some (78, true)), [], []⟩, ⟨(some 83), (.pick (.t 78) (.t 82) (.c (.bool false))), none, [], []⟩, ⟨(some 84), (.mv (.t 83)), none, [], []⟩, ⟨(some 85), (.faddr 2 (.t 3)), (some (84, true)), [], []⟩, ⟨(some 86), (.load false 1 (.t 85)), (some (84, true)), [], []⟩, ⟨(some 87), (.faddr 1 (.t 3)), (some (84, true)), [], []⟩, ⟨(some 88), (.load false 1 (.t 87)), (some (84, true)), [], []⟩, ⟨(some 89), (.cmp .neq (.t 86) (.t 88)), (some (84, true)), [], []⟩, ⟨(some 90), (.pick (.t 84) (.t 89) (.c (.bool false))), none, [], []⟩, ⟨(some 4), (.mv (.t 90)), none, [], []⟩]) .ret)) (.seq (.region false [⟨(some 92), (.cmp .eql (.t 26) (.c (.int .i64 3))), none, [], []⟩, ⟨(some 91), (.mv (.t 92)), none, [], []⟩]) (.cond (.t 91) (.seq (.region false [⟨(some 93), (.load true 8 (.t 3)), none, [], []⟩, ⟨(some 94), (.load true 8 (.t 5)), none, [], []⟩, ⟨(some 95), (.eqv (.st [(0, (1, (false, (.int .i64)))), (1, (1, (false, (.int .i64)))), (2, (1, (false, (.int .i64)))), (3, (1, (false, (.int .i64)))), (4, (1, (false, (.int .i64)))), (5, (1, (false, (.int .i64)))), (6, (2, (true, (.st [(0, (1, (false, (.int .i64)))), (1, (1, (false, (.int .i64))))]))))]) false (.t 93) (.t 94)), none, [], []⟩, ⟨(some 4), (.mv (.t 95)), none, [], []⟩]) .ret) .skip)))))))))) (.seq (.region false [⟨(some 4), (.mv (.c (.bool false))), none, [], []⟩]) .ret)))))⟩
theorem fn_166 : fnOf Tryz.prog 166 = some tf166 := by kernel_rfl
def fn_167 := fo 167
def fn_168 := fo 168
def fn_169 := fo 169
def fn_170 := fo 170
def fn_171 := fo 171
def fn_172 := fo 172
def fn_173 := fo 173
def fn_174 := fo 174
def fn_175 := fo 175
def fn_176 := fo 176
def fn_214 := fo 214
def fn_215 := fo 215
def fn_216 := fo 216
def fn_217 := fo 217
def fn_218 := fo 218
def fn_219 := fo 219
def fn_220 := fo 220
def fn_221 := fo 221
def fn_222 := fo 222
def fn_223 := fo 223
def fn_224 := fo 224
def fn_225 := fo 225
def fn_226 := fo 226
def fn_245 := fo 245
def fn_246 := fo 246
def fn_247 := fo 247
def fn_248 := fo 248
def fn_249 := fo 249
def fn_250 := fo 250
end Go.Proofs.YtjadiajfbflghaaGreat
open Go Go.TV
namespace Go.Proofs.YtjadiajfbflghaaGreat
structure Pcl where
 owner : Int
 value : Int
 sown : Rng
structure Ent where
 kind : Int
 parcel : Int
 other : Int
 frm : Int
 to : Int
 part : Int
 day : Rng
structure Bok where
 last : Int
 owners : Int
 pcls : List Pcl
 ents : List Ent
def encPcl (p : Pcl) : SV := .agg [.int .i64 p.owner, .int .i64 p.value, .int .i64 p.sown.lo, .int .i64 p.sown.hi]
def encPcls (l : List Pcl) : List SV := l.map encPcl
def encEnt (e : Ent) : SV := .agg [.int .i64 e.kind, .int .i64 e.parcel, .int .i64 e.other, .int .i64 e.frm, .int .i64 e.to, .int .i64 e.part, .int .i64 e.day.lo, .int .i64 e.day.hi]
def encEnts (l : List Ent) : List SV := l.map encEnt
def encBok (b : Bok) : SV := .agg [.int .i64 b.last, .int .i64 b.owners, .sl 4 (encPcls b.pcls), .sl 8 (encEnts b.ents)]
theorem encPcls_len (l : List Pcl) : (encPcls l).length = l.length := List.length_map _
theorem encPcls_at {l : List Pcl} {n : Nat} {e : SV} (h : (encPcls l)[n]? = some e) : ∃ x, l[n]? = some x ∧ e = encPcl x := map_at h
theorem encPcls_clo (l : List Pcl) : cloL (encPcls l) := by
 rw [cloL_iff]; intro s hs; obtain ⟨x, _, rfl⟩ := List.mem_map.1 hs; simp [encPcl, clo, cloL]
theorem encEnts_len (l : List Ent) : (encEnts l).length = l.length := List.length_map _
theorem encEnts_at {l : List Ent} {n : Nat} {e : SV} (h : (encEnts l)[n]? = some e) : ∃ x, l[n]? = some x ∧ e = encEnt x := map_at h
theorem encEnts_clo (l : List Ent) : cloL (encEnts l) := by
 rw [cloL_iff]; intro s hs; obtain ⟨x, _, rfl⟩ := List.mem_map.1 hs; simp [encEnt, clo, cloL]
theorem encBok_clo (b : Bok) : clo (encBok b) := by simp [encBok, clo, cloL]
def splits (l : List Ent) : Nat := l.countP fun e => e.kind == 1
def Bok.nums (b : Bok) : Nat := b.pcls.length + splits b.ents
def Bok.made (b : Bok) (i : Nat) : Nat := b.pcls.length + splits (b.ents.take i)
structure OkDays (b : Bok) (r : Rng) : Prop where
 lo : 0 ≤ r.lo
 le : r.lo ≤ r.hi
 hi : r.hi ≤ b.last
def OkKind (b : Bok) (e : Ent) : Prop :=
 (e.kind = 0 ∧ e.other = 0 ∧ e.part = 0 ∧ (0 ≤ e.frm ∧ e.frm < b.owners) ∧ (0 ≤ e.to ∧ e.to < b.owners) ∧ e.frm ≠ e.to) ∨
 (e.kind = 1 ∧ e.other = 0 ∧ e.frm = 0 ∧ e.to = 0 ∧ 1 ≤ e.part ∧ e.part ≤ 1000) ∨
 (e.kind = 2 ∧ e.part = 0 ∧ e.frm = 0 ∧ e.to = 0 ∧ (0 ≤ e.other ∧ e.other < b.nums) ∧ e.other ≠ e.parcel) ∨
 (e.kind = 3 ∧ e.other = 0 ∧ e.part = 0 ∧ e.frm = 0 ∧ e.to = 0)
structure OkEnt (b : Bok) (e : Ent) : Prop where
 parcel : 0 ≤ e.parcel ∧ e.parcel < b.nums
 day : OkDays b e.day
 kind : OkKind b e
structure OkPcl (b : Bok) (p : Pcl) : Prop where
 owner : 0 ≤ p.owner ∧ p.owner < b.owners
 value : 0 ≤ p.value ∧ p.value ≤ 1000
 sown : OkDays b p.sown
structure OkBok (b : Bok) : Prop where
 last : 0 ≤ b.last ∧ b.last ≤ 30
 owners : 1 ≤ b.owners ∧ b.owners ≤ 4
 plen : b.pcls.length ≤ 4
 elen : b.ents.length ≤ 6
 pcl : ∀ p ∈ b.pcls, OkPcl b p
 ent : ∀ e ∈ b.ents, OkEnt b e
def Bok.rngs (b : Bok) : List Rng := b.ents.map (·.day) ++ b.pcls.map (·.sown)
def rsize (r : Rng) : Int := r.hi - r.lo + 1
def manyR (l : List Rng) : Int := l.foldl (fun m r => min (m * rsize r) 1001) 1
theorem splits_le (l : List Ent) : splits l ≤ l.length := List.countP_le_length
theorem OkBok.nums_le {b : Bok} (h : OkBok b) : b.nums ≤ 10 := by have := h.plen; have := h.elen; have := splits_le b.ents; unfold Bok.nums; omega
theorem splits_snoc {l : List Ent} {k : Nat} {e : Ent} (h : l[k]? = some e) : splits (l.take (k + 1)) = splits (l.take k) + if e.kind = 1 then 1 else 0 := by
 rw [take_snoc h]; simp [splits, List.countP_append, List.countP_cons]
theorem OkBok.rngs_ok {b : Bok} (h : OkBok b) : ∀ r ∈ b.rngs, OkDays b r := by
 intro r hr
 rcases List.mem_append.1 hr with q | q
 ·obtain ⟨e, he, rfl⟩ := List.mem_map.1 q; exact (h.ent e he).day
 ·obtain ⟨p, hp, rfl⟩ := List.mem_map.1 q; exact (h.pcl p hp).sown
theorem OkBok.rsize {b : Bok} (h : OkBok b) : ∀ r ∈ b.rngs, 1 ≤ rsize r ∧ rsize r ≤ 31 := by
 intro r hr
 obtain ⟨h1, h2, h3⟩ := h.rngs_ok r hr
 have := h.last
 unfold Go.Proofs.YtjadiajfbflghaaGreat.rsize
 omega
end Go.Proofs.YtjadiajfbflghaaGreat
open Go Go.TV Go.RowKit
namespace Go.Proofs.YtjadiajfbflghaaGreat
def shPcl : List Sh := [shI, shI, shI, shI]
def shEnt : List Sh := [shI, shI, shI, shI, shI, shI, shI, shI]
def shBok : List Sh := [shI, shI, .sl 4 true shPcl, .sl 8 true shEnt]
theorem fits_pcl {s : SV} (h : ∃ cs, Sh.fitsL shPcl cs ∧ s = (if true = true then .agg cs else cs.headD .junk)) : ∃ f : Pcl, s = encPcl f := by
 obtain ⟨cs, h1, rfl⟩ := h
 simp only [shPcl, shI, Sh.fitsL, Sh.fits] at h1
 obtain ⟨_, _, rfl, ⟨a, rfl, _⟩, _, _, rfl, ⟨b, rfl, _⟩, _, _, rfl, ⟨c, rfl, _⟩, _, _, rfl, ⟨d, rfl, _⟩, rfl⟩ := h1
 exact ⟨⟨a, b, ⟨c, d⟩⟩, rfl⟩
theorem fits_ent {s : SV} (h : ∃ cs, Sh.fitsL shEnt cs ∧ s = (if true = true then .agg cs else cs.headD .junk)) : ∃ f : Ent, s = encEnt f := by
 obtain ⟨cs, h1, rfl⟩ := h
 simp only [shEnt, shI, Sh.fitsL, Sh.fits] at h1
 obtain ⟨_, _, rfl, ⟨a, rfl, _⟩, _, _, rfl, ⟨b, rfl, _⟩, _, _, rfl, ⟨c, rfl, _⟩, _, _, rfl, ⟨d, rfl, _⟩, _, _, rfl, ⟨e, rfl, _⟩, _, _, rfl, ⟨f, rfl, _⟩, _, _, rfl, ⟨g, rfl, _⟩, _, _, rfl, ⟨i, rfl, _⟩, rfl⟩ := h1
 exact ⟨⟨a, b, c, d, e, f, ⟨g, i⟩⟩, rfl⟩
theorem fits_bok {s : SV} (h : fitsA (true, shBok) s) : ∃ b : Bok, s = encBok b := by
 obtain ⟨cs, h1, rfl⟩ := h
 simp only [shBok, shI, Sh.fitsL, Sh.fits] at h1
 obtain ⟨_, _, rfl, ⟨a, rfl, _⟩, _, _, rfl, ⟨b, rfl, _⟩, _, _, rfl, ⟨l, rfl, _, hl⟩, _, _, rfl, ⟨l', rfl, _, hl'⟩, rfl⟩ := h1
 obtain ⟨m, rfl⟩ := fits_map (enc := encPcl) hl fun e he => fits_pcl he
 obtain ⟨m', rfl⟩ := fits_map (enc := encEnt) hl' fun e he => fits_ent he
 exact ⟨⟨a, b, m, m'⟩, rfl⟩
def tBok : Value := .agg #[.int .i64 0, .int .i64 0, .slice none 0 0, .slice none 0 0]
end Go.Proofs.YtjadiajfbflghaaGreat
