/- Calls in plain Lean: what all members pay, and what is short. Bounds in plain Lean. Ranges gone through; lists. Tariffs: which are valid, by the program. Tariffs: lists that rise; valid tariffs, by the program. Valid tariffs, by the program. Tariffs: the week of a day, and where a count stands. Tariffs: the tariff of a day, and the loss of a spot. Tariffs: the loss of a spot, and the part that is paid. What is valid, as the document says; the laws' helpers. A society, copied for the program. Parts of a need, and who is asked before a member. -/
import Derived.Test.YtjadiajfbflghaaGreatB5
set_option maxHeartbeats 32000000
set_option maxRecDepth 100000
set_option linter.unusedSimpArgs false
set_option linter.unusedVariables false
namespace Go.Proofs.YtjadiajfbflghaaGreat
def OkMs (ms : List Mem) : Prop := ms.length ≤ 5 ∧ ∀ i, i < ms.length → 1 ≤ un ms i ∧ 0 ≤ mst ms i
theorem any5_false {f : Nat → Bool} (h : any5 f = false) : ∀ i, i < 5 → f i = false := by
 intro i hi
 simp only [any5, Bool.or_eq_false_iff] at h
 have : i = 0 ∨ i = 1 ∨ i = 2 ∨ i = 3 ∨ i = 4 := by omega
 rcases this with rfl | rfl | rfl | rfl | rfl
 ·exact h.1
 ·exact h.2.1
 ·exact h.2.2.1
 ·exact h.2.2.2.1
 ·exact h.2.2.2.2
theorem any5_true {f : Nat → Bool} (h : ¬ any5 f = false) : ∃ i, i < 5 ∧ f i = true := by
 simp only [any5, Bool.or_eq_false_iff] at h
 by_cases h0 : f 0 = true
 ·exact ⟨0, by omega, h0⟩
 by_cases h1 : f 1 = true
 ·exact ⟨1, by omega, h1⟩
 by_cases h2 : f 2 = true
 ·exact ⟨2, by omega, h2⟩
 by_cases h3 : f 3 = true
 ·exact ⟨3, by omega, h3⟩
 by_cases h4 : f 4 = true
 ·exact ⟨4, by omega, h4⟩
 simp_all
theorem any5_eq {f : Nat → Bool} {i : Nat} (hi : i < 5) (h : f i = true) : ¬ any5 f = false := fun e => by have := any5_false e i hi; rw [h] at this; cases this
theorem sumF_pos {g : Nat → Int} : ∀ {n i : Nat}, (∀ k, k < n → 0 ≤ g k) → i < n → g i ≤ sumF g n
 | n + 1, i, h, hi => by
  have h0 : ∀ m, m ≤ n → 0 ≤ sumF g m := fun m hm => by
   have := sumF_le (g := fun _ => 0) (h := g) (n := m) fun k hk => h k (by omega)
   rw [sumF_zero fun _ _ => rfl] at this; exact this
  simp only [sumF]
  rcases Nat.lt_or_ge i n with h' | h'
  ·have := sumF_pos (g := g) (n := n) (i := i) (fun k hk => h k (by omega)) h'
   have := h n (by omega); omega
  ·have : i = n := by omega
   subst this; have := h0 i (by omega); omega
theorem OkMs.units {ms : List Mem} (h : OkMs ms) {f : Nat → Bool} {i : Nat} (hi : i < ms.length) (hf : f i = true) : un ms i ≤ unitsF ms f ms.length ∧ 1 ≤ unitsF ms f ms.length := by
 have h1 := sumF_pos (g := fun i => if f i = true then un ms i else 0) (n := ms.length) (i := i) (fun k hk => by have := h.2 k hk; split <;> omega) hi
 rw [← unitsF_sum] at h1
 simp only [hf, if_true] at h1
 have := h.2 i hi
 omega
theorem quo_nn {ms : List Mem} {need U : Int} {i : Nat} (hn : 0 ≤ need) (hU : 1 ≤ U) (hu : 0 ≤ un ms i) : 0 ≤ quo ms need U i :=
 Int.ediv_nonneg (Int.mul_nonneg hn hu) (by omega)
theorem shareF_nn {ms : List Mem} (h : OkMs ms) {f : Nat → Bool} {need : Int} (hn : 0 ≤ need) (i : Nat) : 0 ≤ shareF ms f need i := by
 unfold shareF
 split
 ·rename_i hi
  have h1 := h.units hi.1 hi.2
  have h2 := quo_nn (ms := ms) (i := i) hn h1.2 (by have := h.2 i hi.1; omega)
  split <;> omega
 ·omega
structure Paid (ms : List Mem) (f : Nat → Bool) (need : Int) (o : Nat → Int) (r : (Nat → Int) × Int) : Prop where
 other : ∀ i, f i = false → r.1 i = o i
 most : ∀ i, f i = true → 0 ≤ r.1 i ∧ r.1 i ≤ mst ms i
 sum : r.2 + sumF (fun i => if f i = true then r.1 i else 0) ms.length = need
 nn : 0 ≤ r.2
 short : 0 < r.2 → ∀ i, f i = true → r.1 i = mst ms i
theorem capF_t {ms : List Mem} {f : Nat → Bool} {need : Int} {i : Nat} : capF ms f need i = true ↔ i < ms.length ∧ f i = true ∧ mst ms i < shareF ms f need i := by simp [capF]
theorem needF_nn {ms : List Mem} (h : OkMs ms) {f : Nat → Bool} {need : Int} (hn : 0 ≤ need) (hf : any5 f ≠ false) (hlt : ∀ i, f i = true → i < ms.length) : 0 ≤ needF ms (capF ms f need) need ms.length := by
 obtain ⟨i, _, hi⟩ := any5_true hf
 have hs := (sumF_share ms f need (h.units (hlt i hi) hi).2).2
 rw [needF_sum]
 have : sumF (fun i => if capF ms f need i = true then mst ms i else 0) ms.length ≤ sumF (shareF ms f need) ms.length := sumF_le fun k _ => by
  have := shareF_nn h (f := f) hn k
  split
  ·rename_i hc; have := (capF_t.1 hc).2.2; omega
  ·omega
 omega
theorem cntF_mono_lt {p q : Nat → Bool} {n i : Nat} (hi : i < n) (hle : ∀ k, p k = true → q k = true) (hp : p i = false) (hq : q i = true) : cntF p n < cntF q n := by
 have e : cnt q (List.range n) = cnt p (List.range n) + cnt (fun k => q k && !p k) (List.range n) := cnt_add (fun k _ => by have := hle k; cases h : p k <;> cases h' : q k <;> simp_all) (fun k _ => by cases p k <;> simp)
 have : 1 ≤ cnt (fun k => q k && !p k) (List.range n) := cnt_pos (List.mem_range.2 hi) (by simp [hp, hq])
 rw [cntF_eq, cntF_eq]; omega
theorem callsF_paid {ms : List Mem} (h : OkMs ms) : ∀ (t : Nat) (f : Nat → Bool) (need : Int) (o : Nat → Int), cntF f ms.length < t → (∀ i, f i = true → i < ms.length) → 0 ≤ need → Paid ms f need o (callsF ms t f need o)
 | 0, f, need, o, hc, _, _ => by have := cntF_eq f ms.length; omega
 | t + 1, f, need, o, hc, hlt, hn => by
  have h5 := h.1
  rw [callsF]
  split
  ·rename_i hf
   have hf' : ∀ i, f i = false := fun i => by
    cases hfi : f i
    ·rfl
    ·rw [← hfi]; exact any5_false hf i (by have := hlt i hfi; omega)
   refine ⟨fun _ _ => rfl, fun i hi => absurd hi (by simp [hf' i]), ?_, hn, fun _ i hi => absurd hi (by simp [hf' i])⟩
   rw [sumF_zero fun i _ => by simp [hf' i]]; simp
  ·rename_i hf
   obtain ⟨j, _, hj⟩ := any5_true hf
   have hs := (sumF_share ms f need (h.units (hlt j hj) hj).2).2
   split
   ·rename_i hcap
    refine ⟨fun i hi => by simp [hi], fun i hi => ?_, ?_, Int.le_refl _, fun h => absurd h (by simp)⟩
    ·have hi' := hlt i hi
     have hcf := any5_false hcap i (by omega)
     simp only [hi, hi', and_self, if_true]
     refine ⟨shareF_nn h hn i, ?_⟩
     rcases Int.lt_or_le (mst ms i) (shareF ms f need i) with h' | h'
     ·have := capF_t.2 ⟨hi', hi, h'⟩; rw [hcf] at this; cases this
     ·exact h'
    ·conv => rhs; rw [← hs]
     simp only [Int.zero_add]
     refine sumF_congr fun i hi => ?_
     cases hfi : f i
     ·simp [shareF, hfi]
     ·simp [hi]
   ·rename_i hcap
    obtain ⟨c, _, hcc⟩ := any5_true hcap
    have hct := capF_t.1 hcc
    have ih := callsF_paid h t (fun i => f i && !capF ms f need i) (needF ms (capF ms f need) need ms.length) (fun i => if capF ms f need i = true then mst ms i else o i)
     (by have := cntF_mono_lt (p := fun i => f i && !capF ms f need i) (q := f) hct.1 (fun k hk => by simp at hk; exact hk.1) (by simp [hcc]) hct.2.1; omega)
     (fun i hi => hlt i (by simp at hi; exact hi.1)) (needF_nn h hn hf hlt)
    generalize callsF ms t _ _ _ = r at *
    obtain ⟨i1, i2, i3, i4, i5⟩ := ih
    have hcap1 : ∀ i, capF ms f need i = true → r.1 i = mst ms i := fun i hi => by rw [i1 i (by simp [hi])]; simp [hi]
    have hcm : ∀ i, capF ms f need i = true → 0 ≤ mst ms i := fun i hi => (h.2 i (capF_t.1 hi).1).2
    refine ⟨fun i hi => ?_, fun i hi => ?_, ?_, i4, fun hz i hi => ?_⟩
    ·rw [i1 i (by simp [hi])]
     have : ¬ capF ms f need i = true := fun hc => by have := (capF_t.1 hc).2.1; rw [hi] at this; cases this
     simp [this]
    ·cases hc : capF ms f need i
     ·exact i2 i (by simp [hi, hc])
     ·rw [hcap1 i hc]; exact ⟨hcm i hc, Int.le_refl _⟩
    ·rw [needF_sum] at i3
     have : sumF (fun i => if f i = true then r.1 i else 0) ms.length = sumF (fun i => if (f i && !capF ms f need i) = true then r.1 i else 0) ms.length + sumF (fun i => if capF ms f need i = true then mst ms i else 0) ms.length := sumF_add fun i _ => by
      cases hc : capF ms f need i
      ·simp
      ·simp [(capF_t.1 hc).2.1, hcap1 i hc]
     omega
    ·cases hc : capF ms f need i
     ·exact i5 hz i (by simp [hi, hc])
     ·exact hcap1 i hc
end Go.Proofs.YtjadiajfbflghaaGreat
namespace Go.Proofs.YtjadiajfbflghaaGreat
def every (r : Rng) : List Int := (List.range (r.hi - r.lo + 1).toNat).map fun (i : Nat) => r.lo + i
end Go.Proofs.YtjadiajfbflghaaGreat
open Go Go.TV
namespace Go.Proofs.YtjadiajfbflghaaGreat
theorem c196 (l : List Int) (n : Int) (hlen : l.length ≤ 1000000) : PF Tryz.prog 196 [.sl 1 (ints l), .int .i64 n] fun s => ∃ i : Int, s = .int .i64 i ∧ (0 ≤ i ↔ l.contains n = true) := by
 have hz := ints_len l
 refine PF.of (TF.ev fn_196 (Ev.at ?_))
 (repeat' first | (refine eg ?_; conv => whnf) | refine an ?_ ?_ | (refine iw ?_; intro rx hrx) | exact lf | (intro hcx; exfalso; simp only [lz] at hcx; omega) | (intro ex hex; (first | obtain ⟨xx, hxx, rfl⟩ := ints_at hex | obtain ⟨xx, hxx, rfl⟩ := encYs_at hex | obtain ⟨xx, hxx, rfl⟩ := encRs_at hex); clear hex; try simp only [Int.toNat_natCast] at hxx) | intro _)
 refine TWq.loop (fun k : Nat => [(8, .int .i64 k)]) (fun _ => []) (fun k => k ≤ l.length ∧ n ∉ l.take k) (fun k => l.length - k) 0 [] [] ?_ ⟨by omega, by simp⟩ ?_
 ·(repeat' first | (refine eg ?_; conv => whnf) | refine an ?_ ?_ | (refine iw ?_; intro rx hrx) | exact lf | (intro hcx; exfalso; simp only [lz] at hcx; omega) | (intro ex hex; (first | obtain ⟨xx, hxx, rfl⟩ := ints_at hex | obtain ⟨xx, hxx, rfl⟩ := encYs_at hex | obtain ⟨xx, hxx, rfl⟩ := encRs_at hex); clear hex; try simp only [Int.toNat_natCast] at hxx) | intro _)
  all_goals try exact vy
 ·rintro k ⟨hk1, hk2⟩
  (repeat' first | (refine eg ?_; conv => whnf) | refine an ?_ ?_ | (refine iw ?_; intro rx hrx) | exact lf | (intro hcx; exfalso; simp only [lz] at hcx; omega) | (intro ex hex; (first | obtain ⟨xx, hxx, rfl⟩ := ints_at hex | obtain ⟨xx, hxx, rfl⟩ := encYs_at hex | obtain ⟨xx, hxx, rfl⟩ := encRs_at hex); clear hex; try simp only [Int.toNat_natCast] at hxx) | intro _)
  all_goals (try (refine ⟨?_⟩; first | omega | exact List.cons_ne_nil _ _ | (show (_ : Nat) * _ ≤ _; simp [catS, repl, chunks, ints_len, encYs_len] <;> omega)))
  ·refine ⟨k, rfl, ?_⟩
   have : n ∈ l := by have := List.mem_of_getElem? hxx; simp_all
   simp [this]
  ·refine ⟨k + 1, ⟨by omega, ?_⟩, by omega, ?_⟩
   ·rw [take_snoc hxx]; simp_all
   ·(repeat' first | (refine eg ?_; conv => whnf) | refine an ?_ ?_ | (refine iw ?_; intro rx hrx) | exact lf | (intro hcx; exfalso; simp only [lz] at hcx; omega) | (intro ex hex; (first | obtain ⟨xx, hxx, rfl⟩ := ints_at hex | obtain ⟨xx, hxx, rfl⟩ := encYs_at hex | obtain ⟨xx, hxx, rfl⟩ := encRs_at hex); clear hex; try simp only [Int.toNat_natCast] at hxx) | intro _)
    all_goals try exact vy
  ·have : k = l.length := by omega
   subst this
   rw [List.take_length] at hk2
   exact ⟨-1, rfl, by simp [hk2]⟩
theorem c133 (l : List Int) (n : Int) (hlen : l.length ≤ 1000000) : PF Tryz.prog 133 [.sl 1 (ints l), .int .i64 n] (· = .bool (l.contains n)) := by
 refine PF.of (TF.ev fn_133 (Ev.at ?_))
 (repeat' first | (refine eg ?_; conv => whnf) | refine an ?_ ?_ | (refine iw ?_; intro rx hrx) | exact lf | (intro hcx; exfalso; simp only [lz] at hcx; omega) | intro _)
 refine TSq.pureQ rfl (c196 l n hlen) cl rfl (And.intro rfl rfl) ?_
 rintro s ⟨i, rfl, hi⟩ _
 (repeat' first | (refine eg ?_; conv => whnf) | refine an ?_ ?_ | (refine iw ?_; intro rx hrx) | exact lf | (intro hcx; exfalso; simp only [lz] at hcx; omega) | intro _)
 all_goals (rw [SV.bool_iff]; rw [← hi]; simp; omega)
end Go.Proofs.YtjadiajfbflghaaGreat
open Go Go.TV
namespace Go.Proofs.YtjadiajfbflghaaGreat
theorem c152 (n lo hi : Int) : PF Tryz.prog 152 [.int .i64 n, .int .i64 lo, .int .i64 hi] (· = .bool (within n lo hi)) := by
 refine PF.of (TF.ev fn_152 (Ev.at ?_))
 (repeat' first | (refine eg ?_; conv => whnf) | refine an ?_ ?_ | (refine iw ?_; intro rx hrx) | exact lf | (intro hcx; exfalso; simp only [lz] at hcx; omega) | intro _)
 all_goals (rw [SV.bool_iff]; simp [within]; omega)
theorem c255 (n : Int) : PF Tryz.prog 255 [encI n] (· = .bool (within n 0 100)) := by
 refine PF.of (TF.ev fn_255 (Ev.at ?_))
 (repeat' first | (refine eg ?_; conv => whnf) | refine an ?_ ?_ | (refine iw ?_; intro rx hrx) | exact lf | intro _)
 refine TSq.pureC (c152 n 0 100) cl rfl (And.intro rfl rfl) ?_
 (repeat' first | (refine eg ?_; conv => whnf) | refine an ?_ ?_ | (refine iw ?_; intro rx hrx) | exact lf | intro _)
 try rfl
theorem c253 (t : Tf) (x : List Int) (hx : x.length ≤ 1000000) : PF Tryz.prog 253 [encIs x, .iptr (encTf t) 0] (· = .bool (t.weekB x)) := by
 have hz := ints_len x
 have hw := ints_len t.counts
 have d := alRate x (fun n => within n 0 100) (fun n _ => c255 n) hx
 refine PF.of (TF.ev fn_253 (Ev.at ?_))
 (repeat' first | (refine eg ?_; conv => whnf) | refine an ?_ ?_ | (refine iw ?_; intro rx hrx) | exact lf | intro _)
 ·refine TSq.pureC d (by simp [cloL, clo, ints_clo]) rfl (And.intro rfl rfl) ?_
  (repeat' first | (refine eg ?_; conv => whnf) | refine an ?_ ?_ | (refine iw ?_; intro rx hrx) | exact lf | intro _)
  rw [SV.bool_iff]; simp only [Tf.weekB, Bool.and_eq_true, decide_eq_true_eq]
  exact ⟨fun h => ⟨by omega, h⟩, fun h => h.2⟩
 ·rw [SV.bool_iff]; simp only [Tf.weekB, Bool.and_eq_true, decide_eq_true_eq, Bool.false_eq_true, false_iff]
  intro h; omega
theorem c229 (t : Tf) (c : List (List Int)) (hc : c.length ≤ 1000000) (hx : ∀ x ∈ c, x.length ≤ 1000000) : PF Tryz.prog 229 [encTf t, encCr c] (· = .bool (t.cropB c)) := by
 have hz := encIss_len c
 have hw := ints_len t.weeks
 have d := alWeek t c t.weekB (fun x hm => c253 t x (hx x hm)) hc
 refine PF.of (TF.ev fn_229 (Ev.at ?_))
 (repeat' first | (refine eg ?_; conv => whnf) | refine an ?_ ?_ | (refine iw ?_; intro rx hrx) | exact lf | intro _)
 all_goals try exact vy
 ·refine TSq.lendC d (by simp [scal]) rfl (And.intro rfl ?_) ?_
  ·(repeat' first | (refine eg ?_; conv => whnf) | refine an ?_ ?_ | (refine iw ?_; intro rx hrx) | exact lf | intro _)
   all_goals try exact vy
  (repeat' first | (refine eg ?_; conv => whnf) | refine an ?_ ?_ | (refine iw ?_; intro rx hrx) | exact lf | intro _)
  rw [SV.bool_iff]; simp only [Tf.cropB, Bool.and_eq_true, decide_eq_true_eq]
  exact ⟨fun h => ⟨by omega, h⟩, fun h => h.2⟩
 ·rw [SV.bool_iff]; simp only [Tf.cropB, Bool.and_eq_true, decide_eq_true_eq, Bool.false_eq_true, false_iff]
  intro h; omega
theorem c178 (t : Tf) : PF Tryz.prog 178 [encTf t] (· = .bool t.few) := by
 have h1 := ints_len t.weeks
 have h2 := ints_len t.counts
 have h3 := encCrs_len t.rates
 refine PF.of (TF.ev fn_178 (Ev.at ?_))
 (repeat' first | (refine eg ?_; conv => whnf) | refine an ?_ ?_ | (refine iw ?_; intro rx hrx) | exact lf | intro _)
 all_goals (rw [SV.bool_iff]; simp only [Tf.few, Bool.and_eq_true, decide_eq_true_eq]; simp; omega)
end Go.Proofs.YtjadiajfbflghaaGreat
open Go Go.TV
namespace Go.Proofs.YtjadiajfbflghaaGreat
def lastR (a : Int) : List Int → Int
 | [] => a
 | x :: l => lastR x l
theorem goR_append {m : Int} : ∀ {a : Int} {l k : List Int}, goR a m (l ++ k) = (goR a m l && goR (lastR a l) m k)
 | a, [], k => by simp [goR, lastR]
 | a, x :: l, k => by simp [goR, lastR, goR_append, Bool.and_assoc]
theorem lastR_append : ∀ {a x : Int} {l : List Int}, lastR a (l ++ [x]) = x
 | a, x, [] => rfl
 | a, x, y :: l => by simp only [List.cons_append, lastR, lastR_append]
theorem goR_false {a m : Int} {l : List Int} {k : Nat} {x : Int} (h : l[k]? = some x) (hf : within x (lastR a (l.take k) + 1) m = false) : goR a m l = false := by
 have e : l = l.take k ++ x :: l.drop (k + 1) := by
  obtain ⟨hk, hx⟩ := List.getElem?_eq_some_iff.1 h
  rw [← hx, List.getElem_cons_drop, List.take_append_drop]
 rw [e, goR_append]
 simp [goR, hf]
theorem c230 (l : List Int) (most : Int) (hl : l.length ≤ 1000000) (hm : 0 ≤ most ∧ most ≤ 1000) : PF Tryz.prog 230 [.sl 1 (ints l), .int .i64 most] (· = .bool (risingB l most)) := by
 have hz := ints_len l
 by_cases hpos : 0 < l.length
 ·obtain ⟨v0, hv0⟩ : ∃ v, l[0]? = some v := ⟨_, List.getElem?_eq_getElem hpos⟩
  have hg1 : ∀ {n : Nat} {e : SV}, n = 0 → (ints l)[n]? = some e → e = .int .i64 v0 := by
   rintro n e rfl he
   obtain ⟨x, hx, rfl⟩ := encI_at he
   rw [hv0] at hx; cases hx; rfl
  have hh : l.head? = some v0 := by rw [← hv0]; cases l <;> rfl
  refine PF.of (TF.ev fn_230 (Ev.at ?_))
  (repeat' first | refine gx hg1 ?_ | (refine eg ?_; conv => whnf) | refine an ?_ ?_ | (refine iw ?_; intro rx hrx) | exact lf | intro _)
  all_goals (try (exfalso; omega))
  all_goals try exact vy
  ·clear hg1
   rename_i hv
   have hR : risingB l most = goR (-1) most l := by simp [risingB, hpos, hh, hv]
   rw [hR]
   refine TSq.callT rfl rfl (calleeK_const (And.intro rfl rfl) (TF.ev fn_254 (Ev.at ?_)))
   (repeat' first | refine gx hg1 ?_ | (refine eg ?_; conv => whnf) | refine an ?_ ?_ | (refine iw ?_; intro rx hrx) | exact lf | intro _)
   refine TSq.callT rfl rfl (calleeK_const (And.intro rfl rfl) (TF.ev fn_237 (Ev.at ?_)))
   (repeat' first | refine gx hg1 ?_ | (refine eg ?_; conv => whnf) | refine an ?_ ?_ | (refine iw ?_; intro rx hrx) | exact lf | intro _)
   refine TSq.callT rfl rfl (calleeK_const (And.intro rfl rfl) (TF.ev fn_260 (Ev.at ?_)))
   dsimp only
   (repeat' first | refine gx hg1 ?_ | (refine eg ?_; conv => whnf) | refine an ?_ ?_ | (refine iw ?_; intro rx hrx) | exact lf | intro _)
   refine TWq.loop (fun k : Nat => [(8, .int .i64 k), (5, .junk)]) (fun k => [(1, .cells [.int .i64 (lastR (-1) (l.take k))])]) (fun k => k ≤ l.length ∧ goR (-1) most (l.take k) = true ∧ -1 ≤ lastR (-1) (l.take k) ∧ lastR (-1) (l.take k) ≤ most) (fun k => l.length - k) 0 [] [] ?_ ⟨by omega, rfl, by simp [lastR], by simp [lastR]; omega⟩ ?_
   ·(repeat' first | refine gx hg1 ?_ | (refine eg ?_; conv => whnf) | refine an ?_ ?_ | (refine iw ?_; intro rx hrx) | exact lf | intro _)
    all_goals try exact vy
   ·rintro k ⟨hk, hgo, hlo, hhi⟩
    rcases Nat.lt_or_ge k l.length with hkl | hkl
    ·obtain ⟨v, hv⟩ : ∃ v, l[k]? = some v := ⟨_, List.getElem?_eq_getElem hkl⟩
     have hg1 : ∀ {n : Nat} {e : SV}, n = k → (ints l)[n]? = some e → e = .int .i64 v := by
      rintro n e rfl he
      obtain ⟨x, hx, rfl⟩ := encI_at he
      rw [hv] at hx; cases hx; rfl
     have hnext := take_snoc hv
     have hla : lastR (-1) (l.take (k + 1)) = v := by rw [hnext, lastR_append]
     have hf := goR_false (a := -1) (m := most) hv
     have hgn : goR (-1) most (l.take (k + 1)) = within v (lastR (-1) (l.take k) + 1) most := by rw [hnext, goR_append, hgo]; simp [goR]
     generalize lastR (-1) (l.take k) = la at *
     (repeat' first | refine gx hg1 ?_ | (refine eg ?_; conv => whnf) | refine an ?_ ?_ | (refine iw ?_; intro rx hrx) | exact lf | intro _)
     all_goals try exact vy
     refine TSq.callT rfl rfl (calleeK_const (And.intro rfl rfl) (TF.ev fn_264 (Ev.at ?_)))
     (repeat' first | refine gx hg1 ?_ | (refine eg ?_; conv => whnf) | refine an ?_ ?_ | (refine iw ?_; intro rx hrx) | exact lf | intro _)
     refine TSq.callT rfl rfl (calleeK_const (And.intro rfl rfl) (TF.ev fn_256 (Ev.at ?_)))
     dsimp only
     (repeat' first | refine gx hg1 ?_ | (refine eg ?_; conv => whnf) | refine an ?_ ?_ | (refine iw ?_; intro rx hrx) | exact lf | intro _)
     all_goals try exact vy
     refine TSq.pureBC (c152 v rx most) cl rfl (And.intro rfl rfl) ?_ ?_ <;> intro hb
     ·rw [hrx] at hb
      have hbb := hb
      simp only [within, decide_eq_true_eq] at hbb
      (repeat' first | refine gx hg1 ?_ | (refine eg ?_; conv => whnf) | refine an ?_ ?_ | (refine iw ?_; intro rx hrx) | exact lf | intro _)
      all_goals try exact vy
      refine ⟨⟨k + 1, ⟨by omega, by rw [hgn]; exact hb, by omega, by omega⟩, by omega, ?_⟩⟩
      (repeat' first | refine gx hg1 ?_ | (refine eg ?_; conv => whnf) | refine an ?_ ?_ | (refine iw ?_; intro rx hrx) | exact lf | intro _)
      all_goals try exact vy
      all_goals (try (refine ⟨?_⟩; rw [hla]))
     ·rw [hrx] at hb
      rw [hf hb]
      (repeat' first | refine gx hg1 ?_ | (refine eg ?_; conv => whnf) | refine an ?_ ?_ | (refine iw ?_; intro rx hrx) | exact lf | intro _)
      all_goals try exact vy
      all_goals (try rfl)
    ·have hke : k = l.length := by omega
     subst hke
     rw [List.take_length] at hgo
     rw [hgo]
     (repeat' first | refine gx hg1 ?_ | (refine eg ?_; conv => whnf) | refine an ?_ ?_ | (refine iw ?_; intro rx hrx) | exact lf | intro _)
     all_goals try exact vy
     all_goals (try rfl)
  ·rename_i hv
   rw [SV.bool_iff]; simp [risingB, hh, hv]
 ·have he : l = [] := List.eq_nil_of_length_eq_zero (by omega)
  subst he
  refine PF.of (TF.ev fn_230 (Ev.at ?_))
  (repeat' first | refine gx hg1 ?_ | (refine eg ?_; conv => whnf) | refine an ?_ ?_ | (refine iw ?_; intro rx hrx) | exact lf | intro _)
  all_goals (try (exfalso; simp [ints] at *; omega))
  all_goals try exact vy
  all_goals (rw [SV.bool_iff]; simp [risingB])
end Go.Proofs.YtjadiajfbflghaaGreat
open Go Go.TV
namespace Go.Proofs.YtjadiajfbflghaaGreat
structure OkT (t : Tf) : Prop where
 few : t.weeks.length ≤ 4 ∧ t.counts.length ≤ 5 ∧ t.rates.length ≤ 3
 frm : 0 ≤ t.frm ∧ t.frm ≤ 120
 least : 0 ≤ t.least ∧ t.least ≤ 100
 weeks : risingB t.weeks 120 = true
 two : 1 < t.counts.length
 counts : risingB t.counts 100 = true
 last : t.counts[t.counts.length - 1]? = some 100
 some_ : 0 < t.rates.length
 crops : ∀ c ∈ t.rates, c.length = t.weeks.length ∧ ∀ x ∈ c, x.length = t.counts.length ∧ ∀ n ∈ x, 0 ≤ n ∧ n ≤ 100
theorem okT {t : Tf} (hf : t.few = true) (hv : t.valid = true) : OkT t := by
 simp only [Tf.few, Bool.and_eq_true, decide_eq_true_eq] at hf
 simp only [Tf.valid, Bool.and_eq_true, decide_eq_true_eq, within, List.all_eq_true, Tf.cropB, Tf.weekB] at hv
 obtain ⟨h1, h2, h3, h4, h5, h6, h7, h8⟩ := hv
 refine ⟨⟨hf.1, hf.2.1, hf.2.2⟩, h1, h2, h3, h4, h5, ?_, h7, h8⟩
 rw [← h6, List.getLast?_eq_getElem?]
theorem c179 (t : Tf) (hf : t.few = true) (hv : t.valid = true) : PF Tryz.prog 179 [encTf t] (· = .bool true) := by
 have o := okT hf hv
 have hv' := hv
 simp only [Tf.valid, Bool.and_eq_true, decide_eq_true_eq] at hv'
 obtain ⟨w1, w2, w3, w4, w5, w6, w7, w8⟩ := hv'
 obtain ⟨⟨f1, f2, f3⟩, o1, o2, o3, o4, o5, o6, o7, o8⟩ := o
 have h1 := ints_len t.weeks
 have h2 := ints_len t.counts
 have h3 := encCrs_len t.rates
 have d1 := c152 t.frm 0 120
 have d2 := c152 t.least 0 100
 have d3 := c230 t.weeks 120 (by omega) (by omega)
 have d4 := c230 t.counts 100 (by omega) (by omega)
 have d5 := alCrop t t.rates t.cropB (fun c hc => c229 t c (by have := (o8 c hc).1; omega) fun x hx => by have := ((o8 c hc).2 x hx).1; omega) (by omega)
 rw [w1] at d1; rw [w2] at d2; rw [w3] at d3; rw [w5] at d4; rw [w8] at d5
 have hg1 : ∀ {n : Nat} {e : SV}, n = t.counts.length - 1 → (ints t.counts)[n]? = some e → e = .int .i64 100 := by
  rintro n e rfl he
  obtain ⟨x, hx, rfl⟩ := encI_at he
  rw [o6] at hx; cases hx; rfl
 refine PF.of (TF.ev fn_179 (Ev.at ?_))
 (repeat' first | refine gx hg1 ?_ | (refine eg ?_; conv => whnf) | refine an ?_ ?_ | (refine iw ?_; intro rx hrx) | exact lf | intro _)
 all_goals try exact vy
 refine TSq.pureC d1 cl rfl (And.intro rfl rfl) ?_
 (repeat' first | refine gx hg1 ?_ | (refine eg ?_; conv => whnf) | refine an ?_ ?_ | (refine iw ?_; intro rx hrx) | exact lf | intro _)
 refine TSq.pureC d2 cl rfl (And.intro rfl rfl) ?_
 (repeat' first | refine gx hg1 ?_ | (refine eg ?_; conv => whnf) | refine an ?_ ?_ | (refine iw ?_; intro rx hrx) | exact lf | intro _)
 refine TSq.pureC d3 cl rfl (And.intro rfl rfl) ?_
 (repeat' first | refine gx hg1 ?_ | (refine eg ?_; conv => whnf) | refine an ?_ ?_ | (refine iw ?_; intro rx hrx) | exact lf | intro _)
 all_goals (try (exfalso; omega))
 refine TSq.pureC d4 cl rfl (And.intro rfl rfl) ?_
 (repeat' first | refine gx hg1 ?_ | (refine eg ?_; conv => whnf) | refine an ?_ ?_ | (refine iw ?_; intro rx hrx) | exact lf | intro _)
 all_goals (try (exfalso; omega))
 all_goals try exact vy
 refine TSq.pureC d5 (by simp [cloL, clo, encTf, encCrs_clo, ints_clo]) rfl (And.intro rfl rfl) ?_
 (repeat' first | refine gx hg1 ?_ | (refine eg ?_; conv => whnf) | refine an ?_ ?_ | (refine iw ?_; intro rx hrx) | exact lf | intro _)
 try rfl
theorem c115 (l : List Tf) (hv : ValidTs l) : PF Tryz.prog 115 [.sl 6 (encTfs l)] (· = .int .i64 0) := by
 have hz := encTfs_len l
 have hl := hv.len
 have hne := hv.ne
 have d1 := alFew l Tf.few (fun y _ => c178 y) (by omega)
 have d2 := alVal l (fun _ => true) (fun y hy => c179 y (hv.few y hy) (hv.valid y hy)) (by omega)
 rw [show l.all Tf.few = true from List.all_eq_true.2 fun y hy => hv.few y hy] at d1
 rw [show (l.all fun _ => true) = true from List.all_eq_true.2 fun y hy => rfl] at d2
 obtain ⟨a, ha⟩ : ∃ a, l[0]? = some a := ⟨_, List.getElem?_eq_getElem hne⟩
 have ha0 := hv.first a ha
 have hg1 : ∀ {n : Nat} {e : SV}, n = 0 → (encTfs l)[n]? = some e → e = encTf a := by
  rintro n e rfl he
  obtain ⟨x, hx, rfl⟩ := encTfs_at he
  rw [ha] at hx; cases hx; rfl
 refine PF.of (TF.ev fn_115 (Ev.at ?_))
 (repeat' first | refine gx hg1 ?_ | refine gx hg2 ?_ | refine gx hg3 ?_ | (refine eg ?_; conv => whnf) | refine an ?_ ?_ | (refine iw ?_; intro rx hrx) | exact lf | intro _)
 all_goals (try (exfalso; omega))
 refine TSq.pureC d1 (by simp [cloL, clo, encTfs_clo]) rfl (And.intro rfl rfl) ?_
 (repeat' first | refine gx hg1 ?_ | refine gx hg2 ?_ | refine gx hg3 ?_ | (refine eg ?_; conv => whnf) | refine an ?_ ?_ | (refine iw ?_; intro rx hrx) | exact lf | intro _)
 all_goals (try (exfalso; omega))
 all_goals try exact vy
 all_goals (try (exfalso; omega))
 refine TSq.pureC d2 (by simp [cloL, clo, encTfs_clo]) rfl (And.intro rfl rfl) ?_
 (repeat' first | refine gx hg1 ?_ | refine gx hg2 ?_ | refine gx hg3 ?_ | (refine eg ?_; conv => whnf) | refine an ?_ ?_ | (refine iw ?_; intro rx hrx) | exact lf | intro _)
 all_goals try exact vy
 have hsl : ∀ k : Nat, ((encTfs l).drop (1 : Int).toNat |>.take (((encTfs l).length : Int) - 1).toNat)[k]? = if k < l.length - 1 then (encTfs l)[k + 1]? else none := fun k => by
  rw [List.getElem?_take, List.getElem?_drop]
  have e : (((encTfs l).length : Int) - 1).toNat = l.length - 1 := by omega
  rw [e, show (1 : Int).toNat + k = k + 1 by rw [show (1 : Int).toNat = 1 from rfl]; omega]
 have hsn : ((encTfs l).drop (1 : Int).toNat |>.take (((encTfs l).length : Int) - 1).toNat).length = l.length - 1 := by
  rw [List.length_take, List.length_drop, hz, show (1 : Int).toNat = 1 from rfl]; omega
 generalize (((encTfs l).drop (1 : Int).toNat).take (((encTfs l).length : Int) - 1).toNat) = es at *
 refine TWq.loop (fun k : Nat => [(33, .int .i64 k), (3, .junk), (4, .junk)]) (fun _ => []) (fun k => k ≤ l.length - 1) (fun k => l.length - 1 - k) 0 [] [] ?_ (by omega) ?_
 ·(repeat' first | refine gx hg1 ?_ | refine gx hg2 ?_ | refine gx hg3 ?_ | (refine eg ?_; conv => whnf) | refine an ?_ ?_ | (refine iw ?_; intro rx hrx) | exact lf | intro _)
  all_goals try exact vy
 ·intro k hk
  rcases Nat.lt_or_ge k (l.length - 1) with hkl | hkl
  ·obtain ⟨b, hb⟩ : ∃ b, l[k]? = some b := ⟨_, List.getElem?_eq_getElem (by omega)⟩
   obtain ⟨c, hc⟩ : ∃ c, l[k + 1]? = some c := ⟨_, List.getElem?_eq_getElem (by omega)⟩
   have hlt := hv.next k b c hb hc
   have hcr := hv.crops (k + 1) a c ha hc
   have hA := encCrs_len a.rates
   have hC := encCrs_len c.rates
   have hg2 : ∀ {n : Nat} {e : SV}, n = k → (encTfs l)[n]? = some e → e = encTf b := by
    rintro n e rfl he
    obtain ⟨x, hx, rfl⟩ := encTfs_at he
    rw [hb] at hx; cases hx; rfl
   have hg3 : ∀ {n : Nat} {e : SV}, n = k → es[n]? = some e → e = encTf c := by
    rintro n e rfl he
    rw [hsl, if_pos hkl] at he
    obtain ⟨x, hx, rfl⟩ := encTfs_at he
    rw [hc] at hx; cases hx; rfl
   rcases Nat.eq_zero_or_pos k with hk0 | hkp
   ·subst hk0
    rw [ha] at hb; cases hb
    (repeat' first | refine gx hg1 ?_ | refine gx hg2 ?_ | refine gx hg3 ?_ | (refine eg ?_; conv => whnf) | refine an ?_ ?_ | (refine iw ?_; intro rx hrx) | exact lf | intro _)
    all_goals try exact vz
    all_goals (try (exfalso; omega))
    refine ⟨⟨0 + 1, by omega, by omega, ?_⟩⟩
    (repeat' first | refine gx hg1 ?_ | refine gx hg2 ?_ | refine gx hg3 ?_ | (refine eg ?_; conv => whnf) | refine an ?_ ?_ | (refine iw ?_; intro rx hrx) | exact lf | intro _)
    all_goals try exact vy
   ·(repeat' first | refine gx hg1 ?_ | refine gx hg2 ?_ | refine gx hg3 ?_ | (refine eg ?_; conv => whnf) | refine an ?_ ?_ | (refine iw ?_; intro rx hrx) | exact lf | intro _)
    all_goals try exact vz
    all_goals (try (exfalso; omega))
    refine ⟨⟨k + 1, by omega, by omega, ?_⟩⟩
    (repeat' first | refine gx hg1 ?_ | refine gx hg2 ?_ | refine gx hg3 ?_ | (refine eg ?_; conv => whnf) | refine an ?_ ?_ | (refine iw ?_; intro rx hrx) | exact lf | intro _)
    all_goals try exact vy
  ·have hke : k = l.length - 1 := by omega
   subst hke
   (repeat' first | refine gx hg1 ?_ | refine gx hg2 ?_ | refine gx hg3 ?_ | (refine eg ?_; conv => whnf) | refine an ?_ ?_ | (refine iw ?_; intro rx hrx) | exact lf | intro _)
   all_goals (try (exfalso; omega))
   all_goals try exact vy
   all_goals (try rfl)
end Go.Proofs.YtjadiajfbflghaaGreat
open Go Go.TV
namespace Go.Proofs.YtjadiajfbflghaaGreat
def lastLe (l : List Int) (d : Int) : Nat → Nat
 | 0 => 0
 | k + 1 => if l.getD k 0 ≤ d then k else lastLe l d k
theorem lastLe_lt (l : List Int) (d : Int) : ∀ {k : Nat}, 0 < k → lastLe l d k < k
 | k + 1, _ => by
  simp only [lastLe]
  split
  ·omega
  ·rcases Nat.eq_zero_or_pos k with h | h
   ·subst h; simp [lastLe]
   ·have := lastLe_lt l d h; omega
theorem c208 (t : Tf) (d : Int) (hl : t.weeks.length ≤ 1000) : PF Tryz.prog 208 [encTf t, .int .i64 d] (· = .int .i64 (lastLe t.weeks d t.weeks.length : Nat)) := by
 have hz := ints_len t.weeks
 refine PF.of (TF.ev fn_208 (Ev.at ?_))
 (repeat' first | refine gx hg1 ?_ | (refine eg ?_; conv => whnf) | refine an ?_ ?_ | (refine iw ?_; intro rx hrx) | exact lf | intro _)
 all_goals try exact vy
 refine TWq.loop (fun k : Nat => [(4, .int .i64 (lastLe t.weeks d k : Nat)), (10, .int .i64 k), (5, .junk), (6, .junk)]) (fun _ => []) (fun k => k ≤ t.weeks.length) (fun k => t.weeks.length - k) 0 [] [] ?_ (by omega) ?_
 ·(repeat' first | refine gx hg1 ?_ | (refine eg ?_; conv => whnf) | refine an ?_ ?_ | (refine iw ?_; intro rx hrx) | exact lf | intro _)
  all_goals try exact vy
 ·intro k hk
  rcases Nat.lt_or_ge k t.weeks.length with hkl | hkl
  ·obtain ⟨v, hv⟩ : ∃ v, t.weeks[k]? = some v := ⟨_, List.getElem?_eq_getElem hkl⟩
   have hd : t.weeks.getD k 0 = v := by simp [List.getD_eq_getElem?_getD, hv]
   have hs : lastLe t.weeks d (k + 1) = if v ≤ d then k else lastLe t.weeks d k := by rw [lastLe, hd]
   have hg1 : ∀ {n : Nat} {e : SV}, n = k → (ints t.weeks)[n]? = some e → e = .int .i64 v := by
    rintro n e rfl he
    obtain ⟨x, hx, rfl⟩ := encI_at he
    rw [hv] at hx; cases hx; rfl
   (repeat' first | refine gx hg1 ?_ | (refine eg ?_; conv => whnf) | refine an ?_ ?_ | (refine iw ?_; intro rx hrx) | exact lf | intro _)
   all_goals try exact vy
   ·rw [if_pos (by assumption)] at hs
    refine ⟨⟨k + 1, by omega, by omega, ?_⟩⟩
    (repeat' first | refine gx hg1 ?_ | (refine eg ?_; conv => whnf) | refine an ?_ ?_ | (refine iw ?_; intro rx hrx) | exact lf | intro _)
    all_goals try exact vy
    all_goals (try (refine ⟨?_⟩; rw [hs]))
   ·rw [if_neg (by omega)] at hs
    refine ⟨⟨k + 1, by omega, by omega, ?_⟩⟩
    (repeat' first | refine gx hg1 ?_ | (refine eg ?_; conv => whnf) | refine an ?_ ?_ | (refine iw ?_; intro rx hrx) | exact lf | intro _)
    all_goals try exact vy
    all_goals (try (refine ⟨?_⟩; rw [hs]))
  ·have hke : k = t.weeks.length := by omega
   subst hke
   (repeat' first | refine gx hg1 ?_ | (refine eg ?_; conv => whnf) | refine an ?_ ?_ | (refine iw ?_; intro rx hrx) | exact lf | intro _)
   all_goals try exact vy
   all_goals (try rfl)
theorem c244 (n : Int) : PF Tryz.prog 244 [.int .i64 n] (· = .bool false) := by
 refine PF.of (TF.ev fn_244 (Ev.at ?_))
 (repeat' first | (refine eg ?_; conv => whnf) | refine an ?_ ?_ | (refine iw ?_; intro rx hrx) | exact lf | intro _)
 all_goals (try (rename_i h; exact absurd rfl h))
 all_goals (try rfl)
theorem c261 (n : Int) : PF Tryz.prog 261 [.int .i64 n] (· = .bool false) := by
 refine PF.of (TF.ev fn_261 (Ev.at ?_))
 (repeat' first | (refine eg ?_; conv => whnf) | refine an ?_ ?_ | (refine iw ?_; intro rx hrx) | exact lf | intro _)
 all_goals (try (rename_i h; exact absurd rfl h))
 all_goals (try rfl)
theorem c243 (a b : Int) : PF Tryz.prog 243 [.int .i64 a, .int .i64 b] (· = .bool (decide (a < b))) := by
 refine PF.of (TF.ev fn_243 (Ev.at ?_))
 (repeat' first | (refine eg ?_; conv => whnf) | refine an ?_ ?_ | (refine iw ?_; intro rx hrx) | exact lf | intro _)
 refine TSq.pureC (c261 a) cl rfl (And.intro rfl rfl) ?_
 (repeat' first | (refine eg ?_; conv => whnf) | refine an ?_ ?_ | (refine iw ?_; intro rx hrx) | exact lf | intro _)
 all_goals (rw [SV.bool_iff]; simp; try omega)
def posB (l : List Int) (x : Int) : Nat := (l.takeWhile fun y => decide (y < x)).length
theorem posB_eq {x : Int} : ∀ {l : List Int} {i : Nat}, i ≤ l.length → (∀ (j : Nat) (y : Int), j < i → l[j]? = some y → y < x) → (∀ y, l[i]? = some y → x ≤ y) → posB l x = i
 | [], i, h, _, _ => by simp at h; subst h; rfl
 | a :: l, 0, _, _, h2 => by
  have := h2 a rfl
  simp [posB, List.takeWhile_cons, show ¬ a < x by omega]
 | a :: l, i + 1, h, h1, h2 => by
  have ha := h1 0 a (by omega) rfl
  have ih := posB_eq (x := x) (l := l) (i := i) (by simpa using h) (fun j y hj hy => h1 (j + 1) y (by omega) (by simpa using hy)) (fun y hy => h2 y (by simpa using hy))
  simp only [posB] at ih ⊢
  simp [List.takeWhile_cons, ha, ih]
def Rise (l : List Int) : Prop := ∀ (i j : Nat) (a b : Int), i < j → l[i]? = some a → l[j]? = some b → a < b
theorem c209 (l : List Int) (x : Int) (hl : l.length ≤ 1000) (hr : Rise l) : PF Tryz.prog 209 [.sl 1 (ints l), .int .i64 x] (· = .tup [.int .i64 (posB l x : Nat), .bool (decide (l[posB l x]? = some x))]) := by
 have hz := ints_len l
 have hsub1 : ∀ {r n : Int}, r = IntKind.u64.wrap n → 0 ≤ n ∧ n ≤ 100000 → r = n := fun h e => by rw [h, IntWalk.u64_in _ (by omega)]
 refine PF.of (TF.ev fn_209 (Ev.at ?_))
 (repeat' first | (intro rx hrx; have hq := hsub1 hrx (by omega); subst hq; clear hrx) | (intro rx hrx; have hq := hsub2 hrx (by omega); subst hq; clear hrx) | refine gx hg1 ?_ | (refine eg ?_; conv => whnf) | refine an ?_ ?_ | (refine iw ?_; intro rx hrx) | exact lf | intro _)
 refine TWq.loop (fun p : Nat × Nat => [(7, .int .i64 p.1), (8, .int .i64 p.2), (9, .junk)]) (fun _ => []) (fun p => p.1 ≤ p.2 ∧ p.2 ≤ l.length ∧ (∀ (j : Nat) (y : Int), j < p.1 → l[j]? = some y → y < x) ∧ (∀ (j : Nat) (y : Int), p.2 ≤ j → l[j]? = some y → x ≤ y)) (fun p => p.2 - p.1) (0, l.length) [] [] ?_ ⟨by omega, by omega, fun j y hj => by dsimp only at hj; omega, fun j y hj hy => by have := (List.getElem?_eq_some_iff.1 hy).1; dsimp only at hj; omega⟩ ?_
 ·(repeat' first | (intro rx hrx; have hq := hsub1 hrx (by omega); subst hq; clear hrx) | (intro rx hrx; have hq := hsub2 hrx (by omega); subst hq; clear hrx) | refine gx hg1 ?_ | (refine eg ?_; conv => whnf) | refine an ?_ ?_ | (refine iw ?_; intro rx hrx) | exact lf | intro _)
  all_goals try exact vy
 ·rintro ⟨lo, hi⟩ ⟨h1, h2, h3, h4⟩
  dsimp only at h1 h2 h3 h4 ⊢
  rcases Nat.lt_or_ge lo hi with hlt | hge
  ·obtain ⟨m, hm⟩ : ∃ m : Nat, m = (lo + hi) / 2 := ⟨_, rfl⟩
   obtain ⟨v, hv⟩ : ∃ v, l[m]? = some v := ⟨_, List.getElem?_eq_getElem (by omega)⟩
   have hg1 : ∀ {n : Nat} {e : SV}, n = m → (ints l)[n]? = some e → e = .int .i64 v := by
    rintro n e rfl he
    obtain ⟨x, hx, rfl⟩ := encI_at he
    rw [hv] at hx; cases hx; rfl
   have hsub2 : ∀ {r y q : Int}, r = y.fdiv (2 ^ min q.toNat IntKind.u64.bits) → y = (lo : Int) + hi ∧ q = 1 → r = (m : Int) := fun {r y q} h e => by
    rw [h, e.1, e.2, show ((2 : Int) ^ min (1 : Int).toNat IntKind.u64.bits) = 2 by decide, Int.fdiv_eq_ediv_of_nonneg _ (by omega)]; omega
   (repeat' first | (intro rx hrx; have hq := hsub1 hrx (by omega); subst hq; clear hrx) | (intro rx hrx; have hq := hsub2 hrx (by omega); subst hq; clear hrx) | refine gx hg1 ?_ | (refine eg ?_; conv => whnf) | refine an ?_ ?_ | (refine iw ?_; intro rx hrx) | exact lf | intro _)
   all_goals try exact vy
   refine TSq.pureBC (c243 v x) cl rfl (And.intro rfl rfl) ?_ ?_ <;> intro hb
   ·have hvx : v < x := by simpa using hb
    (repeat' first | (intro rx hrx; have hq := hsub1 hrx (by omega); subst hq; clear hrx) | (intro rx hrx; have hq := hsub2 hrx (by omega); subst hq; clear hrx) | refine gx hg1 ?_ | (refine eg ?_; conv => whnf) | refine an ?_ ?_ | (refine iw ?_; intro rx hrx) | exact lf | intro _)
    all_goals try exact vy
    refine ⟨⟨(m + 1, hi), ⟨by dsimp only; omega, by dsimp only; omega, fun j y hj hy => ?_, h4⟩, by dsimp only; omega, ?_⟩⟩
    ·dsimp only at hj
     rcases Nat.lt_or_ge j m with h | h
     ·have := hr j m y v h hy hv; omega
     ·have : j = m := by omega
      subst this; rw [hv] at hy; cases hy; exact hvx
    ·(repeat' first | (intro rx hrx; have hq := hsub1 hrx (by omega); subst hq; clear hrx) | (intro rx hrx; have hq := hsub2 hrx (by omega); subst hq; clear hrx) | refine gx hg1 ?_ | (refine eg ?_; conv => whnf) | refine an ?_ ?_ | (refine iw ?_; intro rx hrx) | exact lf | intro _)
     all_goals try exact vy
   ·have hvx : x ≤ v := by simpa using hb
    (repeat' first | (intro rx hrx; have hq := hsub1 hrx (by omega); subst hq; clear hrx) | (intro rx hrx; have hq := hsub2 hrx (by omega); subst hq; clear hrx) | refine gx hg1 ?_ | (refine eg ?_; conv => whnf) | refine an ?_ ?_ | (refine iw ?_; intro rx hrx) | exact lf | intro _)
    all_goals try exact vy
    refine ⟨⟨(lo, m), ⟨by dsimp only; omega, by dsimp only; omega, h3, fun j y hj hy => ?_⟩, by dsimp only; omega, ?_⟩⟩
    ·dsimp only at hj
     rcases Nat.lt_or_ge m j with h | h
     ·have := hr m j v y h hv hy; omega
     ·have : j = m := by omega
      subst this; rw [hv] at hy; cases hy; exact hvx
    ·(repeat' first | (intro rx hrx; have hq := hsub1 hrx (by omega); subst hq; clear hrx) | (intro rx hrx; have hq := hsub2 hrx (by omega); subst hq; clear hrx) | refine gx hg1 ?_ | (refine eg ?_; conv => whnf) | refine an ?_ ?_ | (refine iw ?_; intro rx hrx) | exact lf | intro _)
     all_goals try exact vy
  ·have hle : lo = hi := by omega
   subst hle
   have hp : posB l x = lo := posB_eq h2 h3 (fun y hy => h4 lo y (Nat.le_refl _) hy)
   rw [hp]
   rcases Nat.lt_or_ge lo l.length with hll | hll
   ·obtain ⟨v, hv⟩ : ∃ v, l[lo]? = some v := ⟨_, List.getElem?_eq_getElem hll⟩
    have hg1 : ∀ {n : Nat} {e : SV}, n = lo → (ints l)[n]? = some e → e = .int .i64 v := by
     rintro n e rfl he
     obtain ⟨x, hx, rfl⟩ := encI_at he
     rw [hv] at hx; cases hx; rfl
    (repeat' first | (intro rx hrx; have hq := hsub1 hrx (by omega); subst hq; clear hrx) | (intro rx hrx; have hq := hsub2 hrx (by omega); subst hq; clear hrx) | refine gx hg1 ?_ | (refine eg ?_; conv => whnf) | refine an ?_ ?_ | (refine iw ?_; intro rx hrx) | exact lf | intro _)
    all_goals try exact vy
    ·rename_i hx
     show SV.tup _ = SV.tup _
     simp [hv, hx]
    ·rename_i hx
     refine TSq.pureC (c244 v) cl rfl (And.intro rfl rfl) ?_
     (repeat' first | (intro rx hrx; have hq := hsub1 hrx (by omega); subst hq; clear hrx) | (intro rx hrx; have hq := hsub2 hrx (by omega); subst hq; clear hrx) | refine gx hg1 ?_ | (refine eg ?_; conv => whnf) | refine an ?_ ?_ | (refine iw ?_; intro rx hrx) | exact lf | intro _)
     show SV.tup _ = SV.tup _
     simp [hv, hx]
   ·(repeat' first | (intro rx hrx; have hq := hsub1 hrx (by omega); subst hq; clear hrx) | (intro rx hrx; have hq := hsub2 hrx (by omega); subst hq; clear hrx) | refine gx hg1 ?_ | (refine eg ?_; conv => whnf) | refine an ?_ ?_ | (refine iw ?_; intro rx hrx) | exact lf | intro _)
    all_goals try exact vy
    all_goals (show SV.tup _ = SV.tup _; simp [List.getElem?_eq_none hll])
end Go.Proofs.YtjadiajfbflghaaGreat
open Go Go.TV
namespace Go.Proofs.YtjadiajfbflghaaGreat
theorem goR_spec {m : Int} : ∀ {a : Int} {l : List Int}, goR a m l = true → (∀ x ∈ l, a < x ∧ x ≤ m) ∧ l.Pairwise (· < ·)
 | a, [], _ => by simp
 | a, x :: l, h => by
  simp only [goR, Bool.and_eq_true, within, decide_eq_true_eq] at h
  obtain ⟨h1, h2⟩ := goR_spec h.2
  refine ⟨fun y hy => ?_, List.pairwise_cons.2 ⟨fun y hy => (h1 y hy).1, h2⟩⟩
  rcases List.mem_cons.1 hy with rfl | hy
  ·omega
  ·have := h1 y hy; omega
theorem rise_of {l : List Int} {m : Int} (h : risingB l m = true) : Rise l ∧ l[0]? = some 0 ∧ ∀ x ∈ l, 0 ≤ x ∧ x ≤ m := by
 simp only [risingB, Bool.and_eq_true, decide_eq_true_eq] at h
 obtain ⟨_, h2, h3⟩ := h
 obtain ⟨h4, h5⟩ := goR_spec h3
 refine ⟨fun i j a b hij ha hb => ?_, by cases l <;> simp_all, fun x hx => by have := h4 x hx; omega⟩
 have := (List.pairwise_iff_getElem.1 h5) i j (List.getElem?_eq_some_iff.1 ha).1 (List.getElem?_eq_some_iff.1 hb).1 hij
 rw [(List.getElem?_eq_some_iff.1 ha).2, (List.getElem?_eq_some_iff.1 hb).2] at this
 exact this
theorem posB_spec (x : Int) : ∀ (l : List Int), posB l x ≤ l.length ∧ (∀ (j : Nat) (y : Int), j < posB l x → l[j]? = some y → y < x) ∧ ∀ y, l[posB l x]? = some y → x ≤ y
 | [] => by simp [posB]
 | a :: l => by
  obtain ⟨h1, h2, h3⟩ := posB_spec x l
  by_cases ha : a < x
  ·have e : posB (a :: l) x = posB l x + 1 := by simp [posB, List.takeWhile_cons, ha]
   rw [e]
   refine ⟨by simp; omega, fun j y hj hy => ?_, fun y hy => h3 y (by simpa using hy)⟩
   cases j with
   | zero => simp at hy; omega
   | succ j => exact h2 j y (by omega) (by simpa using hy)
  ·have e : posB (a :: l) x = 0 := by simp [posB, List.takeWhile_cons, ha]
   rw [e]
   exact ⟨by simp, fun j y hj => by omega, fun y hy => by simp at hy; omega⟩
def atF (l : List Tf) (d : Int) : Nat → Option Tf
 | 0 => none
 | k + 1 => match l[k]? with
  | some t => if t.frm ≤ d then some t else atF l d k
  | none => atF l d k
def tfC : Option Tf → List SV
 | none => [.int .i64 0, .bool false, .int .i64 0, .nils, .nils, .nils]
 | some t => [.int .i64 t.frm, .bool t.whole, .int .i64 t.least, .sl 1 (ints t.weeks), .sl 1 (ints t.counts), .sl 1 (encCrs t.rates)]
theorem c153 (l : List Tf) (d : Int) (t : Tf) (hl : l.length ≤ 1000) (ht : atF l d l.length = some t) : PF Tryz.prog 153 [.agg [.sl 6 (encTfs l)], .int .i64 d] (· = encTf t) := by
 have hz := encTfs_len l
 refine PF.of (TF.ev fn_153 (Ev.at ?_))
 (repeat' first | refine gx hg1 ?_ | (refine eg ?_; conv => whnf) | refine an ?_ ?_ | (refine iw ?_; intro rx hrx) | exact lf | intro _)
 all_goals try exact vy
 refine TWq.loop (fun k : Nat => [(10, .int .i64 k), (6, .junk)]) (fun k => [(1, .cells (tfC (atF l d k)))]) (fun k => k ≤ l.length) (fun k => l.length - k) 0 [] [] ?_ (by omega) ?_
 ·(repeat' first | refine gx hg1 ?_ | (refine eg ?_; conv => whnf) | refine an ?_ ?_ | (refine iw ?_; intro rx hrx) | exact lf | intro _)
  all_goals try exact vy
 ·intro k hk
  rcases Nat.lt_or_ge k l.length with hkl | hkl
  ·obtain ⟨v, hv⟩ : ∃ v, l[k]? = some v := ⟨_, List.getElem?_eq_getElem hkl⟩
   have hs : atF l d (k + 1) = if v.frm ≤ d then some v else atF l d k := by rw [atF, hv]
   have hg1 : ∀ {n : Nat} {e : SV}, n = k → (encTfs l)[n]? = some e → e = encTf v := by
    rintro n e rfl he
    obtain ⟨x, hx, rfl⟩ := encTfs_at he
    rw [hv] at hx; cases hx; rfl
   by_cases hle : v.frm ≤ d
   ·rw [if_pos hle] at hs
    cases hc : atF l d k
    all_goals
     (repeat' first | refine gx hg1 ?_ | (refine eg ?_; conv => whnf) | refine an ?_ ?_ | (refine iw ?_; intro rx hrx) | exact lf | intro _)
     all_goals (try (exfalso; omega))
     all_goals try exact vy
     refine ⟨⟨k + 1, by omega, by omega, ?_⟩⟩
     rw [hs]
     (repeat' first | refine gx hg1 ?_ | (refine eg ?_; conv => whnf) | refine an ?_ ?_ | (refine iw ?_; intro rx hrx) | exact lf | intro _)
     all_goals try exact vy
   ·rw [if_neg hle] at hs
    cases hc : atF l d k
    all_goals
     (repeat' first | refine gx hg1 ?_ | (refine eg ?_; conv => whnf) | refine an ?_ ?_ | (refine iw ?_; intro rx hrx) | exact lf | intro _)
     all_goals (try (exfalso; omega))
     all_goals try exact vy
     refine ⟨⟨k + 1, by omega, by omega, ?_⟩⟩
     rw [hs, hc]
     (repeat' first | refine gx hg1 ?_ | (refine eg ?_; conv => whnf) | refine an ?_ ?_ | (refine iw ?_; intro rx hrx) | exact lf | intro _)
     all_goals try exact vy
  ·have hke : k = l.length := by omega
   subst hke
   rw [ht]
   (repeat' first | refine gx hg1 ?_ | (refine eg ?_; conv => whnf) | refine an ?_ ?_ | (refine iw ?_; intro rx hrx) | exact lf | intro _)
   all_goals try exact vy
   all_goals (try rfl)
end Go.Proofs.YtjadiajfbflghaaGreat
open Go Go.TV
namespace Go.Proofs.YtjadiajfbflghaaGreat
def ratesF (t : Tf) (crop day : Int) : List Int := (t.rates.getD crop.toNat []).getD (lastLe t.weeks day t.weeks.length) []
def lossF (t : Tf) (crop day count : Int) : Int :=
 let r := ratesF t crop day
 let i := posB t.counts count
 if t.counts[i]? = some count then r.getD i 0 else (r.getD (i - 1) 0 * (t.counts.getD i 0 - count) + r.getD i 0 * (count - t.counts.getD (i - 1) 0)) / (t.counts.getD i 0 - t.counts.getD (i - 1) 0)
theorem loss_parts {t : Tf} (o : OkT t) {crop day count : Int} (hc : 0 ≤ crop ∧ crop < t.rates.length) (hn : 0 ≤ count ∧ count ≤ 100) :
  (∃ c, t.rates[crop.toNat]? = some c ∧ c[lastLe t.weeks day t.weeks.length]? = some (ratesF t crop day)) ∧ (ratesF t crop day).length = t.counts.length ∧ (∀ x ∈ ratesF t crop day, 0 ≤ x ∧ x ≤ 100) ∧ posB t.counts count < t.counts.length := by
 obtain ⟨hr, h0, hb⟩ := rise_of o.counts
 have hw : 0 < t.weeks.length := by have := (rise_of o.weeks).2.1; exact (List.getElem?_eq_some_iff.1 this).1
 have hc' : t.rates[crop.toNat]? = some (t.rates[crop.toNat]'(by omega)) := List.getElem?_eq_getElem (by omega)
 generalize t.rates[crop.toNat]'(by omega) = c at hc'
 obtain ⟨k1, k2⟩ := o.crops c (List.mem_of_getElem? hc')
 have hlt := lastLe_lt t.weeks day hw
 have hx : c[lastLe t.weeks day t.weeks.length]? = some (c[lastLe t.weeks day t.weeks.length]'(by omega)) := List.getElem?_eq_getElem (by omega)
 have hR : ratesF t crop day = c[lastLe t.weeks day t.weeks.length]'(by omega) := by
  simp only [ratesF, List.getD_eq_getElem?_getD, hc', Option.getD_some, hx]
 obtain ⟨m1, m2⟩ := k2 _ (List.mem_of_getElem? hx)
 rw [hR]
 refine ⟨⟨c, hc', hx⟩, m1, m2, ?_⟩
 obtain ⟨p1, p2, p3⟩ := posB_spec count t.counts
 rcases Nat.lt_or_ge (posB t.counts count) t.counts.length with h | h
 ·exact h
 ·have := p2 (t.counts.length - 1) 100 (by have := o.two; omega) o.last
  omega
theorem c154 (t : Tf) (o : OkT t) (crop day count : Int) (hc : 0 ≤ crop ∧ crop < t.rates.length) (hn : 0 ≤ count ∧ count ≤ 100) :
  PF Tryz.prog 154 [encTf t, .agg [.int .i64 crop, .int .i64 day, .int .i64 count]] (· = .int .i64 (lossF t crop day count)) ∧ 0 ≤ lossF t crop day count ∧ lossF t crop day count ≤ 100 := by
 obtain ⟨⟨c, hc1, hc2⟩, hrl, hrb, hp⟩ := loss_parts (day := day) o hc hn
 obtain ⟨hr, h0, hb⟩ := rise_of o.counts
 obtain ⟨p1, p2, p3⟩ := posB_spec count t.counts
 have hf := o.few
 have d1 := c208 t day (by omega)
 have d2 := c209 t.counts count (by omega) hr
 have hz1 := encCrs_len t.rates
 have hz2 := encIss_len c
 have hz3 := ints_len (ratesF t crop day)
 have hz4 := ints_len t.counts
 have hcl := (List.getElem?_eq_some_iff.1 hc2).1
 have hg1 : ∀ {n : Nat} {e : SV}, n = crop.toNat → (encCrs t.rates)[n]? = some e → e = encCr c := by
  rintro n e rfl he
  obtain ⟨x, hx, rfl⟩ := encCrs_at he
  rw [hc1] at hx; cases hx; rfl
 have hg2 : ∀ {n : Nat} {e : SV}, n = lastLe t.weeks day t.weeks.length → (encIss c)[n]? = some e → e = encIs (ratesF t crop day) := by
  rintro n e rfl he
  obtain ⟨x, hx, rfl⟩ := encIss_at he
  rw [hc2] at hx; cases hx; rfl
 have hi : (ratesF t crop day)[posB t.counts count]? = some ((ratesF t crop day).getD (posB t.counts count) 0) := by
  simp [List.getD_eq_getElem?_getD, List.getElem?_eq_getElem (show posB t.counts count < (ratesF t crop day).length by omega)]
 have hib := hrb _ (List.mem_of_getElem? hi)
 have hci : t.counts[posB t.counts count]? = some (t.counts.getD (posB t.counts count) 0) := by
  simp [List.getD_eq_getElem?_getD, List.getElem?_eq_getElem hp]
 have hcib := hb _ (List.mem_of_getElem? hci)
 have hge := p3 _ hci
 generalize hw : lastLe t.weeks day t.weeks.length = w at *
 generalize hR : ratesF t crop day = R at *
 have hg3 : ∀ {n : Nat} {e : SV}, n = posB t.counts count → (ints R)[n]? = some e → e = .int .i64 (R.getD (posB t.counts count) 0) := by
  rintro n e rfl he
  obtain ⟨x, hx, rfl⟩ := encI_at he
  rw [hi] at hx; cases hx; rfl
 by_cases hfd : t.counts[posB t.counts count]? = some count
 ·have hL : lossF t crop day count = R.getD (posB t.counts count) 0 := by simp only [lossF, hR, if_pos hfd]
  rw [hL]
  refine ⟨?_, hib.1, hib.2⟩
  rw [decide_eq_true hfd] at d2
  generalize R.getD (posB t.counts count) 0 = ri at *
  generalize posB t.counts count = i at *
  refine PF.of (TF.ev fn_154 (Ev.at ?_))
  (repeat' first | (intro rx hrx; have hq := hsub1 hrx (by omega); subst hq; clear hrx) | (intro rx hrx; have hq := hsub2 hrx (by omega); subst hq; clear hrx) | (intro rx hrx; have hq := hsub3 hrx (by omega); subst hq; clear hrx) | refine gx hg1 ?_ | refine gx hg2 ?_ | refine gx hg3 ?_ | refine gx hg4 ?_ | refine gx hg5 ?_ | refine gx hg6 ?_ | (refine eg ?_; conv => whnf) | refine an ?_ ?_ | (refine iw ?_; intro rx hrx) | exact lf | intro _)
  all_goals try exact vy
  refine TDq.pureC d1 (by simp [cloL, clo, encTf, encCrs_clo, ints_clo]) rfl (And.intro rfl rfl) ?_
  (repeat' first | (intro rx hrx; have hq := hsub1 hrx (by omega); subst hq; clear hrx) | (intro rx hrx; have hq := hsub2 hrx (by omega); subst hq; clear hrx) | (intro rx hrx; have hq := hsub3 hrx (by omega); subst hq; clear hrx) | refine gx hg1 ?_ | refine gx hg2 ?_ | refine gx hg3 ?_ | refine gx hg4 ?_ | refine gx hg5 ?_ | refine gx hg6 ?_ | (refine eg ?_; conv => whnf) | refine an ?_ ?_ | (refine iw ?_; intro rx hrx) | exact lf | intro _)
  all_goals try exact vz
  refine TSq.pureC d2 cl rfl (And.intro rfl rfl) ?_
  (repeat' first | (intro rx hrx; have hq := hsub1 hrx (by omega); subst hq; clear hrx) | (intro rx hrx; have hq := hsub2 hrx (by omega); subst hq; clear hrx) | (intro rx hrx; have hq := hsub3 hrx (by omega); subst hq; clear hrx) | refine gx hg1 ?_ | refine gx hg2 ?_ | refine gx hg3 ?_ | refine gx hg4 ?_ | refine gx hg5 ?_ | refine gx hg6 ?_ | (refine eg ?_; conv => whnf) | refine an ?_ ?_ | (refine iw ?_; intro rx hrx) | exact lf | intro _)
  all_goals try exact vy
  all_goals (try rfl)
 ·have hi1 : 1 ≤ posB t.counts count := by
   rcases Nat.eq_zero_or_pos (posB t.counts count) with h | h
   ·rw [h] at hfd hge hci
    rw [h0] at hci
    have := (Option.some.inj hci).symm
    exact absurd (by rw [h0]; congr 1; omega) hfd
   ·exact h
  have hj : R[posB t.counts count - 1]? = some (R.getD (posB t.counts count - 1) 0) := by
   simp [List.getD_eq_getElem?_getD, List.getElem?_eq_getElem (show posB t.counts count - 1 < R.length by omega)]
  have hjb := hrb _ (List.mem_of_getElem? hj)
  have hcj : t.counts[posB t.counts count - 1]? = some (t.counts.getD (posB t.counts count - 1) 0) := by
   simp [List.getD_eq_getElem?_getD, List.getElem?_eq_getElem (show posB t.counts count - 1 < t.counts.length by omega)]
  have hcjb := hb _ (List.mem_of_getElem? hcj)
  have hlt := p2 (posB t.counts count - 1) _ (by omega) hcj
  have hne : t.counts.getD (posB t.counts count) 0 ≠ count := fun e => hfd (by rw [hci, e])
  have hL : lossF t crop day count = (R.getD (posB t.counts count - 1) 0 * (t.counts.getD (posB t.counts count) 0 - count) + R.getD (posB t.counts count) 0 * (count - t.counts.getD (posB t.counts count - 1) 0)) / (t.counts.getD (posB t.counts count) 0 - t.counts.getD (posB t.counts count - 1) 0) := by
   simp only [lossF, hR, if_neg hfd]
  rw [hL]
  rw [decide_eq_false hfd] at d2
  have hg4 : ∀ {n : Nat} {e : SV}, n = posB t.counts count - 1 → (ints R)[n]? = some e → e = .int .i64 (R.getD (posB t.counts count - 1) 0) := by
   rintro n e rfl he
   obtain ⟨x, hx, rfl⟩ := encI_at he
   rw [hj] at hx; cases hx; rfl
  have hg5 : ∀ {n : Nat} {e : SV}, n = posB t.counts count → (ints t.counts)[n]? = some e → e = .int .i64 (t.counts.getD (posB t.counts count) 0) := by
   rintro n e rfl he
   obtain ⟨x, hx, rfl⟩ := encI_at he
   rw [hci] at hx; cases hx; rfl
  have hg6 : ∀ {n : Nat} {e : SV}, n = posB t.counts count - 1 → (ints t.counts)[n]? = some e → e = .int .i64 (t.counts.getD (posB t.counts count - 1) 0) := by
   rintro n e rfl he
   obtain ⟨x, hx, rfl⟩ := encI_at he
   rw [hcj] at hx; cases hx; rfl
  generalize R.getD (posB t.counts count) 0 = ri at *
  generalize R.getD (posB t.counts count - 1) 0 = rj at *
  generalize t.counts.getD (posB t.counts count) 0 = b at *
  generalize t.counts.getD (posB t.counts count - 1) 0 = a at *
  have m1 : 0 ≤ rj * (b - count) := Int.mul_nonneg hjb.1 (by omega)
  have m2 : 0 ≤ ri * (count - a) := Int.mul_nonneg hib.1 (by omega)
  have m3 : rj * (b - count) ≤ 100 * (b - count) := Int.mul_le_mul_of_nonneg_right hjb.2 (by omega)
  have m4 : ri * (count - a) ≤ 100 * (count - a) := Int.mul_le_mul_of_nonneg_right hib.2 (by omega)
  have hq0 : 0 ≤ (rj * (b - count) + ri * (count - a)) / (b - a) := Int.ediv_nonneg (by omega) (by omega)
  have hq1 : (rj * (b - count) + ri * (count - a)) / (b - a) ≤ 100 := by
   have : (rj * (b - count) + ri * (count - a)) ≤ 100 * (b - a) := by omega
   exact Int.ediv_le_of_le_mul (by omega) this
  refine ⟨?_, hq0, hq1⟩
  have hsub1 : ∀ {x y : Int}, x = IntKind.i64.wrap (rj * y) → y = b - count → x = rj * (b - count) := fun h e => by rw [h, e, IntWalk.i64_in _ (by omega)]
  have hsub2 : ∀ {x y : Int}, x = IntKind.i64.wrap (ri * y) → y = count - a → x = ri * (count - a) := fun h e => by rw [h, e, IntWalk.i64_in _ (by omega)]
  have hsub3 : ∀ {x y z : Int}, x = IntKind.i64.wrap (y.tdiv z) → y = rj * (b - count) + ri * (count - a) ∧ z = b - a → x = (rj * (b - count) + ri * (count - a)) / (b - a) := fun h e => by
   rw [h, e.1, e.2, Int.tdiv_eq_ediv_of_nonneg (by omega), IntWalk.i64_in _ (by omega)]
  generalize hQ : (rj * (b - count) + ri * (count - a)) / (b - a) = Q at *
  generalize rj * (b - count) = z1 at *
  generalize ri * (count - a) = z2 at *
  generalize posB t.counts count = i at *
  refine PF.of (TF.ev fn_154 (Ev.at ?_))
  (repeat' first | (intro rx hrx; have hq := hsub1 hrx (by omega); subst hq; clear hrx) | (intro rx hrx; have hq := hsub2 hrx (by omega); subst hq; clear hrx) | (intro rx hrx; have hq := hsub3 hrx (by omega); subst hq; clear hrx) | refine gx hg1 ?_ | refine gx hg2 ?_ | refine gx hg3 ?_ | refine gx hg4 ?_ | refine gx hg5 ?_ | refine gx hg6 ?_ | (refine eg ?_; conv => whnf) | refine an ?_ ?_ | (refine iw ?_; intro rx hrx) | exact lf | intro _)
  all_goals try exact vy
  refine TDq.pureC d1 (by simp [cloL, clo, encTf, encCrs_clo, ints_clo]) rfl (And.intro rfl rfl) ?_
  (repeat' first | (intro rx hrx; have hq := hsub1 hrx (by omega); subst hq; clear hrx) | (intro rx hrx; have hq := hsub2 hrx (by omega); subst hq; clear hrx) | (intro rx hrx; have hq := hsub3 hrx (by omega); subst hq; clear hrx) | refine gx hg1 ?_ | refine gx hg2 ?_ | refine gx hg3 ?_ | refine gx hg4 ?_ | refine gx hg5 ?_ | refine gx hg6 ?_ | (refine eg ?_; conv => whnf) | refine an ?_ ?_ | (refine iw ?_; intro rx hrx) | exact lf | intro _)
  all_goals try exact vz
  refine TSq.pureC d2 cl rfl (And.intro rfl rfl) ?_
  (repeat' first | (intro rx hrx; have hq := hsub1 hrx (by omega); subst hq; clear hrx) | (intro rx hrx; have hq := hsub2 hrx (by omega); subst hq; clear hrx) | (intro rx hrx; have hq := hsub3 hrx (by omega); subst hq; clear hrx) | refine gx hg1 ?_ | refine gx hg2 ?_ | refine gx hg3 ?_ | refine gx hg4 ?_ | refine gx hg5 ?_ | refine gx hg6 ?_ | (refine eg ?_; conv => whnf) | refine an ?_ ?_ | (refine iw ?_; intro rx hrx) | exact lf | intro _)
  all_goals try exact vz
  all_goals (try rfl)
end Go.Proofs.YtjadiajfbflghaaGreat
open Go Go.TV
namespace Go.Proofs.YtjadiajfbflghaaGreat
theorem all_false {α : Type} {l : List α} {p : α → Bool} {k : Nat} {x : α} (h : l[k]? = some x) (hp : p x = false) : l.all p = false := by
 rw [List.all_eq_false]
 exact ⟨x, List.mem_of_getElem? h, by simp [hp]⟩
theorem fault_3 {s : Soc} (h : 5 < s.members.length ∨ 3 < s.losses.length) : fault s = 3 := by rw [fault, if_pos h]
theorem fault_1 {s : Soc} (h : ¬ (5 < s.members.length ∨ 3 < s.losses.length)) (h' : s.valid = false) : fault s = 1 := by
 rw [fault, if_neg h, if_neg (by rw [h']; simp)]
theorem fault_0 {s : Soc} (h : ¬ (5 < s.members.length ∨ 3 < s.losses.length)) (h' : s.valid = true) : fault s = 0 := by
 rw [fault, if_neg h, if_pos h']
theorem all_take {α : Type} {l : List α} {p : α → Bool} {k : Nat} {x : α} (h : l[k]? = some x) (h1 : (l.take k).all p = true) (h2 : p x = true) : (l.take (k + 1)).all p = true := by
 rw [take_snoc h, List.all_append, h1]; simp [h2]
theorem c9 (s : Soc) : PF Tryz.prog 9 [encSoc s] (· = .int .i64 (fault s)) := by
 have hz := encYs_len s.members
 have hw := encRs_len s.losses
 refine PF.of (TF.ev fn_9 (Ev.at ?_))
 (repeat' first | (refine eg ?_; conv => whnf) | refine an ?_ ?_ | (refine iw ?_; intro rx hrx) | exact lf | (intro hcx; exfalso; simp only [lz] at hcx; omega) | intro _)
 all_goals (try (rw [fault_3 (by omega)]; done))
 ·have h0 : s.members.length = 0 := by omega
  rw [fault_1 (by omega) (by simp [Soc.valid, List.length_eq_zero_iff.1 h0])]
 have hn1 : s.members.length ≠ 0 := by omega
 have hn0 : s.members ≠ [] := fun h => hn1 (by rw [h]; rfl)
 refine TSq.pureBC (c52 _) cl rfl (And.intro rfl rfl) ?_ ?_ <;> intro w1 <;> (repeat' first | (refine eg ?_; conv => whnf) | refine an ?_ ?_ | (refine iw ?_; intro rx hrx) | exact lf | (intro hcx; exfalso; simp only [lz] at hcx; omega) | intro _)
 all_goals (try (rw [fault_1 (by omega) (by simp [Soc.valid, w1])]; done))
 refine TSq.pureBC (c53 _ _ _) cl rfl (And.intro rfl rfl) ?_ ?_ <;> intro w2 <;> (repeat' first | (refine eg ?_; conv => whnf) | refine an ?_ ?_ | (refine iw ?_; intro rx hrx) | exact lf | (intro hcx; exfalso; simp only [lz] at hcx; omega) | intro _)
 all_goals (try (rw [fault_1 (by omega) (by simp [Soc.valid, w2])]; done))
 refine TWq.loop (fun k : Nat => [(3, .int .i64 k), (4, .junk)]) (fun k => []) (fun k => k ≤ s.members.length ∧ (s.members.take k).all Mem.valid = true) (fun k => s.members.length - k) 0 [] [] ?_ ⟨by omega, by simp⟩ ?_
 ·(repeat' first | (refine eg ?_; conv => whnf) | refine an ?_ ?_ | (refine iw ?_; intro rx hrx) | exact lf | (intro hcx; exfalso; simp only [lz] at hcx; omega) | intro _)
  all_goals try exact vy
 ·rintro k ⟨hk1, hk2⟩
  rcases Nat.lt_or_ge k s.members.length with hkl | hkl
  ·obtain ⟨m, hm⟩ : ∃ m, s.members[k]? = some m := ⟨_, List.getElem?_eq_getElem hkl⟩
   have hg1 : ∀ {n : Nat} {e : SV}, n = k → (encYs s.members)[n]? = some e → e = encY m := by
    rintro n e rfl he
    obtain ⟨x, hx, rfl⟩ := encYs_at he
    rw [hm] at hx; cases hx; rfl
   have hbad : m.valid = false → s.valid = false := fun h => by simp only [Soc.valid, all_false hm h]; simp
   (repeat' first | refine gx hg1 ?_ | (refine eg ?_; conv => whnf) | refine an ?_ ?_ | (refine iw ?_; intro rx hrx) | exact lf | intro _)
   all_goals try exact vy
   refine TSq.pureBC (c53 _ _ _) cl rfl (And.intro rfl rfl) ?_ ?_ <;> intro w3 <;> (repeat' first | refine gx hg1 ?_ | (refine eg ?_; conv => whnf) | refine an ?_ ?_ | (refine iw ?_; intro rx hrx) | exact lf | intro _)
   all_goals (try (rw [fault_1 (by omega) (hbad (by simp [Mem.valid, w3]))]; done))
   refine TSq.pureBC (c53 _ _ _) cl rfl (And.intro rfl rfl) ?_ ?_ <;> intro w4 <;> (repeat' first | refine gx hg1 ?_ | (refine eg ?_; conv => whnf) | refine an ?_ ?_ | (refine iw ?_; intro rx hrx) | exact lf | intro _)
   all_goals (try (rw [fault_1 (by omega) (hbad (by simp [Mem.valid, w4]))]; done))
   refine TSq.pureBC (c53 _ _ _) cl rfl (And.intro rfl rfl) ?_ ?_ <;> intro w5 <;> (repeat' first | refine gx hg1 ?_ | (refine eg ?_; conv => whnf) | refine an ?_ ?_ | (refine iw ?_; intro rx hrx) | exact lf | intro _)
   all_goals (try (rw [fault_1 (by omega) (hbad (by simp [Mem.valid, w5]))]; done))
   all_goals try exact vy
   refine ⟨⟨k + 1, ⟨by omega, all_take hm hk2 (by simp [Mem.valid, w3, w4, w5])⟩, by omega, ?_⟩⟩
   (repeat' first | refine gx hg1 ?_ | (refine eg ?_; conv => whnf) | refine an ?_ ?_ | (refine iw ?_; intro rx hrx) | exact lf | intro _)
   all_goals try exact vy
  ·have hke : k = s.members.length := by omega
   subst hke
   rw [List.take_length] at hk2
   (repeat' first | (refine eg ?_; conv => whnf) | refine an ?_ ?_ | (refine iw ?_; intro rx hrx) | exact lf | (intro hcx; exfalso; simp only [lz] at hcx; omega) | intro _)
   all_goals try exact vy
   refine TWq.loop (fun k : Nat => [(5, .int .i64 k)]) (fun k => []) (fun k => k ≤ s.losses.length ∧ (s.losses.take k).all Rng.pence = true) (fun k => s.losses.length - k) 0 [] [] ?_ ⟨by omega, by simp⟩ ?_
   ·(repeat' first | (refine eg ?_; conv => whnf) | refine an ?_ ?_ | (refine iw ?_; intro rx hrx) | exact lf | (intro hcx; exfalso; simp only [lz] at hcx; omega) | intro _)
    all_goals try exact vy
   ·rintro k ⟨hk3, hk4⟩
    rcases Nat.lt_or_ge k s.losses.length with hkl | hkl
    ·obtain ⟨m, hm⟩ : ∃ m, s.losses[k]? = some m := ⟨_, List.getElem?_eq_getElem hkl⟩
     have hg1 : ∀ {n : Nat} {e : SV}, n = k → (encRs s.losses)[n]? = some e → e = encR m := by
      rintro n e rfl he
      obtain ⟨x, hx, rfl⟩ := encRs_at he
      rw [hm] at hx; cases hx; rfl
     have hbad : m.pence = false → s.valid = false := fun h => by simp only [Soc.valid, all_false hm h]; simp
     (repeat' first | refine gx hg1 ?_ | (refine eg ?_; conv => whnf) | refine an ?_ ?_ | (refine iw ?_; intro rx hrx) | exact lf | intro _)
     all_goals try exact vy
     refine TSq.pureBC (c52 _) cl rfl (And.intro rfl rfl) ?_ ?_ <;> intro w3 <;> (repeat' first | refine gx hg1 ?_ | (refine eg ?_; conv => whnf) | refine an ?_ ?_ | (refine iw ?_; intro rx hrx) | exact lf | intro _)
     all_goals (try (rw [fault_1 (by omega) (hbad w3)]; done))
     all_goals try exact vy
     refine ⟨⟨k + 1, ⟨by omega, all_take hm hk4 w3⟩, by omega, ?_⟩⟩
     (repeat' first | refine gx hg1 ?_ | (refine eg ?_; conv => whnf) | refine an ?_ ?_ | (refine iw ?_; intro rx hrx) | exact lf | intro _)
     all_goals try exact vy
    ·have hke : k = s.losses.length := by omega
     subst hke
     rw [List.take_length] at hk4
     (repeat' first | (refine eg ?_; conv => whnf) | refine an ?_ ?_ | (refine iw ?_; intro rx hrx) | exact lf | (intro hcx; exfalso; simp only [lz] at hcx; omega) | intro _)
     all_goals try exact vy
     rw [fault_0 (by omega) (by simp [Soc.valid, hn0, hk2, hk4, w1, w2])]
theorem c8 (s : Soc) : PF Tryz.prog 8 [encSoc s] (· = .bool (decide (s.members.length ≤ 8 ∧ s.losses.length ≤ 6))) := by
 have hz := encYs_len s.members
 have hw := encRs_len s.losses
 refine PF.of (TF.ev fn_8 (Ev.at ?_))
 (repeat' first | (refine eg ?_; conv => whnf) | refine an ?_ ?_ | (refine iw ?_; intro rx hrx) | exact lf | (intro hcx; exfalso; simp only [lz] at hcx; omega) | intro _)
 all_goals (rw [SV.bool_iff]; simp; omega)
def ready (s : Soc) : Bool := decide (fault s = 0)
theorem fault_len {s : Soc} (h : fault s = 0) : s.members.length ≤ 5 ∧ s.losses.length ≤ 3 := by
 unfold fault at h
 split at h <;> omega
theorem fault_valid {s : Soc} (h : fault s = 0) : s.valid = true := by
 unfold fault at h
 split at h
 ·omega
 ·split at h
  ·assumption
  ·omega
end Go.Proofs.YtjadiajfbflghaaGreat
open Go Go.TV
namespace Go.Proofs.YtjadiajfbflghaaGreat
def SN (s : Soc) (v : SV) : Prop := ∃ a b, v = .agg [a, b, .int .i64 s.treaty.lo, .int .i64 s.treaty.hi, .int .i64 s.reserve] ∧ (a = .sl 3 (encYs s.members) ∨ (s.members = [] ∧ a = .nils)) ∧ (b = .sl 2 (encRs s.losses) ∨ (s.losses = [] ∧ b = .nils))
theorem SN.pf {f : FuncId} {args : List SV} {s : Soc} (h : PF Tryz.prog f args (SN s)) : PF Tryz.prog f args (· = encSoc s) := by
 refine PF.res h fun v hv _ => ?_
 refine ⟨_, rfl, by simp [encSoc, clo, cloL, encYs_clo, encRs_clo], ?_⟩
 obtain ⟨a, b, rfl, ha, hb⟩ := hv
 unfold encSoc
 rcases ha with rfl | ⟨h1, rfl⟩ <;> rcases hb with rfl | ⟨h2, rfl⟩
 ·(repeat' first | (refine eg ?_; conv => whnf) | refine an ?_ ?_ | (refine iw ?_; intro rx hrx) | exact lf | (intro hcx; exfalso; simp only [lz] at hcx; omega) | intro _)
  all_goals try exact vy
 ·rw [h2]
  (repeat' first | (refine eg ?_; conv => whnf) | refine an ?_ ?_ | (refine iw ?_; intro rx hrx) | exact lf | (intro hcx; exfalso; simp only [lz] at hcx; omega) | intro _)
  all_goals try exact vy
 ·rw [h1]
  (repeat' first | (refine eg ?_; conv => whnf) | refine an ?_ ?_ | (refine iw ?_; intro rx hrx) | exact lf | (intro hcx; exfalso; simp only [lz] at hcx; omega) | intro _)
  all_goals try exact vy
 ·rw [h1, h2]
  (repeat' first | (refine eg ?_; conv => whnf) | refine an ?_ ?_ | (refine iw ?_; intro rx hrx) | exact lf | (intro hcx; exfalso; simp only [lz] at hcx; omega) | intro _)
  all_goals try exact vy
end Go.Proofs.YtjadiajfbflghaaGreat
open Go Go.TV
namespace Go.Proofs.YtjadiajfbflghaaGreat
def OkM (m : Mem) : Prop := (1 ≤ m.sum ∧ m.sum ≤ 1000) ∧ (1 ≤ m.cls ∧ m.cls ≤ 10) ∧ 0 ≤ m.most ∧ m.most ≤ 100000
theorem OkM.units {m : Mem} (h : OkM m) : 1 ≤ m.units ∧ m.units ≤ 10000 := by
 obtain ⟨h1, h2, _⟩ := h
 unfold Mem.units
 have a := Int.mul_le_mul (a := 1) (b := 1) (c := m.sum) (d := m.cls) (by omega) (by omega) (by omega) (by omega)
 have b := Int.mul_le_mul (a := m.sum) (b := m.cls) (c := 1000) (d := 10) (by omega) (by omega) (by omega) (by omega)
 omega
def encW (s : Soc) (f : Nat → Bool) (p : SV) : List SV := [.sl 3 (encYs s.members), .sl 2 (encRs s.losses), .int .i64 s.treaty.lo, .int .i64 s.treaty.hi, .int .i64 s.reserve, .bool (f 0), .bool (f 1), .bool (f 2), .bool (f 3), .bool (f 4), p]
theorem un_at {ms : List Mem} {i : Nat} {m : Mem} (h : ms[i]? = some m) : un ms i = m.units := by simp only [un, h]
theorem mst_at {ms : List Mem} {i : Nat} {m : Mem} (h : ms[i]? = some m) : mst ms i = m.most := by simp only [mst, h]
theorem part_ok {need U u : Int} (hn : 0 ≤ need ∧ need ≤ 300000) (hu : 1 ≤ u ∧ u ≤ 10000) (hU : 1 ≤ U ∧ U ≤ 50000) : (0 ≤ need * u ∧ need * u ≤ 3000000000) ∧ (need * u).tdiv U = need * u / U ∧ (need * u).tmod U = need * u % U ∧ (0 ≤ need * u / U ∧ need * u / U ≤ 3000000000) ∧ 0 ≤ need * u % U ∧ need * u % U < U := by
 have a : 0 ≤ need * u := Int.mul_nonneg hn.1 (by omega)
 have b := Int.mul_le_mul (a := need) (b := u) (c := 300000) (d := 10000) (by omega) (by omega) (by omega) (by omega)
 have hq : need * u / U ≤ need * u := Int.ediv_le_self _ a
 refine ⟨⟨a, by omega⟩, Int.tdiv_eq_ediv_of_nonneg a, Int.tmod_eq_emod_of_nonneg a, ⟨Int.ediv_nonneg a (by omega), by omega⟩, Int.emod_nonneg _ (by omega), Int.emod_lt_of_pos _ (by omega)⟩
theorem c198 (s : Soc) (f : Nat → Bool) (es : List ((Int × Int) × Int)) (i : Nat) (m : Mem) (need U : Int) (hm : s.members[i]? = some m) (ho : OkM m) (hn : 0 ≤ need ∧ need ≤ 300000) (hU : 1 ≤ U ∧ U ≤ 50000) :
  PF Tryz.prog 198 [.iptr (.agg (encW s f (.imap (encM es)))) 0, .int .i64 i, .int .i64 need, .int .i64 U] (· = encS (quo s.members need U i, rst s.members need U i)) := by
 have hz := encYs_len s.members
 have hi : i < s.members.length := (List.getElem?_eq_some_iff.1 hm).1
 obtain ⟨a1, a2, a3, a4, a5, a6⟩ := part_ok (u := m.units) hn ho.units hU
 have hg1 : ∀ {n : Nat} {e : SV}, n = i → (encYs s.members)[n]? = some e → e = encY m := by
  rintro n e rfl he
  obtain ⟨x, hx, rfl⟩ := encYs_at he
  rw [hm] at hx; cases hx; rfl
 have hq : quo s.members need U i = need * m.units / U := by rw [quo, un_at hm]
 have hr : rst s.members need U i = need * m.units % U := by rw [rst, un_at hm]
 have ho1 := ho.1
 have ho2 := ho.2.1
 refine PF.of (TF.ev fn_198 (Ev.at ?_))
 (repeat' first | refine gx hg1 ?_ | (refine eg ?_; conv => whnf) | refine an ?_ ?_ | (refine iw ?_; intro rx hrx) | exact lf | intro _)
 all_goals try exact vy
 refine TSq.pureC (c197 m (by omega) (by omega)) cl rfl (And.intro rfl rfl) ?_
 (repeat' first | refine gx hg1 ?_ | (refine eg ?_; conv => whnf) | refine an ?_ ?_ | (refine iw ?_; intro rx hrx) | exact lf | intro _)
 all_goals try exact vy
 rename_i q0 h0 q1 h1
 subst hrx
 rw [a2, IntWalk.i64_in _ (by omega)] at h0
 rw [a3] at h1
 rw [hq, hr, h0, h1]; rfl
def totG : List ((Int × Int) × Int) → Int → Int
 | [], _ => 0
 | e :: es, x => (if x < e.1.2 then e.2 else 0) + totG es x
theorem totG_append : ∀ (a b : List ((Int × Int) × Int)) (x : Int), totG (a ++ b) x = totG a x + totG b x
 | [], b, x => by simp [totG]
 | e :: a, b, x => by simp only [List.cons_append, totG, totG_append a b x]; omega
theorem totG_nn : ∀ {es : List ((Int × Int) × Int)} (x : Int), (∀ e ∈ es, 0 ≤ e.2) → 0 ≤ totG es x
 | [], _, _ => by simp [totG]
 | e :: es, x, h => by
  have h1 := totG_nn (es := es) x fun e he => h e (List.mem_cons_of_mem _ he)
  have h2 := h e (List.mem_cons_self ..)
  simp only [totG]
  split <;> omega
theorem cntF_le (p : Nat → Bool) : ∀ n, 0 ≤ cntF p n ∧ cntF p n ≤ n
 | 0 => by simp [cntF]
 | n + 1 => by
  have := cntF_le p n
  simp only [cntF]
  split <;> omega
theorem encW_at {s : Soc} {f : Nat → Bool} {p : SV} {k : Nat} (h : k < 5) : (encW s f p)[5 + k]? = some (.bool (f k)) := by
 have : k = 0 ∨ k = 1 ∨ k = 2 ∨ k = 3 ∨ k = 4 := by omega
 rcases this with rfl | rfl | rfl | rfl | rfl <;> rfl
theorem c199 (s : Soc) (f : Nat → Bool) (es : List ((Int × Int) × Int)) (i : Nat) (need U : Int) (hm : ∀ m ∈ s.members, OkM m) (hl : s.members.length ≤ 5) (hi : i < s.members.length) (hn : 0 ≤ need ∧ need ≤ 300000) (hU : 1 ≤ U ∧ U ≤ 50000)
  (he : ∀ e ∈ es, 0 ≤ e.2) (hT : ∀ x, totG es x = cntF (fun k => f k && decide (x < rst s.members need U k)) s.members.length) :
  PF Tryz.prog 199 [.iptr (.agg (encW s f (.imap (encM es)))) 0, .int .i64 i, .int .i64 need, .int .i64 U] (· = .int .i64 (beforeF s.members f need U i)) := by
 have hz := encYs_len s.members
 obtain ⟨mi, hmi⟩ : ∃ m, s.members[i]? = some m := ⟨_, List.getElem?_eq_getElem hi⟩
 have d := fun (k : Nat) (m : Mem) (h : s.members[k]? = some m) => c198 s f es k m need U h (hm m (List.mem_of_getElem? h)) hn hU
 refine PF.of (TF.ev fn_199 (Ev.at ?_))
 (repeat' first | (refine eg ?_; conv => whnf) | refine an ?_ ?_ | (refine iw ?_; intro rx hrx) | exact lf | intro _)
 all_goals try exact vy
 refine TSq.pureC (d i mi hmi) (by simp [cloL, clo, encW, encYs_clo, encRs_clo, encM_clo]) rfl (And.intro rfl rfl) ?_
 (repeat' first | (refine eg ?_; conv => whnf) | refine an ?_ ?_ | (refine iw ?_; intro rx hrx) | exact lf | intro _)
 all_goals try exact vy
 have hTi := hT (rst s.members need U i)
 have hc1 := cntF_le (fun k => f k && decide (rst s.members need U i < rst s.members need U k)) s.members.length
 generalize hown : rst s.members need U i = own at *
 refine TWq.loop (fun p : List ((Int × Int) × Int) × Int => [(10, .int .i64 p.2), (11, .junk), (12, .junk)]) (fun p => [(1, .iter (.imap (encM es)) (encM p.1) none)])
  (fun p => (0 ≤ p.2 ∧ p.2 + totG p.1 own = totG es own) ∧ ∀ e ∈ p.1, 0 ≤ e.2) (fun p => p.1.length) (es, 0) [] [] ?_ ⟨⟨by dsimp only; omega, by dsimp only; omega⟩, he⟩ ?_
 ·(repeat' first | (refine eg ?_; conv => whnf) | refine an ?_ ?_ | (refine iw ?_; intro rx hrx) | exact lf | intro _)
  all_goals try exact vy
 ·rintro ⟨left, acc⟩ ⟨⟨hp1, hp2⟩, hp3⟩
  dsimp only at hp1 hp2 hp3 ⊢
  (repeat' first | (refine eg ?_; conv => whnf) | refine an ?_ ?_ | (refine iw ?_; intro rx hrx) | exact lf | intro _)
  refine TSq.next rfl rfl rfl rfl ?_ ?_
  ·intro hleft
   have hleft : left = [] := List.map_eq_nil_iff.1 hleft
   subst hleft
   simp only [totG] at hp2
   have hacc : acc = totG es own := by omega
   subst hacc
   (repeat' first | (refine eg ?_; conv => whnf) | refine an ?_ ?_ | (refine iw ?_; intro rx hrx) | exact lf | intro _)
   all_goals try exact vy
   have hc2 := fun k => cntF_le (fun k => f k && decide (rst s.members need U k = own)) k
   refine TWq.loop (fun k : Nat => [(10, .int .i64 (totG es own + cntF (fun k => f k && decide (rst s.members need U k = own)) k)), (38, .int .i64 k), (13, .junk)]) (fun _ => [])
    (fun k => k ≤ i) (fun k => i - k) 0 [] [] ?_ (by omega) ?_
   ·(repeat' first | (refine eg ?_; conv => whnf) | refine an ?_ ?_ | (refine iw ?_; intro rx hrx) | exact lf | intro _)
    all_goals try exact vy
    all_goals (refine ⟨?_⟩; simp [cntF])
   ·intro k hk
    have hck := hc2 k
    have hck1 := hc2 (k + 1)
    have hcs : cntF (fun k => f k && decide (rst s.members need U k = own)) (k + 1) = cntF (fun k => f k && decide (rst s.members need U k = own)) k + (if (f k && decide (rst s.members need U k = own)) = true then 1 else 0) := rfl
    rcases Nat.lt_or_ge k i with hki | hki
    ·obtain ⟨mk, hmk⟩ : ∃ m, s.members[k]? = some m := ⟨_, List.getElem?_eq_getElem (by omega)⟩
     have dk := d k mk hmk
     have hat : (encW s f (.imap (encM es)))[0 + 5 + (k : Int).toNat * 1]? = some (.bool (f k)) := by
      rw [show 0 + 5 + (k : Int).toNat * 1 = 5 + k by simp]; exact encW_at (by omega)
     cases hf : f k
     ·rw [hf] at hcs hat
      simp only [Bool.false_and, Bool.false_eq_true, if_false] at hcs
      (repeat' first | (refine eg ?_; conv => whnf) | refine an ?_ ?_ | (refine iw ?_; intro rx hrx) | exact lf | intro _)
      all_goals try exact vy
      refine getK_of hat ?_
      (repeat' first | (refine eg ?_; conv => whnf) | refine an ?_ ?_ | (refine iw ?_; intro rx hrx) | exact lf | intro _)
      all_goals try exact vz
      refine ⟨⟨k + 1, by omega, by omega, ?_⟩⟩
      (repeat' first | (refine eg ?_; conv => whnf) | refine an ?_ ?_ | (refine iw ?_; intro rx hrx) | exact lf | intro _)
      all_goals try exact vy
      all_goals (refine ⟨?_⟩; rw [hcs]; simp)
     ·rw [hf] at hcs hat
      by_cases he : rst s.members need U k = own
      ·simp only [he, decide_true, Bool.and_self, if_true] at hcs
       (repeat' first | (refine eg ?_; conv => whnf) | refine an ?_ ?_ | (refine iw ?_; intro rx hrx) | exact lf | intro _)
       all_goals try exact vy
       refine getK_of hat ?_
       (repeat' first | (refine eg ?_; conv => whnf) | refine an ?_ ?_ | (refine iw ?_; intro rx hrx) | exact lf | intro _)
       refine TDq.pureC dk (by simp [cloL, clo, encW, encYs_clo, encRs_clo, encM_clo]) rfl (And.intro rfl rfl) ?_
       (repeat' first | (refine eg ?_; conv => whnf) | refine an ?_ ?_ | (refine iw ?_; intro rx hrx) | exact lf | intro _)
       all_goals try exact vz
       all_goals (try (exfalso; omega))
       refine ⟨⟨k + 1, by omega, by omega, ?_⟩⟩
       (repeat' first | (refine eg ?_; conv => whnf) | refine an ?_ ?_ | (refine iw ?_; intro rx hrx) | exact lf | intro _)
       all_goals try exact vy
       all_goals (refine ⟨?_⟩; rw [hcs]; omega)
      ·simp only [he, decide_false, Bool.and_false, Bool.false_eq_true, if_false] at hcs
       (repeat' first | (refine eg ?_; conv => whnf) | refine an ?_ ?_ | (refine iw ?_; intro rx hrx) | exact lf | intro _)
       all_goals try exact vy
       refine getK_of hat ?_
       (repeat' first | (refine eg ?_; conv => whnf) | refine an ?_ ?_ | (refine iw ?_; intro rx hrx) | exact lf | intro _)
       refine TDq.pureC dk (by simp [cloL, clo, encW, encYs_clo, encRs_clo, encM_clo]) rfl (And.intro rfl rfl) ?_
       (repeat' first | (refine eg ?_; conv => whnf) | refine an ?_ ?_ | (refine iw ?_; intro rx hrx) | exact lf | intro _)
       all_goals try exact vz
       all_goals (try (exfalso; omega))
       refine ⟨⟨k + 1, by omega, by omega, ?_⟩⟩
       (repeat' first | (refine eg ?_; conv => whnf) | refine an ?_ ?_ | (refine iw ?_; intro rx hrx) | exact lf | intro _)
       all_goals try exact vy
       all_goals (refine ⟨?_⟩; rw [hcs]; omega)
    ·have hke : k = i := by omega
     subst hke
     (repeat' first | (refine eg ?_; conv => whnf) | refine an ?_ ?_ | (refine iw ?_; intro rx hrx) | exact lf | intro _)
     all_goals try exact vy
     simp only [beforeF, hTi, hown]
  ·intro pre sk sv post he'
   obtain ⟨la, x, lb, rfl, rfl, rfl, rfl, rfl⟩ := encM_split he'
   have hx0 := hp3 x (by simp)
   have hla := totG_nn own fun e h => hp3 e (List.mem_append_left _ h)
   have hlb := totG_nn (es := lb) own fun e h => hp3 e (by simp [h])
   rw [totG_append] at hp2
   simp only [totG] at hp2
   have hrest : ∀ e ∈ la ++ lb, 0 ≤ e.2 := fun e h => hp3 e (by
    rcases List.mem_append.1 h with h | h
    ·simp [h]
    ·simp [h])
   by_cases hlt : own < x.1.2
   ·rw [if_pos hlt] at hp2
    (repeat' first | (refine eg ?_; conv => whnf) | refine an ?_ ?_ | (refine iw ?_; intro rx hrx) | exact lf | intro _)
    all_goals try exact vy
    refine ⟨⟨(la ++ lb, acc + x.2), ⟨⟨by dsimp only; omega, by dsimp only; rw [totG_append]; omega⟩, hrest⟩, by simp, ?_⟩⟩
    (repeat' first | (refine eg ?_; conv => whnf) | refine an ?_ ?_ | (refine iw ?_; intro rx hrx) | exact lf | intro _)
    all_goals try exact vy
    all_goals (refine ⟨?_⟩; simp [encM])
   ·rw [if_neg hlt] at hp2
    (repeat' first | (refine eg ?_; conv => whnf) | refine an ?_ ?_ | (refine iw ?_; intro rx hrx) | exact lf | intro _)
    all_goals try exact vy
    refine ⟨⟨(la ++ lb, acc), ⟨⟨by dsimp only; omega, by dsimp only; rw [totG_append]; omega⟩, hrest⟩, by simp, ?_⟩⟩
    (repeat' first | (refine eg ?_; conv => whnf) | refine an ?_ ?_ | (refine iw ?_; intro rx hrx) | exact lf | intro _)
    all_goals try exact vy
    all_goals (refine ⟨?_⟩; simp [encM])
end Go.Proofs.YtjadiajfbflghaaGreat
