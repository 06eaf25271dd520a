/- The calls for a need, from outside; needs; what a rate brings. -/
import Derived.Test.YthnaamkempmjkaaKk
set_option linter.unusedSimpArgs false
set_option linter.unusedVariables false
open Go Go.TV
namespace Go.Proofs.Ythnaamkempmjkaa

theorem fault_ok {s : Soc} (h : fault s = 0) : (∀ m ∈ s.members, OkM m) ∧ (∀ r ∈ s.losses, 0 ≤ r.lo ∧ r.lo ≤ r.hi ∧ r.hi ≤ 100000 ∧ r.hi - r.lo ≤ 30) ∧ (0 ≤ s.treaty.lo ∧ s.treaty.lo ≤ s.treaty.hi ∧ s.treaty.hi ≤ 100000 ∧ s.treaty.hi - s.treaty.lo ≤ 30) ∧ (0 ≤ s.reserve ∧ s.reserve ≤ 100000) ∧ 1 ≤ s.members.length := by
  have hv := fault_valid h
  simp only [Soc.valid, Bool.and_eq_true, decide_eq_true_eq, List.all_eq_true] at hv
  obtain ⟨h1, h2, h3, h4, h5⟩ := hv
  refine ⟨fun m hm => ?_, fun r hr => ?_, ?_, ?_, by omega⟩
  · have := h2 m hm
    simp only [Mem.valid, within, Bool.and_eq_true, decide_eq_true_eq] at this
    exact ⟨this.1, this.2.1, this.2.2⟩
  · have := h3 r hr
    simpa only [Rng.pence, decide_eq_true_eq] using this
  · simpa only [Rng.pence, decide_eq_true_eq] using h4
  · simpa only [within, decide_eq_true_eq] using h5
theorem askF_lt {ms : List Mem} {out : List Int} (i : Nat) (h : askF ms out i = true) : i < ms.length := by
  simp only [askF, Bool.and_eq_true, decide_eq_true_eq] at h
  exact h.1
/-- ask and calls, told of a list and a number. -/
def D70 (s : Soc) (o : SV) (f0 : Nat → Bool) : Prop := TF Try.prog 70 [encSoc s, o] [LB.cells (socC s)] fun r h' => h' = [LB.cells (socC s), LB.cells (socC s), LB.cells (encW s f0 SV.nilm)] ∧ r = SV.ptr 2 0
def D71 (s : Soc) (f0 : Nat → Bool) (need : Int) (L : List SV) (z : Int) : Prop := TF Try.prog 71 [SV.ptr 2 0, SV.int IntKind.i64 need] [LB.cells (socC s), LB.cells (socC s), LB.cells (encW s f0 SV.nilm)] fun r h' => h' = [LB.cells (socC s), LB.cells (socC s), LB.dead, LB.arr 3 1 L] ∧ r = SV.tup [SV.own 3, SV.int IntKind.i64 z]
theorem d71_of (s : Soc) (out : List Int) (need : Int) (hm : ∀ m ∈ s.members, OkM m) (hl : s.members.length ≤ 5) (hn : 0 ≤ need ∧ need ≤ 300000) : D71 s (askF s.members out) need (ints (callsOf s out need).1) (callsOf s out need).2 :=
  t71 s (askF s.members out) need hm hl askF_lt hn
set_option maxRecDepth 100000 in
set_option maxHeartbeats 4000000 in
theorem c68g (s : Soc) (o : SV) (ho : ∃ l, LN l o) (need : Int) (L : List SV) (f0 : Nat → Bool) (z : Int) (hL : cloL L) (d70 : D70 s o f0) (d71 : D71 s f0 need L z) :
    PF Try.prog 68 [encSoc s, o, .int .i64 need] (· = .sl 1 L) := by
  obtain ⟨out, ho⟩ := ho
  unfold D70 at d70
  unfold D71 at d71
  rcases ho with rfl | ⟨rfl, rfl⟩
  all_goals
    refine PF.of (TF.ev fn_68 (Ev.at ?_))
    (repeat' (first | (refine Ev.go ?_; conv => whnf) | refine And.intro ?_ ?_ | exact True.intro | exact rfl | (intro rx hrx; rw [IntWalk.i64_in _ (by omega)] at hrx) | (intro hcx; exfalso; omega) | intro _))
    refine TSq.callT rfl rfl (calleeK_const (And.intro rfl rfl) (d70.mono ?_))
    rintro _ _ ⟨rfl, rfl⟩
    (repeat' (first | (refine Ev.go ?_; conv => whnf) | refine And.intro ?_ ?_ | exact True.intro | exact rfl | (intro rx hrx; rw [IntWalk.i64_in _ (by omega)] at hrx) | (intro hcx; exfalso; omega) | intro _))
    refine TSq.callT rfl rfl (calleeK_const (And.intro rfl rfl) (d71.mono ?_))
    rintro _ _ ⟨rfl, rfl⟩
    (repeat' (first | (refine Ev.go ?_; conv => whnf) | refine And.intro ?_ ?_ | exact True.intro | exact rfl | (intro rx hrx; rw [IntWalk.i64_in _ (by omega)] at hrx) | (intro hcx; exfalso; omega) | intro _))
    all_goals (first | (refine ⟨?_⟩; exact vc) | exact cl | skip)
    all_goals (first | exact ⟨hL⟩ | rfl)
theorem c68 (s : Soc) (out : List Int) (o : SV) (need : Int) (ho : LN out o) (hm : ∀ m ∈ s.members, OkM m) (hl : s.members.length ≤ 5) (hol : out.length ≤ 1000000) (hn : 0 ≤ need ∧ need ≤ 300000) :
    PF Try.prog 68 [encSoc s, o, .int .i64 need] (· = .sl 1 (ints (callsOf s out need).1)) :=
  c68g s o ⟨out, ho⟩ need _ _ _ (ints_clo _) (t70 s out o ho hl hol) (d71_of s out need hm hl hn)
set_option maxRecDepth 100000 in
set_option maxHeartbeats 4000000 in
theorem c62g (s : Soc) (o : SV) (ho : ∃ l, LN l o) (need : Int) (L : List SV) (f0 : Nat → Bool) (z : Int) (hL : cloL L) (d70 : D70 s o f0) (d71 : D71 s f0 need L z) :
    PF Try.prog 62 [encSoc s, o, .int .i64 need] (· = .sl 1 (ints [z])) := by
  obtain ⟨out, ho⟩ := ho
  unfold D70 at d70
  unfold D71 at d71
  rcases ho with rfl | ⟨rfl, rfl⟩
  all_goals
    refine PF.of (TF.ev fn_62 (Ev.at ?_))
    (repeat' (first | (refine Ev.go ?_; conv => whnf) | refine And.intro ?_ ?_ | exact True.intro | exact rfl | (intro rx hrx; rw [IntWalk.i64_in _ (by omega)] at hrx) | (intro hcx; exfalso; omega) | intro _))
    refine TSq.callT rfl rfl (calleeK_const (And.intro rfl rfl) (d70.mono ?_))
    rintro _ _ ⟨rfl, rfl⟩
    (repeat' (first | (refine Ev.go ?_; conv => whnf) | refine And.intro ?_ ?_ | exact True.intro | exact rfl | (intro rx hrx; rw [IntWalk.i64_in _ (by omega)] at hrx) | (intro hcx; exfalso; omega) | intro _))
    refine TSq.callT rfl rfl (calleeK_const (And.intro rfl rfl) (d71.mono ?_))
    rintro _ _ ⟨rfl, rfl⟩
    (repeat' (first | (refine Ev.go ?_; conv => whnf) | refine And.intro ?_ ?_ | exact True.intro | exact rfl | (intro rx hrx; rw [IntWalk.i64_in _ (by omega)] at hrx) | (intro hcx; exfalso; omega) | intro _))
    all_goals (first | (refine ⟨?_⟩; exact vc) | exact cl | skip)
    all_goals (try rfl)
theorem c62 (s : Soc) (out : List Int) (o : SV) (need : Int) (ho : LN out o) (hm : ∀ m ∈ s.members, OkM m) (hl : s.members.length ≤ 5) (hol : out.length ≤ 1000000) (hn : 0 ≤ need ∧ need ≤ 300000) :
    PF Try.prog 62 [encSoc s, o, .int .i64 need] (· = .sl 1 (ints [(callsOf s out need).2])) :=
  c62g s o ⟨out, ho⟩ need _ _ _ (ints_clo _) (t70 s out o ho hl hol) (d71_of s out need hm hl hn)
/-- A slice, of which nil is told as the empty one, a number and an error. -/
def SlN (l : List Int) (s : SV) : Prop := s = .sl 1 (ints l) ∨ (l = [] ∧ s = .nils)
def SlE3 (l : List Int) (n e : Int) (s : SV) : Prop := ∃ x, s = .tup [x, .int .i64 n, .int .i64 e] ∧ SlN l x
theorem SlE3.pf {f : FuncId} {args : List SV} {l : List Int} {n e : Int} (h : PF Try.prog f args (SlE3 l n e)) : PF Try.prog f args (· = .tup [.sl 1 (ints l), .int .i64 n, .int .i64 e]) := by
  refine PF.res h fun s hs _ => ?_
  obtain ⟨x, rfl, hx⟩ := hs
  refine ⟨_, rfl, by simp [clo, cloL, ints_clo], ?_⟩
  rcases hx with rfl | ⟨rfl, rfl⟩
  · (repeat' (first | (refine Ev.go ?_; conv => whnf) | refine And.intro ?_ ?_ | exact True.intro | exact rfl | (intro rx hrx; rw [IntWalk.i64_in _ (by omega)] at hrx) | (intro hcx; exfalso; omega) | (intro hcx; exfalso; simp only [lz] at hcx; omega) | intro _))
    all_goals (first | (refine ⟨?_⟩; exact vc) | exact cl | skip)
  · (repeat' (first | (refine Ev.go ?_; conv => whnf) | refine And.intro ?_ ?_ | exact True.intro | exact rfl | (intro rx hrx; rw [IntWalk.i64_in _ (by omega)] at hrx) | (intro hcx; exfalso; omega) | (intro hcx; exfalso; simp only [lz] at hcx; omega) | intro _))
    all_goals (first | (refine ⟨?_⟩; exact vc) | exact cl | skip)
/-- What Calls returns. -/
def callsR (s : Soc) (need : Int) : List Int × Int × Int := if fault s ≠ 0 then ([], 0, fault s) else if within need 0 300000 = true then ((callsOf s [] need).1, (callsOf s [] need).2, 0) else ([], 0, 2)
set_option maxRecDepth 100000 in
set_option maxHeartbeats 4000000 in
theorem c35g (s : Soc) (need : Int) (hf : fault s = 0) (hw : within need 0 300000 = true) (L : List Int) (f0 : Nat → Bool) (z : Int) (h1 : s.members.length ≤ 1000000) (h2 : s.losses.length ≤ 1000000) (d70 : D70 s .nils f0) (d71 : D71 s f0 need (ints L) z) :
    PF Try.prog 35 [encSoc s, .int .i64 need] (SlE3 L z 0) := by
  unfold D70 at d70
  unfold D71 at d71
  have c53' := c53 s h1 h2
  rw [hf] at c53'
  refine PF.of (TF.ev fn_35 (Ev.at ?_))
  (repeat' (first | (refine Ev.go ?_; conv => whnf) | refine And.intro ?_ ?_ | exact True.intro | exact rfl | (intro rx hrx; rw [IntWalk.i64_in _ (by omega)] at hrx) | (intro hcx; exfalso; omega) | intro _))
  refine TSq.pureC c53' cl rfl (And.intro rfl rfl) ?_
  (repeat' (first | (refine Ev.go ?_; conv => whnf) | refine And.intro ?_ ?_ | exact True.intro | exact rfl | (intro rx hrx; rw [IntWalk.i64_in _ (by omega)] at hrx) | (intro hcx; exfalso; omega) | intro _))
  · refine TSq.pureBC (c69 need 0 300000) cl rfl (And.intro rfl rfl) ?_ ?_ <;> intro hw'
    · (repeat' (first | (refine Ev.go ?_; conv => whnf) | refine And.intro ?_ ?_ | exact True.intro | exact rfl | (intro rx hrx; rw [IntWalk.i64_in _ (by omega)] at hrx) | (intro hcx; exfalso; omega) | intro _))
      refine TSq.callT rfl rfl (calleeK_const (And.intro rfl rfl) (d70.mono ?_))
      rintro _ _ ⟨rfl, rfl⟩
      (repeat' (first | (refine Ev.go ?_; conv => whnf) | refine And.intro ?_ ?_ | exact True.intro | exact rfl | (intro rx hrx; rw [IntWalk.i64_in _ (by omega)] at hrx) | (intro hcx; exfalso; omega) | intro _))
      refine TSq.callT rfl rfl (calleeK_const (And.intro rfl rfl) (d71.mono ?_))
      rintro _ _ ⟨rfl, rfl⟩
      (repeat' (first | (refine Ev.go ?_; conv => whnf) | refine And.intro ?_ ?_ | exact True.intro | exact rfl | (intro rx hrx; rw [IntWalk.i64_in _ (by omega)] at hrx) | (intro hcx; exfalso; omega) | intro _))
      all_goals (first | (refine ⟨?_⟩; exact vc) | exact cl | skip)
      all_goals (try exact ⟨ints_clo _⟩)
      exact ⟨_, rfl, .inl rfl⟩
    · rw [hw] at hw'; exact absurd hw' (by simp)
set_option maxRecDepth 100000 in
set_option maxHeartbeats 4000000 in
theorem c35 (s : Soc) (need : Int) (h1 : s.members.length ≤ 1000000) (h2 : s.losses.length ≤ 1000000) : PF Try.prog 35 [encSoc s, .int .i64 need] (· = .tup [.sl 1 (ints (callsR s need).1), .int .i64 (callsR s need).2.1, .int .i64 (callsR s need).2.2]) := by
  refine SlE3.pf ?_
  by_cases hf : fault s = 0
  · by_cases hw : within need 0 300000 = true
    · have hn : 0 ≤ need ∧ need ≤ 300000 := by simpa only [within, decide_eq_true_eq] using hw
      have h := c35g s need hf hw _ _ _ h1 h2 (t70 s [] .nils (.inr ⟨rfl, rfl⟩) (fault_len hf).1 (by simp)) (d71_of s [] need (fault_ok hf).1 (fault_len hf).1 hn)
      simp only [callsR, if_neg (show ¬ fault s ≠ 0 by simpa using hf), if_pos hw]
      exact h
    · have c53' := c53 s h1 h2
      rw [hf] at c53'
      have e : callsR s need = ([], 0, 2) := by simp only [callsR, if_neg (show ¬ fault s ≠ 0 by simpa using hf), if_neg hw]
      rw [e]
      refine PF.of (TF.ev fn_35 (Ev.at ?_))
      (repeat' (first | (refine Ev.go ?_; conv => whnf) | refine And.intro ?_ ?_ | exact True.intro | exact rfl | (intro rx hrx; rw [IntWalk.i64_in _ (by omega)] at hrx) | (intro hcx; exfalso; omega) | intro _))
      refine TSq.pureC c53' cl rfl (And.intro rfl rfl) ?_
      (repeat' (first | (refine Ev.go ?_; conv => whnf) | refine And.intro ?_ ?_ | exact True.intro | exact rfl | (intro rx hrx; rw [IntWalk.i64_in _ (by omega)] at hrx) | (intro hcx; exfalso; omega) | intro _))
      · refine TSq.pureBC (c69 need 0 300000) cl rfl (And.intro rfl rfl) ?_ ?_ <;> intro hw'
        · exact absurd hw' hw
        · (repeat' (first | (refine Ev.go ?_; conv => whnf) | refine And.intro ?_ ?_ | exact True.intro | exact rfl | (intro rx hrx; rw [IntWalk.i64_in _ (by omega)] at hrx) | (intro hcx; exfalso; omega) | intro _))
          exact ⟨_, rfl, .inr ⟨rfl, rfl⟩⟩
  · have e : callsR s need = ([], 0, fault s) := by simp only [callsR, if_pos hf]
    rw [e]
    have c53' := c53 s h1 h2
    generalize fault s = ft at *
    refine PF.of (TF.ev fn_35 (Ev.at ?_))
    (repeat' (first | (refine Ev.go ?_; conv => whnf) | refine And.intro ?_ ?_ | exact True.intro | exact rfl | (intro rx hrx; rw [IntWalk.i64_in _ (by omega)] at hrx) | (intro hcx; exfalso; omega) | intro _))
    refine TSq.pureC c53' cl rfl (And.intro rfl rfl) ?_
    (repeat' (first | (refine Ev.go ?_; conv => whnf) | refine And.intro ?_ ?_ | exact True.intro | exact rfl | (intro rx hrx; rw [IntWalk.i64_in _ (by omega)] at hrx) | (intro hcx; exfalso; omega) | intro _))
    exact ⟨_, rfl, .inr ⟨rfl, rfl⟩⟩
/-- What Needs returns. -/
def needsR (s : Soc) : Rng × Int := if fault s ≠ 0 then (⟨0, 0⟩, fault s) else (needsOf s, 0)
theorem c28 (s : Soc) (h1 : s.members.length ≤ 1000000) (h2 : s.losses.length ≤ 1000000) : PF Try.prog 28 [encSoc s] (· = .tup [encR (needsR s).1, .int .i64 (needsR s).2]) := by
  refine PF.of (TF.ev fn_28 (Ev.at ?_))
  (repeat' (first | (refine Ev.go ?_; conv => whnf) | refine And.intro ?_ ?_ | exact True.intro | exact rfl | (intro rx hrx; rw [IntWalk.i64_in _ (by omega)] at hrx) | (intro hcx; exfalso; omega) | intro _))
  refine TSq.pureC (c53 s h1 h2) cl rfl (And.intro rfl rfl) ?_
  (repeat' (first | (refine Ev.go ?_; conv => whnf) | refine And.intro ?_ ?_ | exact True.intro | exact rfl | (intro rx hrx; rw [IntWalk.i64_in _ (by omega)] at hrx) | (intro hcx; exfalso; omega) | intro _))
  · rename_i hf
    obtain ⟨hm, hr, ht, hs, _⟩ := fault_ok hf
    have hl := (fault_len hf).2
    refine TSq.pureC (c59 s (by omega) (fun r h => by have := hr r h; omega) (by omega) (by omega) hs) cl rfl (And.intro rfl rfl) ?_
    (repeat' (first | (refine Ev.go ?_; conv => whnf) | refine And.intro ?_ ?_ | exact True.intro | exact rfl | (intro rx hrx; rw [IntWalk.i64_in _ (by omega)] at hrx) | (intro hcx; exfalso; omega) | intro _))
    simp only [needsR, if_neg (show ¬ fault s ≠ 0 by simpa using hf)]
    try rfl
  · rename_i hf
    simp only [needsR, if_pos hf]
    try rfl
end Go.Proofs.Ythnaamkempmjkaa
