/- Bounds, Without and Short. -/
import Derived.Test.YthnaamkempmjkaaKo
import Derived.Test.YthnaamkempmjkaaKfR
set_option linter.unusedSimpArgs false
set_option linter.unusedVariables false
open Go Go.TV
namespace Go.Proofs.Ythnaamkempmjkaa

theorem needs_le {s : Soc} (h : fault s = 0) : (0 ≤ (needsOf s).lo ∧ (needsOf s).lo ≤ (needsOf s).hi) ∧ (needsOf s).hi ≤ 300000 := by
  obtain ⟨_, hr, ht, hs, _⟩ := fault_ok h
  have hl := (fault_len h).2
  refine ⟨needsOf_ok (fun r hr' => (hr r hr').2.1) ht.2.1, ?_⟩
  have hk : ∀ (l : List Rng) (a : Int), (∀ r ∈ l, r.hi ≤ 100000) → (his l).foldl (· + ·) a ≤ a + 100000 * (l.length : Int) := by
    intro l
    induction l with
    | nil => intro a _; simp [his]
    | cons r l ih =>
      intro a hl
      have h1 := hl r List.mem_cons_self
      have := ih (a + r.hi) fun x hx => hl x (List.mem_cons_of_mem _ hx)
      simp only [his, List.map_cons, List.foldl_cons, List.length_cons] at this ⊢
      omega
  have := hk s.losses 0 fun r hr' => (hr r hr').2.2.1
  simp only [needsOf, needOf, sumL]
  have : (100000 : Int) * (s.losses.length : Int) ≤ 300000 := by omega
  omega
def boundsOf (s : Soc) (out : List Int) : List Rng := foldB (fun n => (callsOf s out n).1) (every (needsOf s))
def shortOf (s : Soc) (out : List Int) : Rng := bndF (fun n => (callsOf s out n).2) (every (needsOf s))
theorem boundsOf_eq {s : Soc} {out : List Int} (h : fault s = 0) : boundsOf s out = (List.range s.members.length).map fun k => bndF (fun n => (callsF s.members 6 (askF s.members out) n fun _ => 0).1 k) (every (needsOf s)) :=
  foldB_eq _ _ _ (every_ne (needs_le h).1.2)
theorem boundsOf_len {s : Soc} {out : List Int} (h : fault s = 0) : (boundsOf s out).length = s.members.length := by simp [boundsOf_eq h]
theorem short_foldB {s : Soc} {out : List Int} (h : fault s = 0) : foldB (fun n => [(callsOf s out n).2]) (every (needsOf s)) = [shortOf s out] :=
  foldB_eq 1 (fun n _ => (callsOf s out n).2) _ (every_ne (needs_le h).1.2)
theorem callsOf_len (s : Soc) (out : List Int) (n : Int) : (callsOf s out n).1.length = s.members.length := by simp [callsOf, tab]
theorem c59' {s : Soc} (hf : fault s = 0) : PF Try.prog 59 [encSoc s] (· = encR (needsOf s)) := by
  obtain ⟨hm, hr, ht, hs, _⟩ := fault_ok hf
  have hl := (fault_len hf).2
  exact c59 s (by omega) (fun r h => by have := hr r h; omega) (by omega) (by omega) hs
theorem c63p {s : Soc} {out : List Int} {o : SV} (hf : fault s = 0) (ho : LN out o) (hol : out.length ≤ 1000000) : PF Try.prog 63 [.agg [.fn 68 [] []], encSoc s, o] (· = .sl 2 (encRs (boundsOf s out))) := by
  have hn := needs_le hf
  obtain ⟨hm, _, _, _, h1⟩ := fault_ok hf
  refine c63 s out o 68 _ (needsOf s) ho (.inr rfl) (c59' hf) (by omega) (fun n h1 h2 => c68 s out o n ho hm (fault_len hf).1 hol (by omega)) (fun n _ _ => by rw [callsOf_len]; exact (fault_len hf).1) ?_
  intro e
  have := boundsOf_len (out := out) hf
  rw [boundsOf, e] at this
  simp at this; omega
theorem c63s {s : Soc} {out : List Int} {o : SV} (hf : fault s = 0) (ho : LN out o) (hol : out.length ≤ 1000000) : PF Try.prog 63 [.agg [.fn 62 [] []], encSoc s, o] (· = .sl 2 (encRs [shortOf s out])) := by
  have hn := needs_le hf
  obtain ⟨hm, _, _, _, h1⟩ := fault_ok hf
  rw [← short_foldB hf]
  refine c63 s out o 62 _ (needsOf s) ho (.inl rfl) (c59' hf) (by omega) (fun n h1 h2 => c62 s out o n ho hm (fault_len hf).1 hol (by omega)) (fun n _ _ => by simp) ?_
  rw [short_foldB hf]; simp

def SlR (l : List Rng) (e : Int) (s : SV) : Prop := ∃ x, s = .tup [x, .int .i64 e] ∧ (x = .sl 2 (encRs l) ∨ (l = [] ∧ x = .nils))
theorem SlR.pf {f : FuncId} {args : List SV} {l : List Rng} {e : Int} (h : PF Try.prog f args (SlR l e)) : PF Try.prog f args (· = .tup [.sl 2 (encRs l), .int .i64 e]) := by
  refine PF.res h fun s hs _ => ?_
  obtain ⟨x, rfl, hx⟩ := hs
  refine ⟨_, rfl, by simp [clo, cloL, encRs_clo], ?_⟩
  rcases hx with rfl | ⟨rfl, rfl⟩
  · (repeat' (first | (refine Ev.go ?_; conv => whnf) | refine And.intro ?_ ?_ | exact True.intro | exact rfl | (intro rx hrx; rw [IntWalk.i64_in _ (by omega)] at hrx) | (intro hcx; exfalso; omega) | (intro hcx; exfalso; simp only [lz] at hcx; omega) | intro _))
    all_goals (first | (refine ⟨?_⟩; exact vc) | exact cl | skip)
  · (repeat' (first | (refine Ev.go ?_; conv => whnf) | refine And.intro ?_ ?_ | exact True.intro | exact rfl | (intro rx hrx; rw [IntWalk.i64_in _ (by omega)] at hrx) | (intro hcx; exfalso; omega) | (intro hcx; exfalso; simp only [lz] at hcx; omega) | intro _))
    all_goals (first | (refine ⟨?_⟩; exact vc) | exact cl | skip)
/-- What Without, Bounds and Short return. -/
def withoutR (s : Soc) (out : List Int) : List Rng × Int := if fault s ≠ 0 then ([], fault s) else if s.listed out = true then (boundsOf s out, 0) else ([], 2)
def shortR (s : Soc) : Rng × Int := if fault s ≠ 0 then (⟨0, 0⟩, fault s) else (shortOf s [], 0)
theorem listed_nil (s : Soc) : s.listed [] = true := by simp [Soc.listed]

set_option maxRecDepth 100000 in
set_option maxHeartbeats 4000000 in
theorem c30g (s : Soc) (out : List Int) (o : SV) (h1 : s.members.length ≤ 1000000) (h2 : s.losses.length ≤ 1000000) (ho : LN out o) (hol : out.length ≤ 1000000) : PF Try.prog 30 [encSoc s, o] (· = .tup [.sl 2 (encRs (withoutR s out).1), .int .i64 (withoutR s out).2]) := by
  refine SlR.pf ?_
  have c53' := c53 s h1 h2
  by_cases hf : fault s = 0
  · have d63 := c63p hf ho hol
    rw [hf] at c53'
    have d67 : PF Try.prog 67 [encSoc s, o] (· = .bool (s.listed out)) := by
      rcases ho with rfl | ⟨rfl, rfl⟩
      · exact c67 s out hol h1
      · rw [listed_nil]; exact c67n s h1
    cases hw : s.listed out
    · have e : withoutR s out = ([], 2) := by simp only [withoutR, if_neg (show ¬ fault s ≠ 0 by simpa using hf)]; rw [hw]; rfl
      rw [e]
      rw [hw] at d67
      rcases ho with rfl | ⟨rfl, rfl⟩
      all_goals
        refine PF.of (TF.ev fn_30 (Ev.at ?_))
        (repeat' (first | (refine Ev.go ?_; conv => whnf) | refine And.intro ?_ ?_ | exact True.intro | exact rfl | (intro rx hrx; rw [IntWalk.i64_in _ (by omega)] at hrx) | (intro hcx; exfalso; omega) | intro _))
        refine TSq.pureC c53' cl rfl (And.intro rfl rfl) ?_
        (repeat' (first | (refine Ev.go ?_; conv => whnf) | refine And.intro ?_ ?_ | exact True.intro | exact rfl | (intro rx hrx; rw [IntWalk.i64_in _ (by omega)] at hrx) | (intro hcx; exfalso; omega) | intro _))
        refine TSq.pureC d67 cl rfl (And.intro rfl rfl) ?_
        (repeat' (first | (refine Ev.go ?_; conv => whnf) | refine And.intro ?_ ?_ | exact True.intro | exact rfl | (intro rx hrx; rw [IntWalk.i64_in _ (by omega)] at hrx) | (intro hcx; exfalso; omega) | intro _))
        exact ⟨_, rfl, .inr ⟨rfl, rfl⟩⟩
    · have e : withoutR s out = (boundsOf s out, 0) := by simp only [withoutR, if_neg (show ¬ fault s ≠ 0 by simpa using hf)]; rw [hw]; rfl
      rw [e]
      rw [hw] at d67
      generalize boundsOf s out = B at *
      rcases ho with rfl | ⟨rfl, rfl⟩
      all_goals
        refine PF.of (TF.ev fn_30 (Ev.at ?_))
        (repeat' (first | (refine Ev.go ?_; conv => whnf) | refine And.intro ?_ ?_ | exact True.intro | exact rfl | (intro rx hrx; rw [IntWalk.i64_in _ (by omega)] at hrx) | (intro hcx; exfalso; omega) | intro _))
        refine TSq.pureC c53' cl rfl (And.intro rfl rfl) ?_
        (repeat' (first | (refine Ev.go ?_; conv => whnf) | refine And.intro ?_ ?_ | exact True.intro | exact rfl | (intro rx hrx; rw [IntWalk.i64_in _ (by omega)] at hrx) | (intro hcx; exfalso; omega) | intro _))
        refine TSq.pureC d67 cl rfl (And.intro rfl rfl) ?_
        (repeat' (first | (refine Ev.go ?_; conv => whnf) | refine And.intro ?_ ?_ | exact True.intro | exact rfl | (intro rx hrx; rw [IntWalk.i64_in _ (by omega)] at hrx) | (intro hcx; exfalso; omega) | intro _))
        refine TSq.pureC d63 cl rfl (And.intro rfl rfl) ?_
        (repeat' (first | (refine Ev.go ?_; conv => whnf) | refine And.intro ?_ ?_ | exact True.intro | exact rfl | (intro rx hrx; rw [IntWalk.i64_in _ (by omega)] at hrx) | (intro hcx; exfalso; omega) | intro _))
        exact ⟨_, rfl, .inl rfl⟩
  · have e : withoutR s out = ([], fault s) := by simp only [withoutR, if_pos hf]
    rw [e]
    generalize fault s = ft at *
    rcases ho with rfl | ⟨rfl, rfl⟩
    all_goals
      refine PF.of (TF.ev fn_30 (Ev.at ?_))
      (repeat' (first | (refine Ev.go ?_; conv => whnf) | refine And.intro ?_ ?_ | exact True.intro | exact rfl | (intro rx hrx; rw [IntWalk.i64_in _ (by omega)] at hrx) | (intro hcx; exfalso; omega) | intro _))
      refine TSq.pureC c53' cl rfl (And.intro rfl rfl) ?_
      (repeat' (first | (refine Ev.go ?_; conv => whnf) | refine And.intro ?_ ?_ | exact True.intro | exact rfl | (intro rx hrx; rw [IntWalk.i64_in _ (by omega)] at hrx) | (intro hcx; exfalso; omega) | intro _))
      exact ⟨_, rfl, .inr ⟨rfl, rfl⟩⟩
theorem c30 (s : Soc) (out : List Int) (h1 : s.members.length ≤ 1000000) (h2 : s.losses.length ≤ 1000000) (hol : out.length ≤ 1000000) : PF Try.prog 30 [encSoc s, .sl 1 (ints out)] (· = .tup [.sl 2 (encRs (withoutR s out).1), .int .i64 (withoutR s out).2]) :=
  c30g s out _ h1 h2 (.inl rfl) hol
theorem c29 (s : Soc) (h1 : s.members.length ≤ 1000000) (h2 : s.losses.length ≤ 1000000) : PF Try.prog 29 [encSoc s] (· = .tup [.sl 2 (encRs (withoutR s []).1), .int .i64 (withoutR s []).2]) := by
  refine PF.of (TF.ev fn_29 (Ev.at ?_))
  (repeat' (first | (refine Ev.go ?_; conv => whnf) | refine And.intro ?_ ?_ | exact True.intro | exact rfl | (intro rx hrx; rw [IntWalk.i64_in _ (by omega)] at hrx) | (intro hcx; exfalso; omega) | intro _))
  refine TSq.pureC (c30g s [] .nils h1 h2 (.inr ⟨rfl, rfl⟩) (by simp)) cl rfl (And.intro rfl rfl) ?_
  (repeat' (first | (refine Ev.go ?_; conv => whnf) | refine And.intro ?_ ?_ | exact True.intro | exact rfl | (intro rx hrx; rw [IntWalk.i64_in _ (by omega)] at hrx) | (intro hcx; exfalso; omega) | intro _))
  try rfl
theorem c42 (s : Soc) (h1 : s.members.length ≤ 1000000) (h2 : s.losses.length ≤ 1000000) : PF Try.prog 42 [encSoc s] (· = .tup [encR (shortR s).1, .int .i64 (shortR s).2]) := by
  have c53' := c53 s h1 h2
  by_cases hf : fault s = 0
  · have d63 := c63s (out := []) hf (.inr ⟨rfl, rfl⟩) (by simp)
    rw [hf] at c53'
    simp only [shortR, if_neg (show ¬ fault s ≠ 0 by simpa using hf)]
    generalize shortOf s [] = B at *
    have hl1 : (encRs [B]).length = 1 := rfl
    have hg1 : ∀ {n : Nat} {e : SV}, n = 0 → (encRs [B])[n]? = some e → e = encR B := by
      rintro n e rfl he
      exact (Option.some.inj he).symm
    refine PF.of (TF.ev fn_42 (Ev.at ?_))
    (repeat' (first | (intro ex hex; have hq := hg1 (by omega) hex; subst hq; clear hex) | (refine Ev.go ?_; conv => whnf) | refine And.intro ?_ ?_ | exact True.intro | exact rfl | (intro rx hrx; rw [IntWalk.i64_in _ (by omega)] at hrx) | (intro hcx; exfalso; omega) | intro _))
    refine TSq.pureC c53' cl rfl (And.intro rfl rfl) ?_
    (repeat' (first | (intro ex hex; have hq := hg1 (by omega) hex; subst hq; clear hex) | (refine Ev.go ?_; conv => whnf) | refine And.intro ?_ ?_ | exact True.intro | exact rfl | (intro rx hrx; rw [IntWalk.i64_in _ (by omega)] at hrx) | (intro hcx; exfalso; omega) | intro _))
    refine TSq.pureC d63 cl rfl (And.intro rfl rfl) ?_
    (repeat' (first | (intro ex hex; have hq := hg1 (by omega) hex; subst hq; clear hex) | (refine Ev.go ?_; conv => whnf) | refine And.intro ?_ ?_ | exact True.intro | exact rfl | (intro rx hrx; rw [IntWalk.i64_in _ (by omega)] at hrx) | (intro hcx; exfalso; omega) | intro _))
    all_goals (first | (refine ⟨?_⟩; exact vc) | exact cl | skip)
    try rfl
  · simp only [shortR, if_pos hf]
    generalize fault s = ft at *
    refine PF.of (TF.ev fn_42 (Ev.at ?_))
    (repeat' (first | (intro ex hex; have hq := hg1 (by omega) hex; subst hq; clear hex) | (refine Ev.go ?_; conv => whnf) | refine And.intro ?_ ?_ | exact True.intro | exact rfl | (intro rx hrx; rw [IntWalk.i64_in _ (by omega)] at hrx) | (intro hcx; exfalso; omega) | intro _))
    refine TSq.pureC c53' cl rfl (And.intro rfl rfl) ?_
    (repeat' (first | (intro ex hex; have hq := hg1 (by omega) hex; subst hq; clear hex) | (refine Ev.go ?_; conv => whnf) | refine And.intro ?_ ?_ | exact True.intro | exact rfl | (intro rx hrx; rw [IntWalk.i64_in _ (by omega)] at hrx) | (intro hcx; exfalso; omega) | intro _))
    all_goals (first | (refine ⟨?_⟩; exact vc) | exact cl | skip)
    try rfl
end Go.Proofs.Ythnaamkempmjkaa
