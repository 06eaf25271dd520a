/- Copies of lists; the members that are missed. -/
import Derived.Test.YthnaamkempmjkaaKp
import Derived.Test.YthnaamkempmjkaaMe3
set_option linter.unusedSimpArgs false
set_option linter.unusedVariables false
open Go Go.TV
namespace Go.Proofs.Ythnaamkempmjkaa

def osv : List Int → SV
  | [] => .nils
  | a :: l => .sl 1 (ints (a :: l))
theorem LN.osv (l : List Int) : LN l (osv l) := by
  cases l with
  | nil => exact .inr ⟨rfl, rfl⟩
  | cons a l => exact .inl rfl
theorem SlN.osv (l : List Int) : SlN l (osv l) := LN.osv l
theorem clo_app (l : List Int) (i : Int) : cloL (ints l ++ SV.int .i64 i :: catS [] (repl 0 [SV.int .i64 0])) := by
  rw [cloL_iff]
  intro s hs
  rcases List.mem_append.1 hs with h | h
  · exact cloL_iff.1 (ints_clo l) s h
  · simp [catS, repl] at h; subst h; simp [clo]
theorem fit_osv {pl : List (Nat × Nat)} {L : Nat} {l : List Int} {K : Prop} (h : Ev K) : TV.fit pl L (osv l) (osv l) K := by
  cases l with
  | nil => exact h.at
  | cons a l =>
    refine Ev.at ?_
    refine Ev.go ?_
    conv => whnf
    exact ⟨⟨rfl⟩, h⟩
def tryM (F : Nat → List Int → Bool × List Int) : Nat → Nat → List Int → Bool × List Int
  | 0, _, s => (false, s)
  | k + 1, i, s => if (F i s).1 = true then (true, (F i s).2) else tryM F k (i + 1) (F i s).2
/-- The lists that are tried: so many more members from one on. -/
def tryS (s : Soc) : Nat → List Int → Nat → List Int → Bool × List Int
  | 0, out, _, _ => (decide (0 < (shortOf s out).hi), out)
  | m + 1, out, k, fd => tryM (fun i fd => tryS s m (out ++ [(i : Int)]) (i + 1) fd) (s.members.length - m - k) k fd
def bookM (s : Soc) (fd : List Int) : List LB := [.cells (socC s), .cells [osv fd], .cells [.fn 61 [] [.ptr 1 0, .ptr 0 0, .ptr 2 0]]]
def argM (out : List Int) (k m : Nat) : List SV := [osv out, .int .i64 k, .int .i64 m, .ptr 1 0, .ptr 0 0, .ptr 2 0]

set_option maxHeartbeats 4000000 in
set_option maxRecDepth 100000 in
theorem t61 (s : Soc) (hf : fault s = 0) : ∀ (m : Nat) (out : List Int) (k : Nat) (fd : List Int), out.length + m ≤ 20 → k ≤ 20 →
    TF Try.prog 61 (argM out k m) (bookM s fd) fun v h' => v = .bool (tryS s m out k fd).1 ∧ h' = bookM s (tryS s m out k fd).2
  | 0, out, k, fd, hm, hk => by
    have hz := encYs_len s.members
    refine TF.cut 3 (TF.ev fn_61 (Ev.at ?_))
    have ho := c63s (s := s) (o := osv out) hf (LN.osv out) (by omega)
    have hS : tryS s 0 out k fd = (decide (0 < (shortOf s out).hi), out) := rfl
    rw [hS]
    generalize shortOf s out = B at *
    have hl1 : (encRs [B]).length = 1 := rfl
    have hg1 : ∀ {n : Nat} {e : SV}, n = 0 → (encRs [B])[n]? = some e → e = encR B := by
      rintro n e rfl he
      exact (Option.some.inj he).symm
    cases out <;> cases fd
    all_goals
      (repeat' (first | (intro ex hex; have hq := hg1 (by omega) hex; subst hq; clear hex) | (refine Ev.go ?_; conv => whnf) | refine And.intro ?_ ?_ | exact True.intro | exact rfl | (intro rx hrx; rw [IntWalk.i64_in _ (by omega)] at hrx) | (intro hcx; exfalso; omega) | intro _))
      refine TSq.pureC ho (by simp [cloL, clo, encSoc, ints_clo, encYs_clo, encRs_clo, osv]) rfl (And.intro rfl rfl) ?_
      (repeat' (first | (intro ex hex; have hq := hg1 (by omega) hex; subst hq; clear hex) | (refine Ev.go ?_; conv => whnf) | refine And.intro ?_ ?_ | exact True.intro | exact rfl | (intro rx hrx; rw [IntWalk.i64_in _ (by omega)] at hrx) | (intro hcx; exfalso; omega) | intro _))
      all_goals (first | (refine ⟨?_⟩; exact vc) | exact cl | skip)
      all_goals (try (show SV.bool _ = SV.bool _; rw [SV.bool_iff]; simp; omega))
  | m + 1, out, k, fd, hm, hk => by
    have ih := t61 s hf m
    have hz := encYs_len s.members
    have hl5 := (fault_len hf).1
    have hS : tryS s (m + 1) out k fd = tryM (fun i fd => tryS s m (out ++ [(i : Int)]) (i + 1) fd) (s.members.length - m - k) k fd := rfl
    refine TF.cut 3 (TF.ev fn_61 (Ev.at ?_))
    cases out with
    | nil =>
      (repeat' (first | (intro ex hex; have hq := hg1 (by omega) hex; subst hq; clear hex) | (refine Ev.go ?_; conv => whnf) | refine And.intro ?_ ?_ | exact True.intro | exact rfl | (intro rx hrx; rw [IntWalk.i64_in _ (by omega)] at hrx) | (intro hcx; exfalso; omega) | intro _))
      all_goals (try (refine ⟨?_⟩; first | omega | exact List.cons_ne_nil _ _ | (show (_ : Nat) * _ ≤ _; simp [catS, repl, chunks, ints_len, encYs_len] <;> omega)))
      refine TWq.loopP (fun p : Nat × List Int => [(10, .int .i64 p.1)])
        (fun p => [(1, .cells [osv p.2])])
        (fun p => p.1 ≤ 30 ∧ tryS s (m + 1) [] k fd = tryM (fun i fd => tryS s m ([] ++ [(i : Int)]) (i + 1) fd) (s.members.length - m - p.1) p.1 p.2) (fun p => 30 - p.1) (k, fd) [] ?_ ⟨by omega, hS⟩ ?_
      · (repeat' (first | (intro ex hex; have hq := hg1 (by omega) hex; subst hq; clear hex) | (refine Ev.go ?_; conv => whnf) | refine And.intro ?_ ?_ | exact True.intro | exact rfl | (intro rx hrx; rw [IntWalk.i64_in _ (by omega)] at hrx) | (intro hcx; exfalso; omega) | intro _))
        all_goals (first | (refine fit_osv ?_) | skip)
        (repeat' (first | (intro ex hex; have hq := hg1 (by omega) hex; subst hq; clear hex) | (refine Ev.go ?_; conv => whnf) | refine And.intro ?_ ?_ | exact True.intro | exact rfl | (intro rx hrx; rw [IntWalk.i64_in _ (by omega)] at hrx) | (intro hcx; exfalso; omega) | intro _))
        all_goals (first | (refine ⟨?_⟩; exact vc) | exact cl | skip)
      · rintro ⟨i, fnd⟩ ⟨hi, hst⟩
        rcases fnd with _ | ⟨fa, fl⟩
        all_goals
          dsimp only at hi hst ⊢
          (repeat' (first | (intro ex hex; have hq := hg1 (by omega) hex; subst hq; clear hex) | (refine Ev.go ?_; conv => whnf) | refine And.intro ?_ ?_ | exact True.intro | exact rfl | (intro rx hrx; rw [IntWalk.i64_in _ (by omega)] at hrx) | (intro hcx; exfalso; omega) | intro _))
          all_goals (try (refine ⟨?_⟩; first | omega | exact List.cons_ne_nil _ _ | (show (_ : Nat) * _ ≤ _; simp [catS, repl, chunks, ints_len, encYs_len] <;> omega)))
          · have hn : s.members.length - m - i = (s.members.length - m - (i + 1)) + 1 := by omega
            rw [hn] at hst
            simp only [tryM] at hst
            refine TDq.pureC c64n cl rfl (And.intro rfl rfl) ?_
            (repeat' (first | (intro ex hex; have hq := hg1 (by omega) hex; subst hq; clear hex) | (refine Ev.go ?_; conv => whnf) | refine And.intro ?_ ?_ | exact True.intro | exact rfl | (intro rx hrx; rw [IntWalk.i64_in _ (by omega)] at hrx) | (intro hcx; exfalso; omega) | intro _))
            all_goals (try (refine ⟨?_⟩; first | omega | exact List.cons_ne_nil _ _ | (show (_ : Nat) * _ ≤ _; simp [catS, repl, chunks, ints_len, encYs_len] <;> omega)))
            refine TDq.last rfl rfl (by kernel_rfl) (by kernel_rfl) ?_
            refine TSq.pubS 4 ?_
            (repeat' (first | (intro ex hex; have hq := hg1 (by omega) hex; subst hq; clear hex) | (refine Ev.go ?_; conv => whnf) | refine And.intro ?_ ?_ | exact True.intro | exact rfl | (intro rx hrx; rw [IntWalk.i64_in _ (by omega)] at hrx) | (intro hcx; exfalso; omega) | intro _))
            all_goals (first | (refine ⟨?_⟩; exact vc) | exact cl | skip)
            refine TSq.cut [36] 3 ?_
            (repeat' (first | (intro ex hex; have hq := hg1 (by omega) hex; subst hq; clear hex) | (refine Ev.go ?_; conv => whnf) | refine And.intro ?_ ?_ | exact True.intro | exact rfl | (intro rx hrx; rw [IntWalk.i64_in _ (by omega)] at hrx) | (intro hcx; exfalso; omega) | intro _))
            all_goals (first | (refine ⟨?_⟩; exact vc) | exact cl | skip)
            rename_i ra hra
            obtain rfl : ra = ((i + 1 : Nat) : Int) := by omega
            obtain rfl : rx = ((m : Nat) : Int) := by omega
            refine TSq.callT rfl rfl (calleeK_const (f0 := 61) (a0 := argM ([] ++ [(i : Int)]) (i + 1) m) (And.intro rfl rfl) ?_)
            first
              | (change TF _ _ _ (bookM s []) _; refine (ih ([] ++ [(i : Int)]) (i + 1) [] (by simp at hm ⊢; omega) (by omega)).mono ?_)
              | (change TF _ _ _ (bookM s (fa :: fl)) _; refine (ih ([] ++ [(i : Int)]) (i + 1) (fa :: fl) (by simp at hm ⊢; omega) (by omega)).mono ?_)
            rintro _ _ ⟨rfl, rfl⟩
            refine Ev.at ?_
            generalize tryS s m ([] ++ [(i : Int)]) (i + 1) _ = out at *
            obtain ⟨ob, os⟩ := out
            cases ob
            · simp only [Bool.false_eq_true, if_false] at hst
              (repeat' (first | (intro ex hex; have hq := hg1 (by omega) hex; subst hq; clear hex) | (refine Ev.go ?_; conv => whnf) | refine And.intro ?_ ?_ | exact True.intro | exact rfl | (intro rx hrx; rw [IntWalk.i64_in _ (by omega)] at hrx) | (intro hcx; exfalso; omega) | intro _))
              all_goals (try (refine ⟨?_⟩; first | omega | exact List.cons_ne_nil _ _ | (show (_ : Nat) * _ ≤ _; simp [catS, repl, chunks, ints_len, encYs_len] <;> omega)))
              all_goals (refine ⟨⟨[], (i + 1, os), ⟨by omega, hst⟩, by dsimp only; omega, ?_⟩⟩)
              all_goals
                (repeat' (first | (intro ex hex; have hq := hg1 (by omega) hex; subst hq; clear hex) | (refine Ev.go ?_; conv => whnf) | refine And.intro ?_ ?_ | exact True.intro | exact rfl | (intro rx hrx; rw [IntWalk.i64_in _ (by omega)] at hrx) | (intro hcx; exfalso; omega) | intro _))
                all_goals (first | (refine fit_osv ?_) | skip)
                (repeat' (first | (intro ex hex; have hq := hg1 (by omega) hex; subst hq; clear hex) | (refine Ev.go ?_; conv => whnf) | refine And.intro ?_ ?_ | exact True.intro | exact rfl | (intro rx hrx; rw [IntWalk.i64_in _ (by omega)] at hrx) | (intro hcx; exfalso; omega) | intro _))
                all_goals (first | (refine ⟨?_⟩; exact vc) | exact cl | skip)
            · simp only [if_true] at hst
              rw [hst]
              (repeat' (first | (intro ex hex; have hq := hg1 (by omega) hex; subst hq; clear hex) | (refine Ev.go ?_; conv => whnf) | refine And.intro ?_ ?_ | exact True.intro | exact rfl | (intro rx hrx; rw [IntWalk.i64_in _ (by omega)] at hrx) | (intro hcx; exfalso; omega) | intro _))
              all_goals (first | (refine fit_osv ?_) | skip)
              (repeat' (first | (intro ex hex; have hq := hg1 (by omega) hex; subst hq; clear hex) | (refine Ev.go ?_; conv => whnf) | refine And.intro ?_ ?_ | exact True.intro | exact rfl | (intro rx hrx; rw [IntWalk.i64_in _ (by omega)] at hrx) | (intro hcx; exfalso; omega) | intro _))
              all_goals (first | (refine ⟨?_⟩; exact vc) | exact cl | skip)
              all_goals (first | rfl | skip)
          all_goals (first | (refine ⟨?_⟩; exact vc) | exact cl | skip)
          all_goals (have hn : s.members.length - m - i = 0 := by omega)
          all_goals (rw [hn] at hst; rw [hst]; rfl)
    | cons a l =>
      have hm' : l.length ≤ 19 := by simp only [List.length_cons] at hm; omega
      (repeat' (first | (intro ex hex; have hq := hg1 (by omega) hex; subst hq; clear hex) | (refine Ev.go ?_; conv => whnf) | refine And.intro ?_ ?_ | exact True.intro | exact rfl | (intro rx hrx; rw [IntWalk.i64_in _ (by omega)] at hrx) | (intro hcx; exfalso; omega) | intro _))
      all_goals (try (refine ⟨?_⟩; first | omega | exact List.cons_ne_nil _ _ | (show (_ : Nat) * _ ≤ _; simp [catS, repl, chunks, ints_len, encYs_len] <;> omega)))
      refine TWq.loopP (fun p : Nat × List Int => [(10, .int .i64 p.1)])
        (fun p => [(1, .cells [osv p.2])])
        (fun p => p.1 ≤ 30 ∧ tryS s (m + 1) (a :: l) k fd = tryM (fun i fd => tryS s m ((a :: l) ++ [(i : Int)]) (i + 1) fd) (s.members.length - m - p.1) p.1 p.2) (fun p => 30 - p.1) (k, fd) [] ?_ ⟨by omega, hS⟩ ?_
      · (repeat' (first | (intro ex hex; have hq := hg1 (by omega) hex; subst hq; clear hex) | (refine Ev.go ?_; conv => whnf) | refine And.intro ?_ ?_ | exact True.intro | exact rfl | (intro rx hrx; rw [IntWalk.i64_in _ (by omega)] at hrx) | (intro hcx; exfalso; omega) | intro _))
        all_goals (first | (refine fit_osv ?_) | skip)
        (repeat' (first | (intro ex hex; have hq := hg1 (by omega) hex; subst hq; clear hex) | (refine Ev.go ?_; conv => whnf) | refine And.intro ?_ ?_ | exact True.intro | exact rfl | (intro rx hrx; rw [IntWalk.i64_in _ (by omega)] at hrx) | (intro hcx; exfalso; omega) | intro _))
        all_goals (first | (refine ⟨?_⟩; exact vc) | exact cl | skip)
      · rintro ⟨i, fnd⟩ ⟨hi, hst⟩
        rcases fnd with _ | ⟨fa, fl⟩
        all_goals
          dsimp only at hi hst ⊢
          (repeat' (first | (intro ex hex; have hq := hg1 (by omega) hex; subst hq; clear hex) | (refine Ev.go ?_; conv => whnf) | refine And.intro ?_ ?_ | exact True.intro | exact rfl | (intro rx hrx; rw [IntWalk.i64_in _ (by omega)] at hrx) | (intro hcx; exfalso; omega) | intro _))
          all_goals (try (refine ⟨?_⟩; first | omega | exact List.cons_ne_nil _ _ | (show (_ : Nat) * _ ≤ _; simp [catS, repl, chunks, ints_len, encYs_len] <;> omega)))
          · have hn : s.members.length - m - i = (s.members.length - m - (i + 1)) + 1 := by omega
            rw [hn] at hst
            simp only [tryM] at hst
            refine TDq.ownC (po64 a l (by simp at hm; omega)) (by intro x hx; obtain ⟨y, _, rfl⟩ := List.mem_map.1 hx; simp [scal]) rfl (And.intro rfl ?_)
            (repeat' (first | (intro ex hex; have hq := hg1 (by omega) hex; subst hq; clear hex) | (refine Ev.go ?_; conv => whnf) | refine And.intro ?_ ?_ | exact True.intro | exact rfl | (intro rx hrx; rw [IntWalk.i64_in _ (by omega)] at hrx) | (intro hcx; exfalso; omega) | intro _))
            all_goals (try (refine ⟨?_⟩; first | omega | exact List.cons_ne_nil _ _ | (show (_ : Nat) * _ ≤ _; simp [catS, repl, chunks, ints_len, encYs_len] <;> omega)))
            refine TDq.last rfl rfl (by kernel_rfl) (by kernel_rfl) ?_
            refine TSq.pubS 5 ?_
            (repeat' (first | (intro ex hex; have hq := hg1 (by omega) hex; subst hq; clear hex) | (refine Ev.go ?_; conv => whnf) | refine And.intro ?_ ?_ | exact True.intro | exact rfl | (intro rx hrx; rw [IntWalk.i64_in _ (by omega)] at hrx) | (intro hcx; exfalso; omega) | intro _))
            all_goals (first | (refine ⟨?_⟩; exact vc) | exact cl | skip)
            all_goals (try (exact ⟨clo_app _ _⟩))
            refine TSq.cut [34, 36] 3 ?_
            (repeat' (first | (intro ex hex; have hq := hg1 (by omega) hex; subst hq; clear hex) | (refine Ev.go ?_; conv => whnf) | refine And.intro ?_ ?_ | exact True.intro | exact rfl | (intro rx hrx; rw [IntWalk.i64_in _ (by omega)] at hrx) | (intro hcx; exfalso; omega) | intro _))
            all_goals (first | (refine ⟨?_⟩; exact vc) | exact cl | skip)
            rename_i ra hra
            obtain rfl : ra = ((i + 1 : Nat) : Int) := by omega
            obtain rfl : rx = ((m : Nat) : Int) := by omega
            refine TSq.callT rfl rfl (calleeK_const (f0 := 61) (a0 := argM ((a :: l) ++ [(i : Int)]) (i + 1) m) (And.intro rfl (by simp [argM, osv, ints, catS, repl])) ?_)
            first
              | (change TF _ _ _ (bookM s []) _; refine (ih ((a :: l) ++ [(i : Int)]) (i + 1) [] (by simp at hm ⊢; omega) (by omega)).mono ?_)
              | (change TF _ _ _ (bookM s (fa :: fl)) _; refine (ih ((a :: l) ++ [(i : Int)]) (i + 1) (fa :: fl) (by simp at hm ⊢; omega) (by omega)).mono ?_)
            rintro _ _ ⟨rfl, rfl⟩
            refine Ev.at ?_
            generalize tryS s m ((a :: l) ++ [(i : Int)]) (i + 1) _ = out at *
            obtain ⟨ob, os⟩ := out
            cases ob
            · simp only [Bool.false_eq_true, if_false] at hst
              (repeat' (first | (intro ex hex; have hq := hg1 (by omega) hex; subst hq; clear hex) | (refine Ev.go ?_; conv => whnf) | refine And.intro ?_ ?_ | exact True.intro | exact rfl | (intro rx hrx; rw [IntWalk.i64_in _ (by omega)] at hrx) | (intro hcx; exfalso; omega) | intro _))
              all_goals (try (refine ⟨?_⟩; first | omega | exact List.cons_ne_nil _ _ | (show (_ : Nat) * _ ≤ _; simp [catS, repl, chunks, ints_len, encYs_len] <;> omega)))
              all_goals (refine ⟨⟨[], (i + 1, os), ⟨by omega, hst⟩, by dsimp only; omega, ?_⟩⟩)
              all_goals
                (repeat' (first | (intro ex hex; have hq := hg1 (by omega) hex; subst hq; clear hex) | (refine Ev.go ?_; conv => whnf) | refine And.intro ?_ ?_ | exact True.intro | exact rfl | (intro rx hrx; rw [IntWalk.i64_in _ (by omega)] at hrx) | (intro hcx; exfalso; omega) | intro _))
                all_goals (first | (refine fit_osv ?_) | skip)
                (repeat' (first | (intro ex hex; have hq := hg1 (by omega) hex; subst hq; clear hex) | (refine Ev.go ?_; conv => whnf) | refine And.intro ?_ ?_ | exact True.intro | exact rfl | (intro rx hrx; rw [IntWalk.i64_in _ (by omega)] at hrx) | (intro hcx; exfalso; omega) | intro _))
                all_goals (first | (refine ⟨?_⟩; exact vc) | exact cl | skip)
            · simp only [if_true] at hst
              rw [hst]
              (repeat' (first | (intro ex hex; have hq := hg1 (by omega) hex; subst hq; clear hex) | (refine Ev.go ?_; conv => whnf) | refine And.intro ?_ ?_ | exact True.intro | exact rfl | (intro rx hrx; rw [IntWalk.i64_in _ (by omega)] at hrx) | (intro hcx; exfalso; omega) | intro _))
              all_goals (first | (refine fit_osv ?_) | skip)
              (repeat' (first | (intro ex hex; have hq := hg1 (by omega) hex; subst hq; clear hex) | (refine Ev.go ?_; conv => whnf) | refine And.intro ?_ ?_ | exact True.intro | exact rfl | (intro rx hrx; rw [IntWalk.i64_in _ (by omega)] at hrx) | (intro hcx; exfalso; omega) | intro _))
              all_goals (first | (refine ⟨?_⟩; exact vc) | exact cl | skip)
              all_goals (first | rfl | skip)
          all_goals (first | (refine ⟨?_⟩; exact vc) | exact cl | skip)
          all_goals (have hn : s.members.length - m - i = 0 := by omega)
          all_goals (rw [hn] at hst; rw [hst]; rfl)

/-- All sizes of lists. -/
def sizesM (s : Soc) : Bool × List Int := tryM (fun n fd => tryS s n [] 0 fd) (s.members.length + 1) 0 []
/-- What Missed returns. -/
def missedR (s : Soc) : List Int × Int := if fault s ≠ 0 then ([], fault s) else if (sizesM s).1 = true then ((sizesM s).2, 0) else ([], 7)
def SlE (l : List Int) (e : Int) (s : SV) : Prop := ∃ x, s = .tup [x, .int .i64 e] ∧ SlN l x
theorem SlE.pf {f : FuncId} {args : List SV} {l : List Int} {e : Int} (h : PF Try.prog f args (SlE l e)) : PF Try.prog f args (· = .tup [.sl 1 (ints l), .int .i64 e]) := by
  refine PF.res h fun s hs _ => ?_
  obtain ⟨x, rfl, hx⟩ := hs
  refine ⟨_, rfl, by simp [clo, cloL, ints_clo], ?_⟩
  rcases hx with rfl | ⟨rfl, rfl⟩
  · (repeat' (first | (refine Ev.go ?_; conv => whnf) | refine And.intro ?_ ?_ | exact True.intro | exact rfl | (intro rx hrx; rw [IntWalk.i64_in _ (by omega)] at hrx) | (intro hcx; exfalso; omega) | (intro hcx; exfalso; simp only [lz] at hcx; omega) | intro _))
    all_goals (first | (refine ⟨?_⟩; exact vc) | exact cl | skip)
  · (repeat' (first | (refine Ev.go ?_; conv => whnf) | refine And.intro ?_ ?_ | exact True.intro | exact rfl | (intro rx hrx; rw [IntWalk.i64_in _ (by omega)] at hrx) | (intro hcx; exfalso; omega) | (intro hcx; exfalso; simp only [lz] at hcx; omega) | intro _))
    all_goals (first | (refine ⟨?_⟩; exact vc) | exact cl | skip)
set_option maxHeartbeats 4000000 in
set_option maxRecDepth 100000 in
theorem c22 (s : Soc) (h1 : s.members.length ≤ 1000000) (h2 : s.losses.length ≤ 1000000) : PF Try.prog 22 [encSoc s] (· = .tup [.sl 1 (ints (missedR s).1), .int .i64 (missedR s).2]) := by
  have hz := encYs_len s.members
  refine SlE.pf (PF.of (TF.ev fn_22 (Ev.at ?_)))
  (repeat' (first | (refine Ev.go ?_; conv => whnf) | refine And.intro ?_ ?_ | exact True.intro | exact rfl | (intro rx hrx; rw [IntWalk.i64_in _ (by omega)] at hrx) | (intro hcx; exfalso; omega) | intro _))
  refine TSq.pureC (c53 s h1 h2) cl rfl (And.intro rfl rfl) ?_
  (repeat' (first | (refine Ev.go ?_; conv => whnf) | refine And.intro ?_ ?_ | exact True.intro | exact rfl | (intro rx hrx; rw [IntWalk.i64_in _ (by omega)] at hrx) | (intro hcx; exfalso; omega) | intro _))
  · rename_i hf
    have hl5 := (fault_len hf).1
    all_goals (first | (refine ⟨?_⟩; exact vc) | exact cl | skip)
    refine TWq.loopP (fun p : Nat × List Int => [(18, .int .i64 p.1)])
      (fun p => [(1, .cells [osv p.2])])
      (fun p => p.1 ≤ s.members.length + 1 ∧ sizesM s = tryM (fun n fd => tryS s n [] 0 fd) (s.members.length + 1 - p.1) p.1 p.2) (fun p => s.members.length + 1 - p.1) (0, []) [] ?_ ⟨by omega, rfl⟩ ?_
    · (repeat' (first | (refine Ev.go ?_; conv => whnf) | refine And.intro ?_ ?_ | exact True.intro | exact rfl | (intro rx hrx; rw [IntWalk.i64_in _ (by omega)] at hrx) | (intro hcx; exfalso; omega) | intro _))
      all_goals (first | (refine ⟨?_⟩; exact vc) | exact cl | skip)
    · rintro ⟨n, st⟩ ⟨hn, hst⟩
      dsimp only at hn hst ⊢
      (repeat' (first | (refine Ev.go ?_; conv => whnf) | refine And.intro ?_ ?_ | exact True.intro | exact rfl | (intro rx hrx; rw [IntWalk.i64_in _ (by omega)] at hrx) | (intro hcx; exfalso; omega) | intro _))
      · refine TSq.callT rfl rfl (calleeK_const (f0 := 61) (a0 := argM [] 0 n) (And.intro rfl rfl) ?_)
        change TF _ _ _ (bookM s st) _
        refine (t61 s hf n [] 0 st (by simp; omega) (by omega)).mono ?_
        rintro _ _ ⟨rfl, rfl⟩
        refine Ev.at ?_
        have hk : s.members.length + 1 - n = (s.members.length + 1 - (n + 1)) + 1 := by omega
        rw [hk] at hst
        simp only [tryM] at hst
        generalize tryS s n [] 0 st = out at *
        obtain ⟨ob, os⟩ := out
        cases ob
        · simp only [Bool.false_eq_true, if_false] at hst
          (repeat' (first | (refine Ev.go ?_; conv => whnf) | refine And.intro ?_ ?_ | exact True.intro | exact rfl | (intro rx hrx; rw [IntWalk.i64_in _ (by omega)] at hrx) | (intro hcx; exfalso; omega) | intro _))
          all_goals (try (refine ⟨?_⟩; first | omega | exact List.cons_ne_nil _ _ | (show (_ : Nat) * _ ≤ _; simp [catS, repl, chunks, ints_len, encYs_len] <;> omega)))
          all_goals (refine ⟨⟨[], (n + 1, os), ⟨by omega, hst⟩, by dsimp only; omega, ?_⟩⟩)
          all_goals
            (repeat' (first | (refine Ev.go ?_; conv => whnf) | refine And.intro ?_ ?_ | exact True.intro | exact rfl | (intro rx hrx; rw [IntWalk.i64_in _ (by omega)] at hrx) | (intro hcx; exfalso; omega) | intro _))
            all_goals (first | (refine fit_osv ?_) | skip)
            (repeat' (first | (refine Ev.go ?_; conv => whnf) | refine And.intro ?_ ?_ | exact True.intro | exact rfl | (intro rx hrx; rw [IntWalk.i64_in _ (by omega)] at hrx) | (intro hcx; exfalso; omega) | intro _))
            all_goals (first | (refine ⟨?_⟩; exact vc) | exact cl | skip)
        · simp only [if_true] at hst
          have hR : missedR s = (os, 0) := by simp only [missedR, if_neg (show ¬ fault s ≠ 0 by simpa using hf), hst, if_true]
          rw [hR]
          cases os
          all_goals
            (repeat' (first | (refine Ev.go ?_; conv => whnf) | refine And.intro ?_ ?_ | exact True.intro | exact rfl | (intro rx hrx; rw [IntWalk.i64_in _ (by omega)] at hrx) | (intro hcx; exfalso; omega) | intro _))
            all_goals (try (refine ⟨?_⟩; first | omega | exact List.cons_ne_nil _ _ | (show (_ : Nat) * _ ≤ _; simp [catS, repl, chunks, ints_len, encYs_len] <;> omega)))
            exact ⟨_, rfl, SlN.osv _⟩
      all_goals (try (refine ⟨?_⟩; first | omega | exact List.cons_ne_nil _ _ | (show (_ : Nat) * _ ≤ _; simp [catS, repl, chunks, ints_len, encYs_len] <;> omega)))
      · have h0 : s.members.length + 1 - n = 0 := by omega
        rw [h0] at hst
        simp only [tryM] at hst
        have hR : missedR s = ([], 7) := by simp only [missedR, if_neg (show ¬ fault s ≠ 0 by simpa using hf), hst]; simp
        rw [hR]
        exact ⟨_, rfl, .inr ⟨rfl, rfl⟩⟩
  · rename_i hf
    have hR : missedR s = ([], fault s) := by simp only [missedR, if_pos hf]
    rw [hR]
    exact ⟨_, rfl, .inr ⟨rfl, rfl⟩⟩
end Go.Proofs.Ythnaamkempmjkaa
