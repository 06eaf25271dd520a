/- CallNames: the document's examples, and the errors. -/
import Derived.Test.YthnaamkempmjkaaNb
import Derived.Test.YthnaamkempmjkaaNd
import Derived.Test.YthnaamkempmjkaaKfL16
set_option linter.unusedSimpArgs false
set_option linter.unusedVariables false
open Go Go.TV
namespace Go.Proofs.Ythnaamkempmjkaa

def richX : Soc := { threeX 500 with reserve := 300 }
def classX : Soc := { threeX 500 with members := [⟨100, 11, 500⟩, ⟨100, 1, 60⟩, ⟨50, 2, 500⟩] }
def sumX : Soc := { threeX 500 with members := [⟨0, 2, 500⟩, ⟨100, 1, 60⟩, ⟨50, 2, 500⟩] }
def mostX : Soc := { threeX 500 with members := [⟨100, 2, 100001⟩, ⟨100, 1, 60⟩, ⟨50, 2, 500⟩] }
def wideX : Soc := { threeX 500 with treaty := ⟨0, 31⟩ }
def reserveX : Soc := { threeX 500 with reserve := -1 }
def manyX : Soc := { threeX 500 with losses := [⟨0, 0⟩, ⟨0, 0⟩, ⟨0, 0⟩, ⟨0, 0⟩] }
def noneX : Soc := { threeX 500 with members := [] }
theorem rate_80 {r e : Int} (h : RateIs (threeX 80) r e) : e = 10 := by
  have hf : fault (threeX 80) = 0 := by kernel_rfl
  have hhi : (needsOf (threeX 80)).hi = 250 := by kernel_rfl
  rcases h with ⟨h1, _⟩ | ⟨_, _, k, _, _, h5, _⟩ | ⟨_, _, h3, _⟩
  · exact absurd hf h1
  · exfalso
    rw [hhi] at h5
    have : brF (threeX 80).members (k : Int) (threeX 80).members.length ≤ 220 := by
      simp only [threeX, List.length_cons, List.length_nil, brF, mst, un, List.getElem?_cons_zero, List.getElem?_cons_succ]
      omega
    omega
  · exact h3
theorem c49l (s : Soc) (need : Int) (a : List Int) (l : List SV) (b : Bool) (e : l = ints a) (h1 : s.members.length ≤ 1000000) (h2 : s.losses.length ≤ 1000000) (h3 : a.length ≤ 1000000) (hb : proveR s need a = b) : PF Try.prog 49 [encSoc s, .int .i64 need, .sl 1 l] (· = .bool b) := by
  subst e; rw [← hb]; exact c49 s need a h1 h2 h3
set_option maxHeartbeats 16000000 in
set_option maxRecDepth 100000 in
theorem c16 : PF Try.prog 16 [] (· = .bool true) := by
  have h3 : ∀ m, (threeX m).members.length ≤ 1000000 ∧ (threeX m).losses.length ≤ 1000000 := fun m => by simp [threeX]
  have a1 := c35 (threeX 500) 200 (h3 _).1 (h3 _).2
  have a2 := c35 (threeX 500) 201 (h3 _).1 (h3 _).2
  have a3 := c35 (threeX 500) 1100 (h3 _).1 (h3 _).2
  have a4 := c30 (threeX 500) [1] (h3 _).1 (h3 _).2 (by simp)
  have a5 := c51 (threeX 500) ⟨[205, 90], 21⟩ (h3 _).1 (h3 _).2 (by simp)
  have a6 := c42 (threeX 80) (h3 _).1 (h3 _).2
  have a7 := c49l (threeX 500) 201 [101, 50, 50] _ true rfl (h3 _).1 (h3 _).2 (by simp) (by kernel_rfl)
  have a8 := c49l (threeX 500) 200 [101, 50, 50] _ false rfl (h3 _).1 (h3 _).2 (by simp) (by kernel_rfl)
  have a9 := c51 (threeX 500) ⟨[205], 21⟩ (h3 _).1 (h3 _).2 (by simp)
  have a10 := c51 (threeX 500) ⟨[211, 90], 21⟩ (h3 _).1 (h3 _).2 (by simp)
  have a11 := c35 (threeX 500) 300001 (h3 _).1 (h3 _).2
  have a12 := c30 (threeX 500) [1, 1] (h3 _).1 (h3 _).2 (by simp)
  have a13 := c20 (threeX 80) (h3 _).1 (h3 _).2
  have a14 := c22 richX (by simp [richX, threeX]) (by simp [richX, threeX])
  have f1 := c53 classX (by simp [classX]) (by simp [classX, threeX])
  have f2 := c53 sumX (by simp [sumX]) (by simp [sumX, threeX])
  have f3 := c53 mostX (by simp [mostX]) (by simp [mostX, threeX])
  have f4 := c53 wideX (by simp [wideX, threeX]) (by simp [wideX, threeX])
  have f5 := c53 reserveX (by simp [reserveX, threeX]) (by simp [reserveX, threeX])
  have f6 := c53 manyX (by simp [manyX, threeX]) (by simp [manyX])
  have f7 := c53 noneX (by simp [noneX]) (by simp [noneX, threeX])
  rw [show callsR (threeX 500) 200 = ([100, 50, 50], 0, 0) by kernel_rfl] at a1
  rw [show callsR (threeX 500) 201 = ([101, 50, 50], 0, 0) by kernel_rfl] at a2
  rw [show callsR (threeX 500) 1100 = ([500, 60, 500], 40, 0) by kernel_rfl] at a3
  rw [show withoutR (threeX 500) [1] = ([⟨157, 167⟩, ⟨0, 0⟩, ⟨78, 83⟩], 0) by kernel_rfl] at a4
  rw [show needR (threeX 500) ⟨[205, 90], 21⟩ = (244, 0) by kernel_rfl] at a5
  rw [show shortR (threeX 80) = (⟨15, 30⟩, 0) by kernel_rfl] at a6
  rw [show needR (threeX 500) ⟨[205], 21⟩ = (0, 2) by kernel_rfl] at a9
  rw [show needR (threeX 500) ⟨[211, 90], 21⟩ = (0, 2) by kernel_rfl] at a10
  rw [show callsR (threeX 500) 300001 = ([], 0, 2) by kernel_rfl] at a11
  rw [show withoutR (threeX 500) [1, 1] = ([], 2) by kernel_rfl] at a12
  rw [show missedR richX = ([], 7) by kernel_rfl] at a14
  rw [show fault classX = 1 by kernel_rfl] at f1
  rw [show fault sumX = 1 by kernel_rfl] at f2
  rw [show fault mostX = 1 by kernel_rfl] at f3
  rw [show fault wideX = 1 by kernel_rfl] at f4
  rw [show fault reserveX = 1 by kernel_rfl] at f5
  rw [show fault manyX = 3 by kernel_rfl] at f6
  rw [show fault noneX = 1 by kernel_rfl] at f7
  have f7' : PF Try.prog 53 [.agg [.nils, .sl 2 (encRs (threeX 500).losses), .int .i64 20, .int .i64 25, .int .i64 30]] (· = .int .i64 1) := by
    refine PF.fit f7 (Ev.at ?_)
    (repeat' (first | (intro ex hex; have hq := hg1 (by omega) hex; subst hq; clear hex) | (intro ex hex; have hq := hg2 (by omega) hex; subst hq; clear hex) | (intro ex hex; have hq := hg3 (by omega) hex; subst hq; clear hex) | (intro ex hex; have hq := hg4 (by omega) hex; subst hq; clear hex) | (refine Ev.go ?_; conv => whnf) | refine And.intro ?_ ?_ | exact True.intro | exact rfl | (intro rx hrx; rw [IntWalk.i64_in _ (by omega)] at hrx) | (intro hcx; exfalso; omega) | intro _))
    all_goals (first | (refine ⟨?_⟩; exact vc) | exact cl | skip)
  have s1 := c26l [100, 50, 50] _ rfl (by simp)
  have s2 := c26l [101, 50, 50] _ rfl (by simp)
  have s3 := c26l [500, 60, 500] _ rfl (by simp)
  obtain ⟨B, hB⟩ : ∃ B : List Rng, B = [⟨157, 167⟩, ⟨0, 0⟩, ⟨78, 83⟩] := ⟨_, rfl⟩
  have hl1 : (encRs B).length = 3 := by rw [hB]; rfl
  have hg1 : ∀ {n : Nat} {e : SV}, n = 0 → (encRs B)[n]? = some e → e = encR ⟨157, 167⟩ := by
    rintro n e rfl he; subst hB; exact (Option.some.inj he).symm
  have hg2 : ∀ {n : Nat} {e : SV}, n = 1 → (encRs B)[n]? = some e → e = encR ⟨0, 0⟩ := by
    rintro n e rfl he; subst hB; exact (Option.some.inj he).symm
  have hg3 : ∀ {n : Nat} {e : SV}, n = 2 → (encRs B)[n]? = some e → e = encR ⟨78, 83⟩ := by
    rintro n e rfl he; subst hB; exact (Option.some.inj he).symm
  have hg4 : ∀ {n : Nat} {e : SV}, n = 0 → (encYs (threeX 500).members)[n]? = some e → e = encY ⟨100, 2, 500⟩ := by
    rintro n e rfl he; exact (Option.some.inj he).symm
  rw [← hB] at a4
  clear hB
  have b5 := c56 500
  have b8 := c56 80
  dsimp only at a1 a2 a3 a4 a5 a6 a9 a10 a11 a12 a14
  refine PF.of (TF.ev fn_16 (Ev.at ?_))
  (repeat' (first | (intro ex hex; have hq := hg1 (by omega) hex; subst hq; clear hex) | (intro ex hex; have hq := hg2 (by omega) hex; subst hq; clear hex) | (intro ex hex; have hq := hg3 (by omega) hex; subst hq; clear hex) | (intro ex hex; have hq := hg4 (by omega) hex; subst hq; clear hex) | (refine Ev.go ?_; conv => whnf) | refine And.intro ?_ ?_ | exact True.intro | exact rfl | (intro rx hrx; rw [IntWalk.i64_in _ (by omega)] at hrx) | (intro hcx; exfalso; omega) | intro _))
  refine TSq.pureC b5 cl rfl (And.intro rfl rfl) ?_
  (repeat' (first | (intro ex hex; have hq := hg1 (by omega) hex; subst hq; clear hex) | (intro ex hex; have hq := hg2 (by omega) hex; subst hq; clear hex) | (intro ex hex; have hq := hg3 (by omega) hex; subst hq; clear hex) | (intro ex hex; have hq := hg4 (by omega) hex; subst hq; clear hex) | (refine Ev.go ?_; conv => whnf) | refine And.intro ?_ ?_ | exact True.intro | exact rfl | (intro rx hrx; rw [IntWalk.i64_in _ (by omega)] at hrx) | (intro hcx; exfalso; omega) | intro _))
  refine TSq.pureC a1 cl rfl (And.intro rfl rfl) ?_
  (repeat' (first | (intro ex hex; have hq := hg1 (by omega) hex; subst hq; clear hex) | (intro ex hex; have hq := hg2 (by omega) hex; subst hq; clear hex) | (intro ex hex; have hq := hg3 (by omega) hex; subst hq; clear hex) | (intro ex hex; have hq := hg4 (by omega) hex; subst hq; clear hex) | (refine Ev.go ?_; conv => whnf) | refine And.intro ?_ ?_ | exact True.intro | exact rfl | (intro rx hrx; rw [IntWalk.i64_in _ (by omega)] at hrx) | (intro hcx; exfalso; omega) | intro _))
  refine TSq.pureC b5 cl rfl (And.intro rfl rfl) ?_
  (repeat' (first | (intro ex hex; have hq := hg1 (by omega) hex; subst hq; clear hex) | (intro ex hex; have hq := hg2 (by omega) hex; subst hq; clear hex) | (intro ex hex; have hq := hg3 (by omega) hex; subst hq; clear hex) | (intro ex hex; have hq := hg4 (by omega) hex; subst hq; clear hex) | (refine Ev.go ?_; conv => whnf) | refine And.intro ?_ ?_ | exact True.intro | exact rfl | (intro rx hrx; rw [IntWalk.i64_in _ (by omega)] at hrx) | (intro hcx; exfalso; omega) | intro _))
  refine TSq.pureC a2 cl rfl (And.intro rfl rfl) ?_
  (repeat' (first | (intro ex hex; have hq := hg1 (by omega) hex; subst hq; clear hex) | (intro ex hex; have hq := hg2 (by omega) hex; subst hq; clear hex) | (intro ex hex; have hq := hg3 (by omega) hex; subst hq; clear hex) | (intro ex hex; have hq := hg4 (by omega) hex; subst hq; clear hex) | (refine Ev.go ?_; conv => whnf) | refine And.intro ?_ ?_ | exact True.intro | exact rfl | (intro rx hrx; rw [IntWalk.i64_in _ (by omega)] at hrx) | (intro hcx; exfalso; omega) | intro _))
  refine TSq.pureC b5 cl rfl (And.intro rfl rfl) ?_
  (repeat' (first | (intro ex hex; have hq := hg1 (by omega) hex; subst hq; clear hex) | (intro ex hex; have hq := hg2 (by omega) hex; subst hq; clear hex) | (intro ex hex; have hq := hg3 (by omega) hex; subst hq; clear hex) | (intro ex hex; have hq := hg4 (by omega) hex; subst hq; clear hex) | (refine Ev.go ?_; conv => whnf) | refine And.intro ?_ ?_ | exact True.intro | exact rfl | (intro rx hrx; rw [IntWalk.i64_in _ (by omega)] at hrx) | (intro hcx; exfalso; omega) | intro _))
  refine TSq.pureC a3 cl rfl (And.intro rfl rfl) ?_
  (repeat' (first | (intro ex hex; have hq := hg1 (by omega) hex; subst hq; clear hex) | (intro ex hex; have hq := hg2 (by omega) hex; subst hq; clear hex) | (intro ex hex; have hq := hg3 (by omega) hex; subst hq; clear hex) | (intro ex hex; have hq := hg4 (by omega) hex; subst hq; clear hex) | (refine Ev.go ?_; conv => whnf) | refine And.intro ?_ ?_ | exact True.intro | exact rfl | (intro rx hrx; rw [IntWalk.i64_in _ (by omega)] at hrx) | (intro hcx; exfalso; omega) | intro _))
  refine TSq.pureC b5 cl rfl (And.intro rfl rfl) ?_
  (repeat' (first | (intro ex hex; have hq := hg1 (by omega) hex; subst hq; clear hex) | (intro ex hex; have hq := hg2 (by omega) hex; subst hq; clear hex) | (intro ex hex; have hq := hg3 (by omega) hex; subst hq; clear hex) | (intro ex hex; have hq := hg4 (by omega) hex; subst hq; clear hex) | (refine Ev.go ?_; conv => whnf) | refine And.intro ?_ ?_ | exact True.intro | exact rfl | (intro rx hrx; rw [IntWalk.i64_in _ (by omega)] at hrx) | (intro hcx; exfalso; omega) | intro _))
  all_goals (first | (refine ⟨?_⟩; exact vc) | exact cl | skip)
  refine TSq.pubD 0 ?_
  (repeat' (first | (intro ex hex; have hq := hg1 (by omega) hex; subst hq; clear hex) | (intro ex hex; have hq := hg2 (by omega) hex; subst hq; clear hex) | (intro ex hex; have hq := hg3 (by omega) hex; subst hq; clear hex) | (intro ex hex; have hq := hg4 (by omega) hex; subst hq; clear hex) | (refine Ev.go ?_; conv => whnf) | refine And.intro ?_ ?_ | exact True.intro | exact rfl | (intro rx hrx; rw [IntWalk.i64_in _ (by omega)] at hrx) | (intro hcx; exfalso; omega) | intro _))
  all_goals (first | (refine ⟨?_⟩; exact vc) | exact cl | skip)
  refine TSq.pureC a4 cl rfl (And.intro rfl rfl) ?_
  (repeat' (first | (intro ex hex; have hq := hg1 (by omega) hex; subst hq; clear hex) | (intro ex hex; have hq := hg2 (by omega) hex; subst hq; clear hex) | (intro ex hex; have hq := hg3 (by omega) hex; subst hq; clear hex) | (intro ex hex; have hq := hg4 (by omega) hex; subst hq; clear hex) | (refine Ev.go ?_; conv => whnf) | refine And.intro ?_ ?_ | exact True.intro | exact rfl | (intro rx hrx; rw [IntWalk.i64_in _ (by omega)] at hrx) | (intro hcx; exfalso; omega) | intro _))
  refine TSq.pureC b5 cl rfl (And.intro rfl rfl) ?_
  (repeat' (first | (intro ex hex; have hq := hg1 (by omega) hex; subst hq; clear hex) | (intro ex hex; have hq := hg2 (by omega) hex; subst hq; clear hex) | (intro ex hex; have hq := hg3 (by omega) hex; subst hq; clear hex) | (intro ex hex; have hq := hg4 (by omega) hex; subst hq; clear hex) | (refine Ev.go ?_; conv => whnf) | refine And.intro ?_ ?_ | exact True.intro | exact rfl | (intro rx hrx; rw [IntWalk.i64_in _ (by omega)] at hrx) | (intro hcx; exfalso; omega) | intro _))
  refine TSq.pubD 1 ?_
  (repeat' (first | (intro ex hex; have hq := hg1 (by omega) hex; subst hq; clear hex) | (intro ex hex; have hq := hg2 (by omega) hex; subst hq; clear hex) | (intro ex hex; have hq := hg3 (by omega) hex; subst hq; clear hex) | (intro ex hex; have hq := hg4 (by omega) hex; subst hq; clear hex) | (refine Ev.go ?_; conv => whnf) | refine And.intro ?_ ?_ | exact True.intro | exact rfl | (intro rx hrx; rw [IntWalk.i64_in _ (by omega)] at hrx) | (intro hcx; exfalso; omega) | intro _))
  all_goals (first | (refine ⟨?_⟩; exact vc) | exact cl | skip)
  refine TSq.pureC a5 cl rfl (And.intro rfl rfl) ?_
  (repeat' (first | (intro ex hex; have hq := hg1 (by omega) hex; subst hq; clear hex) | (intro ex hex; have hq := hg2 (by omega) hex; subst hq; clear hex) | (intro ex hex; have hq := hg3 (by omega) hex; subst hq; clear hex) | (intro ex hex; have hq := hg4 (by omega) hex; subst hq; clear hex) | (refine Ev.go ?_; conv => whnf) | refine And.intro ?_ ?_ | exact True.intro | exact rfl | (intro rx hrx; rw [IntWalk.i64_in _ (by omega)] at hrx) | (intro hcx; exfalso; omega) | intro _))
  refine TSq.pureC b8 cl rfl (And.intro rfl rfl) ?_
  (repeat' (first | (intro ex hex; have hq := hg1 (by omega) hex; subst hq; clear hex) | (intro ex hex; have hq := hg2 (by omega) hex; subst hq; clear hex) | (intro ex hex; have hq := hg3 (by omega) hex; subst hq; clear hex) | (intro ex hex; have hq := hg4 (by omega) hex; subst hq; clear hex) | (refine Ev.go ?_; conv => whnf) | refine And.intro ?_ ?_ | exact True.intro | exact rfl | (intro rx hrx; rw [IntWalk.i64_in _ (by omega)] at hrx) | (intro hcx; exfalso; omega) | intro _))
  refine TSq.pureC a6 cl rfl (And.intro rfl rfl) ?_
  (repeat' (first | (intro ex hex; have hq := hg1 (by omega) hex; subst hq; clear hex) | (intro ex hex; have hq := hg2 (by omega) hex; subst hq; clear hex) | (intro ex hex; have hq := hg3 (by omega) hex; subst hq; clear hex) | (intro ex hex; have hq := hg4 (by omega) hex; subst hq; clear hex) | (refine Ev.go ?_; conv => whnf) | refine And.intro ?_ ?_ | exact True.intro | exact rfl | (intro rx hrx; rw [IntWalk.i64_in _ (by omega)] at hrx) | (intro hcx; exfalso; omega) | intro _))
  all_goals (first | (refine ⟨?_⟩; exact vc) | exact cl | skip)
  refine TDq.lendC s1 (by simp [scal]) rfl (And.intro rfl ?_)
  (repeat' (first | (intro ex hex; have hq := hg1 (by omega) hex; subst hq; clear hex) | (intro ex hex; have hq := hg2 (by omega) hex; subst hq; clear hex) | (intro ex hex; have hq := hg3 (by omega) hex; subst hq; clear hex) | (intro ex hex; have hq := hg4 (by omega) hex; subst hq; clear hex) | (refine Ev.go ?_; conv => whnf) | refine And.intro ?_ ?_ | exact True.intro | exact rfl | (intro rx hrx; rw [IntWalk.i64_in _ (by omega)] at hrx) | (intro hcx; exfalso; omega) | intro _))
  all_goals (first | (refine ⟨?_⟩; exact vk) | exact cl | skip)
  refine TDq.lendC s2 (by simp [scal]) rfl (And.intro rfl ?_)
  (repeat' (first | (intro ex hex; have hq := hg1 (by omega) hex; subst hq; clear hex) | (intro ex hex; have hq := hg2 (by omega) hex; subst hq; clear hex) | (intro ex hex; have hq := hg3 (by omega) hex; subst hq; clear hex) | (intro ex hex; have hq := hg4 (by omega) hex; subst hq; clear hex) | (refine Ev.go ?_; conv => whnf) | refine And.intro ?_ ?_ | exact True.intro | exact rfl | (intro rx hrx; rw [IntWalk.i64_in _ (by omega)] at hrx) | (intro hcx; exfalso; omega) | intro _))
  all_goals (first | (refine ⟨?_⟩; exact vk) | exact cl | skip)
  refine TDq.lendC s3 (by simp [scal]) rfl (And.intro rfl ?_)
  (repeat' (first | (intro ex hex; have hq := hg1 (by omega) hex; subst hq; clear hex) | (intro ex hex; have hq := hg2 (by omega) hex; subst hq; clear hex) | (intro ex hex; have hq := hg3 (by omega) hex; subst hq; clear hex) | (intro ex hex; have hq := hg4 (by omega) hex; subst hq; clear hex) | (refine Ev.go ?_; conv => whnf) | refine And.intro ?_ ?_ | exact True.intro | exact rfl | (intro rx hrx; rw [IntWalk.i64_in _ (by omega)] at hrx) | (intro hcx; exfalso; omega) | intro _))
  all_goals (first | (refine ⟨?_⟩; exact vk) | exact cl | skip)
  refine TDq.pureC (c57 157 167) cl rfl (And.intro rfl rfl) ?_
  (repeat' (first | (intro ex hex; have hq := hg1 (by omega) hex; subst hq; clear hex) | (intro ex hex; have hq := hg2 (by omega) hex; subst hq; clear hex) | (intro ex hex; have hq := hg3 (by omega) hex; subst hq; clear hex) | (intro ex hex; have hq := hg4 (by omega) hex; subst hq; clear hex) | (refine Ev.go ?_; conv => whnf) | refine And.intro ?_ ?_ | exact True.intro | exact rfl | (intro rx hrx; rw [IntWalk.i64_in _ (by omega)] at hrx) | (intro hcx; exfalso; omega) | intro _))
  all_goals (first | (refine ⟨?_⟩; exact vk) | exact cl | skip)
  refine TDq.pureC (c57 0 0) cl rfl (And.intro rfl rfl) ?_
  (repeat' (first | (intro ex hex; have hq := hg1 (by omega) hex; subst hq; clear hex) | (intro ex hex; have hq := hg2 (by omega) hex; subst hq; clear hex) | (intro ex hex; have hq := hg3 (by omega) hex; subst hq; clear hex) | (intro ex hex; have hq := hg4 (by omega) hex; subst hq; clear hex) | (refine Ev.go ?_; conv => whnf) | refine And.intro ?_ ?_ | exact True.intro | exact rfl | (intro rx hrx; rw [IntWalk.i64_in _ (by omega)] at hrx) | (intro hcx; exfalso; omega) | intro _))
  all_goals (first | (refine ⟨?_⟩; exact vk) | exact cl | skip)
  refine TDq.pureC (c57 78 83) cl rfl (And.intro rfl rfl) ?_
  (repeat' (first | (intro ex hex; have hq := hg1 (by omega) hex; subst hq; clear hex) | (intro ex hex; have hq := hg2 (by omega) hex; subst hq; clear hex) | (intro ex hex; have hq := hg3 (by omega) hex; subst hq; clear hex) | (intro ex hex; have hq := hg4 (by omega) hex; subst hq; clear hex) | (refine Ev.go ?_; conv => whnf) | refine And.intro ?_ ?_ | exact True.intro | exact rfl | (intro rx hrx; rw [IntWalk.i64_in _ (by omega)] at hrx) | (intro hcx; exfalso; omega) | intro _))
  all_goals (first | (refine ⟨?_⟩; exact vk) | exact cl | skip)
  refine TDq.pureC (c57 15 30) cl rfl (And.intro rfl rfl) ?_
  (repeat' (first | (intro ex hex; have hq := hg1 (by omega) hex; subst hq; clear hex) | (intro ex hex; have hq := hg2 (by omega) hex; subst hq; clear hex) | (intro ex hex; have hq := hg3 (by omega) hex; subst hq; clear hex) | (intro ex hex; have hq := hg4 (by omega) hex; subst hq; clear hex) | (refine Ev.go ?_; conv => whnf) | refine And.intro ?_ ?_ | exact True.intro | exact rfl | (intro rx hrx; rw [IntWalk.i64_in _ (by omega)] at hrx) | (intro hcx; exfalso; omega) | intro _))
  all_goals (first | (refine ⟨?_⟩; exact vk) | exact cl | skip)
  refine TDq.pureC b5 cl rfl (And.intro rfl rfl) ?_
  (repeat' (first | (intro ex hex; have hq := hg1 (by omega) hex; subst hq; clear hex) | (intro ex hex; have hq := hg2 (by omega) hex; subst hq; clear hex) | (intro ex hex; have hq := hg3 (by omega) hex; subst hq; clear hex) | (intro ex hex; have hq := hg4 (by omega) hex; subst hq; clear hex) | (refine Ev.go ?_; conv => whnf) | refine And.intro ?_ ?_ | exact True.intro | exact rfl | (intro rx hrx; rw [IntWalk.i64_in _ (by omega)] at hrx) | (intro hcx; exfalso; omega) | intro _))
  all_goals (first | (refine ⟨?_⟩; exact vk) | exact cl | skip)
  refine TDq.pureC a7 cl rfl (And.intro rfl rfl) ?_
  (repeat' (first | (intro ex hex; have hq := hg1 (by omega) hex; subst hq; clear hex) | (intro ex hex; have hq := hg2 (by omega) hex; subst hq; clear hex) | (intro ex hex; have hq := hg3 (by omega) hex; subst hq; clear hex) | (intro ex hex; have hq := hg4 (by omega) hex; subst hq; clear hex) | (refine Ev.go ?_; conv => whnf) | refine And.intro ?_ ?_ | exact True.intro | exact rfl | (intro rx hrx; rw [IntWalk.i64_in _ (by omega)] at hrx) | (intro hcx; exfalso; omega) | intro _))
  all_goals (first | (refine ⟨?_⟩; exact vk) | exact cl | skip)
  refine TDq.pureC b5 cl rfl (And.intro rfl rfl) ?_
  (repeat' (first | (intro ex hex; have hq := hg1 (by omega) hex; subst hq; clear hex) | (intro ex hex; have hq := hg2 (by omega) hex; subst hq; clear hex) | (intro ex hex; have hq := hg3 (by omega) hex; subst hq; clear hex) | (intro ex hex; have hq := hg4 (by omega) hex; subst hq; clear hex) | (refine Ev.go ?_; conv => whnf) | refine And.intro ?_ ?_ | exact True.intro | exact rfl | (intro rx hrx; rw [IntWalk.i64_in _ (by omega)] at hrx) | (intro hcx; exfalso; omega) | intro _))
  all_goals (first | (refine ⟨?_⟩; exact vk) | exact cl | skip)
  refine TDq.pureC a8 cl rfl (And.intro rfl rfl) ?_
  (repeat' (first | (intro ex hex; have hq := hg1 (by omega) hex; subst hq; clear hex) | (intro ex hex; have hq := hg2 (by omega) hex; subst hq; clear hex) | (intro ex hex; have hq := hg3 (by omega) hex; subst hq; clear hex) | (intro ex hex; have hq := hg4 (by omega) hex; subst hq; clear hex) | (refine Ev.go ?_; conv => whnf) | refine And.intro ?_ ?_ | exact True.intro | exact rfl | (intro rx hrx; rw [IntWalk.i64_in _ (by omega)] at hrx) | (intro hcx; exfalso; omega) | intro _))
  all_goals (first | (refine ⟨?_⟩; exact vk) | exact cl | skip)
  all_goals (try (rename_i h; exact absurd rfl h))
  refine TSq.pureC b5 cl rfl (And.intro rfl rfl) ?_
  (repeat' (first | (intro ex hex; have hq := hg1 (by omega) hex; subst hq; clear hex) | (intro ex hex; have hq := hg2 (by omega) hex; subst hq; clear hex) | (intro ex hex; have hq := hg3 (by omega) hex; subst hq; clear hex) | (intro ex hex; have hq := hg4 (by omega) hex; subst hq; clear hex) | (refine Ev.go ?_; conv => whnf) | refine And.intro ?_ ?_ | exact True.intro | exact rfl | (intro rx hrx; rw [IntWalk.i64_in _ (by omega)] at hrx) | (intro hcx; exfalso; omega) | intro _))
  all_goals (first | (refine ⟨?_⟩; exact vc) | exact cl | skip)
  refine TSq.pureC b5 cl rfl (And.intro rfl rfl) ?_
  (repeat' (first | (intro ex hex; have hq := hg1 (by omega) hex; subst hq; clear hex) | (intro ex hex; have hq := hg2 (by omega) hex; subst hq; clear hex) | (intro ex hex; have hq := hg3 (by omega) hex; subst hq; clear hex) | (intro ex hex; have hq := hg4 (by omega) hex; subst hq; clear hex) | (refine Ev.go ?_; conv => whnf) | refine And.intro ?_ ?_ | exact True.intro | exact rfl | (intro rx hrx; rw [IntWalk.i64_in _ (by omega)] at hrx) | (intro hcx; exfalso; omega) | intro _))
  refine TSq.pubD 7 ?_
  (repeat' (first | (intro ex hex; have hq := hg1 (by omega) hex; subst hq; clear hex) | (intro ex hex; have hq := hg2 (by omega) hex; subst hq; clear hex) | (intro ex hex; have hq := hg3 (by omega) hex; subst hq; clear hex) | (intro ex hex; have hq := hg4 (by omega) hex; subst hq; clear hex) | (refine Ev.go ?_; conv => whnf) | refine And.intro ?_ ?_ | exact True.intro | exact rfl | (intro rx hrx; rw [IntWalk.i64_in _ (by omega)] at hrx) | (intro hcx; exfalso; omega) | intro _))
  all_goals (first | (refine ⟨?_⟩; exact vc) | exact cl | skip)
  refine TSq.pureC a9 cl rfl (And.intro rfl rfl) ?_
  (repeat' (first | (intro ex hex; have hq := hg1 (by omega) hex; subst hq; clear hex) | (intro ex hex; have hq := hg2 (by omega) hex; subst hq; clear hex) | (intro ex hex; have hq := hg3 (by omega) hex; subst hq; clear hex) | (intro ex hex; have hq := hg4 (by omega) hex; subst hq; clear hex) | (refine Ev.go ?_; conv => whnf) | refine And.intro ?_ ?_ | exact True.intro | exact rfl | (intro rx hrx; rw [IntWalk.i64_in _ (by omega)] at hrx) | (intro hcx; exfalso; omega) | intro _))
  refine TSq.pureC b5 cl rfl (And.intro rfl rfl) ?_
  (repeat' (first | (intro ex hex; have hq := hg1 (by omega) hex; subst hq; clear hex) | (intro ex hex; have hq := hg2 (by omega) hex; subst hq; clear hex) | (intro ex hex; have hq := hg3 (by omega) hex; subst hq; clear hex) | (intro ex hex; have hq := hg4 (by omega) hex; subst hq; clear hex) | (refine Ev.go ?_; conv => whnf) | refine And.intro ?_ ?_ | exact True.intro | exact rfl | (intro rx hrx; rw [IntWalk.i64_in _ (by omega)] at hrx) | (intro hcx; exfalso; omega) | intro _))
  refine TSq.pubD 8 ?_
  (repeat' (first | (intro ex hex; have hq := hg1 (by omega) hex; subst hq; clear hex) | (intro ex hex; have hq := hg2 (by omega) hex; subst hq; clear hex) | (intro ex hex; have hq := hg3 (by omega) hex; subst hq; clear hex) | (intro ex hex; have hq := hg4 (by omega) hex; subst hq; clear hex) | (refine Ev.go ?_; conv => whnf) | refine And.intro ?_ ?_ | exact True.intro | exact rfl | (intro rx hrx; rw [IntWalk.i64_in _ (by omega)] at hrx) | (intro hcx; exfalso; omega) | intro _))
  all_goals (first | (refine ⟨?_⟩; exact vc) | exact cl | skip)
  refine TSq.pureC a10 cl rfl (And.intro rfl rfl) ?_
  (repeat' (first | (intro ex hex; have hq := hg1 (by omega) hex; subst hq; clear hex) | (intro ex hex; have hq := hg2 (by omega) hex; subst hq; clear hex) | (intro ex hex; have hq := hg3 (by omega) hex; subst hq; clear hex) | (intro ex hex; have hq := hg4 (by omega) hex; subst hq; clear hex) | (refine Ev.go ?_; conv => whnf) | refine And.intro ?_ ?_ | exact True.intro | exact rfl | (intro rx hrx; rw [IntWalk.i64_in _ (by omega)] at hrx) | (intro hcx; exfalso; omega) | intro _))
  refine TSq.pureC b5 cl rfl (And.intro rfl rfl) ?_
  (repeat' (first | (intro ex hex; have hq := hg1 (by omega) hex; subst hq; clear hex) | (intro ex hex; have hq := hg2 (by omega) hex; subst hq; clear hex) | (intro ex hex; have hq := hg3 (by omega) hex; subst hq; clear hex) | (intro ex hex; have hq := hg4 (by omega) hex; subst hq; clear hex) | (refine Ev.go ?_; conv => whnf) | refine And.intro ?_ ?_ | exact True.intro | exact rfl | (intro rx hrx; rw [IntWalk.i64_in _ (by omega)] at hrx) | (intro hcx; exfalso; omega) | intro _))
  refine TSq.pureC a11 cl rfl (And.intro rfl rfl) ?_
  (repeat' (first | (intro ex hex; have hq := hg1 (by omega) hex; subst hq; clear hex) | (intro ex hex; have hq := hg2 (by omega) hex; subst hq; clear hex) | (intro ex hex; have hq := hg3 (by omega) hex; subst hq; clear hex) | (intro ex hex; have hq := hg4 (by omega) hex; subst hq; clear hex) | (refine Ev.go ?_; conv => whnf) | refine And.intro ?_ ?_ | exact True.intro | exact rfl | (intro rx hrx; rw [IntWalk.i64_in _ (by omega)] at hrx) | (intro hcx; exfalso; omega) | intro _))
  refine TSq.pureC b5 cl rfl (And.intro rfl rfl) ?_
  (repeat' (first | (intro ex hex; have hq := hg1 (by omega) hex; subst hq; clear hex) | (intro ex hex; have hq := hg2 (by omega) hex; subst hq; clear hex) | (intro ex hex; have hq := hg3 (by omega) hex; subst hq; clear hex) | (intro ex hex; have hq := hg4 (by omega) hex; subst hq; clear hex) | (refine Ev.go ?_; conv => whnf) | refine And.intro ?_ ?_ | exact True.intro | exact rfl | (intro rx hrx; rw [IntWalk.i64_in _ (by omega)] at hrx) | (intro hcx; exfalso; omega) | intro _))
  refine TSq.pubD 9 ?_
  (repeat' (first | (intro ex hex; have hq := hg1 (by omega) hex; subst hq; clear hex) | (intro ex hex; have hq := hg2 (by omega) hex; subst hq; clear hex) | (intro ex hex; have hq := hg3 (by omega) hex; subst hq; clear hex) | (intro ex hex; have hq := hg4 (by omega) hex; subst hq; clear hex) | (refine Ev.go ?_; conv => whnf) | refine And.intro ?_ ?_ | exact True.intro | exact rfl | (intro rx hrx; rw [IntWalk.i64_in _ (by omega)] at hrx) | (intro hcx; exfalso; omega) | intro _))
  all_goals (first | (refine ⟨?_⟩; exact vc) | exact cl | skip)
  refine TSq.pureC a12 cl rfl (And.intro rfl rfl) ?_
  (repeat' (first | (intro ex hex; have hq := hg1 (by omega) hex; subst hq; clear hex) | (intro ex hex; have hq := hg2 (by omega) hex; subst hq; clear hex) | (intro ex hex; have hq := hg3 (by omega) hex; subst hq; clear hex) | (intro ex hex; have hq := hg4 (by omega) hex; subst hq; clear hex) | (refine Ev.go ?_; conv => whnf) | refine And.intro ?_ ?_ | exact True.intro | exact rfl | (intro rx hrx; rw [IntWalk.i64_in _ (by omega)] at hrx) | (intro hcx; exfalso; omega) | intro _))
  refine TSq.pureC b8 cl rfl (And.intro rfl rfl) ?_
  (repeat' (first | (intro ex hex; have hq := hg1 (by omega) hex; subst hq; clear hex) | (intro ex hex; have hq := hg2 (by omega) hex; subst hq; clear hex) | (intro ex hex; have hq := hg3 (by omega) hex; subst hq; clear hex) | (intro ex hex; have hq := hg4 (by omega) hex; subst hq; clear hex) | (refine Ev.go ?_; conv => whnf) | refine And.intro ?_ ?_ | exact True.intro | exact rfl | (intro rx hrx; rw [IntWalk.i64_in _ (by omega)] at hrx) | (intro hcx; exfalso; omega) | intro _))
  refine TSq.pureQ rfl a13 cl rfl (And.intro rfl rfl) ?_
  rintro _ ⟨r13, e13, rfl, hr13⟩ _
  have h10 := rate_80 hr13
  (repeat' (first | (intro ex hex; have hq := hg1 (by omega) hex; subst hq; clear hex) | (intro ex hex; have hq := hg2 (by omega) hex; subst hq; clear hex) | (intro ex hex; have hq := hg3 (by omega) hex; subst hq; clear hex) | (intro ex hex; have hq := hg4 (by omega) hex; subst hq; clear hex) | (refine Ev.go ?_; conv => whnf) | refine And.intro ?_ ?_ | exact True.intro | exact rfl | (intro rx hrx; rw [IntWalk.i64_in _ (by omega)] at hrx) | (intro hcx; exfalso; omega) | intro _))
  all_goals (first | (refine ⟨?_⟩; exact vc) | exact cl | skip)
  refine TSq.pureC a14 cl rfl (And.intro rfl rfl) ?_
  (repeat' (first | (intro ex hex; have hq := hg1 (by omega) hex; subst hq; clear hex) | (intro ex hex; have hq := hg2 (by omega) hex; subst hq; clear hex) | (intro ex hex; have hq := hg3 (by omega) hex; subst hq; clear hex) | (intro ex hex; have hq := hg4 (by omega) hex; subst hq; clear hex) | (refine Ev.go ?_; conv => whnf) | refine And.intro ?_ ?_ | exact True.intro | exact rfl | (intro rx hrx; rw [IntWalk.i64_in _ (by omega)] at hrx) | (intro hcx; exfalso; omega) | intro _))
  refine TSq.cut [0, 1, 2, 4, 5, 7, 8, 10, 12, 14, 16, 17, 18, 19, 20, 21, 22, 23, 24, 25, 26, 27, 28, 29, 30, 31, 32, 33, 34, 35, 36, 37, 38, 39, 40, 41, 42, 43, 44, 45, 46, 47, 48, 49, 50, 51, 52, 53, 54, 55, 56, 57, 58, 59, 60, 61, 62, 63, 64, 65, 66, 67, 68, 69, 70, 71, 72, 73, 74, 75, 76, 77, 78, 79, 80, 81, 82, 83, 84, 85, 86, 87, 88, 89, 90, 91, 92, 93, 94, 95, 96, 97, 98, 99, 100, 101, 102, 103, 104, 105, 106, 107, 108, 109, 110, 111, 112, 113, 114, 115, 116, 117, 118, 119, 120, 121, 122, 123, 124, 125, 126, 127, 128, 129, 130, 131, 132, 133, 134, 135, 136, 137, 138, 139, 140, 141, 142, 143, 144, 145, 146, 147, 148, 149, 150, 151, 152, 153, 154, 155, 156, 157, 158, 159, 160, 161, 162, 163, 164, 165, 166, 167, 168, 169, 170, 171, 172, 173, 174, 175, 176, 177, 178, 179, 180, 181, 182, 183, 184, 185, 186, 187, 188, 189, 190, 191, 192, 193, 194, 195, 196, 197, 198, 199, 200, 201, 202, 203, 204, 205, 206, 207, 208, 209, 210, 211, 212, 213, 214, 215, 216, 217, 218, 219, 220, 221, 222, 223, 224, 225, 226, 227, 228, 229, 230, 231, 232, 233, 234, 235, 236, 237, 238, 239, 240, 241, 242, 243, 244, 245, 246, 247, 248, 249, 250, 251, 252, 253, 254, 255, 256, 257, 258, 259, 260, 261, 262, 263, 264, 265, 266, 267, 268, 269, 270, 271, 272, 273, 274, 275, 276, 277, 278, 279, 280] 0 ?_
  (repeat' (first | (intro ex hex; have hq := hg1 (by omega) hex; subst hq; clear hex) | (intro ex hex; have hq := hg2 (by omega) hex; subst hq; clear hex) | (intro ex hex; have hq := hg3 (by omega) hex; subst hq; clear hex) | (intro ex hex; have hq := hg4 (by omega) hex; subst hq; clear hex) | (refine Ev.go ?_; conv => whnf) | refine And.intro ?_ ?_ | exact True.intro | exact rfl | (intro rx hrx; rw [IntWalk.i64_in _ (by omega)] at hrx) | (intro hcx; exfalso; omega) | intro _))
  all_goals (first | (refine ⟨?_⟩; exact vc) | exact cl | skip)
  refine TSq.callT rfl rfl (calleeK_const (And.intro rfl rfl) ?_)
  refine TF.ev fn_56 (Ev.at ?_)
  (repeat' (first | (intro ex hex; have hq := hg1 (by omega) hex; subst hq; clear hex) | (intro ex hex; have hq := hg2 (by omega) hex; subst hq; clear hex) | (intro ex hex; have hq := hg3 (by omega) hex; subst hq; clear hex) | (intro ex hex; have hq := hg4 (by omega) hex; subst hq; clear hex) | (refine Ev.go ?_; conv => whnf) | refine And.intro ?_ ?_ | exact True.intro | exact rfl | (intro rx hrx; rw [IntWalk.i64_in _ (by omega)] at hrx) | (intro hcx; exfalso; omega) | intro _))
  refine TSq.pureC (c57 _ _) cl rfl (And.intro rfl rfl) ?_
  (repeat' (first | (intro ex hex; have hq := hg1 (by omega) hex; subst hq; clear hex) | (intro ex hex; have hq := hg2 (by omega) hex; subst hq; clear hex) | (intro ex hex; have hq := hg3 (by omega) hex; subst hq; clear hex) | (intro ex hex; have hq := hg4 (by omega) hex; subst hq; clear hex) | (refine Ev.go ?_; conv => whnf) | refine And.intro ?_ ?_ | exact True.intro | exact rfl | (intro rx hrx; rw [IntWalk.i64_in _ (by omega)] at hrx) | (intro hcx; exfalso; omega) | intro _))
  refine TSq.pureC (c57 _ _) cl rfl (And.intro rfl rfl) ?_
  (repeat' (first | (intro ex hex; have hq := hg1 (by omega) hex; subst hq; clear hex) | (intro ex hex; have hq := hg2 (by omega) hex; subst hq; clear hex) | (intro ex hex; have hq := hg3 (by omega) hex; subst hq; clear hex) | (intro ex hex; have hq := hg4 (by omega) hex; subst hq; clear hex) | (refine Ev.go ?_; conv => whnf) | refine And.intro ?_ ?_ | exact True.intro | exact rfl | (intro rx hrx; rw [IntWalk.i64_in _ (by omega)] at hrx) | (intro hcx; exfalso; omega) | intro _))
  refine TSq.pureC (c57 _ _) cl rfl (And.intro rfl rfl) ?_
  (repeat' (first | (intro ex hex; have hq := hg1 (by omega) hex; subst hq; clear hex) | (intro ex hex; have hq := hg2 (by omega) hex; subst hq; clear hex) | (intro ex hex; have hq := hg3 (by omega) hex; subst hq; clear hex) | (intro ex hex; have hq := hg4 (by omega) hex; subst hq; clear hex) | (refine Ev.go ?_; conv => whnf) | refine And.intro ?_ ?_ | exact True.intro | exact rfl | (intro rx hrx; rw [IntWalk.i64_in _ (by omega)] at hrx) | (intro hcx; exfalso; omega) | intro _))
  all_goals (first | (refine ⟨?_⟩; exact vc) | exact cl | skip)
  dsimp only
  (repeat' (first | (intro ex hex; have hq := hg1 (by omega) hex; subst hq; clear hex) | (intro ex hex; have hq := hg2 (by omega) hex; subst hq; clear hex) | (intro ex hex; have hq := hg3 (by omega) hex; subst hq; clear hex) | (intro ex hex; have hq := hg4 (by omega) hex; subst hq; clear hex) | (refine Ev.go ?_; conv => whnf) | refine And.intro ?_ ?_ | exact True.intro | exact rfl | (intro rx hrx; rw [IntWalk.i64_in _ (by omega)] at hrx) | (intro hcx; exfalso; omega) | intro _))
  refine TSq.callT rfl rfl (calleeK_const (And.intro rfl rfl) ?_)
  refine TF.ev fn_56 (Ev.at ?_)
  (repeat' (first | (intro ex hex; have hq := hg1 (by omega) hex; subst hq; clear hex) | (intro ex hex; have hq := hg2 (by omega) hex; subst hq; clear hex) | (intro ex hex; have hq := hg3 (by omega) hex; subst hq; clear hex) | (intro ex hex; have hq := hg4 (by omega) hex; subst hq; clear hex) | (refine Ev.go ?_; conv => whnf) | refine And.intro ?_ ?_ | exact True.intro | exact rfl | (intro rx hrx; rw [IntWalk.i64_in _ (by omega)] at hrx) | (intro hcx; exfalso; omega) | intro _))
  refine TSq.pureC (c57 _ _) cl rfl (And.intro rfl rfl) ?_
  (repeat' (first | (intro ex hex; have hq := hg1 (by omega) hex; subst hq; clear hex) | (intro ex hex; have hq := hg2 (by omega) hex; subst hq; clear hex) | (intro ex hex; have hq := hg3 (by omega) hex; subst hq; clear hex) | (intro ex hex; have hq := hg4 (by omega) hex; subst hq; clear hex) | (refine Ev.go ?_; conv => whnf) | refine And.intro ?_ ?_ | exact True.intro | exact rfl | (intro rx hrx; rw [IntWalk.i64_in _ (by omega)] at hrx) | (intro hcx; exfalso; omega) | intro _))
  refine TSq.pureC (c57 _ _) cl rfl (And.intro rfl rfl) ?_
  (repeat' (first | (intro ex hex; have hq := hg1 (by omega) hex; subst hq; clear hex) | (intro ex hex; have hq := hg2 (by omega) hex; subst hq; clear hex) | (intro ex hex; have hq := hg3 (by omega) hex; subst hq; clear hex) | (intro ex hex; have hq := hg4 (by omega) hex; subst hq; clear hex) | (refine Ev.go ?_; conv => whnf) | refine And.intro ?_ ?_ | exact True.intro | exact rfl | (intro rx hrx; rw [IntWalk.i64_in _ (by omega)] at hrx) | (intro hcx; exfalso; omega) | intro _))
  refine TSq.pureC (c57 _ _) cl rfl (And.intro rfl rfl) ?_
  (repeat' (first | (intro ex hex; have hq := hg1 (by omega) hex; subst hq; clear hex) | (intro ex hex; have hq := hg2 (by omega) hex; subst hq; clear hex) | (intro ex hex; have hq := hg3 (by omega) hex; subst hq; clear hex) | (intro ex hex; have hq := hg4 (by omega) hex; subst hq; clear hex) | (refine Ev.go ?_; conv => whnf) | refine And.intro ?_ ?_ | exact True.intro | exact rfl | (intro rx hrx; rw [IntWalk.i64_in _ (by omega)] at hrx) | (intro hcx; exfalso; omega) | intro _))
  all_goals (first | (refine ⟨?_⟩; exact vc) | exact cl | skip)
  dsimp only
  (repeat' (first | (intro ex hex; have hq := hg1 (by omega) hex; subst hq; clear hex) | (intro ex hex; have hq := hg2 (by omega) hex; subst hq; clear hex) | (intro ex hex; have hq := hg3 (by omega) hex; subst hq; clear hex) | (intro ex hex; have hq := hg4 (by omega) hex; subst hq; clear hex) | (refine Ev.go ?_; conv => whnf) | refine And.intro ?_ ?_ | exact True.intro | exact rfl | (intro rx hrx; rw [IntWalk.i64_in _ (by omega)] at hrx) | (intro hcx; exfalso; omega) | intro _))
  refine TSq.callT rfl rfl (calleeK_const (And.intro rfl rfl) ?_)
  refine TF.ev fn_56 (Ev.at ?_)
  (repeat' (first | (intro ex hex; have hq := hg1 (by omega) hex; subst hq; clear hex) | (intro ex hex; have hq := hg2 (by omega) hex; subst hq; clear hex) | (intro ex hex; have hq := hg3 (by omega) hex; subst hq; clear hex) | (intro ex hex; have hq := hg4 (by omega) hex; subst hq; clear hex) | (refine Ev.go ?_; conv => whnf) | refine And.intro ?_ ?_ | exact True.intro | exact rfl | (intro rx hrx; rw [IntWalk.i64_in _ (by omega)] at hrx) | (intro hcx; exfalso; omega) | intro _))
  refine TSq.pureC (c57 _ _) cl rfl (And.intro rfl rfl) ?_
  (repeat' (first | (intro ex hex; have hq := hg1 (by omega) hex; subst hq; clear hex) | (intro ex hex; have hq := hg2 (by omega) hex; subst hq; clear hex) | (intro ex hex; have hq := hg3 (by omega) hex; subst hq; clear hex) | (intro ex hex; have hq := hg4 (by omega) hex; subst hq; clear hex) | (refine Ev.go ?_; conv => whnf) | refine And.intro ?_ ?_ | exact True.intro | exact rfl | (intro rx hrx; rw [IntWalk.i64_in _ (by omega)] at hrx) | (intro hcx; exfalso; omega) | intro _))
  refine TSq.pureC (c57 _ _) cl rfl (And.intro rfl rfl) ?_
  (repeat' (first | (intro ex hex; have hq := hg1 (by omega) hex; subst hq; clear hex) | (intro ex hex; have hq := hg2 (by omega) hex; subst hq; clear hex) | (intro ex hex; have hq := hg3 (by omega) hex; subst hq; clear hex) | (intro ex hex; have hq := hg4 (by omega) hex; subst hq; clear hex) | (refine Ev.go ?_; conv => whnf) | refine And.intro ?_ ?_ | exact True.intro | exact rfl | (intro rx hrx; rw [IntWalk.i64_in _ (by omega)] at hrx) | (intro hcx; exfalso; omega) | intro _))
  refine TSq.pureC (c57 _ _) cl rfl (And.intro rfl rfl) ?_
  (repeat' (first | (intro ex hex; have hq := hg1 (by omega) hex; subst hq; clear hex) | (intro ex hex; have hq := hg2 (by omega) hex; subst hq; clear hex) | (intro ex hex; have hq := hg3 (by omega) hex; subst hq; clear hex) | (intro ex hex; have hq := hg4 (by omega) hex; subst hq; clear hex) | (refine Ev.go ?_; conv => whnf) | refine And.intro ?_ ?_ | exact True.intro | exact rfl | (intro rx hrx; rw [IntWalk.i64_in _ (by omega)] at hrx) | (intro hcx; exfalso; omega) | intro _))
  all_goals (first | (refine ⟨?_⟩; exact vc) | exact cl | skip)
  dsimp only
  (repeat' (first | (intro ex hex; have hq := hg1 (by omega) hex; subst hq; clear hex) | (intro ex hex; have hq := hg2 (by omega) hex; subst hq; clear hex) | (intro ex hex; have hq := hg3 (by omega) hex; subst hq; clear hex) | (intro ex hex; have hq := hg4 (by omega) hex; subst hq; clear hex) | (refine Ev.go ?_; conv => whnf) | refine And.intro ?_ ?_ | exact True.intro | exact rfl | (intro rx hrx; rw [IntWalk.i64_in _ (by omega)] at hrx) | (intro hcx; exfalso; omega) | intro _))
  refine TSq.pureC b5 cl rfl (And.intro rfl rfl) ?_
  (repeat' (first | (intro ex hex; have hq := hg1 (by omega) hex; subst hq; clear hex) | (intro ex hex; have hq := hg2 (by omega) hex; subst hq; clear hex) | (intro ex hex; have hq := hg3 (by omega) hex; subst hq; clear hex) | (intro ex hex; have hq := hg4 (by omega) hex; subst hq; clear hex) | (refine Ev.go ?_; conv => whnf) | refine And.intro ?_ ?_ | exact True.intro | exact rfl | (intro rx hrx; rw [IntWalk.i64_in _ (by omega)] at hrx) | (intro hcx; exfalso; omega) | intro _))
  refine TSq.pureC b5 cl rfl (And.intro rfl rfl) ?_
  (repeat' (first | (intro ex hex; have hq := hg1 (by omega) hex; subst hq; clear hex) | (intro ex hex; have hq := hg2 (by omega) hex; subst hq; clear hex) | (intro ex hex; have hq := hg3 (by omega) hex; subst hq; clear hex) | (intro ex hex; have hq := hg4 (by omega) hex; subst hq; clear hex) | (refine Ev.go ?_; conv => whnf) | refine And.intro ?_ ?_ | exact True.intro | exact rfl | (intro rx hrx; rw [IntWalk.i64_in _ (by omega)] at hrx) | (intro hcx; exfalso; omega) | intro _))
  refine TSq.pureC b5 cl rfl (And.intro rfl rfl) ?_
  (repeat' (first | (intro ex hex; have hq := hg1 (by omega) hex; subst hq; clear hex) | (intro ex hex; have hq := hg2 (by omega) hex; subst hq; clear hex) | (intro ex hex; have hq := hg3 (by omega) hex; subst hq; clear hex) | (intro ex hex; have hq := hg4 (by omega) hex; subst hq; clear hex) | (refine Ev.go ?_; conv => whnf) | refine And.intro ?_ ?_ | exact True.intro | exact rfl | (intro rx hrx; rw [IntWalk.i64_in _ (by omega)] at hrx) | (intro hcx; exfalso; omega) | intro _))
  refine TSq.pureC b5 cl rfl (And.intro rfl rfl) ?_
  (repeat' (first | (intro ex hex; have hq := hg1 (by omega) hex; subst hq; clear hex) | (intro ex hex; have hq := hg2 (by omega) hex; subst hq; clear hex) | (intro ex hex; have hq := hg3 (by omega) hex; subst hq; clear hex) | (intro ex hex; have hq := hg4 (by omega) hex; subst hq; clear hex) | (refine Ev.go ?_; conv => whnf) | refine And.intro ?_ ?_ | exact True.intro | exact rfl | (intro rx hrx; rw [IntWalk.i64_in _ (by omega)] at hrx) | (intro hcx; exfalso; omega) | intro _))
  all_goals (first | (refine ⟨?_⟩; exact vc) | exact cl | skip)
  all_goals (try (refine ⟨?_⟩; simp [chunks, catS, repl]; done))
  refine TSq.pureC (c57 0 31) cl rfl (And.intro rfl rfl) ?_
  (repeat' (first | (intro ex hex; have hq := hg1 (by omega) hex; subst hq; clear hex) | (intro ex hex; have hq := hg2 (by omega) hex; subst hq; clear hex) | (intro ex hex; have hq := hg3 (by omega) hex; subst hq; clear hex) | (intro ex hex; have hq := hg4 (by omega) hex; subst hq; clear hex) | (refine Ev.go ?_; conv => whnf) | refine And.intro ?_ ?_ | exact True.intro | exact rfl | (intro rx hrx; rw [IntWalk.i64_in _ (by omega)] at hrx) | (intro hcx; exfalso; omega) | intro _))
  all_goals (first | (refine ⟨?_⟩; exact vc) | exact cl | skip)
  all_goals (try (exfalso; omega))
  refine TSq.lendC f1 (by simp [scal]) rfl (And.intro rfl ?_) ?_
  (repeat' (first | (intro ex hex; have hq := hg1 (by omega) hex; subst hq; clear hex) | (intro ex hex; have hq := hg2 (by omega) hex; subst hq; clear hex) | (intro ex hex; have hq := hg3 (by omega) hex; subst hq; clear hex) | (intro ex hex; have hq := hg4 (by omega) hex; subst hq; clear hex) | (refine Ev.go ?_; conv => whnf) | refine And.intro ?_ ?_ | exact True.intro | exact rfl | (intro rx hrx; rw [IntWalk.i64_in _ (by omega)] at hrx) | (intro hcx; exfalso; omega) | intro _))
  all_goals (first | (refine ⟨?_⟩; exact vc) | exact cl | skip)
  all_goals (try (refine ⟨?_⟩; simp [chunks, catS, repl, cloL, clo]; done))
  all_goals (try (exfalso; omega))
  refine TSq.lendC f2 (by simp [scal]) rfl (And.intro rfl ?_) ?_
  (repeat' (first | (intro ex hex; have hq := hg1 (by omega) hex; subst hq; clear hex) | (intro ex hex; have hq := hg2 (by omega) hex; subst hq; clear hex) | (intro ex hex; have hq := hg3 (by omega) hex; subst hq; clear hex) | (intro ex hex; have hq := hg4 (by omega) hex; subst hq; clear hex) | (refine Ev.go ?_; conv => whnf) | refine And.intro ?_ ?_ | exact True.intro | exact rfl | (intro rx hrx; rw [IntWalk.i64_in _ (by omega)] at hrx) | (intro hcx; exfalso; omega) | intro _))
  all_goals (first | (refine ⟨?_⟩; exact vc) | exact cl | skip)
  all_goals (try (refine ⟨?_⟩; simp [chunks, catS, repl, cloL, clo]; done))
  all_goals (try (exfalso; omega))
  refine TSq.lendC f3 (by simp [scal]) rfl (And.intro rfl ?_) ?_
  (repeat' (first | (intro ex hex; have hq := hg1 (by omega) hex; subst hq; clear hex) | (intro ex hex; have hq := hg2 (by omega) hex; subst hq; clear hex) | (intro ex hex; have hq := hg3 (by omega) hex; subst hq; clear hex) | (intro ex hex; have hq := hg4 (by omega) hex; subst hq; clear hex) | (refine Ev.go ?_; conv => whnf) | refine And.intro ?_ ?_ | exact True.intro | exact rfl | (intro rx hrx; rw [IntWalk.i64_in _ (by omega)] at hrx) | (intro hcx; exfalso; omega) | intro _))
  all_goals (first | (refine ⟨?_⟩; exact vc) | exact cl | skip)
  all_goals (try (refine ⟨?_⟩; simp [chunks, catS, repl, cloL, clo]; done))
  all_goals (try (exfalso; omega))
  refine TSq.pureC f4 cl rfl (And.intro rfl rfl) ?_
  (repeat' (first | (intro ex hex; have hq := hg1 (by omega) hex; subst hq; clear hex) | (intro ex hex; have hq := hg2 (by omega) hex; subst hq; clear hex) | (intro ex hex; have hq := hg3 (by omega) hex; subst hq; clear hex) | (intro ex hex; have hq := hg4 (by omega) hex; subst hq; clear hex) | (refine Ev.go ?_; conv => whnf) | refine And.intro ?_ ?_ | exact True.intro | exact rfl | (intro rx hrx; rw [IntWalk.i64_in _ (by omega)] at hrx) | (intro hcx; exfalso; omega) | intro _))
  all_goals (try (exfalso; omega))
  refine TSq.pureC f5 cl rfl (And.intro rfl rfl) ?_
  (repeat' (first | (intro ex hex; have hq := hg1 (by omega) hex; subst hq; clear hex) | (intro ex hex; have hq := hg2 (by omega) hex; subst hq; clear hex) | (intro ex hex; have hq := hg3 (by omega) hex; subst hq; clear hex) | (intro ex hex; have hq := hg4 (by omega) hex; subst hq; clear hex) | (refine Ev.go ?_; conv => whnf) | refine And.intro ?_ ?_ | exact True.intro | exact rfl | (intro rx hrx; rw [IntWalk.i64_in _ (by omega)] at hrx) | (intro hcx; exfalso; omega) | intro _))
  all_goals (try (exfalso; omega))
  refine TSq.lendC f6 (by simp [scal]) rfl (And.intro rfl ?_) ?_
  (repeat' (first | (intro ex hex; have hq := hg1 (by omega) hex; subst hq; clear hex) | (intro ex hex; have hq := hg2 (by omega) hex; subst hq; clear hex) | (intro ex hex; have hq := hg3 (by omega) hex; subst hq; clear hex) | (intro ex hex; have hq := hg4 (by omega) hex; subst hq; clear hex) | (refine Ev.go ?_; conv => whnf) | refine And.intro ?_ ?_ | exact True.intro | exact rfl | (intro rx hrx; rw [IntWalk.i64_in _ (by omega)] at hrx) | (intro hcx; exfalso; omega) | intro _))
  all_goals (first | (refine ⟨?_⟩; exact vc) | exact cl | skip)
  all_goals (try (refine ⟨?_⟩; simp [chunks, catS, repl, cloL, clo]; done))
  all_goals (try (exfalso; omega))
  refine TSq.pureC f7' cl rfl (And.intro rfl rfl) ?_
  (repeat' (first | (intro ex hex; have hq := hg1 (by omega) hex; subst hq; clear hex) | (intro ex hex; have hq := hg2 (by omega) hex; subst hq; clear hex) | (intro ex hex; have hq := hg3 (by omega) hex; subst hq; clear hex) | (intro ex hex; have hq := hg4 (by omega) hex; subst hq; clear hex) | (refine Ev.go ?_; conv => whnf) | refine And.intro ?_ ?_ | exact True.intro | exact rfl | (intro rx hrx; rw [IntWalk.i64_in _ (by omega)] at hrx) | (intro hcx; exfalso; omega) | intro _))
  all_goals (try (exfalso; omega))
  refine TSq.pureC c19 cl rfl (And.intro rfl rfl) ?_
  (repeat' (first | (intro ex hex; have hq := hg1 (by omega) hex; subst hq; clear hex) | (intro ex hex; have hq := hg2 (by omega) hex; subst hq; clear hex) | (intro ex hex; have hq := hg3 (by omega) hex; subst hq; clear hex) | (intro ex hex; have hq := hg4 (by omega) hex; subst hq; clear hex) | (refine Ev.go ?_; conv => whnf) | refine And.intro ?_ ?_ | exact True.intro | exact rfl | (intro rx hrx; rw [IntWalk.i64_in _ (by omega)] at hrx) | (intro hcx; exfalso; omega) | intro _))
  trace_state
  try rfl
end Go.Proofs.Ythnaamkempmjkaa
