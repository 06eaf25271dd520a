/- CallWider, the walk of the statement. -/
import Derived.Test.YthnaamkempmjkaaKy
import Derived.Test.YthnaamkempmjkaaNd
import Derived.Test.YthnaamkempmjkaaKfL13
set_option linter.unusedSimpArgs false
set_option linter.unusedVariables false
open Go Go.TV
namespace Go.Proofs.Ythnaamkempmjkaa

theorem sumL_cons (a : Int) (l : List Int) : sumL (a :: l) = a + sumL l := by
  have h : ∀ (l : List Int) (a b : Int), l.foldl (· + ·) (a + b) = a + l.foldl (· + ·) b := by
    intro l
    induction l with
    | nil => intro a b; rfl
    | cons x l ih => intro a b; simp only [List.foldl_cons, Int.add_assoc, ih]
  have := h l a 0
  simp only [Int.add_zero] at this
  simp only [sumL, List.foldl_cons, Int.zero_add]
  exact this
theorem sumL_set : ∀ {l : List Int} {j : Nat} {x v : Int}, l[j]? = some x → sumL (l.set j v) = sumL l - x + v
  | [], _, _, _, h => by simp at h
  | a :: l, 0, x, v, h => by
    simp only [List.getElem?_cons_zero, Option.some.injEq] at h
    subst h
    simp only [List.set_cons_zero, sumL_cons]; omega
  | a :: l, j + 1, x, v, h => by
    simp only [List.getElem?_cons_succ] at h
    simp only [List.set_cons_succ, sumL_cons, sumL_set h]; omega
theorem quo_bd {x r n : Int} (h : r = IntKind.i64.wrap (x.tdiv n)) (hx : 0 ≤ x ∧ x ≤ 255) (hn : 0 < n) : 0 ≤ r ∧ r ≤ x := by
  have h1 := Int.ediv_nonneg (a := x) (b := n) hx.1 (by omega)
  have h2 := Int.ediv_le_self n hx.1
  rw [h, Int.tdiv_eq_ediv_of_nonneg hx.1, IntWalk.i64_in _ (by omega)]; omega
/-- A society with wider ranges. -/
structure Wider (s x : Soc) : Prop where
  ms : x.members = s.members
  rs : x.reserve = s.reserve
  lo : sumL (los x.losses) ≤ sumL (los s.losses)
  hi : sumL (his s.losses) ≤ sumL (his x.losses)
  tlo : x.treaty.lo ≤ s.treaty.lo
  thi : s.treaty.hi ≤ x.treaty.hi
theorem Wider.needs {s x : Soc} (h : Wider s x) : (needsOf x).lo ≤ (needsOf s).lo ∧ (needsOf s).hi ≤ (needsOf x).hi := by
  obtain ⟨_, h2, h3, h4, h5, h6⟩ := h
  simp only [needsOf, needOf]
  omega
theorem bnd_wider {g : Int → Int} {r r' : Rng} (h0 : r.lo ≤ r.hi) (h1 : r'.lo ≤ r.lo) (h2 : r.hi ≤ r'.hi) : (bndF g (every r')).lo ≤ (bndF g (every r)).lo ∧ (bndF g (every r)).hi ≤ (bndF g (every r')).hi := by
  obtain ⟨⟨a, ha, ea⟩, ⟨b, hb, eb⟩, _⟩ := bndF_is g (every r) (every_ne h0)
  obtain ⟨_, _, h3⟩ := bndF_is g (every r') (every_ne (by omega))
  rw [every_mem] at ha hb
  have := h3 a (every_mem.2 (by omega))
  have := h3 b (every_mem.2 (by omega))
  omega
theorem Wider.short {s x : Soc} (h : Wider s x) (h0 : fault s = 0) : (shortOf x []).lo ≤ (shortOf s []).lo ∧ (shortOf s []).hi ≤ (shortOf x []).hi := by
  have hn := h.needs
  have e : (fun n => (callsOf x [] n).2) = fun n => (callsOf s [] n).2 := by funext n; simp only [callsOf, h.ms]
  unfold shortOf
  rw [e]
  exact bnd_wider (needs_le h0).1.2 hn.1 hn.2
theorem Wider.bounds {s x : Soc} (h : Wider s x) (h0 : fault s = 0) (hx : fault x = 0) {k : Nat} (hk : k < s.members.length) : ∃ r r', (boundsOf s [])[k]? = some r ∧ (boundsOf x [])[k]? = some r' ∧ r'.lo ≤ r.lo ∧ r.hi ≤ r'.hi := by
  have hn := h.needs
  rw [boundsOf_eq h0, boundsOf_eq hx, h.ms]
  refine ⟨_, _, by simp only [List.getElem?_map, List.getElem?_range hk]; rfl, by simp only [List.getElem?_map, List.getElem?_range hk]; rfl, ?_⟩
  exact bnd_wider (needs_le h0).1.2 hn.1 hn.2

set_option maxHeartbeats 8000000 in
set_option maxRecDepth 100000 in
theorem c13 (s : Soc) (which by_ : Int) (hw : 0 ≤ which ∧ which ≤ 255) (hb : 0 ≤ by_ ∧ by_ ≤ 255) : PF Try.prog 13 [encSoc s, .int .u8 which, .int .u8 by_] (· = .bool true) := by
  refine PF.of (TF.ev fn_13 (Ev.at ?_))
  (repeat' (first | (refine Ev.go ?_; conv => whnf) | refine And.intro ?_ ?_ | exact True.intro | exact rfl | (intro rx hrx; rw [IntWalk.i64_in _ (by omega)] at hrx) | (intro hcx; exfalso; omega) | (intro hcx; exfalso; simp only [lz] at hcx; omega) | intro _))
  refine TSq.pureBC (c27 s) cl rfl (And.intro rfl rfl) ?_ ?_
  · intro hr
    have h0 : fault s = 0 := by simpa [ready] using hr
    have hl := fault_len h0
    have hz := encYs_len s.members
    have hw' := encRs_len s.losses
    have hll : ((chunks 2 0 (repl 0 [SV.int .i64 0, SV.int .i64 0])) ++ encRs s.losses).length = s.losses.length := by rw [show chunks 2 0 (repl 0 [SV.int .i64 0, SV.int .i64 0]) = [] from rfl, List.nil_append, encRs_len]
    have hT := (fault_ok h0).2.2.1
    have hres1 : ∀ {x r : Int}, r = x.tmod 4 → 0 ≤ x → 0 ≤ r ∧ r < 4 := fun h hx => rem_bd h hx (by omega)
    have hres3 : ∀ {x r : Int}, r = IntKind.i64.wrap (x.tdiv 4) → 0 ≤ x ∧ x ≤ 255 → 0 ≤ r ∧ r ≤ x := fun h hx => quo_bd h hx (by omega)
    have hres4 : ∀ {x r : Int}, r = IntKind.i64.wrap (x.tdiv 16) → 0 ≤ x ∧ x ≤ 255 → 0 ≤ r ∧ r ≤ x := fun h hx => quo_bd h hx (by omega)
    have hres5 : ∀ {x r : Int}, r = IntKind.i64.wrap (x.tdiv 64) → 0 ≤ x ∧ x ≤ 255 → 0 ≤ r ∧ r ≤ x := fun h hx => quo_bd h hx (by omega)
    obtain ⟨G, hG⟩ : ∃ G : Nat → Rng, ∀ n r, s.losses[n]? = some r → G n = r := ⟨fun n => s.losses.getD n ⟨0, 0⟩, fun n r h => by simp [List.getD_eq_getElem?_getD, h]⟩
    have hGb : ∀ n, n < s.losses.length → 0 ≤ (G n).lo ∧ (G n).lo ≤ (G n).hi ∧ (G n).hi ≤ 100000 := fun n hn => by
      have hm : s.losses[n]? = some s.losses[n] := List.getElem?_eq_getElem hn
      rw [hG n _ hm]; have := (fault_ok h0).2.1 _ (List.mem_of_getElem? hm); omega
    have hres2 : ∀ {x r : Int}, r = x.tmod (((chunks 2 0 (repl 0 [SV.int .i64 0, SV.int .i64 0])) ++ encRs s.losses).length : Int) → 0 ≤ x ∧ 0 < s.losses.length → (0 ≤ r ∧ r < s.losses.length) ∧ 0 ≤ (G r.toNat).lo ∧ (G r.toNat).lo ≤ (G r.toNat).hi ∧ (G r.toNat).hi ≤ 100000 := fun h hx => by
      rw [hll] at h
      have := rem_bd h hx.1 (by omega)
      exact ⟨this, hGb _ (by omega)⟩
    have hgf1 : ∀ {n : Nat} {e : SV}, (chunks 2 0 (repl 0 [SV.int .i64 0, SV.int .i64 0]) ++ encRs s.losses)[n]? = some e → e = encR (G n) := fun h => by
      obtain ⟨m, hm, rfl⟩ := encRs_at h; rw [hG _ _ hm]
    have hgf2 : ∀ {n : Nat} {a c : Int} {e : SV}, ((chunks 2 0 (repl 0 [SV.int .i64 0, SV.int .i64 0]) ++ encRs s.losses).set n (.agg [.int .i64 a, .int .i64 c]))[n]? = some e → e = .agg [.int .i64 a, .int .i64 c] := fun {n a c e} h => by
      rw [List.getElem?_set_self' ] at h
      cases hm : (chunks 2 0 (repl 0 [SV.int .i64 0, SV.int .i64 0]) ++ encRs s.losses)[n]? with
      | none => rw [hm] at h; simp at h
      | some y => rw [hm] at h; simp at h; exact h.symm
    (repeat' (first | (intro ex hex; have hq := hgf1 hex; subst hq; clear hex) | (intro ex hex; have hq := hgf2 hex; subst hq; clear hex) | (intro rx hrx; have hq := hres1 hrx (by omega); clear hrx) | (intro rx hrx; have hq := hres2 hrx (by omega); clear hrx) | (intro rx hrx; have hq := hres3 hrx (by omega); clear hrx) | (intro rx hrx; have hq := hres4 hrx (by omega); clear hrx) | (intro rx hrx; have hq := hres5 hrx (by omega); clear hrx) | (intro ex hex; have hq := hg1 (by omega) hex; subst hq; clear hex) | (intro ex hex; have hq := hg2 (by omega) hex; subst hq; clear hex) | (refine Ev.go ?_; conv => whnf) | refine And.intro ?_ ?_ | exact True.intro | exact rfl | (intro rx hrx; rw [IntWalk.i64_in _ (by omega)] at hrx) | (intro hcx; exfalso; omega) | intro _))
    all_goals (first | (refine ⟨?_⟩; exact vc) | exact cl | skip)
    · rename_i J hJ _ _ _ _ _ _ lo hlo _ _ _ _ _ _ _ _ hi hhi _ _ _ _ _ _ _ _ tl htl _ _ _ th hth
      obtain ⟨j, hj⟩ : ∃ j : Nat, J = j := ⟨J.toNat, by omega⟩
      subst hj
      have hjl : j < s.losses.length := by omega
      have hm : s.losses[j]? = some (s.losses[j]) := List.getElem?_eq_getElem hjl
      have hGj := hG j _ hm
      simp only [Int.toNat_natCast] at *
      have hd : ∃ X : Soc, X = ⟨s.members, s.losses.set j ⟨lo, hi⟩, ⟨tl, th⟩, s.reserve⟩ ∧ Wider s X := by
        refine ⟨_, rfl, ⟨rfl, rfl, ?_, ?_, by dsimp only; omega, by dsimp only; omega⟩⟩
        · simp only [los, List.map_set]
          rw [sumL_set (x := (G j).lo) (by rw [List.getElem?_map, hm, hGj]; rfl)]; omega
        · simp only [his, List.map_set]
          rw [sumL_set (x := (G j).hi) (by rw [List.getElem?_map, hm, hGj]; rfl)]; omega
      obtain ⟨X, hX, hW⟩ := hd
      have harr : ((chunks 2 0 (repl 0 [SV.int .i64 0, SV.int .i64 0]) ++ encRs s.losses).set j (.agg [.int .i64 lo, .int .i64 (G j).hi])).set j (.agg [.int .i64 lo, .int .i64 hi]) = encRs X.losses := by
        rw [hX, List.set_set]
        show (encRs s.losses).set j _ = encRs (s.losses.set j ⟨lo, hi⟩)
        simp only [encRs, List.map_set]; rfl
      rw [harr]
      have eX : encSoc X = .agg [.sl 3 (encYs s.members), .sl 2 (encRs X.losses), .int .i64 tl, .int .i64 th, .int .i64 s.reserve] := by rw [hX]; rfl
      have hXl : X.members.length = s.members.length ∧ X.losses.length = s.losses.length := by rw [hX]; simp
      have c23X := c23 X
      have b1 := c21 s (by omega) (by omega)
      have b2 := c21 X (by omega) (by omega)
      have d1 := c29 s (by omega) (by omega)
      have d2 := c29 X (by omega) (by omega)
      have d3 := c42 s (by omega) (by omega)
      have d4 := c42 X (by omega) (by omega)
      rw [eX] at c23X b2 d2 d4
      have hXcl := encRs_clo X.losses
      refine TSq.cut [0, 1, 2, 8, 9, 10, 11, 12, 13, 14, 15, 16, 17, 18, 19, 20, 21, 22, 23, 24, 25, 26, 27, 28, 29, 30, 31, 32, 33, 34, 35, 36, 37, 38, 39, 40, 41, 42, 43, 44, 45, 46, 47, 48, 49, 50, 51, 52, 53, 54, 55, 56, 57, 58, 59, 60, 61, 62, 63, 64, 65, 66, 67, 68, 69, 70, 71, 72, 73, 74, 75, 76, 77, 78, 79, 80, 81, 82, 83, 84, 85, 86] 20 ?_
      (repeat' (first | (intro ex hex; have hq := hgf1 hex; subst hq; clear hex) | (intro ex hex; have hq := hgf2 hex; subst hq; clear hex) | (intro rx hrx; have hq := hres1 hrx (by omega); clear hrx) | (intro rx hrx; have hq := hres2 hrx (by omega); clear hrx) | (intro rx hrx; have hq := hres3 hrx (by omega); clear hrx) | (intro rx hrx; have hq := hres4 hrx (by omega); clear hrx) | (intro rx hrx; have hq := hres5 hrx (by omega); clear hrx) | (intro ex hex; have hq := hg1 (by omega) hex; subst hq; clear hex) | (intro ex hex; have hq := hg2 (by omega) hex; subst hq; clear hex) | (refine Ev.go ?_; conv => whnf) | refine And.intro ?_ ?_ | exact True.intro | exact rfl | (intro rx hrx; rw [IntWalk.i64_in _ (by omega)] at hrx) | (intro hcx; exfalso; omega) | intro _))
      all_goals (first | (refine ⟨?_⟩; exact vc) | exact cl | skip)
      refine TSq.pubD 3 ?_
      (repeat' (first | (intro ex hex; have hq := hgf1 hex; subst hq; clear hex) | (intro ex hex; have hq := hgf2 hex; subst hq; clear hex) | (intro rx hrx; have hq := hres1 hrx (by omega); clear hrx) | (intro rx hrx; have hq := hres2 hrx (by omega); clear hrx) | (intro rx hrx; have hq := hres3 hrx (by omega); clear hrx) | (intro rx hrx; have hq := hres4 hrx (by omega); clear hrx) | (intro rx hrx; have hq := hres5 hrx (by omega); clear hrx) | (intro ex hex; have hq := hg1 (by omega) hex; subst hq; clear hex) | (intro ex hex; have hq := hg2 (by omega) hex; subst hq; clear hex) | (refine Ev.go ?_; conv => whnf) | refine And.intro ?_ ?_ | exact True.intro | exact rfl | (intro rx hrx; rw [IntWalk.i64_in _ (by omega)] at hrx) | (intro hcx; exfalso; omega) | intro _))
      all_goals (first | (refine ⟨?_⟩; exact vc) | exact cl | skip)
      all_goals (try exact ⟨hXcl⟩)
      by_cases hfX : fault X = 0
      · have hsh := hW.short h0
        have hbo := fun k (hk : k < s.members.length) => hW.bounds h0 hfX hk
        have hbl1 := boundsOf_len (out := []) h0
        have hbl2 := boundsOf_len (out := []) hfX
        rw [hXl.1] at hbl2
        have hb1 := encRs_len (boundsOf s [])
        have hb2 := encRs_len (boundsOf X [])
        rw [hfX] at c23X
        simp only [withoutR, if_neg (show ¬ fault s ≠ 0 by simpa using h0), if_neg (show ¬ fault X ≠ 0 by simpa using hfX), if_pos (listed_nil s), if_pos (listed_nil X)] at d1 d2
        simp only [shortR, if_neg (show ¬ fault s ≠ 0 by simpa using h0), if_neg (show ¬ fault X ≠ 0 by simpa using hfX)] at d3 d4
        generalize boundsOf s [] = A at *
        generalize boundsOf X [] = B at *
        generalize shortOf s [] = C at *
        generalize shortOf X [] = D at *
        refine TSq.pureC c23X (by simp [cloL, clo, encYs_clo, encRs_clo]) rfl (And.intro rfl rfl) ?_
        (repeat' (first | (intro ex hex; have hq := hgf1 hex; subst hq; clear hex) | (intro ex hex; have hq := hgf2 hex; subst hq; clear hex) | (intro rx hrx; have hq := hres1 hrx (by omega); clear hrx) | (intro rx hrx; have hq := hres2 hrx (by omega); clear hrx) | (intro rx hrx; have hq := hres3 hrx (by omega); clear hrx) | (intro rx hrx; have hq := hres4 hrx (by omega); clear hrx) | (intro rx hrx; have hq := hres5 hrx (by omega); clear hrx) | (intro ex hex; have hq := hg1 (by omega) hex; subst hq; clear hex) | (intro ex hex; have hq := hg2 (by omega) hex; subst hq; clear hex) | (refine Ev.go ?_; conv => whnf) | refine And.intro ?_ ?_ | exact True.intro | exact rfl | (intro rx hrx; rw [IntWalk.i64_in _ (by omega)] at hrx) | (intro hcx; exfalso; omega) | intro _))
        refine TSq.pureC b1 cl rfl (And.intro rfl rfl) ?_
        (repeat' (first | (intro ex hex; have hq := hgf1 hex; subst hq; clear hex) | (intro ex hex; have hq := hgf2 hex; subst hq; clear hex) | (intro rx hrx; have hq := hres1 hrx (by omega); clear hrx) | (intro rx hrx; have hq := hres2 hrx (by omega); clear hrx) | (intro rx hrx; have hq := hres3 hrx (by omega); clear hrx) | (intro rx hrx; have hq := hres4 hrx (by omega); clear hrx) | (intro rx hrx; have hq := hres5 hrx (by omega); clear hrx) | (intro ex hex; have hq := hg1 (by omega) hex; subst hq; clear hex) | (intro ex hex; have hq := hg2 (by omega) hex; subst hq; clear hex) | (refine Ev.go ?_; conv => whnf) | refine And.intro ?_ ?_ | exact True.intro | exact rfl | (intro rx hrx; rw [IntWalk.i64_in _ (by omega)] at hrx) | (intro hcx; exfalso; omega) | intro _))
        refine TSq.pureC d1 cl rfl (And.intro rfl rfl) ?_
        (repeat' (first | (intro ex hex; have hq := hgf1 hex; subst hq; clear hex) | (intro ex hex; have hq := hgf2 hex; subst hq; clear hex) | (intro rx hrx; have hq := hres1 hrx (by omega); clear hrx) | (intro rx hrx; have hq := hres2 hrx (by omega); clear hrx) | (intro rx hrx; have hq := hres3 hrx (by omega); clear hrx) | (intro rx hrx; have hq := hres4 hrx (by omega); clear hrx) | (intro rx hrx; have hq := hres5 hrx (by omega); clear hrx) | (intro ex hex; have hq := hg1 (by omega) hex; subst hq; clear hex) | (intro ex hex; have hq := hg2 (by omega) hex; subst hq; clear hex) | (refine Ev.go ?_; conv => whnf) | refine And.intro ?_ ?_ | exact True.intro | exact rfl | (intro rx hrx; rw [IntWalk.i64_in _ (by omega)] at hrx) | (intro hcx; exfalso; omega) | intro _))
        refine TSq.pureC b2 (by simp [cloL, clo, encYs_clo, encRs_clo]) rfl (And.intro rfl rfl) ?_
        (repeat' (first | (intro ex hex; have hq := hgf1 hex; subst hq; clear hex) | (intro ex hex; have hq := hgf2 hex; subst hq; clear hex) | (intro rx hrx; have hq := hres1 hrx (by omega); clear hrx) | (intro rx hrx; have hq := hres2 hrx (by omega); clear hrx) | (intro rx hrx; have hq := hres3 hrx (by omega); clear hrx) | (intro rx hrx; have hq := hres4 hrx (by omega); clear hrx) | (intro rx hrx; have hq := hres5 hrx (by omega); clear hrx) | (intro ex hex; have hq := hg1 (by omega) hex; subst hq; clear hex) | (intro ex hex; have hq := hg2 (by omega) hex; subst hq; clear hex) | (refine Ev.go ?_; conv => whnf) | refine And.intro ?_ ?_ | exact True.intro | exact rfl | (intro rx hrx; rw [IntWalk.i64_in _ (by omega)] at hrx) | (intro hcx; exfalso; omega) | intro _))
        refine TSq.pureC d2 (by simp [cloL, clo, encYs_clo, encRs_clo]) rfl (And.intro rfl rfl) ?_
        (repeat' (first | (intro ex hex; have hq := hgf1 hex; subst hq; clear hex) | (intro ex hex; have hq := hgf2 hex; subst hq; clear hex) | (intro rx hrx; have hq := hres1 hrx (by omega); clear hrx) | (intro rx hrx; have hq := hres2 hrx (by omega); clear hrx) | (intro rx hrx; have hq := hres3 hrx (by omega); clear hrx) | (intro rx hrx; have hq := hres4 hrx (by omega); clear hrx) | (intro rx hrx; have hq := hres5 hrx (by omega); clear hrx) | (intro ex hex; have hq := hg1 (by omega) hex; subst hq; clear hex) | (intro ex hex; have hq := hg2 (by omega) hex; subst hq; clear hex) | (refine Ev.go ?_; conv => whnf) | refine And.intro ?_ ?_ | exact True.intro | exact rfl | (intro rx hrx; rw [IntWalk.i64_in _ (by omega)] at hrx) | (intro hcx; exfalso; omega) | intro _))
        refine TSq.pureC b1 cl rfl (And.intro rfl rfl) ?_
        (repeat' (first | (intro ex hex; have hq := hgf1 hex; subst hq; clear hex) | (intro ex hex; have hq := hgf2 hex; subst hq; clear hex) | (intro rx hrx; have hq := hres1 hrx (by omega); clear hrx) | (intro rx hrx; have hq := hres2 hrx (by omega); clear hrx) | (intro rx hrx; have hq := hres3 hrx (by omega); clear hrx) | (intro rx hrx; have hq := hres4 hrx (by omega); clear hrx) | (intro rx hrx; have hq := hres5 hrx (by omega); clear hrx) | (intro ex hex; have hq := hg1 (by omega) hex; subst hq; clear hex) | (intro ex hex; have hq := hg2 (by omega) hex; subst hq; clear hex) | (refine Ev.go ?_; conv => whnf) | refine And.intro ?_ ?_ | exact True.intro | exact rfl | (intro rx hrx; rw [IntWalk.i64_in _ (by omega)] at hrx) | (intro hcx; exfalso; omega) | intro _))
        refine TSq.pureC d3 cl rfl (And.intro rfl rfl) ?_
        (repeat' (first | (intro ex hex; have hq := hgf1 hex; subst hq; clear hex) | (intro ex hex; have hq := hgf2 hex; subst hq; clear hex) | (intro rx hrx; have hq := hres1 hrx (by omega); clear hrx) | (intro rx hrx; have hq := hres2 hrx (by omega); clear hrx) | (intro rx hrx; have hq := hres3 hrx (by omega); clear hrx) | (intro rx hrx; have hq := hres4 hrx (by omega); clear hrx) | (intro rx hrx; have hq := hres5 hrx (by omega); clear hrx) | (intro ex hex; have hq := hg1 (by omega) hex; subst hq; clear hex) | (intro ex hex; have hq := hg2 (by omega) hex; subst hq; clear hex) | (refine Ev.go ?_; conv => whnf) | refine And.intro ?_ ?_ | exact True.intro | exact rfl | (intro rx hrx; rw [IntWalk.i64_in _ (by omega)] at hrx) | (intro hcx; exfalso; omega) | intro _))
        refine TSq.pureC b2 (by simp [cloL, clo, encYs_clo, encRs_clo]) rfl (And.intro rfl rfl) ?_
        (repeat' (first | (intro ex hex; have hq := hgf1 hex; subst hq; clear hex) | (intro ex hex; have hq := hgf2 hex; subst hq; clear hex) | (intro rx hrx; have hq := hres1 hrx (by omega); clear hrx) | (intro rx hrx; have hq := hres2 hrx (by omega); clear hrx) | (intro rx hrx; have hq := hres3 hrx (by omega); clear hrx) | (intro rx hrx; have hq := hres4 hrx (by omega); clear hrx) | (intro rx hrx; have hq := hres5 hrx (by omega); clear hrx) | (intro ex hex; have hq := hg1 (by omega) hex; subst hq; clear hex) | (intro ex hex; have hq := hg2 (by omega) hex; subst hq; clear hex) | (refine Ev.go ?_; conv => whnf) | refine And.intro ?_ ?_ | exact True.intro | exact rfl | (intro rx hrx; rw [IntWalk.i64_in _ (by omega)] at hrx) | (intro hcx; exfalso; omega) | intro _))
        refine TSq.pureC d4 (by simp [cloL, clo, encYs_clo, encRs_clo]) rfl (And.intro rfl rfl) ?_
        (repeat' (first | (intro ex hex; have hq := hgf1 hex; subst hq; clear hex) | (intro ex hex; have hq := hgf2 hex; subst hq; clear hex) | (intro rx hrx; have hq := hres1 hrx (by omega); clear hrx) | (intro rx hrx; have hq := hres2 hrx (by omega); clear hrx) | (intro rx hrx; have hq := hres3 hrx (by omega); clear hrx) | (intro rx hrx; have hq := hres4 hrx (by omega); clear hrx) | (intro rx hrx; have hq := hres5 hrx (by omega); clear hrx) | (intro ex hex; have hq := hg1 (by omega) hex; subst hq; clear hex) | (intro ex hex; have hq := hg2 (by omega) hex; subst hq; clear hex) | (refine Ev.go ?_; conv => whnf) | refine And.intro ?_ ?_ | exact True.intro | exact rfl | (intro rx hrx; rw [IntWalk.i64_in _ (by omega)] at hrx) | (intro hcx; exfalso; omega) | intro _))
        all_goals (first | (refine ⟨?_⟩; exact vc) | exact cl | skip)
        all_goals (try (exfalso; omega))
        dsimp only
        refine TWq.loop (fun k : Nat => [(17, .int .i64 k), (0, .junk), (1, .junk), (2, .junk), (3, .junk), (4, .junk), (5, .junk), (7, .junk), (8, .junk), (10, .junk), (12, .junk), (13, .junk), (14, .junk), (15, .junk), (16, .junk), (18, .junk), (19, .junk), (20, .junk), (21, .junk), (22, .junk), (23, .junk), (24, .junk), (25, .junk), (26, .junk), (27, .junk), (28, .junk), (29, .junk), (30, .junk), (31, .junk), (32, .junk), (33, .junk), (34, .junk), (35, .junk), (36, .junk), (37, .junk), (38, .junk), (39, .junk), (40, .junk), (41, .junk), (42, .junk), (43, .junk), (44, .junk), (45, .junk), (46, .junk), (47, .junk), (48, .junk), (49, .junk), (50, .junk), (51, .junk), (52, .junk), (53, .junk), (54, .junk), (55, .junk), (56, .junk), (57, .junk), (58, .junk), (59, .junk), (60, .junk), (61, .junk), (62, .junk), (63, .junk), (64, .junk), (65, .junk), (66, .junk), (67, .junk), (68, .junk), (69, .junk), (70, .junk), (71, .junk), (72, .junk), (73, .junk), (74, .junk), (75, .junk), (76, .junk), (77, .junk), (78, .junk), (79, .junk), (80, .junk), (81, .junk), (82, .junk), (83, .junk), (84, .junk), (85, .junk), (86, .junk), (87, .junk), (88, .junk), (89, .junk), (90, .junk), (91, .junk), (92, .junk), (93, .junk), (94, .junk), (95, .junk), (96, .junk), (97, .junk), (98, .junk), (99, .junk), (100, .junk), (101, .junk), (102, .junk), (103, .junk), (104, .junk), (105, .junk), (106, .junk), (107, .junk), (108, .junk), (109, .junk), (110, .junk), (111, .junk), (112, .junk), (113, .junk), (114, .junk), (115, .junk), (116, .junk), (117, .junk), (118, .junk), (119, .junk), (120, .junk), (121, .junk), (122, .junk), (123, .junk), (124, .junk), (125, .junk), (126, .junk), (127, .junk), (128, .junk), (129, .junk), (130, .junk), (131, .junk), (132, .junk), (133, .junk), (134, .junk), (135, .junk), (136, .junk), (137, .junk), (138, .junk), (139, .junk), (140, .junk), (141, .junk), (142, .junk), (143, .junk), (144, .junk), (145, .junk), (146, .junk), (147, .junk), (148, .junk), (149, .junk), (150, .junk), (151, .junk), (152, .junk), (153, .junk), (154, .junk), (155, .junk), (156, .junk), (157, .junk)]) (fun k => [(0, .dead), (1, .dead), (4, .dead), (5, .dead)]) (fun k => k ≤ s.members.length) (fun k => s.members.length - k) 0 [] [] ?_ (by omega) ?_
        · (repeat' (first | (intro ex hex; have hq := hgf1 hex; subst hq; clear hex) | (intro ex hex; have hq := hgf2 hex; subst hq; clear hex) | (intro rx hrx; have hq := hres1 hrx (by omega); clear hrx) | (intro rx hrx; have hq := hres2 hrx (by omega); clear hrx) | (intro rx hrx; have hq := hres3 hrx (by omega); clear hrx) | (intro rx hrx; have hq := hres4 hrx (by omega); clear hrx) | (intro rx hrx; have hq := hres5 hrx (by omega); clear hrx) | (intro ex hex; have hq := hg1 (by omega) hex; subst hq; clear hex) | (intro ex hex; have hq := hg2 (by omega) hex; subst hq; clear hex) | (refine Ev.go ?_; conv => whnf) | refine And.intro ?_ ?_ | exact True.intro | exact rfl | (intro rx hrx; rw [IntWalk.i64_in _ (by omega)] at hrx) | (intro hcx; exfalso; omega) | intro _))
          all_goals (first | (refine ⟨?_⟩; exact vc) | exact cl | skip)
        · intro k hk
          rcases Nat.lt_or_ge k s.members.length with hkl | hkl
          · obtain ⟨r1, r2, hr1, hr2, hr3, hr4⟩ := hbo k hkl
            have hg1 : ∀ {n : Nat} {e : SV}, n = k → (encRs A)[n]? = some e → e = encR r1 := by
              rintro n e rfl he
              obtain ⟨x, hx, rfl⟩ := encRs_at he
              rw [hr1] at hx; cases hx; rfl
            have hg2 : ∀ {n : Nat} {e : SV}, n = k → (encRs B)[n]? = some e → e = encR r2 := by
              rintro n e rfl he
              obtain ⟨x, hx, rfl⟩ := encRs_at he
              rw [hr2] at hx; cases hx; rfl
            (repeat' (first | (intro ex hex; have hq := hgf1 hex; subst hq; clear hex) | (intro ex hex; have hq := hgf2 hex; subst hq; clear hex) | (intro rx hrx; have hq := hres1 hrx (by omega); clear hrx) | (intro rx hrx; have hq := hres2 hrx (by omega); clear hrx) | (intro rx hrx; have hq := hres3 hrx (by omega); clear hrx) | (intro rx hrx; have hq := hres4 hrx (by omega); clear hrx) | (intro rx hrx; have hq := hres5 hrx (by omega); clear hrx) | (intro ex hex; have hq := hg1 (by omega) hex; subst hq; clear hex) | (intro ex hex; have hq := hg2 (by omega) hex; subst hq; clear hex) | (refine Ev.go ?_; conv => whnf) | refine And.intro ?_ ?_ | exact True.intro | exact rfl | (intro rx hrx; rw [IntWalk.i64_in _ (by omega)] at hrx) | (intro hcx; exfalso; omega) | intro _))
            all_goals (first | (refine ⟨?_⟩; exact vk) | exact cl | skip)
            all_goals (try (exfalso; omega))
            refine ⟨⟨k + 1, by omega, by omega, ?_⟩⟩
            (repeat' (first | (intro ex hex; have hq := hgf1 hex; subst hq; clear hex) | (intro ex hex; have hq := hgf2 hex; subst hq; clear hex) | (intro rx hrx; have hq := hres1 hrx (by omega); clear hrx) | (intro rx hrx; have hq := hres2 hrx (by omega); clear hrx) | (intro rx hrx; have hq := hres3 hrx (by omega); clear hrx) | (intro rx hrx; have hq := hres4 hrx (by omega); clear hrx) | (intro rx hrx; have hq := hres5 hrx (by omega); clear hrx) | (intro ex hex; have hq := hg1 (by omega) hex; subst hq; clear hex) | (intro ex hex; have hq := hg2 (by omega) hex; subst hq; clear hex) | (refine Ev.go ?_; conv => whnf) | refine And.intro ?_ ?_ | exact True.intro | exact rfl | (intro rx hrx; rw [IntWalk.i64_in _ (by omega)] at hrx) | (intro hcx; exfalso; omega) | intro _))
            all_goals (first | (refine ⟨?_⟩; exact vc) | exact cl | skip)
          · have hke : k = s.members.length := by omega
            subst hke
            (repeat' (first | (intro ex hex; have hq := hgf1 hex; subst hq; clear hex) | (intro ex hex; have hq := hgf2 hex; subst hq; clear hex) | (intro rx hrx; have hq := hres1 hrx (by omega); clear hrx) | (intro rx hrx; have hq := hres2 hrx (by omega); clear hrx) | (intro rx hrx; have hq := hres3 hrx (by omega); clear hrx) | (intro rx hrx; have hq := hres4 hrx (by omega); clear hrx) | (intro rx hrx; have hq := hres5 hrx (by omega); clear hrx) | (intro ex hex; have hq := hg1 (by omega) hex; subst hq; clear hex) | (intro ex hex; have hq := hg2 (by omega) hex; subst hq; clear hex) | (refine Ev.go ?_; conv => whnf) | refine And.intro ?_ ?_ | exact True.intro | exact rfl | (intro rx hrx; rw [IntWalk.i64_in _ (by omega)] at hrx) | (intro hcx; exfalso; omega) | intro _))
            all_goals (first | (refine ⟨?_⟩; exact vc) | exact cl | skip)
            refine TSq.pureC c19 cl rfl (And.intro rfl rfl) ?_
            (repeat' (first | (intro ex hex; have hq := hgf1 hex; subst hq; clear hex) | (intro ex hex; have hq := hgf2 hex; subst hq; clear hex) | (intro rx hrx; have hq := hres1 hrx (by omega); clear hrx) | (intro rx hrx; have hq := hres2 hrx (by omega); clear hrx) | (intro rx hrx; have hq := hres3 hrx (by omega); clear hrx) | (intro rx hrx; have hq := hres4 hrx (by omega); clear hrx) | (intro rx hrx; have hq := hres5 hrx (by omega); clear hrx) | (intro ex hex; have hq := hg1 (by omega) hex; subst hq; clear hex) | (intro ex hex; have hq := hg2 (by omega) hex; subst hq; clear hex) | (refine Ev.go ?_; conv => whnf) | refine And.intro ?_ ?_ | exact True.intro | exact rfl | (intro rx hrx; rw [IntWalk.i64_in _ (by omega)] at hrx) | (intro hcx; exfalso; omega) | intro _))
            try rfl
      · generalize fault X = ft at *
        refine TSq.pureC c23X (by simp [cloL, clo, encYs_clo, encRs_clo]) rfl (And.intro rfl rfl) ?_
        (repeat' (first | (intro ex hex; have hq := hgf1 hex; subst hq; clear hex) | (intro ex hex; have hq := hgf2 hex; subst hq; clear hex) | (intro rx hrx; have hq := hres1 hrx (by omega); clear hrx) | (intro rx hrx; have hq := hres2 hrx (by omega); clear hrx) | (intro rx hrx; have hq := hres3 hrx (by omega); clear hrx) | (intro rx hrx; have hq := hres4 hrx (by omega); clear hrx) | (intro rx hrx; have hq := hres5 hrx (by omega); clear hrx) | (intro ex hex; have hq := hg1 (by omega) hex; subst hq; clear hex) | (intro ex hex; have hq := hg2 (by omega) hex; subst hq; clear hex) | (refine Ev.go ?_; conv => whnf) | refine And.intro ?_ ?_ | exact True.intro | exact rfl | (intro rx hrx; rw [IntWalk.i64_in _ (by omega)] at hrx) | (intro hcx; exfalso; omega) | intro _))
        refine TSq.pureC c19 cl rfl (And.intro rfl rfl) ?_
        (repeat' (first | (intro ex hex; have hq := hgf1 hex; subst hq; clear hex) | (intro ex hex; have hq := hgf2 hex; subst hq; clear hex) | (intro rx hrx; have hq := hres1 hrx (by omega); clear hrx) | (intro rx hrx; have hq := hres2 hrx (by omega); clear hrx) | (intro rx hrx; have hq := hres3 hrx (by omega); clear hrx) | (intro rx hrx; have hq := hres4 hrx (by omega); clear hrx) | (intro rx hrx; have hq := hres5 hrx (by omega); clear hrx) | (intro ex hex; have hq := hg1 (by omega) hex; subst hq; clear hex) | (intro ex hex; have hq := hg2 (by omega) hex; subst hq; clear hex) | (refine Ev.go ?_; conv => whnf) | refine And.intro ?_ ?_ | exact True.intro | exact rfl | (intro rx hrx; rw [IntWalk.i64_in _ (by omega)] at hrx) | (intro hcx; exfalso; omega) | intro _))
        try rfl
    · rename_i tl htl _ _ _ th hth
      have hd : ∃ X : Soc, X = ⟨s.members, s.losses, ⟨tl, th⟩, s.reserve⟩ ∧ Wider s X := ⟨_, rfl, ⟨rfl, rfl, Int.le_refl _, Int.le_refl _, by dsimp only; omega, by dsimp only; omega⟩⟩
      obtain ⟨X, hX, hW⟩ := hd
      have harr : chunks 2 0 (repl 0 [SV.int .i64 0, SV.int .i64 0]) ++ encRs s.losses = encRs X.losses := by rw [hX]; rfl
      rw [harr]
      have eX : encSoc X = .agg [.sl 3 (encYs s.members), .sl 2 (encRs X.losses), .int .i64 tl, .int .i64 th, .int .i64 s.reserve] := by rw [hX]; rfl
      have hXl : X.members.length = s.members.length ∧ X.losses.length = s.losses.length := by rw [hX]; simp
      have c23X := c23 X
      have b1 := c21 s (by omega) (by omega)
      have b2 := c21 X (by omega) (by omega)
      have d1 := c29 s (by omega) (by omega)
      have d2 := c29 X (by omega) (by omega)
      have d3 := c42 s (by omega) (by omega)
      have d4 := c42 X (by omega) (by omega)
      rw [eX] at c23X b2 d2 d4
      have hXcl := encRs_clo X.losses
      refine TSq.cut [0, 1, 2, 8, 9, 10, 11, 12, 13, 14, 15, 16, 17, 18, 19, 20, 21, 22, 23, 24, 25, 26, 27, 28, 29, 30, 31, 32, 33, 34, 35, 36, 37, 38, 39, 40, 41, 42, 43, 44, 45, 46, 47, 48, 49, 50, 51, 52, 53, 54, 55, 56, 57, 58, 59, 60, 61, 62, 63, 64, 65, 66, 67, 68, 69, 70, 71, 72, 73, 74, 75, 76, 77, 78, 79, 80, 81, 82, 83, 84, 85, 86] 20 ?_
      (repeat' (first | (intro ex hex; have hq := hgf1 hex; subst hq; clear hex) | (intro ex hex; have hq := hgf2 hex; subst hq; clear hex) | (intro rx hrx; have hq := hres1 hrx (by omega); clear hrx) | (intro rx hrx; have hq := hres2 hrx (by omega); clear hrx) | (intro rx hrx; have hq := hres3 hrx (by omega); clear hrx) | (intro rx hrx; have hq := hres4 hrx (by omega); clear hrx) | (intro rx hrx; have hq := hres5 hrx (by omega); clear hrx) | (intro ex hex; have hq := hg1 (by omega) hex; subst hq; clear hex) | (intro ex hex; have hq := hg2 (by omega) hex; subst hq; clear hex) | (refine Ev.go ?_; conv => whnf) | refine And.intro ?_ ?_ | exact True.intro | exact rfl | (intro rx hrx; rw [IntWalk.i64_in _ (by omega)] at hrx) | (intro hcx; exfalso; omega) | intro _))
      all_goals (first | (refine ⟨?_⟩; exact vc) | exact cl | skip)
      refine TSq.pubD 3 ?_
      (repeat' (first | (intro ex hex; have hq := hgf1 hex; subst hq; clear hex) | (intro ex hex; have hq := hgf2 hex; subst hq; clear hex) | (intro rx hrx; have hq := hres1 hrx (by omega); clear hrx) | (intro rx hrx; have hq := hres2 hrx (by omega); clear hrx) | (intro rx hrx; have hq := hres3 hrx (by omega); clear hrx) | (intro rx hrx; have hq := hres4 hrx (by omega); clear hrx) | (intro rx hrx; have hq := hres5 hrx (by omega); clear hrx) | (intro ex hex; have hq := hg1 (by omega) hex; subst hq; clear hex) | (intro ex hex; have hq := hg2 (by omega) hex; subst hq; clear hex) | (refine Ev.go ?_; conv => whnf) | refine And.intro ?_ ?_ | exact True.intro | exact rfl | (intro rx hrx; rw [IntWalk.i64_in _ (by omega)] at hrx) | (intro hcx; exfalso; omega) | intro _))
      all_goals (first | (refine ⟨?_⟩; exact vc) | exact cl | skip)
      all_goals (try exact ⟨hXcl⟩)
      by_cases hfX : fault X = 0
      · have hsh := hW.short h0
        have hbo := fun k (hk : k < s.members.length) => hW.bounds h0 hfX hk
        have hbl1 := boundsOf_len (out := []) h0
        have hbl2 := boundsOf_len (out := []) hfX
        rw [hXl.1] at hbl2
        have hb1 := encRs_len (boundsOf s [])
        have hb2 := encRs_len (boundsOf X [])
        rw [hfX] at c23X
        simp only [withoutR, if_neg (show ¬ fault s ≠ 0 by simpa using h0), if_neg (show ¬ fault X ≠ 0 by simpa using hfX), if_pos (listed_nil s), if_pos (listed_nil X)] at d1 d2
        simp only [shortR, if_neg (show ¬ fault s ≠ 0 by simpa using h0), if_neg (show ¬ fault X ≠ 0 by simpa using hfX)] at d3 d4
        generalize boundsOf s [] = A at *
        generalize boundsOf X [] = B at *
        generalize shortOf s [] = C at *
        generalize shortOf X [] = D at *
        refine TSq.pureC c23X (by simp [cloL, clo, encYs_clo, encRs_clo]) rfl (And.intro rfl rfl) ?_
        (repeat' (first | (intro ex hex; have hq := hgf1 hex; subst hq; clear hex) | (intro ex hex; have hq := hgf2 hex; subst hq; clear hex) | (intro rx hrx; have hq := hres1 hrx (by omega); clear hrx) | (intro rx hrx; have hq := hres2 hrx (by omega); clear hrx) | (intro rx hrx; have hq := hres3 hrx (by omega); clear hrx) | (intro rx hrx; have hq := hres4 hrx (by omega); clear hrx) | (intro rx hrx; have hq := hres5 hrx (by omega); clear hrx) | (intro ex hex; have hq := hg1 (by omega) hex; subst hq; clear hex) | (intro ex hex; have hq := hg2 (by omega) hex; subst hq; clear hex) | (refine Ev.go ?_; conv => whnf) | refine And.intro ?_ ?_ | exact True.intro | exact rfl | (intro rx hrx; rw [IntWalk.i64_in _ (by omega)] at hrx) | (intro hcx; exfalso; omega) | intro _))
        refine TSq.pureC b1 cl rfl (And.intro rfl rfl) ?_
        (repeat' (first | (intro ex hex; have hq := hgf1 hex; subst hq; clear hex) | (intro ex hex; have hq := hgf2 hex; subst hq; clear hex) | (intro rx hrx; have hq := hres1 hrx (by omega); clear hrx) | (intro rx hrx; have hq := hres2 hrx (by omega); clear hrx) | (intro rx hrx; have hq := hres3 hrx (by omega); clear hrx) | (intro rx hrx; have hq := hres4 hrx (by omega); clear hrx) | (intro rx hrx; have hq := hres5 hrx (by omega); clear hrx) | (intro ex hex; have hq := hg1 (by omega) hex; subst hq; clear hex) | (intro ex hex; have hq := hg2 (by omega) hex; subst hq; clear hex) | (refine Ev.go ?_; conv => whnf) | refine And.intro ?_ ?_ | exact True.intro | exact rfl | (intro rx hrx; rw [IntWalk.i64_in _ (by omega)] at hrx) | (intro hcx; exfalso; omega) | intro _))
        refine TSq.pureC d1 cl rfl (And.intro rfl rfl) ?_
        (repeat' (first | (intro ex hex; have hq := hgf1 hex; subst hq; clear hex) | (intro ex hex; have hq := hgf2 hex; subst hq; clear hex) | (intro rx hrx; have hq := hres1 hrx (by omega); clear hrx) | (intro rx hrx; have hq := hres2 hrx (by omega); clear hrx) | (intro rx hrx; have hq := hres3 hrx (by omega); clear hrx) | (intro rx hrx; have hq := hres4 hrx (by omega); clear hrx) | (intro rx hrx; have hq := hres5 hrx (by omega); clear hrx) | (intro ex hex; have hq := hg1 (by omega) hex; subst hq; clear hex) | (intro ex hex; have hq := hg2 (by omega) hex; subst hq; clear hex) | (refine Ev.go ?_; conv => whnf) | refine And.intro ?_ ?_ | exact True.intro | exact rfl | (intro rx hrx; rw [IntWalk.i64_in _ (by omega)] at hrx) | (intro hcx; exfalso; omega) | intro _))
        refine TSq.pureC b2 (by simp [cloL, clo, encYs_clo, encRs_clo]) rfl (And.intro rfl rfl) ?_
        (repeat' (first | (intro ex hex; have hq := hgf1 hex; subst hq; clear hex) | (intro ex hex; have hq := hgf2 hex; subst hq; clear hex) | (intro rx hrx; have hq := hres1 hrx (by omega); clear hrx) | (intro rx hrx; have hq := hres2 hrx (by omega); clear hrx) | (intro rx hrx; have hq := hres3 hrx (by omega); clear hrx) | (intro rx hrx; have hq := hres4 hrx (by omega); clear hrx) | (intro rx hrx; have hq := hres5 hrx (by omega); clear hrx) | (intro ex hex; have hq := hg1 (by omega) hex; subst hq; clear hex) | (intro ex hex; have hq := hg2 (by omega) hex; subst hq; clear hex) | (refine Ev.go ?_; conv => whnf) | refine And.intro ?_ ?_ | exact True.intro | exact rfl | (intro rx hrx; rw [IntWalk.i64_in _ (by omega)] at hrx) | (intro hcx; exfalso; omega) | intro _))
        refine TSq.pureC d2 (by simp [cloL, clo, encYs_clo, encRs_clo]) rfl (And.intro rfl rfl) ?_
        (repeat' (first | (intro ex hex; have hq := hgf1 hex; subst hq; clear hex) | (intro ex hex; have hq := hgf2 hex; subst hq; clear hex) | (intro rx hrx; have hq := hres1 hrx (by omega); clear hrx) | (intro rx hrx; have hq := hres2 hrx (by omega); clear hrx) | (intro rx hrx; have hq := hres3 hrx (by omega); clear hrx) | (intro rx hrx; have hq := hres4 hrx (by omega); clear hrx) | (intro rx hrx; have hq := hres5 hrx (by omega); clear hrx) | (intro ex hex; have hq := hg1 (by omega) hex; subst hq; clear hex) | (intro ex hex; have hq := hg2 (by omega) hex; subst hq; clear hex) | (refine Ev.go ?_; conv => whnf) | refine And.intro ?_ ?_ | exact True.intro | exact rfl | (intro rx hrx; rw [IntWalk.i64_in _ (by omega)] at hrx) | (intro hcx; exfalso; omega) | intro _))
        refine TSq.pureC b1 cl rfl (And.intro rfl rfl) ?_
        (repeat' (first | (intro ex hex; have hq := hgf1 hex; subst hq; clear hex) | (intro ex hex; have hq := hgf2 hex; subst hq; clear hex) | (intro rx hrx; have hq := hres1 hrx (by omega); clear hrx) | (intro rx hrx; have hq := hres2 hrx (by omega); clear hrx) | (intro rx hrx; have hq := hres3 hrx (by omega); clear hrx) | (intro rx hrx; have hq := hres4 hrx (by omega); clear hrx) | (intro rx hrx; have hq := hres5 hrx (by omega); clear hrx) | (intro ex hex; have hq := hg1 (by omega) hex; subst hq; clear hex) | (intro ex hex; have hq := hg2 (by omega) hex; subst hq; clear hex) | (refine Ev.go ?_; conv => whnf) | refine And.intro ?_ ?_ | exact True.intro | exact rfl | (intro rx hrx; rw [IntWalk.i64_in _ (by omega)] at hrx) | (intro hcx; exfalso; omega) | intro _))
        refine TSq.pureC d3 cl rfl (And.intro rfl rfl) ?_
        (repeat' (first | (intro ex hex; have hq := hgf1 hex; subst hq; clear hex) | (intro ex hex; have hq := hgf2 hex; subst hq; clear hex) | (intro rx hrx; have hq := hres1 hrx (by omega); clear hrx) | (intro rx hrx; have hq := hres2 hrx (by omega); clear hrx) | (intro rx hrx; have hq := hres3 hrx (by omega); clear hrx) | (intro rx hrx; have hq := hres4 hrx (by omega); clear hrx) | (intro rx hrx; have hq := hres5 hrx (by omega); clear hrx) | (intro ex hex; have hq := hg1 (by omega) hex; subst hq; clear hex) | (intro ex hex; have hq := hg2 (by omega) hex; subst hq; clear hex) | (refine Ev.go ?_; conv => whnf) | refine And.intro ?_ ?_ | exact True.intro | exact rfl | (intro rx hrx; rw [IntWalk.i64_in _ (by omega)] at hrx) | (intro hcx; exfalso; omega) | intro _))
        refine TSq.pureC b2 (by simp [cloL, clo, encYs_clo, encRs_clo]) rfl (And.intro rfl rfl) ?_
        (repeat' (first | (intro ex hex; have hq := hgf1 hex; subst hq; clear hex) | (intro ex hex; have hq := hgf2 hex; subst hq; clear hex) | (intro rx hrx; have hq := hres1 hrx (by omega); clear hrx) | (intro rx hrx; have hq := hres2 hrx (by omega); clear hrx) | (intro rx hrx; have hq := hres3 hrx (by omega); clear hrx) | (intro rx hrx; have hq := hres4 hrx (by omega); clear hrx) | (intro rx hrx; have hq := hres5 hrx (by omega); clear hrx) | (intro ex hex; have hq := hg1 (by omega) hex; subst hq; clear hex) | (intro ex hex; have hq := hg2 (by omega) hex; subst hq; clear hex) | (refine Ev.go ?_; conv => whnf) | refine And.intro ?_ ?_ | exact True.intro | exact rfl | (intro rx hrx; rw [IntWalk.i64_in _ (by omega)] at hrx) | (intro hcx; exfalso; omega) | intro _))
        refine TSq.pureC d4 (by simp [cloL, clo, encYs_clo, encRs_clo]) rfl (And.intro rfl rfl) ?_
        (repeat' (first | (intro ex hex; have hq := hgf1 hex; subst hq; clear hex) | (intro ex hex; have hq := hgf2 hex; subst hq; clear hex) | (intro rx hrx; have hq := hres1 hrx (by omega); clear hrx) | (intro rx hrx; have hq := hres2 hrx (by omega); clear hrx) | (intro rx hrx; have hq := hres3 hrx (by omega); clear hrx) | (intro rx hrx; have hq := hres4 hrx (by omega); clear hrx) | (intro rx hrx; have hq := hres5 hrx (by omega); clear hrx) | (intro ex hex; have hq := hg1 (by omega) hex; subst hq; clear hex) | (intro ex hex; have hq := hg2 (by omega) hex; subst hq; clear hex) | (refine Ev.go ?_; conv => whnf) | refine And.intro ?_ ?_ | exact True.intro | exact rfl | (intro rx hrx; rw [IntWalk.i64_in _ (by omega)] at hrx) | (intro hcx; exfalso; omega) | intro _))
        all_goals (first | (refine ⟨?_⟩; exact vc) | exact cl | skip)
        all_goals (try (exfalso; omega))
        dsimp only
        refine TWq.loop (fun k : Nat => [(17, .int .i64 k), (0, .junk), (1, .junk), (2, .junk), (3, .junk), (4, .junk), (5, .junk), (7, .junk), (8, .junk), (10, .junk), (12, .junk), (13, .junk), (14, .junk), (15, .junk), (16, .junk), (18, .junk), (19, .junk), (20, .junk), (21, .junk), (22, .junk), (23, .junk), (24, .junk), (25, .junk), (26, .junk), (27, .junk), (28, .junk), (29, .junk), (30, .junk), (31, .junk), (32, .junk), (33, .junk), (34, .junk), (35, .junk), (36, .junk), (37, .junk), (38, .junk), (39, .junk), (40, .junk), (41, .junk), (42, .junk), (43, .junk), (44, .junk), (45, .junk), (46, .junk), (47, .junk), (48, .junk), (49, .junk), (50, .junk), (51, .junk), (52, .junk), (53, .junk), (54, .junk), (55, .junk), (56, .junk), (57, .junk), (58, .junk), (59, .junk), (60, .junk), (61, .junk), (62, .junk), (63, .junk), (64, .junk), (65, .junk), (66, .junk), (67, .junk), (68, .junk), (69, .junk), (70, .junk), (71, .junk), (72, .junk), (73, .junk), (74, .junk), (75, .junk), (76, .junk), (77, .junk), (78, .junk), (79, .junk), (80, .junk), (81, .junk), (82, .junk), (83, .junk), (84, .junk), (85, .junk), (86, .junk), (87, .junk), (88, .junk), (89, .junk), (90, .junk), (91, .junk), (92, .junk), (93, .junk), (94, .junk), (95, .junk), (96, .junk), (97, .junk), (98, .junk), (99, .junk), (100, .junk), (101, .junk), (102, .junk), (103, .junk), (104, .junk), (105, .junk), (106, .junk), (107, .junk), (108, .junk), (109, .junk), (110, .junk), (111, .junk), (112, .junk), (113, .junk), (114, .junk), (115, .junk), (116, .junk), (117, .junk), (118, .junk), (119, .junk), (120, .junk), (121, .junk), (122, .junk), (123, .junk), (124, .junk), (125, .junk), (126, .junk), (127, .junk), (128, .junk), (129, .junk), (130, .junk), (131, .junk), (132, .junk), (133, .junk), (134, .junk), (135, .junk), (136, .junk), (137, .junk), (138, .junk), (139, .junk), (140, .junk), (141, .junk), (142, .junk), (143, .junk), (144, .junk), (145, .junk), (146, .junk), (147, .junk), (148, .junk), (149, .junk), (150, .junk), (151, .junk), (152, .junk), (153, .junk), (154, .junk), (155, .junk), (156, .junk), (157, .junk)]) (fun k => [(0, .dead), (1, .dead), (4, .dead), (5, .dead)]) (fun k => k ≤ s.members.length) (fun k => s.members.length - k) 0 [] [] ?_ (by omega) ?_
        · (repeat' (first | (intro ex hex; have hq := hgf1 hex; subst hq; clear hex) | (intro ex hex; have hq := hgf2 hex; subst hq; clear hex) | (intro rx hrx; have hq := hres1 hrx (by omega); clear hrx) | (intro rx hrx; have hq := hres2 hrx (by omega); clear hrx) | (intro rx hrx; have hq := hres3 hrx (by omega); clear hrx) | (intro rx hrx; have hq := hres4 hrx (by omega); clear hrx) | (intro rx hrx; have hq := hres5 hrx (by omega); clear hrx) | (intro ex hex; have hq := hg1 (by omega) hex; subst hq; clear hex) | (intro ex hex; have hq := hg2 (by omega) hex; subst hq; clear hex) | (refine Ev.go ?_; conv => whnf) | refine And.intro ?_ ?_ | exact True.intro | exact rfl | (intro rx hrx; rw [IntWalk.i64_in _ (by omega)] at hrx) | (intro hcx; exfalso; omega) | intro _))
          all_goals (first | (refine ⟨?_⟩; exact vc) | exact cl | skip)
        · intro k hk
          rcases Nat.lt_or_ge k s.members.length with hkl | hkl
          · obtain ⟨r1, r2, hr1, hr2, hr3, hr4⟩ := hbo k hkl
            have hg1 : ∀ {n : Nat} {e : SV}, n = k → (encRs A)[n]? = some e → e = encR r1 := by
              rintro n e rfl he
              obtain ⟨x, hx, rfl⟩ := encRs_at he
              rw [hr1] at hx; cases hx; rfl
            have hg2 : ∀ {n : Nat} {e : SV}, n = k → (encRs B)[n]? = some e → e = encR r2 := by
              rintro n e rfl he
              obtain ⟨x, hx, rfl⟩ := encRs_at he
              rw [hr2] at hx; cases hx; rfl
            (repeat' (first | (intro ex hex; have hq := hgf1 hex; subst hq; clear hex) | (intro ex hex; have hq := hgf2 hex; subst hq; clear hex) | (intro rx hrx; have hq := hres1 hrx (by omega); clear hrx) | (intro rx hrx; have hq := hres2 hrx (by omega); clear hrx) | (intro rx hrx; have hq := hres3 hrx (by omega); clear hrx) | (intro rx hrx; have hq := hres4 hrx (by omega); clear hrx) | (intro rx hrx; have hq := hres5 hrx (by omega); clear hrx) | (intro ex hex; have hq := hg1 (by omega) hex; subst hq; clear hex) | (intro ex hex; have hq := hg2 (by omega) hex; subst hq; clear hex) | (refine Ev.go ?_; conv => whnf) | refine And.intro ?_ ?_ | exact True.intro | exact rfl | (intro rx hrx; rw [IntWalk.i64_in _ (by omega)] at hrx) | (intro hcx; exfalso; omega) | intro _))
            all_goals (first | (refine ⟨?_⟩; exact vk) | exact cl | skip)
            all_goals (try (exfalso; omega))
            refine ⟨⟨k + 1, by omega, by omega, ?_⟩⟩
            (repeat' (first | (intro ex hex; have hq := hgf1 hex; subst hq; clear hex) | (intro ex hex; have hq := hgf2 hex; subst hq; clear hex) | (intro rx hrx; have hq := hres1 hrx (by omega); clear hrx) | (intro rx hrx; have hq := hres2 hrx (by omega); clear hrx) | (intro rx hrx; have hq := hres3 hrx (by omega); clear hrx) | (intro rx hrx; have hq := hres4 hrx (by omega); clear hrx) | (intro rx hrx; have hq := hres5 hrx (by omega); clear hrx) | (intro ex hex; have hq := hg1 (by omega) hex; subst hq; clear hex) | (intro ex hex; have hq := hg2 (by omega) hex; subst hq; clear hex) | (refine Ev.go ?_; conv => whnf) | refine And.intro ?_ ?_ | exact True.intro | exact rfl | (intro rx hrx; rw [IntWalk.i64_in _ (by omega)] at hrx) | (intro hcx; exfalso; omega) | intro _))
            all_goals (first | (refine ⟨?_⟩; exact vc) | exact cl | skip)
          · have hke : k = s.members.length := by omega
            subst hke
            (repeat' (first | (intro ex hex; have hq := hgf1 hex; subst hq; clear hex) | (intro ex hex; have hq := hgf2 hex; subst hq; clear hex) | (intro rx hrx; have hq := hres1 hrx (by omega); clear hrx) | (intro rx hrx; have hq := hres2 hrx (by omega); clear hrx) | (intro rx hrx; have hq := hres3 hrx (by omega); clear hrx) | (intro rx hrx; have hq := hres4 hrx (by omega); clear hrx) | (intro rx hrx; have hq := hres5 hrx (by omega); clear hrx) | (intro ex hex; have hq := hg1 (by omega) hex; subst hq; clear hex) | (intro ex hex; have hq := hg2 (by omega) hex; subst hq; clear hex) | (refine Ev.go ?_; conv => whnf) | refine And.intro ?_ ?_ | exact True.intro | exact rfl | (intro rx hrx; rw [IntWalk.i64_in _ (by omega)] at hrx) | (intro hcx; exfalso; omega) | intro _))
            all_goals (first | (refine ⟨?_⟩; exact vc) | exact cl | skip)
            refine TSq.pureC c19 cl rfl (And.intro rfl rfl) ?_
            (repeat' (first | (intro ex hex; have hq := hgf1 hex; subst hq; clear hex) | (intro ex hex; have hq := hgf2 hex; subst hq; clear hex) | (intro rx hrx; have hq := hres1 hrx (by omega); clear hrx) | (intro rx hrx; have hq := hres2 hrx (by omega); clear hrx) | (intro rx hrx; have hq := hres3 hrx (by omega); clear hrx) | (intro rx hrx; have hq := hres4 hrx (by omega); clear hrx) | (intro rx hrx; have hq := hres5 hrx (by omega); clear hrx) | (intro ex hex; have hq := hg1 (by omega) hex; subst hq; clear hex) | (intro ex hex; have hq := hg2 (by omega) hex; subst hq; clear hex) | (refine Ev.go ?_; conv => whnf) | refine And.intro ?_ ?_ | exact True.intro | exact rfl | (intro rx hrx; rw [IntWalk.i64_in _ (by omega)] at hrx) | (intro hcx; exfalso; omega) | intro _))
            try rfl
      · generalize fault X = ft at *
        refine TSq.pureC c23X (by simp [cloL, clo, encYs_clo, encRs_clo]) rfl (And.intro rfl rfl) ?_
        (repeat' (first | (intro ex hex; have hq := hgf1 hex; subst hq; clear hex) | (intro ex hex; have hq := hgf2 hex; subst hq; clear hex) | (intro rx hrx; have hq := hres1 hrx (by omega); clear hrx) | (intro rx hrx; have hq := hres2 hrx (by omega); clear hrx) | (intro rx hrx; have hq := hres3 hrx (by omega); clear hrx) | (intro rx hrx; have hq := hres4 hrx (by omega); clear hrx) | (intro rx hrx; have hq := hres5 hrx (by omega); clear hrx) | (intro ex hex; have hq := hg1 (by omega) hex; subst hq; clear hex) | (intro ex hex; have hq := hg2 (by omega) hex; subst hq; clear hex) | (refine Ev.go ?_; conv => whnf) | refine And.intro ?_ ?_ | exact True.intro | exact rfl | (intro rx hrx; rw [IntWalk.i64_in _ (by omega)] at hrx) | (intro hcx; exfalso; omega) | intro _))
        refine TSq.pureC c19 cl rfl (And.intro rfl rfl) ?_
        (repeat' (first | (intro ex hex; have hq := hgf1 hex; subst hq; clear hex) | (intro ex hex; have hq := hgf2 hex; subst hq; clear hex) | (intro rx hrx; have hq := hres1 hrx (by omega); clear hrx) | (intro rx hrx; have hq := hres2 hrx (by omega); clear hrx) | (intro rx hrx; have hq := hres3 hrx (by omega); clear hrx) | (intro rx hrx; have hq := hres4 hrx (by omega); clear hrx) | (intro rx hrx; have hq := hres5 hrx (by omega); clear hrx) | (intro ex hex; have hq := hg1 (by omega) hex; subst hq; clear hex) | (intro ex hex; have hq := hg2 (by omega) hex; subst hq; clear hex) | (refine Ev.go ?_; conv => whnf) | refine And.intro ?_ ?_ | exact True.intro | exact rfl | (intro rx hrx; rw [IntWalk.i64_in _ (by omega)] at hrx) | (intro hcx; exfalso; omega) | intro _))
        try rfl
  · intro hr
    (repeat' (first | (refine Ev.go ?_; conv => whnf) | refine And.intro ?_ ?_ | exact True.intro | exact rfl | (intro rx hrx; rw [IntWalk.i64_in _ (by omega)] at hrx) | (intro hcx; exfalso; omega) | (intro hcx; exfalso; simp only [lz] at hcx; omega) | intro _))
    refine TSq.pureC c19 cl rfl (And.intro rfl rfl) ?_
    (repeat' (first | (refine Ev.go ?_; conv => whnf) | refine And.intro ?_ ?_ | exact True.intro | exact rfl | (intro rx hrx; rw [IntWalk.i64_in _ (by omega)] at hrx) | (intro hcx; exfalso; omega) | (intro hcx; exfalso; simp only [lz] at hcx; omega) | intro _))
    try rfl
end Go.Proofs.Ythnaamkempmjkaa
