/- The members that are missed, as the document says: all lists are tried. -/
import Derived.Test.YthnaamkempmjkaaOf
import Derived.Test.YthnaamkempmjkaaKr
import Derived.Test.YthnaamkempmjkaaKfM
set_option linter.unusedSimpArgs false
set_option linter.unusedVariables false
open Go Go.TV
namespace Go.Proofs.Ythnaamkempmjkaa

theorem lexLt_trans : ∀ {a b c : List Int}, lexLt a b = true → lexLt b c = true → lexLt a c = true
  | [], [], _, h, _ => by simp [lexLt] at h
  | [], _ :: _, [], _, h => by simp [lexLt] at h
  | [], _ :: _, _ :: _, _, _ => rfl
  | _ :: _, [], _, h, _ => by simp [lexLt] at h
  | _ :: _, _ :: _, [], _, h => by simp [lexLt] at h
  | a :: l, b :: m, c :: n, h1, h2 => by
    simp only [lexLt] at h1 h2 ⊢
    by_cases e1 : a = b
    · subst e1
      by_cases e2 : a = c
      · subst e2
        simp only [if_true] at h1 h2 ⊢
        exact lexLt_trans h1 h2
      · rw [if_neg e2] at h2 ⊢; exact h2
    · rw [if_neg e1, decide_eq_true_eq] at h1
      by_cases e2 : b = c
      · subst e2
        rw [if_neg e1, decide_eq_true_eq]; exact h1
      · rw [if_neg e2, decide_eq_true_eq] at h2
        rw [if_neg (by omega), decide_eq_true_eq]; omega
/-- A list is shorter than another one, or as long and before it. -/
def shortB (a b : List Int) : Bool := decide (a.length < b.length) || (decide (a.length = b.length) && lexLt a b)
theorem shortB_iff {a b : List Int} : shortB a b = true ↔ LexB a b := by
  simp [shortB, LexB]
theorem LexB.trans {a b c : List Int} (h : LexB a b) (k : LexB b c) : LexB a c := by
  rcases h with h | ⟨h, h'⟩ <;> rcases k with k | ⟨k, k'⟩
  · exact .inl (by omega)
  · exact .inl (by omega)
  · exact .inl (by omega)
  · exact .inr ⟨by omega, lexLt_trans h' k'⟩
theorem LexB.irr {a : List Int} : ¬ LexB a a := by
  rintro (h | ⟨_, h⟩)
  · omega
  · rw [lexLt_irrefl] at h; cases h
theorem LexB.tot {a b : List Int} (h : ¬ LexB a b) : a = b ∨ LexB b a := by
  unfold LexB at h ⊢
  rcases Nat.lt_trichotomy a.length b.length with e | e | e
  · exact absurd (.inl e) h
  · cases h1 : lexLt a b
    · cases h2 : lexLt b a
      · exact .inl (lexLt_eq e h1 h2)
      · exact .inr (.inr ⟨e.symm, rfl⟩)
    · exact absurd (.inr ⟨e, h1⟩) h
  · exact .inr (.inl e)
def stepM (s : Soc) (j : Nat) (st : List Int × Bool) : List Int × Bool :=
  if (st.2 && !shortB (bitsN j s.members.length) st.1) = true then st else if goodM s (bitsN j s.members.length) = true then (bitsN j s.members.length, true) else st
def refM (s : Soc) : Nat → List Int × Bool
  | 0 => ([], false)
  | j + 1 => stepM s j (refM s j)
structure BestM (s : Soc) (j : Nat) (st : List Int × Bool) : Prop where
  yes : st.2 = true → (∃ i, i < j ∧ st.1 = bitsN i s.members.length) ∧ goodM s st.1 = true ∧ ∀ i, i < j → goodM s (bitsN i s.members.length) = true → bitsN i s.members.length = st.1 ∨ LexB st.1 (bitsN i s.members.length)
  no : st.2 = false → ∀ i, i < j → goodM s (bitsN i s.members.length) = false
theorem refM_best (s : Soc) : ∀ j, BestM s j (refM s j)
  | 0 => ⟨fun h => by simp [refM] at h, fun _ i hi => by omega⟩
  | j + 1 => by
    have ih := refM_best s j
    rw [refM]
    generalize refM s j = st at *
    obtain ⟨b, f⟩ := st
    have hi : ∀ i, i < j + 1 → i < j ∨ i = j := fun i h => by omega
    unfold stepM
    cases f with
    | false =>
      have hno := ih.no rfl
      rw [if_neg (by simp)]
      cases hg : goodM s (bitsN j s.members.length) with
      | true =>
        rw [if_pos rfl]
        refine ⟨fun _ => ⟨⟨j, by omega, rfl⟩, hg, fun i h1 h2 => ?_⟩, fun h => by simp at h⟩
        rcases hi i h1 with h | rfl
        · rw [hno i h] at h2; cases h2
        · exact .inl rfl
      | false =>
        rw [if_neg (by simp)]
        refine ⟨fun h => by simp at h, fun _ i h1 => ?_⟩
        rcases hi i h1 with h | rfl
        · exact hno i h
        · exact hg
    | true =>
      obtain ⟨⟨i0, h0, e0⟩, hb, hmin⟩ := ih.yes rfl
      dsimp only at e0 hb hmin ⊢
      cases hs : shortB (bitsN j s.members.length) b with
      | false =>
        rw [if_pos (by simp)]
        refine ⟨fun _ => ⟨⟨i0, by omega, e0⟩, hb, fun i h1 h2 => ?_⟩, fun h => by simp at h⟩
        rcases hi i h1 with h | rfl
        · exact hmin i h h2
        · exact LexB.tot fun h => by rw [shortB_iff.2 h] at hs; cases hs
      | true =>
        rw [if_neg (by simp)]
        have hlt := shortB_iff.1 hs
        cases hg : goodM s (bitsN j s.members.length) with
        | true =>
          rw [if_pos rfl]
          refine ⟨fun _ => ⟨⟨j, by omega, rfl⟩, hg, fun i h1 h2 => ?_⟩, fun h => by simp at h⟩
          rcases hi i h1 with h | rfl
          · rcases hmin i h h2 with h3 | h3
            · exact .inr (by dsimp only; rw [h3]; exact hlt)
            · exact .inr (hlt.trans h3)
          · exact .inl rfl
        | false =>
          rw [if_neg (by simp)]
          refine ⟨fun _ => ⟨⟨i0, by omega, e0⟩, hb, fun i h1 h2 => ?_⟩, fun h => by simp at h⟩
          rcases hi i h1 with h | rfl
          · exact hmin i h h2
          · rw [hg] at h2; cases h2
theorem bitsN_allC {o n : Nat} : bitsN o n ∈ allC n := allC_mem.2 ⟨bitsN_sorted _ _, fun x hx => by
  obtain ⟨i, h1, _, rfl⟩ := mem_bitsN.1 hx; omega⟩
theorem refM_missed {s : Soc} (h : fault s = 0) : (refM s (2 ^ s.members.length) = ((missedR s).1, true) ∧ (missedR s).2 = 0) ∨ ((refM s (2 ^ s.members.length)).2 = false ∧ missedR s = ([], 7)) := by
  have hb := refM_best s (2 ^ s.members.length)
  rw [missedR_ok h]
  cases hf : (allC s.members.length).find? (goodM s) with
  | some t =>
    left
    obtain ⟨h1, h2, h3⟩ := find_first (allC_sorted s.members.length) hf
    obtain ⟨o, ho, rfl⟩ := bits_of_list (allC_mem.1 h2).1 (allC_mem.1 h2).2
    have hfd : (refM s (2 ^ s.members.length)).2 = true := by
      cases h : (refM s (2 ^ s.members.length)).2
      · rw [hb.no h o ho] at h1; cases h1
      · rfl
    obtain ⟨⟨i, hi, ei⟩, hg, hmin⟩ := hb.yes hfd
    have e : (refM s (2 ^ s.members.length)).1 = bitsN o s.members.length := by
      rcases hmin o ho h1 with h4 | h4
      · exact h4.symm
      · rcases h3 _ (by rw [ei]; exact bitsN_allC) hg with h5 | h5
        · exact h5
        · exact absurd (h4.trans h5) LexB.irr
    exact ⟨by rw [← e, ← hfd], rfl⟩
  | none =>
    right
    refine ⟨?_, rfl⟩
    cases h : (refM s (2 ^ s.members.length)).2
    · rfl
    · obtain ⟨⟨i, hi, ei⟩, hg, _⟩ := hb.yes h
      rw [List.find?_eq_none] at hf
      exact absurd hg (hf _ (by rw [ei]; exact bitsN_allC))

theorem c48 (a b : List Int) (h1 : a.length ≤ 1000000) (h2 : b.length ≤ 1000000) : PF Try.prog 48 [.sl 1 (ints a), .sl 1 (ints b)] (· = .bool (shortB a b)) := by
  have ha := ints_len a
  have hb := ints_len b
  have d := c66 a b h1 h2
  unfold shortB
  refine PF.of (TF.ev fn_48 (Ev.at ?_))
  (repeat' (first | (refine Ev.go ?_; conv => whnf) | refine And.intro ?_ ?_ | exact True.intro | exact rfl | (intro rx hrx; rw [IntWalk.i64_in _ (by omega)] at hrx) | (intro hcx; exfalso; omega) | intro _))
  all_goals (try (exfalso; omega))
  · show SV.bool _ = SV.bool _
    rw [decide_eq_true (by omega)]; rfl
  · refine TSq.pureC d cl rfl (And.intro rfl rfl) ?_
    (repeat' (first | (refine Ev.go ?_; conv => whnf) | refine And.intro ?_ ?_ | exact True.intro | exact rfl | (intro rx hrx; rw [IntWalk.i64_in _ (by omega)] at hrx) | (intro hcx; exfalso; omega) | intro _))
    show SV.bool _ = SV.bool _
    rw [decide_eq_false (by omega), decide_eq_true (by omega)]; rfl
  · show SV.bool _ = SV.bool _
    rw [decide_eq_false (by omega), decide_eq_false (by omega)]; rfl
set_option maxHeartbeats 4000000 in
set_option maxRecDepth 100000 in
theorem c24 (s : Soc) (hf : fault s = 0) : PF Try.prog 24 [encSoc s] fun v => ∃ r : Int, v = .int .i64 r ∧ ((∃ k : Nat, r = k ∧ k ≤ 10000 ∧ (needsOf s).hi ≤ brF s.members k s.members.length ∧ ∀ j : Nat, j < k → brF s.members j s.members.length < (needsOf s).hi) ∨ (r = -1 ∧ ∀ j : Nat, j ≤ 10000 → brF s.members j s.members.length < (needsOf s).hi)) := by
  obtain ⟨hm, hr, ht, hs, _⟩ := fault_ok hf
  have hl5 := (fault_len hf).1
  have d34 := c34 s hf
  refine PF.of (TF.ev fn_24 (Ev.at ?_))
  (repeat' (first | (refine Ev.go ?_; conv => whnf) | refine And.intro ?_ ?_ | exact True.intro | exact rfl | (intro rx hrx; rw [IntWalk.i64_in _ (by omega)] at hrx) | (intro hcx; exfalso; omega) | intro _))
  all_goals (first | (refine ⟨?_⟩; exact vc) | exact cl | skip)
  refine TWq.loop (fun k : Nat => [(3, .int .i64 k)]) (fun _ => []) (fun k => k ≤ 10001 ∧ ∀ j : Nat, j < k → brF s.members j s.members.length < (needsOf s).hi) (fun k => 10001 - k) 0 [] [] ?_ ⟨by omega, by omega⟩ ?_
  · (repeat' (first | (refine Ev.go ?_; conv => whnf) | refine And.intro ?_ ?_ | exact True.intro | exact rfl | (intro rx hrx; rw [IntWalk.i64_in _ (by omega)] at hrx) | (intro hcx; exfalso; omega) | intro _))
    all_goals (first | (refine ⟨?_⟩; exact vc) | exact cl | skip)
  · rintro k ⟨hk, hno⟩
    (repeat' (first | (refine Ev.go ?_; conv => whnf) | refine And.intro ?_ ?_ | exact True.intro | exact rfl | (intro rx hrx; rw [IntWalk.i64_in _ (by omega)] at hrx) | (intro hcx; exfalso; omega) | intro _))
    · refine TDq.pureC (c39 s k hm hl5 (by omega)) cl rfl (And.intro rfl rfl) ?_
      (repeat' (first | (refine Ev.go ?_; conv => whnf) | refine And.intro ?_ ?_ | exact True.intro | exact rfl | (intro rx hrx; rw [IntWalk.i64_in _ (by omega)] at hrx) | (intro hcx; exfalso; omega) | intro _))
      refine TDq.pureC d34 cl rfl (And.intro rfl rfl) ?_
      (repeat' (first | (refine Ev.go ?_; conv => whnf) | refine And.intro ?_ ?_ | exact True.intro | exact rfl | (intro rx hrx; rw [IntWalk.i64_in _ (by omega)] at hrx) | (intro hcx; exfalso; omega) | intro _))
      all_goals (first | (refine ⟨?_⟩; exact vk) | exact cl | skip)
      · exact ⟨k, rfl, .inl ⟨k, rfl, by omega, by assumption, hno⟩⟩
      · refine ⟨⟨k + 1, ⟨by omega, fun j hj => ?_⟩, by omega, ?_⟩⟩
        · rcases Nat.lt_or_ge j k with h | h
          · exact hno j h
          · have : j = k := by omega
            subst this; omega
        · (repeat' (first | (refine Ev.go ?_; conv => whnf) | refine And.intro ?_ ?_ | exact True.intro | exact rfl | (intro rx hrx; rw [IntWalk.i64_in _ (by omega)] at hrx) | (intro hcx; exfalso; omega) | intro _))
          all_goals (first | (refine ⟨?_⟩; exact vc) | exact cl | skip)
    · exact ⟨-1, rfl, .inr ⟨rfl, fun j hj => hno j (by omega)⟩⟩
def SlB (l : List Int) (b : Bool) (s : SV) : Prop := ∃ x, s = .tup [x, .bool b] ∧ SlN l x
theorem SlB.pf {f : FuncId} {args : List SV} {l : List Int} {b : Bool} (h : PF Try.prog f args (SlB l b)) : PF Try.prog f args (· = .tup [.sl 1 (ints l), .bool b]) := by
  refine PF.res h fun s hs _ => ?_
  obtain ⟨x, rfl, hx⟩ := hs
  refine ⟨_, rfl, by simp [clo, cloL, ints_clo], ?_⟩
  rcases hx with rfl | ⟨rfl, rfl⟩
  · (repeat' (first | (refine Ev.go ?_; conv => whnf) | refine And.intro ?_ ?_ | exact True.intro | exact rfl | (intro rx hrx; rw [IntWalk.i64_in _ (by omega)] at hrx) | (intro hcx; exfalso; omega) | (intro hcx; exfalso; simp only [lz] at hcx; omega) | intro _))
    all_goals (first | (refine ⟨?_⟩; exact vc) | exact cl | skip)
  · (repeat' (first | (refine Ev.go ?_; conv => whnf) | refine And.intro ?_ ?_ | exact True.intro | exact rfl | (intro rx hrx; rw [IntWalk.i64_in _ (by omega)] at hrx) | (intro hcx; exfalso; omega) | (intro hcx; exfalso; simp only [lz] at hcx; omega) | intro _))
    all_goals (first | (refine ⟨?_⟩; exact vc) | exact cl | skip)
theorem ask_comp {ms : List Mem} {n j : Nat} (hn : n = ms.length) (hj : j < 2 ^ n) : (2 ^ n - 1) - j = valB (askF ms (bitsN j n)) n := by
  subst hn
  have h1 : 1 ≤ 2 ^ ms.length := Nat.one_le_two_pow
  have e := valB_split (f := askF ms []) (c := bitN j) (fun i hi => by
    rcases Nat.lt_or_ge i ms.length with h | h
    · simp [askF, h]
    · rw [bitN_high hj h] at hi; cases hi) ms.length
  rw [← bitN_all _ _ rfl, valB_bitN (by omega), valB_bitN hj] at e
  have e2 : valB (fun i => bitN (2 ^ ms.length - 1) i && !bitN j i) ms.length = valB (askF ms (bitsN j ms.length)) ms.length := valB_congr fun i hi => by
    rw [bitN_all _ _ rfl]
    simp only [askF, hi, bitsN_contains hi]; simp
  omega

set_option maxHeartbeats 8000000 in
set_option maxRecDepth 100000 in
theorem c25 (s : Soc) (hf : fault s = 0) : PF Try.prog 25 [encSoc s] (· = .tup [.sl 1 (ints (refM s (2 ^ s.members.length)).1), .bool (refM s (2 ^ s.members.length)).2]) := by
  have hl5 := (fault_len hf).1
  have hp5 : 2 ^ s.members.length ≤ 32 := Nat.pow_le_pow_right (n := 2) (by omega) hl5
  have hp1 : 1 ≤ 2 ^ s.members.length := Nat.one_le_two_pow
  have d32 := c32 s (by omega)
  have hcomp := fun j (hj : j < 2 ^ s.members.length) => ask_comp (ms := s.members) rfl hj
  have hbl := fun j (hj : j < 2 ^ s.members.length) => bitsN_more hj (10 - s.members.length)
  refine SlB.pf (PF.of (TF.ev fn_25 (Ev.at ?_)))
  (repeat' (first | (refine Ev.go ?_; conv => whnf) | refine And.intro ?_ ?_ | exact True.intro | exact rfl | (intro rx hrx; rw [IntWalk.i64_in _ (by omega)] at hrx) | (intro hcx; exfalso; omega) | intro _))
  all_goals (first | (refine ⟨?_⟩; exact vc) | exact cl | skip)
  refine TWq.loopP (fun p : Nat × List Int × Bool => [(6, .int .i64 p.1), (5, .bool p.2.2), (4, match p.2.2 with | false => .nils | true => .sl 1 (ints p.2.1))]) (fun _ => [])
    (fun p => p.1 ≤ 2 ^ s.members.length ∧ p.2 = refM s p.1 ∧ (p.2.2 = false → p.2.1 = []) ∧ p.2.1.length ≤ 10) (fun p => 2 ^ s.members.length - p.1) (0, [], false) [] ?_ ⟨by dsimp only; omega, rfl, fun _ => rfl, by simp⟩ ?_
  · (repeat' (first | (refine Ev.go ?_; conv => whnf) | refine And.intro ?_ ?_ | exact True.intro | exact rfl | (intro rx hrx; rw [IntWalk.i64_in _ (by omega)] at hrx) | (intro hcx; exfalso; omega) | intro _))
    all_goals (first | (refine ⟨?_⟩; exact vc) | exact cl | skip)
  · rintro ⟨j, b, f⟩ ⟨hj, hst, hf0, hbl10⟩
    dsimp only at hj hst hf0 hbl10 ⊢
    rcases Nat.lt_or_ge j (2 ^ s.members.length) with hjl | hjl
    · have d31 := c31 j (by omega)
      have h1 := hbl j hjl
      rw [show s.members.length + (10 - s.members.length) = 10 by omega] at h1
      rw [h1] at d31
      have d43 := c43 s (bitsN j s.members.length) hf
      have hc := hcomp j hjl
      rw [← hc] at d43
      have hstep : refM s (j + 1) = stepM s j (b, f) := by rw [refM, ← hst]
      have hbn := bitsN_len j s.members.length
      have d48 := c48 (bitsN j s.members.length) b (by omega) (by omega)
      have hgd : goodM s (bitsN j s.members.length) = decide (0 < (shortOf s (bitsN j s.members.length)).hi) := rfl
      unfold stepM at hstep
      rw [hgd] at hstep
      dsimp only at hstep
      generalize bitsN j s.members.length = l at *
      generalize shortOf s l = C at *
      generalize 2 ^ s.members.length = q at *
      cases f
      · simp only [Bool.false_and, Bool.false_eq_true, if_false, decide_eq_true_eq] at hstep
        (repeat' (first | (refine Ev.go ?_; conv => whnf) | refine And.intro ?_ ?_ | exact True.intro | exact rfl | (intro rx hrx; rw [IntWalk.i64_in _ (by omega)] at hrx) | (intro hcx; exfalso; omega) | intro _))
        refine TSq.pureC d32 cl rfl (And.intro rfl rfl) ?_
        (repeat' (first | (refine Ev.go ?_; conv => whnf) | refine And.intro ?_ ?_ | exact True.intro | exact rfl | (intro rx hrx; rw [IntWalk.i64_in _ (by omega)] at hrx) | (intro hcx; exfalso; omega) | intro _))
        all_goals (try (exfalso; omega))
        refine TSq.pureC d31 cl rfl (And.intro rfl rfl) ?_
        (repeat' (first | (refine Ev.go ?_; conv => whnf) | refine And.intro ?_ ?_ | exact True.intro | exact rfl | (intro rx hrx; rw [IntWalk.i64_in _ (by omega)] at hrx) | (intro hcx; exfalso; omega) | intro _))
        refine TDq.pureC d32 cl rfl (And.intro rfl rfl) ?_
        (repeat' (first | (refine Ev.go ?_; conv => whnf) | refine And.intro ?_ ?_ | exact True.intro | exact rfl | (intro rx hrx; rw [IntWalk.i64_in _ (by omega)] at hrx) | (intro hcx; exfalso; omega) | intro _))
        obtain rfl : rx = ((q - 1 - j : Nat) : Int) := by omega
        refine TDq.pureC d43 cl rfl (And.intro rfl rfl) ?_
        (repeat' (first | (refine Ev.go ?_; conv => whnf) | refine And.intro ?_ ?_ | exact True.intro | exact rfl | (intro rx hrx; rw [IntWalk.i64_in _ (by omega)] at hrx) | (intro hcx; exfalso; omega) | intro _))
        all_goals (first | (refine ⟨?_⟩; exact vk) | exact cl | skip)
        · rw [if_pos (by assumption)] at hstep
          refine ⟨⟨[], (j + 1, l, true), ⟨by dsimp only; omega, hstep.symm, fun h => by simp at h, by dsimp only; omega⟩, by dsimp only; omega, ?_⟩⟩
          (repeat' (first | (refine Ev.go ?_; conv => whnf) | refine And.intro ?_ ?_ | exact True.intro | exact rfl | (intro rx hrx; rw [IntWalk.i64_in _ (by omega)] at hrx) | (intro hcx; exfalso; omega) | intro _))
          all_goals (first | (refine ⟨?_⟩; exact vc) | exact cl | skip)
        · rw [if_neg (by omega)] at hstep
          refine ⟨⟨[], (j + 1, b, false), ⟨by dsimp only; omega, hstep.symm, hf0, hbl10⟩, by dsimp only; omega, ?_⟩⟩
          (repeat' (first | (refine Ev.go ?_; conv => whnf) | refine And.intro ?_ ?_ | exact True.intro | exact rfl | (intro rx hrx; rw [IntWalk.i64_in _ (by omega)] at hrx) | (intro hcx; exfalso; omega) | intro _))
          all_goals (first | (refine ⟨?_⟩; exact vc) | exact cl | skip)
      · cases hs : shortB l b
        · rw [hs] at d48 hstep
          simp only [Bool.not_false, Bool.and_self, if_true] at hstep
          (repeat' (first | (refine Ev.go ?_; conv => whnf) | refine And.intro ?_ ?_ | exact True.intro | exact rfl | (intro rx hrx; rw [IntWalk.i64_in _ (by omega)] at hrx) | (intro hcx; exfalso; omega) | intro _))
          refine TSq.pureC d32 cl rfl (And.intro rfl rfl) ?_
          (repeat' (first | (refine Ev.go ?_; conv => whnf) | refine And.intro ?_ ?_ | exact True.intro | exact rfl | (intro rx hrx; rw [IntWalk.i64_in _ (by omega)] at hrx) | (intro hcx; exfalso; omega) | intro _))
          all_goals (try (exfalso; omega))
          refine TSq.pureC d31 cl rfl (And.intro rfl rfl) ?_
          (repeat' (first | (refine Ev.go ?_; conv => whnf) | refine And.intro ?_ ?_ | exact True.intro | exact rfl | (intro rx hrx; rw [IntWalk.i64_in _ (by omega)] at hrx) | (intro hcx; exfalso; omega) | intro _))
          refine TSq.pureC d48 cl rfl (And.intro rfl rfl) ?_
          (repeat' (first | (refine Ev.go ?_; conv => whnf) | refine And.intro ?_ ?_ | exact True.intro | exact rfl | (intro rx hrx; rw [IntWalk.i64_in _ (by omega)] at hrx) | (intro hcx; exfalso; omega) | intro _))
          all_goals (first | (refine ⟨?_⟩; exact vc) | exact cl | skip)
          refine ⟨⟨[], (j + 1, b, true), ⟨by dsimp only; omega, hstep.symm, hf0, hbl10⟩, by dsimp only; omega, ?_⟩⟩
          (repeat' (first | (refine Ev.go ?_; conv => whnf) | refine And.intro ?_ ?_ | exact True.intro | exact rfl | (intro rx hrx; rw [IntWalk.i64_in _ (by omega)] at hrx) | (intro hcx; exfalso; omega) | intro _))
          all_goals (first | (refine ⟨?_⟩; exact vc) | exact cl | skip)
        · rw [hs] at d48 hstep
          simp only [Bool.not_true, Bool.and_false, Bool.false_eq_true, if_false, decide_eq_true_eq] at hstep
          (repeat' (first | (refine Ev.go ?_; conv => whnf) | refine And.intro ?_ ?_ | exact True.intro | exact rfl | (intro rx hrx; rw [IntWalk.i64_in _ (by omega)] at hrx) | (intro hcx; exfalso; omega) | intro _))
          refine TSq.pureC d32 cl rfl (And.intro rfl rfl) ?_
          (repeat' (first | (refine Ev.go ?_; conv => whnf) | refine And.intro ?_ ?_ | exact True.intro | exact rfl | (intro rx hrx; rw [IntWalk.i64_in _ (by omega)] at hrx) | (intro hcx; exfalso; omega) | intro _))
          all_goals (try (exfalso; omega))
          refine TSq.pureC d31 cl rfl (And.intro rfl rfl) ?_
          (repeat' (first | (refine Ev.go ?_; conv => whnf) | refine And.intro ?_ ?_ | exact True.intro | exact rfl | (intro rx hrx; rw [IntWalk.i64_in _ (by omega)] at hrx) | (intro hcx; exfalso; omega) | intro _))
          refine TSq.pureC d48 cl rfl (And.intro rfl rfl) ?_
          (repeat' (first | (refine Ev.go ?_; conv => whnf) | refine And.intro ?_ ?_ | exact True.intro | exact rfl | (intro rx hrx; rw [IntWalk.i64_in _ (by omega)] at hrx) | (intro hcx; exfalso; omega) | intro _))
          refine TDq.pureC d32 cl rfl (And.intro rfl rfl) ?_
          (repeat' (first | (refine Ev.go ?_; conv => whnf) | refine And.intro ?_ ?_ | exact True.intro | exact rfl | (intro rx hrx; rw [IntWalk.i64_in _ (by omega)] at hrx) | (intro hcx; exfalso; omega) | intro _))
          obtain rfl : rx = ((q - 1 - j : Nat) : Int) := by omega
          refine TDq.pureC d43 cl rfl (And.intro rfl rfl) ?_
          (repeat' (first | (refine Ev.go ?_; conv => whnf) | refine And.intro ?_ ?_ | exact True.intro | exact rfl | (intro rx hrx; rw [IntWalk.i64_in _ (by omega)] at hrx) | (intro hcx; exfalso; omega) | intro _))
          all_goals (first | (refine ⟨?_⟩; exact vk) | exact cl | skip)
          · rw [if_pos (by assumption)] at hstep
            refine ⟨⟨[], (j + 1, l, true), ⟨by dsimp only; omega, hstep.symm, fun h => by simp at h, by dsimp only; omega⟩, by dsimp only; omega, ?_⟩⟩
            (repeat' (first | (refine Ev.go ?_; conv => whnf) | refine And.intro ?_ ?_ | exact True.intro | exact rfl | (intro rx hrx; rw [IntWalk.i64_in _ (by omega)] at hrx) | (intro hcx; exfalso; omega) | intro _))
            all_goals (first | (refine ⟨?_⟩; exact vc) | exact cl | skip)
          · rw [if_neg (by omega)] at hstep
            refine ⟨⟨[], (j + 1, b, true), ⟨by dsimp only; omega, hstep.symm, fun h => by simp at h, hbl10⟩, by dsimp only; omega, ?_⟩⟩
            (repeat' (first | (refine Ev.go ?_; conv => whnf) | refine And.intro ?_ ?_ | exact True.intro | exact rfl | (intro rx hrx; rw [IntWalk.i64_in _ (by omega)] at hrx) | (intro hcx; exfalso; omega) | intro _))
            all_goals (first | (refine ⟨?_⟩; exact vc) | exact cl | skip)
    · have hje : j = 2 ^ s.members.length := by omega
      rw [hje] at hst
      rw [← hst]
      subst hje
      generalize 2 ^ s.members.length = q at *
      cases f
      all_goals
        (repeat' (first | (refine Ev.go ?_; conv => whnf) | refine And.intro ?_ ?_ | exact True.intro | exact rfl | (intro rx hrx; rw [IntWalk.i64_in _ (by omega)] at hrx) | (intro hcx; exfalso; omega) | intro _))
        refine TSq.pureC d32 cl rfl (And.intro rfl rfl) ?_
        (repeat' (first | (refine Ev.go ?_; conv => whnf) | refine And.intro ?_ ?_ | exact True.intro | exact rfl | (intro rx hrx; rw [IntWalk.i64_in _ (by omega)] at hrx) | (intro hcx; exfalso; omega) | intro _))
        all_goals (try (exfalso; omega))
        all_goals (first | (refine ⟨?_⟩; exact vc) | exact cl | skip)
        all_goals (first | exact ⟨_, rfl, .inl rfl⟩ | exact ⟨_, rfl, .inr ⟨hf0 rfl, rfl⟩⟩)
end Go.Proofs.Ythnaamkempmjkaa
