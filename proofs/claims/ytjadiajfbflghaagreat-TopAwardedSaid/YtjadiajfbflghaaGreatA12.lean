/- Cases: all sums. Cases: the bounds of the award. Who is asked; the calls. The calls for a need. The calls for a need: the walk. The calls for a need, from outside; needs; what a rate brings. -/
import Derived.Test.YtjadiajfbflghaaGreatA11
import Derived.Test.YtjadiajfbflghaaGreatA10
set_option linter.unusedSimpArgs false
set_option linter.unusedVariables false
set_option linter.unusedSimpArgs false
set_option linter.unusedVariables false
open Go Go.TV
namespace Go.Proofs.YtjadiajfbflghaaGreat
theorem TF.cutX {P : Program} {α : Type} {pr : α → Prop} {h0 : α → List LB} {R : α → SV → Prop} {f : FuncId} {args : List SV} {h : List LB} (hT : TF P f args h fun s h' => Vc (∃ x, pr x ∧ Ev (fitS h.length [] ⟨[s], h', []⟩ ⟨[s], h0 x, []⟩) ∧ R x s)) : TF P f args h (fun s h' => ∃ x, pr x ∧ h' = h0 x ∧ R x s) := by
  refine ⟨hT.ok, fun hm g w vals h1 h2 h3 h4 h5 => (hT.run hm g w vals h1 h2 h3 h4 h5).mono ?_⟩
  rintro _ w' ⟨v, s, h', g', rfl, q, k1, k2, k3, k4, k5⟩
  obtain ⟨x, q0, q1, q2⟩ := q.h
  have hno : g'.hid = none := k5.hid.trans h1
  obtain ⟨g2, s2, e2⟩ := Wk.fit (P := P) [] q1.at g' ⟨#[v], []⟩ w' ⟨k1, k2, by simp only [Gh.denL, denL]; exact ⟨v, [], rfl, k3, rfl⟩, k4, by simp [dfden]⟩
  have d2 := s2.tm
  simp only [Gh.denL, denL] at d2
  obtain ⟨u, us, e, d2, _⟩ := d2
  have : u = v := by simpa using (List.cons.inj e).1.symm
  subst this
  exact ⟨u, s, h0 x, g2, rfl, ⟨x, q0, rfl, q2⟩, s2.ok, s2.lt, d2, s2.hp, ((k5.exw h.length).trans e2).ext h3 h1⟩
def encK (K : List Sm) : List (SV × SV) := K.map fun s => (encSm s, .bool true)
def shSum : TShape := .st [(0, 1, false, .int .i64), (1, 4, true, .arr 4 1 false (.int .i64))]
theorem shSm (s : Sm) : shOK shSum (encSm s) := by simp [shSum, encSm, shOK, shF, partK, getK, lenIs, dropK, takeK, andN]
theorem shK (K : List Sm) : ∀ e ∈ encK K, shOK shSum e.1 := by
  intro e he
  obtain ⟨x, _, rfl⟩ := List.mem_map.1 he
  exact shSm _
theorem encK_clo (K : List Sm) : cloM (encK K) := by
  intro e he
  obtain ⟨x, _, rfl⟩ := List.mem_map.1 he
  simp [encSm, clo, cloL]
theorem encSm_inj {x y : Sm} (h : encSm x = encSm y) : x = y := by
  obtain ⟨a1, a2, a3, a4, a5⟩ := x
  obtain ⟨b1, b2, b3, b4, b5⟩ := y
  simp only [encSm, SV.agg.injEq, List.cons.injEq, SV.int.injEq, true_and, and_true] at h
  simp_all
theorem encK_nodup {K : List Sm} (h : K.Nodup) : ((encK K).map (·.1)).Nodup := by
  have e : (encK K).map (·.1) = K.map encSm := by simp [encK]
  rw [e]
  exact List.Pairwise.map _ (fun a b hab e => hab (encSm_inj e)) h
theorem encK_split {K : List Sm} {pre post : List (SV × SV)} {k v : SV} (h : encK K = pre ++ (k, v) :: post) : ∃ a x b, K = a ++ x :: b ∧ pre = encK a ∧ k = encSm x ∧ v = .bool true ∧ post = encK b := by
  obtain ⟨a, c, rfl, rfl, h2⟩ := List.map_eq_append_iff.1 h
  obtain ⟨x, b, rfl, h3, rfl⟩ := List.map_eq_cons_iff.1 h2
  cases h3
  exact ⟨a, x, b, rfl, rfl, rfl, rfl, rfl⟩
def reachS : List (List (Int × Int)) → Sm → List Sm
  | [], s => [s]
  | m :: ms, s => m.flatMap fun o => reachS ms (s.plus o)
def OkOuts (outs : List (List (Int × Int))) : Prop := outs.length ≤ 3 ∧ ∀ m ∈ outs, ∀ o ∈ m, (0 ≤ o.1 ∧ o.1 ≤ 100000) ∧ 0 ≤ o.2 ∧ o.2 ≤ 3
def SumQ (outs : List (List (Int × Int))) (i : Nat) (s : Sm) (K0 K : List Sm) : Prop := K.Nodup ∧ ∀ x, x ∈ K ↔ x ∈ K0 ∨ x ∈ reachS (outs.drop i) s
def sumB (c : Cas) (outs : List (List (Int × Int))) (K : List Sm) : List LB := [.cells [encWk c outs], .map (encK K), .cells [.mp 1], .cells [.fn 184 [] [.ptr 0 0, .ptr 2 0, .ptr 3 0]]]
set_option maxRecDepth 100000 in
set_option maxHeartbeats 8000000 in
theorem t184 (c : Cas) (outs : List (List (Int × Int))) (hO : OkOuts outs) : ∀ (n i : Nat) (s : Sm) (K0 : List Sm), i + n = outs.length → OkS i s → K0.Nodup →
    TF Tryz.prog 184 [encSm s, .int .i64 i, .ptr 0 0, .ptr 2 0, .ptr 3 0] (sumB c outs K0) (fun r h' => ∃ K, SumQ outs i s K0 K ∧ h' = sumB c outs K ∧ r = .tup []) := by
  intro n
  induction n with
  | zero =>
    intro i s K0 hi hs hK
    have hfew := hO.1
    have hz := encOuts_len outs
    refine TF.cutX (TF.ev fn_184 (Ev.at ?_))
    unfold sumB
    have hR : ∀ x, x ∈ reachS (outs.drop i) s ↔ x = s := fun x => by
      rw [List.drop_eq_nil_of_le (by omega)]; simp [reachS]
    simp only [SumQ, hR]
    clear hR
    rcases outs with _ | ⟨b, l⟩
    all_goals
      simp only [List.length_cons, List.length_nil] at hi
      (repeat' (first | (intro ex hex; have hq := hg1 (by omega) hex; subst hq; clear hex) | (refine Ev.go ?_; conv => whnf) | refine And.intro ?_ ?_ | exact True.intro | exact rfl | (intro rx hrx; rw [ij _ (by omega)] at hrx) | (intro hcx; exfalso; omega) | intro _))
      all_goals (first | (refine ⟨?_⟩; exact vc) | exact cl | skip)
      all_goals (try (exfalso; simp only [encOuts_len, List.length_cons] at *; omega))
      all_goals (first | exact ⟨shSm _⟩ | exact ⟨shK _⟩ | skip)
      refine upd_cases (encK_nodup hK) ?_ ?_
      · intro pre v0 post he
        obtain ⟨a', x', b', hk', rfl, hx', rfl, rfl⟩ := encK_split he
        have hx' : s = x' := encSm_inj hx'
        (repeat' (first | (intro ex hex; have hq := hg1 (by omega) hex; subst hq; clear hex) | (refine Ev.go ?_; conv => whnf) | refine And.intro ?_ ?_ | exact True.intro | exact rfl | (intro rx hrx; rw [ij _ (by omega)] at hrx) | (intro hcx; exfalso; omega) | intro _))
        all_goals (first | (refine ⟨?_⟩; exact vc) | exact cl | skip)
        refine ⟨⟨K0, ⟨hK, fun x => ⟨.inl, ?_⟩⟩, ?_, rfl⟩⟩
        · rintro (h1 | rfl)
          · exact h1
          · rw [hk', hx']; simp
        · (repeat' (first | (intro ex hex; have hq := hg1 (by omega) hex; subst hq; clear hex) | (refine Ev.go ?_; conv => whnf) | refine And.intro ?_ ?_ | exact True.intro | exact rfl | (intro rx hrx; rw [ij _ (by omega)] at hrx) | (intro hcx; exfalso; omega) | intro _))
          all_goals (first | (refine ⟨?_⟩; exact vc) | exact cl | skip)
          all_goals (try (refine ⟨?_⟩; exact encK_clo _))
          all_goals (try (refine ⟨?_⟩; rw [hk']; simp only [encK, List.map_append, List.map_cons, ← hx']; rfl))
      · intro hno
        have hno' : ¬ s ∈ K0 := fun hm => hno _ (List.mem_map.2 ⟨_, hm, rfl⟩) rfl
        (repeat' (first | (intro ex hex; have hq := hg1 (by omega) hex; subst hq; clear hex) | (refine Ev.go ?_; conv => whnf) | refine And.intro ?_ ?_ | exact True.intro | exact rfl | (intro rx hrx; rw [ij _ (by omega)] at hrx) | (intro hcx; exfalso; omega) | intro _))
        all_goals (first | (refine ⟨?_⟩; exact vc) | exact cl | skip)
        refine ⟨⟨K0 ++ [s], ⟨?_, fun x => by simp⟩, ?_, rfl⟩⟩
        · rw [List.nodup_append]
          exact ⟨hK, by simp, fun p hp q hq e => by simp at hq; subst hq; subst e; exact hno' hp⟩
        · (repeat' (first | (intro ex hex; have hq := hg1 (by omega) hex; subst hq; clear hex) | (refine Ev.go ?_; conv => whnf) | refine And.intro ?_ ?_ | exact True.intro | exact rfl | (intro rx hrx; rw [ij _ (by omega)] at hrx) | (intro hcx; exfalso; omega) | intro _))
          all_goals (first | (refine ⟨?_⟩; exact vc) | exact cl | skip)
          all_goals (try (refine ⟨?_⟩; exact encK_clo _))
          all_goals (try (refine ⟨?_⟩; simp only [encK, List.map_append, List.map_cons, List.map_nil]; rfl))
  | succ n ih =>
    intro i s K0 hi hs hK
    have hfew := hO.1
    have hz := encOuts_len outs
    obtain ⟨m, hm⟩ : ∃ v, outs[i]? = some v := ⟨_, List.getElem?_eq_getElem (by omega)⟩
    have hmo := hO.2 m (List.mem_of_getElem? hm)
    have hR : ∀ x, x ∈ reachS (outs.drop i) s ↔ ∃ o ∈ m, x ∈ reachS (outs.drop (i + 1)) (s.plus o) := fun x => by
      have : outs.drop i = m :: outs.drop (i + 1) := by
        rw [List.drop_eq_getElem_cons (by omega)]
        congr 1
        exact (List.getElem?_eq_some_iff.1 hm).2
      rw [this, reachS, List.mem_flatMap]
    have hg1 : ∀ {k : Nat} {e : SV}, k = i → (encOuts outs)[k]? = some e → e = .imap (encOM m) := by
      rintro k e rfl he
      obtain ⟨y, hy, rfl⟩ := map_at he
      rw [hm] at hy; cases hy; rfl
    obtain ⟨s1, s2, s3, s4, s5⟩ := hs
    have hs' : OkS i s := ⟨s1, s2, s3, s4, s5⟩
    refine TF.cutX (TF.ev fn_184 (Ev.at ?_))
    unfold sumB
    rcases outs with _ | ⟨b, l⟩
    · simp at hm
    · (repeat' (first | (intro ex hex; have hq := hg1 (by omega) hex; subst hq; clear hex) | (refine Ev.go ?_; conv => whnf) | refine And.intro ?_ ?_ | exact True.intro | exact rfl | (intro rx hrx; rw [ij _ (by omega)] at hrx) | (intro hcx; exfalso; omega) | intro _))
      all_goals (first | (refine ⟨?_⟩; exact vc) | exact cl | skip)
      refine TWq.loop (fun _ : List (Int × Int) × List (Int × Int) × List Sm => []) (fun p => [(1, .map (encK p.2.2)), (5, .iter (.imap (encOM m)) (encOM p.1) none)])
        (fun p => (∀ o, o ∈ m ↔ o ∈ p.2.1 ∨ o ∈ p.1) ∧ p.2.2.Nodup ∧ ∀ x, x ∈ p.2.2 ↔ x ∈ K0 ∨ ∃ o ∈ p.2.1, x ∈ reachS ((b :: l).drop (i + 1)) (s.plus o)) (fun p => p.1.length) (m, [], K0) [] [] ?_ ⟨by simp, hK, by simp⟩ ?_
      · (repeat' (first | (intro ex hex; have hq := hg1 (by omega) hex; subst hq; clear hex) | (refine Ev.go ?_; conv => whnf) | refine And.intro ?_ ?_ | exact True.intro | exact rfl | (intro rx hrx; rw [ij _ (by omega)] at hrx) | (intro hcx; exfalso; omega) | intro _))
        all_goals (first | (refine ⟨?_⟩; exact vc) | exact cl | skip)
        all_goals (try (refine ⟨?_⟩; first | exact encK_clo _ | exact encOM_clo _))
      · rintro ⟨left, done, K⟩ ⟨q1, q2, q3⟩
        dsimp only at q1 q2 q3 ⊢
        (repeat' (first | (intro ex hex; have hq := hg1 (by omega) hex; subst hq; clear hex) | (refine Ev.go ?_; conv => whnf) | refine And.intro ?_ ?_ | exact True.intro | exact rfl | (intro rx hrx; rw [ij _ (by omega)] at hrx) | (intro hcx; exfalso; omega) | intro _))
        refine TSq.next rfl rfl rfl rfl ?_ ?_
        · intro hleft
          have hleft : left = [] := List.map_eq_nil_iff.1 hleft
          subst hleft
          (repeat' (first | (intro ex hex; have hq := hg1 (by omega) hex; subst hq; clear hex) | (refine Ev.go ?_; conv => whnf) | refine And.intro ?_ ?_ | exact True.intro | exact rfl | (intro rx hrx; rw [ij _ (by omega)] at hrx) | (intro hcx; exfalso; omega) | intro _))
          all_goals (first | (refine ⟨?_⟩; exact vc) | exact cl | skip)
          refine ⟨⟨K, ⟨q2, fun x => by rw [q3, hR]; simp only [q1]; simp⟩, ?_, rfl⟩⟩
          (repeat' (first | (intro ex hex; have hq := hg1 (by omega) hex; subst hq; clear hex) | (refine Ev.go ?_; conv => whnf) | refine And.intro ?_ ?_ | exact True.intro | exact rfl | (intro rx hrx; rw [ij _ (by omega)] at hrx) | (intro hcx; exfalso; omega) | intro _))
          all_goals (first | (refine ⟨?_⟩; exact vc) | exact cl | skip)
          all_goals (try (refine ⟨?_⟩; exact encK_clo _))
        · intro pre sk sv post he
          obtain ⟨la, o, lb, hl, rfl, rfl, rfl, rfl⟩ := encOM_split he
          obtain ⟨o1, o2⟩ := hmo o ((q1 o).2 (.inr (by rw [hl]; simp)))
          have d1 := c61 s o (by omega) (by omega) (by omega) o2
          have d2 := (ih (i + 1) (s.plus o) K (by omega) (hs'.plus o1) q2).mono (Q' := fun r h' => ∃ K', SumQ (b :: l) (i + 1) (s.plus o) K K' ∧ r = .tup [] ∧ h' = sumB c (b :: l) K') fun _ _ ⟨K', p1, p2, p3⟩ => ⟨K', p1, p3, p2⟩
          (repeat' (first | (intro ex hex; have hq := hg1 (by omega) hex; subst hq; clear hex) | (refine Ev.go ?_; conv => whnf) | refine And.intro ?_ ?_ | exact True.intro | exact rfl | (intro rx hrx; rw [ij _ (by omega)] at hrx) | (intro hcx; exfalso; omega) | intro _))
          all_goals (first | (refine ⟨?_⟩; exact vc) | exact cl | skip)
          refine TDq.pureC d1 (by simp [cloL, clo, encSm]) rfl (And.intro rfl rfl) ?_
          (repeat' (first | (intro ex hex; have hq := hg1 (by omega) hex; subst hq; clear hex) | (refine Ev.go ?_; conv => whnf) | refine And.intro ?_ ?_ | exact True.intro | exact rfl | (intro rx hrx; rw [ij _ (by omega)] at hrx) | (intro hcx; exfalso; omega) | intro _))
          all_goals (first | (refine ⟨?_⟩; exact vk) | exact cl | skip)
          obtain rfl : rx = ((i + 1 : Nat) : Int) := by push_cast; omega
          refine TDq.last rfl rfl (by kernel_rfl) (by kernel_rfl) ?_
          refine TSq.callX (α := List Sm) (SumQ (b :: l) (i + 1) (s.plus o) K) [0, 1, 2, 3] (fun K' => [(0, .cells [encWk c (b :: l)]), (1, .map (encK K')), (2, .cells [.mp 1]), (3, .cells [.fn 184 [] [.ptr 0 0, .ptr 2 0, .ptr 3 0]])]) (s1 := fun _ => .tup []) (s' := fun _ => .tup []) (h1 := sumB c (b :: l)) d2 rfl rfl (And.intro rfl rfl) rfl (by decide) (allLt_iff rfl) rfl
            (fun a ha => by match a, ha with | 0, _ => exact ⟨rfl, rfl⟩ | 1, _ => exact ⟨rfl, congrArg LB.map (cloM_ren _ (encK_clo K)).symm⟩ | 2, _ => exact ⟨rfl, rfl⟩ | 3, _ => exact ⟨rfl, rfl⟩) rfl rfl (fun _ _ => Nat.le_refl _) (fun _ _ => rfl)
            (fun K' _ a ha => by match a, ha with | 0, _ => exact ⟨rfl, rfl⟩ | 1, _ => exact ⟨rfl, congrArg (fun e => some (1, LB.map e)) (cloM_ren _ (encK_clo K')).symm⟩ | 2, _ => exact ⟨rfl, rfl⟩ | 3, _ => exact ⟨rfl, rfl⟩) (fun _ _ => rfl) ?_
          rintro K' ⟨p1, p2⟩
          (repeat' (first | (intro ex hex; have hq := hg1 (by omega) hex; subst hq; clear hex) | (refine Ev.go ?_; conv => whnf) | refine And.intro ?_ ?_ | exact True.intro | exact rfl | (intro rx hrx; rw [ij _ (by omega)] at hrx) | (intro hcx; exfalso; omega) | intro _))
          all_goals (first | (refine ⟨?_⟩; exact vk) | exact cl | skip)
          refine ⟨⟨(la ++ lb, done ++ [o], K'), ⟨fun o' => ?_, p1, fun x => ?_⟩, ?_, ?_⟩⟩
          · rw [q1, hl]
            simp only [List.mem_append, List.mem_cons, List.mem_singleton, List.not_mem_nil, or_false]
            constructor
            · rintro (h1 | h1 | h1 | h1)
              · exact .inl (.inl h1)
              · exact .inr (.inl h1)
              · exact .inl (.inr h1)
              · exact .inr (.inr h1)
            · rintro ((h1 | h1) | h1 | h1)
              · exact .inl h1
              · exact .inr (.inr (.inl h1))
              · exact .inr (.inl h1)
              · exact .inr (.inr (.inr h1))
          · rw [p2, q3]
            constructor
            · rintro ((h1 | ⟨o', h1, h2⟩) | h1)
              · exact .inl h1
              · exact .inr ⟨o', List.mem_append_left _ h1, h2⟩
              · exact .inr ⟨o, by simp, h1⟩
            · rintro (h1 | ⟨o', h1, h2⟩)
              · exact .inl (.inl h1)
              · rcases List.mem_append.1 h1 with h3 | h3
                · exact .inl (.inr ⟨o', h3, h2⟩)
                · simp at h3; subst h3; exact .inr h2
          · rw [hl]; simp
          · (repeat' (first | (intro ex hex; have hq := hg1 (by omega) hex; subst hq; clear hex) | (refine Ev.go ?_; conv => whnf) | refine And.intro ?_ ?_ | exact True.intro | exact rfl | (intro rx hrx; rw [ij _ (by omega)] at hrx) | (intro hcx; exfalso; omega) | intro _))
            all_goals (first | (refine ⟨?_⟩; exact vc) | exact cl | skip)
            all_goals (try (refine ⟨?_⟩; first | exact encK_clo _ | exact encOM_clo _ | (intro e he; exact (List.mem_append.1 he).elim (encOM_clo _ e) (encOM_clo _ e)) | (simp [encOM]; done)))
def SumsQ (outs : List (List (Int × Int))) (s : SV) : Prop := ∃ K : List Sm, s = .imap (encK K) ∧ K.Nodup ∧ ∀ x, x ∈ K ↔ x ∈ reachS outs sm0
set_option maxRecDepth 100000 in
set_option maxHeartbeats 4000000 in
theorem c120 (c : Cas) (outs : List (List (Int × Int))) (hO : OkOuts outs) : PF Tryz.prog 120 [encWk c outs] (SumsQ outs) := by
  have d1 := (t184 c outs hO outs.length 0 sm0 [] (by omega) okS0 List.nodup_nil).mono (Q' := fun r h' => ∃ K', SumQ outs 0 sm0 [] K' ∧ r = .tup [] ∧ h' = sumB c outs K') fun _ _ ⟨K', p1, p2, p3⟩ => ⟨K', p1, p3, p2⟩
  refine PF.of (TF.ev fn_120 (Ev.at ?_))
  (repeat' (first | (refine Ev.go ?_; conv => whnf) | refine And.intro ?_ ?_ | exact True.intro | exact rfl | (intro rx hrx; rw [ij _ (by omega)] at hrx) | (intro hcx; exfalso; omega) | intro _))
  all_goals (first | (refine ⟨?_⟩; exact vc) | exact cl | skip)
  refine TSq.callX (α := List Sm) (SumQ outs 0 sm0 []) [0, 1, 2, 3] (fun K' => [(0, .cells [encWk c outs]), (1, .map (encK K')), (2, .cells [.mp 1]), (3, .cells [.fn 184 [] [.ptr 0 0, .ptr 2 0, .ptr 3 0]])]) (s1 := fun _ => .tup []) (s' := fun _ => .tup []) (h1 := sumB c outs) d1 rfl rfl (And.intro rfl rfl) rfl (by decide) (allLt_iff rfl) rfl
    (fun a ha => by match a, ha with | 0, _ => exact ⟨rfl, rfl⟩ | 1, _ => exact ⟨rfl, rfl⟩ | 2, _ => exact ⟨rfl, rfl⟩ | 3, _ => exact ⟨rfl, rfl⟩) rfl rfl (fun _ _ => Nat.le_refl _) (fun _ _ => rfl)
    (fun K' _ a ha => by match a, ha with | 0, _ => exact ⟨rfl, rfl⟩ | 1, _ => exact ⟨rfl, congrArg (fun e => some (1, LB.map e)) (cloM_ren _ (encK_clo K')).symm⟩ | 2, _ => exact ⟨rfl, rfl⟩ | 3, _ => exact ⟨rfl, rfl⟩) (fun _ _ => rfl) ?_
  rintro K' ⟨p1, p2⟩
  (repeat' (first | (refine Ev.go ?_; conv => whnf) | refine And.intro ?_ ?_ | exact True.intro | exact rfl | (intro rx hrx; rw [ij _ (by omega)] at hrx) | (intro hcx; exfalso; omega) | intro _))
  all_goals (first | (refine ⟨?_⟩; exact vc) | exact cl | skip)
  all_goals (try (refine ⟨?_⟩; exact encK_clo _))
  exact ⟨K', rfl, p1, fun x => by rw [p2]; simp⟩
end Go.Proofs.YtjadiajfbflghaaGreat
set_option linter.unusedSimpArgs false
set_option linter.unusedVariables false
open Go Go.TV
namespace Go.Proofs.YtjadiajfbflghaaGreat
theorem reach_ok {outs : List (List (Int × Int))} (hm : ∀ m ∈ outs, ∀ o ∈ m, 0 ≤ o.1 ∧ o.1 ≤ 100000) : ∀ {k : Nat} {s x : Sm}, OkS k s → x ∈ reachS outs s → OkS (k + outs.length) x := by
  induction outs with
  | nil => intro k s x h hx; simp [reachS] at hx; subst hx; exact h
  | cons m ms ih =>
    intro k s x h hx
    rw [reachS, List.mem_flatMap] at hx
    obtain ⟨o, ho, hx⟩ := hx
    have := ih (fun m' hm' => hm m' (List.mem_cons_of_mem _ hm')) (h.plus (hm m (List.mem_cons_self ..) o ho)) hx
    rw [List.length_cons, Nat.add_comm ms.length 1, ← Nat.add_assoc]
    exact this
theorem reach_ne {outs : List (List (Int × Int))} (hm : ∀ m ∈ outs, m ≠ []) : ∀ (s : Sm), ∃ x, x ∈ reachS outs s := by
  induction outs with
  | nil => intro s; exact ⟨s, by simp [reachS]⟩
  | cons m ms ih =>
    intro s
    obtain ⟨o, ho⟩ := List.exists_mem_of_ne_nil m (hm m (List.mem_cons_self ..))
    obtain ⟨x, hx⟩ := ih (fun m' hm' => hm m' (List.mem_cons_of_mem _ hm')) (s.plus o)
    exact ⟨x, by rw [reachS, List.mem_flatMap]; exact ⟨o, ho, hx⟩⟩
theorem c56 (s : Sm) (n : Int) : PF Tryz.prog 56 [encSm s, .int .i64 n] (· = .int .i64 s.aw) := by
  refine PF.of (TF.ev fn_56 (Ev.at ?_))
  (repeat' (first | (refine Ev.go ?_; conv => whnf) | refine And.intro ?_ ?_ | exact True.intro | exact rfl | (intro rx hrx; rw [ij _ (by omega)] at hrx) | (intro hcx; exfalso; omega) | intro _))
  try rfl
def BndOf (D : List Sm) (lo hi : Int) : Prop := (∃ x ∈ D, x.aw = lo) ∧ (∃ x ∈ D, x.aw = hi) ∧ ∀ x ∈ D, lo ≤ x.aw ∧ x.aw ≤ hi
def BndQ (c : Cas) (s : SV) : Prop := ∃ outs lo hi, OutsAll c c.flds.length outs ∧ BndOf (reachS outs sm0) lo hi ∧ s = .sl 2 [encR ⟨lo, hi⟩]
theorem outs_ok {c : Cas} (h : OkC c) {outs : List (List (Int × Int))} (ho : OutsAll c c.flds.length outs) : OkOuts outs ∧ ∀ m ∈ outs, m ≠ [] := by
  have key : ∀ m ∈ outs, ∃ f ∈ c.flds, OutsOf c f m := fun m hm => by
    obtain ⟨i, hi⟩ := List.getElem?_of_mem hm
    have hil := (List.getElem?_eq_some_iff.1 hi).1
    have hl := ho.1
    obtain ⟨f, hf⟩ : ∃ v, c.flds[i]? = some v := ⟨_, List.getElem?_eq_getElem (by omega)⟩
    exact ⟨f, List.mem_of_getElem? hf, ho.2 i f m (by omega) hf hi⟩
  refine ⟨⟨by rw [ho.1]; exact h.few, fun m hm o hom => ?_⟩, fun m hm => ?_⟩
  · obtain ⟨f, hf, h1, h2⟩ := key m hm
    obtain ⟨x, hx, rfl⟩ := (h2 o).1 hom
    obtain ⟨_, _, k1, k2⟩ := out_ok h hf (truths_mem.1 hx)
    exact ⟨k1, k2⟩
  · obtain ⟨f, hf, h1, h2⟩ := key m hm
    obtain ⟨a, ha, _⟩ := first_of h
    have o := h.flds a ha f hf
    have c1 := cnt_of o.fi
    have c2 := cnt_of o.se
    have c3 := cnt_of o.um
    have hx : (⟨f.fi.lo, f.se.lo, f.um.lo⟩ : Thr) ∈ truthsL f := truths_mem.2 ⟨⟨Int.le_refl _, c1.2.1⟩, ⟨Int.le_refl _, c2.2.1⟩, Int.le_refl _, c3.2.1⟩
    intro he
    have := (h2 _).2 ⟨_, hx, rfl⟩
    rw [he] at this
    cases this
def cellR : List Sm → Int → Int → List SV
  | [], _, _ => [.agg [.int .i64 0, .int .i64 0]]
  | _ :: _, lo, hi => [.agg [.int .i64 lo, .int .i64 hi]]
def isNilB : List Sm → Bool
  | [] => true
  | _ :: _ => false
set_option maxRecDepth 100000 in
set_option maxHeartbeats 8000000 in
theorem c55 (c : Cas) (h : OkC c) : PF Tryz.prog 55 [encCas c, .sl 1 [.agg [.fn 56 [] []]]] (BndQ c) := by
  have hz : ([SV.agg [SV.fn 56 [] []]] : List SV).length = 1 := rfl
  have hgf1 : ∀ {s : SV} {n : Nat} {e : SV}, ([s] : List SV)[n]? = some e → e = s := by
    intro s n e he
    cases n <;> simp at he
    exact he.symm
  have d1 := c119 c h
  refine PF.of (TF.ev fn_55 (Ev.at ?_))
  (repeat' (first | (intro ex hex; have hq := hgf1 hex; subst hq; clear hex) | (intro rx hrx; have hq := hsub1 hrx (by omega); subst hq; clear hrx) | (refine Ev.go ?_; conv => whnf) | refine And.intro ?_ ?_ | exact True.intro | exact rfl | (intro rx hrx; rw [ij _ (by omega)] at hrx) | (intro hcx; exfalso; omega) | intro _))
  all_goals (first | (refine ⟨?_⟩; exact vc) | exact cl | skip)
  refine TSq.pureQ rfl d1 (by simp [cloL, encCas_clo]) rfl (And.intro rfl rfl) ?_
  rintro s ⟨outs, rfl, ho⟩ _
  obtain ⟨ok, hne⟩ := outs_ok h ho
  (repeat' (first | (intro ex hex; have hq := hgf1 hex; subst hq; clear hex) | (intro rx hrx; have hq := hsub1 hrx (by omega); subst hq; clear hrx) | (refine Ev.go ?_; conv => whnf) | refine And.intro ?_ ?_ | exact True.intro | exact rfl | (intro rx hrx; rw [ij _ (by omega)] at hrx) | (intro hcx; exfalso; omega) | intro _))
  refine TSq.pureQ rfl (c120 c outs ok) (by simp [cloL, encWk, clo]) rfl (And.intro rfl rfl) ?_
  rintro s ⟨K, rfl, hnd, hK⟩ _
  obtain ⟨x0, hx0⟩ := reach_ne hne sm0
  (repeat' (first | (intro ex hex; have hq := hgf1 hex; subst hq; clear hex) | (intro rx hrx; have hq := hsub1 hrx (by omega); subst hq; clear hrx) | (refine Ev.go ?_; conv => whnf) | refine And.intro ?_ ?_ | exact True.intro | exact rfl | (intro rx hrx; rw [ij _ (by omega)] at hrx) | (intro hcx; exfalso; omega) | intro _))
  all_goals (first | (refine ⟨?_⟩; exact vc) | exact cl | skip)
  have hKo : ∀ x ∈ K, 0 ≤ x.aw ∧ x.aw ≤ 1000000 := fun x hx => by
    have := (reach_ok (fun m hm o ho => (ok.2 m hm o ho).1) okS0 ((hK x).1 hx)).aw
    have := ok.1
    omega
  refine TWq.loop (fun p : List Sm × List Sm × Int × Int => [(6, .bool (isNilB p.2.1))]) (fun p => [(1, .arr 38 2 (cellR p.2.1 p.2.2.1 p.2.2.2)), (2, .iter (.imap (encK K)) (encK p.1) none)])
    (fun p => (∀ x, x ∈ K ↔ x ∈ p.2.1 ∨ x ∈ p.1) ∧ (p.2.1 ≠ [] → BndOf p.2.1 p.2.2.1 p.2.2.2)) (fun p => p.1.length) (K, [], 0, 0) [] [] ?_ ⟨by simp, fun h => absurd rfl h⟩ ?_
  · (repeat' (first | (intro ex hex; have hq := hgf1 hex; subst hq; clear hex) | (intro rx hrx; have hq := hsub1 hrx (by omega); subst hq; clear hrx) | (refine Ev.go ?_; conv => whnf) | refine And.intro ?_ ?_ | exact True.intro | exact rfl | (intro rx hrx; rw [ij _ (by omega)] at hrx) | (intro hcx; exfalso; omega) | intro _))
    all_goals (first | (refine ⟨?_⟩; exact vc) | exact cl | skip)
    all_goals (try (refine ⟨?_⟩; first | exact encK_clo _ | (simp [cellR, cloL, clo]; done)))
  · rintro ⟨left, done, lo, hi⟩ ⟨q1, q2⟩
    dsimp only at q1 q2 ⊢
    (repeat' (first | (intro ex hex; have hq := hgf1 hex; subst hq; clear hex) | (intro rx hrx; have hq := hsub1 hrx (by omega); subst hq; clear hrx) | (refine Ev.go ?_; conv => whnf) | refine And.intro ?_ ?_ | exact True.intro | exact rfl | (intro rx hrx; rw [ij _ (by omega)] at hrx) | (intro hcx; exfalso; omega) | intro _))
    refine TSq.next rfl rfl rfl rfl ?_ ?_
    · intro hleft
      have hleft : left = [] := List.map_eq_nil_iff.1 hleft
      subst hleft
      have hdone : ∀ x, x ∈ done ↔ x ∈ reachS outs sm0 := fun x => by rw [← hK, q1]; simp
      rcases done with _ | ⟨d, ds⟩
      · exact absurd ((hdone x0).2 hx0) (List.not_mem_nil)
      · obtain ⟨⟨x1, h1, h2⟩, ⟨x2, h3, h4⟩, h5⟩ := q2 (by simp)
        (repeat' (first | (intro ex hex; have hq := hgf1 hex; subst hq; clear hex) | (intro rx hrx; have hq := hsub1 hrx (by omega); subst hq; clear hrx) | (refine Ev.go ?_; conv => whnf) | refine And.intro ?_ ?_ | exact True.intro | exact rfl | (intro rx hrx; rw [ij _ (by omega)] at hrx) | (intro hcx; exfalso; omega) | intro _))
        all_goals (first | (refine ⟨?_⟩; exact vc) | exact cl | skip)
        all_goals (try (refine ⟨?_⟩; simp [cellR, cloL, clo]; done))
        exact ⟨outs, lo, hi, ho, ⟨⟨x1, (hdone x1).1 h1, h2⟩, ⟨x2, (hdone x2).1 h3, h4⟩, fun x hx => h5 x ((hdone x).2 hx)⟩, rfl⟩
    · intro pre sk sv post he
      obtain ⟨la, x, lb, hl, rfl, rfl, rfl, rfl⟩ := encK_split he
      have hxK : x ∈ K := (q1 x).2 (.inr (by rw [hl]; simp))
      have hxo := hKo x hxK
      have d2 := c56 x c.fee
      have q1' : ∀ y, y ∈ K ↔ y ∈ done ++ [x] ∨ y ∈ la ++ lb := fun y => by
        rw [q1, hl]
        simp only [List.mem_append, List.mem_cons, List.mem_singleton, List.not_mem_nil, or_false]
        constructor
        · rintro (h1 | h1 | h1 | h1)
          · exact .inl (.inl h1)
          · exact .inr (.inl h1)
          · exact .inl (.inr h1)
          · exact .inr (.inr h1)
        · rintro ((h1 | h1) | h1 | h1)
          · exact .inl h1
          · exact .inr (.inr (.inl h1))
          · exact .inr (.inl h1)
          · exact .inr (.inr (.inr h1))
      rcases done with _ | ⟨d, ds⟩
      · have d3 := c121 [x.aw, x.aw] (by simp) (by simp)
        rw [min2, show min x.aw x.aw = x.aw by omega] at d3
        have hsub1 : ∀ {r : Int}, r = max x.aw x.aw → (0 : Int) ≤ 0 → x.aw = r := fun h _ => by rw [h]; omega
        (repeat' (first | (intro ex hex; have hq := hgf1 hex; subst hq; clear hex) | (intro rx hrx; have hq := hsub1 hrx (by omega); subst hq; clear hrx) | (refine Ev.go ?_; conv => whnf) | refine And.intro ?_ ?_ | exact True.intro | exact rfl | (intro rx hrx; rw [ij _ (by omega)] at hrx) | (intro hcx; exfalso; omega) | intro _))
        all_goals (first | (refine ⟨?_⟩; exact vc) | exact cl | skip)
        refine TWq.loop (fun k : Nat => [(24, .int .i64 k)]) (fun k => [(1, .arr 38 2 [match k with | 0 => .agg [.int .i64 0, .int .i64 0] | _ + 1 => .agg [.int .i64 x.aw, .int .i64 x.aw]]), (2, .iter (.imap (encK K)) (encK la ++ encK lb) none)]) (fun k => k ≤ 1) (fun k => 1 - k) 0 [] [] ?_ (by omega) ?_
        · (repeat' (first | (intro ex hex; have hq := hgf1 hex; subst hq; clear hex) | (intro rx hrx; have hq := hsub1 hrx (by omega); subst hq; clear hrx) | (refine Ev.go ?_; conv => whnf) | refine And.intro ?_ ?_ | exact True.intro | exact rfl | (intro rx hrx; rw [ij _ (by omega)] at hrx) | (intro hcx; exfalso; omega) | intro _))
          all_goals (first | (refine ⟨?_⟩; exact vc) | exact cl | skip)
          all_goals (try (refine ⟨?_⟩; first | (intro e he; exact (List.mem_append.1 he).elim (encK_clo _ e) (encK_clo _ e)) | (simp [cellR, cloL, clo]; done)))
        · intro k hk
          obtain rfl | rfl : k = 0 ∨ k = 1 := by omega
          · (repeat' (first | (intro ex hex; have hq := hgf1 hex; subst hq; clear hex) | (intro rx hrx; have hq := hsub1 hrx (by omega); subst hq; clear hrx) | (refine Ev.go ?_; conv => whnf) | refine And.intro ?_ ?_ | exact True.intro | exact rfl | (intro rx hrx; rw [ij _ (by omega)] at hrx) | (intro hcx; exfalso; omega) | intro _))
            all_goals (first | (refine ⟨?_⟩; exact vc) | exact cl | skip)
            refine TSq.pureC d2 (by simp [cloL, clo, encSm]) rfl (And.intro rfl rfl) ?_
            (repeat' (first | (intro ex hex; have hq := hgf1 hex; subst hq; clear hex) | (intro rx hrx; have hq := hsub1 hrx (by omega); subst hq; clear hrx) | (refine Ev.go ?_; conv => whnf) | refine And.intro ?_ ?_ | exact True.intro | exact rfl | (intro rx hrx; rw [ij _ (by omega)] at hrx) | (intro hcx; exfalso; omega) | intro _))
            all_goals (first | (refine ⟨?_⟩; exact vk) | exact cl | skip)
            refine TDq.lendC d3 (by simp [scal]) rfl (And.intro rfl ?_)
            (repeat' (first | (intro ex hex; have hq := hgf1 hex; subst hq; clear hex) | (intro rx hrx; have hq := hsub1 hrx (by omega); subst hq; clear hrx) | (refine Ev.go ?_; conv => whnf) | refine And.intro ?_ ?_ | exact True.intro | exact rfl | (intro rx hrx; rw [ij _ (by omega)] at hrx) | (intro hcx; exfalso; omega) | intro _))
            all_goals (first | (refine ⟨?_⟩; exact vk) | exact cl | skip)
            refine ⟨⟨1, by omega, by omega, ?_⟩⟩
            (repeat' (first | (intro ex hex; have hq := hgf1 hex; subst hq; clear hex) | (intro rx hrx; have hq := hsub1 hrx (by omega); subst hq; clear hrx) | (refine Ev.go ?_; conv => whnf) | refine And.intro ?_ ?_ | exact True.intro | exact rfl | (intro rx hrx; rw [ij _ (by omega)] at hrx) | (intro hcx; exfalso; omega) | intro _))
            all_goals (first | (refine ⟨?_⟩; exact vc) | exact cl | skip)
            all_goals (try (refine ⟨?_⟩; intro e he; exact (List.mem_append.1 he).elim (encK_clo _ e) (encK_clo _ e)))
          · (repeat' (first | (intro ex hex; have hq := hgf1 hex; subst hq; clear hex) | (intro rx hrx; have hq := hsub1 hrx (by omega); subst hq; clear hrx) | (refine Ev.go ?_; conv => whnf) | refine And.intro ?_ ?_ | exact True.intro | exact rfl | (intro rx hrx; rw [ij _ (by omega)] at hrx) | (intro hcx; exfalso; omega) | intro _))
            all_goals (first | (refine ⟨?_⟩; exact vc) | exact cl | skip)
            refine ⟨⟨(la ++ lb, [x], x.aw, x.aw), ⟨q1', fun _ => ⟨⟨x, by simp, rfl⟩, ⟨x, by simp, rfl⟩, fun y hy => by rw [List.mem_singleton.1 hy]; exact ⟨Int.le_refl _, Int.le_refl _⟩⟩⟩, by dsimp only; rw [hl]; simp, ?_⟩⟩
            (repeat' (first | (intro ex hex; have hq := hgf1 hex; subst hq; clear hex) | (intro rx hrx; have hq := hsub1 hrx (by omega); subst hq; clear hrx) | (refine Ev.go ?_; conv => whnf) | refine And.intro ?_ ?_ | exact True.intro | exact rfl | (intro rx hrx; rw [ij _ (by omega)] at hrx) | (intro hcx; exfalso; omega) | intro _))
            all_goals (first | (refine ⟨?_⟩; exact vc) | exact cl | skip)
            all_goals (try (refine ⟨?_⟩; first | exact encK_clo _ | (intro e he; exact (List.mem_append.1 he).elim (encK_clo _ e) (encK_clo _ e)) | (simp [encK]; done) | (simp [cellR, cloL, clo]; done)))
      · obtain ⟨⟨x1, h1, h2⟩, ⟨x2, h3, h4⟩, h5⟩ := q2 (by simp)
        have hlo : 0 ≤ lo ∧ lo ≤ 1000000 := by rw [← h2]; exact hKo x1 ((q1 x1).2 (.inl h1))
        have hhi : 0 ≤ hi ∧ hi ≤ 1000000 := by rw [← h4]; exact hKo x2 ((q1 x2).2 (.inl h3))
        have hB : BndOf ((d :: ds) ++ [x]) (min lo x.aw) (max hi x.aw) := by
          refine ⟨?_, ?_, fun y hy => ?_⟩
          · rcases Int.le_total lo x.aw with h | h
            · exact ⟨x1, List.mem_append_left _ h1, by omega⟩
            · exact ⟨x, by simp, by omega⟩
          · rcases Int.le_total hi x.aw with h | h
            · exact ⟨x, by simp, by omega⟩
            · exact ⟨x2, List.mem_append_left _ h3, by omega⟩
          · rcases List.mem_append.1 hy with h | h
            · have := h5 y h; omega
            · simp at h; subst h; omega
        have d3 := c121 [lo, x.aw] (by simp) (by simp)
        rw [min2] at d3
        have hmi : 0 ≤ min lo x.aw ∧ min lo x.aw ≤ 1000000 := by omega
        have hma : 0 ≤ max hi x.aw ∧ max hi x.aw ≤ 1000000 := by omega
        generalize min lo x.aw = mi at *
        generalize hmx : max hi x.aw = ma at *
        have hsub1 : ∀ {r : Int}, r = max hi x.aw → (0 : Int) ≤ 0 → ma = r := fun h _ => by rw [h, hmx]
        (repeat' (first | (intro ex hex; have hq := hgf1 hex; subst hq; clear hex) | (intro rx hrx; have hq := hsub1 hrx (by omega); subst hq; clear hrx) | (refine Ev.go ?_; conv => whnf) | refine And.intro ?_ ?_ | exact True.intro | exact rfl | (intro rx hrx; rw [ij _ (by omega)] at hrx) | (intro hcx; exfalso; omega) | intro _))
        all_goals (first | (refine ⟨?_⟩; exact vc) | exact cl | skip)
        refine TWq.loop (fun k : Nat => [(24, .int .i64 k)]) (fun k => [(1, .arr 38 2 [match k with | 0 => .agg [.int .i64 lo, .int .i64 hi] | _ + 1 => .agg [.int .i64 mi, .int .i64 ma]]), (2, .iter (.imap (encK K)) (encK la ++ encK lb) none)]) (fun k => k ≤ 1) (fun k => 1 - k) 0 [] [] ?_ (by omega) ?_
        · (repeat' (first | (intro ex hex; have hq := hgf1 hex; subst hq; clear hex) | (intro rx hrx; have hq := hsub1 hrx (by omega); subst hq; clear hrx) | (refine Ev.go ?_; conv => whnf) | refine And.intro ?_ ?_ | exact True.intro | exact rfl | (intro rx hrx; rw [ij _ (by omega)] at hrx) | (intro hcx; exfalso; omega) | intro _))
          all_goals (first | (refine ⟨?_⟩; exact vc) | exact cl | skip)
          all_goals (try (refine ⟨?_⟩; first | (intro e he; exact (List.mem_append.1 he).elim (encK_clo _ e) (encK_clo _ e)) | (simp [cellR, cloL, clo]; done)))
        · intro k hk
          obtain rfl | rfl : k = 0 ∨ k = 1 := by omega
          · (repeat' (first | (intro ex hex; have hq := hgf1 hex; subst hq; clear hex) | (intro rx hrx; have hq := hsub1 hrx (by omega); subst hq; clear hrx) | (refine Ev.go ?_; conv => whnf) | refine And.intro ?_ ?_ | exact True.intro | exact rfl | (intro rx hrx; rw [ij _ (by omega)] at hrx) | (intro hcx; exfalso; omega) | intro _))
            all_goals (first | (refine ⟨?_⟩; exact vc) | exact cl | skip)
            refine TSq.pureC d2 (by simp [cloL, clo, encSm]) rfl (And.intro rfl rfl) ?_
            (repeat' (first | (intro ex hex; have hq := hgf1 hex; subst hq; clear hex) | (intro rx hrx; have hq := hsub1 hrx (by omega); subst hq; clear hrx) | (refine Ev.go ?_; conv => whnf) | refine And.intro ?_ ?_ | exact True.intro | exact rfl | (intro rx hrx; rw [ij _ (by omega)] at hrx) | (intro hcx; exfalso; omega) | intro _))
            all_goals (first | (refine ⟨?_⟩; exact vk) | exact cl | skip)
            refine TDq.lendC d3 (by simp [scal]) rfl (And.intro rfl ?_)
            (repeat' (first | (intro ex hex; have hq := hgf1 hex; subst hq; clear hex) | (intro rx hrx; have hq := hsub1 hrx (by omega); subst hq; clear hrx) | (refine Ev.go ?_; conv => whnf) | refine And.intro ?_ ?_ | exact True.intro | exact rfl | (intro rx hrx; rw [ij _ (by omega)] at hrx) | (intro hcx; exfalso; omega) | intro _))
            all_goals (first | (refine ⟨?_⟩; exact vk) | exact cl | skip)
            refine ⟨⟨1, by omega, by omega, ?_⟩⟩
            (repeat' (first | (intro ex hex; have hq := hgf1 hex; subst hq; clear hex) | (intro rx hrx; have hq := hsub1 hrx (by omega); subst hq; clear hrx) | (refine Ev.go ?_; conv => whnf) | refine And.intro ?_ ?_ | exact True.intro | exact rfl | (intro rx hrx; rw [ij _ (by omega)] at hrx) | (intro hcx; exfalso; omega) | intro _))
            all_goals (first | (refine ⟨?_⟩; exact vc) | exact cl | skip)
            all_goals (try (refine ⟨?_⟩; intro e he; exact (List.mem_append.1 he).elim (encK_clo _ e) (encK_clo _ e)))
          · (repeat' (first | (intro ex hex; have hq := hgf1 hex; subst hq; clear hex) | (intro rx hrx; have hq := hsub1 hrx (by omega); subst hq; clear hrx) | (refine Ev.go ?_; conv => whnf) | refine And.intro ?_ ?_ | exact True.intro | exact rfl | (intro rx hrx; rw [ij _ (by omega)] at hrx) | (intro hcx; exfalso; omega) | intro _))
            all_goals (first | (refine ⟨?_⟩; exact vc) | exact cl | skip)
            refine ⟨⟨(la ++ lb, (d :: ds) ++ [x], mi, ma), ⟨q1', fun _ => hB⟩, by dsimp only; rw [hl]; simp, ?_⟩⟩
            (repeat' (first | (intro ex hex; have hq := hgf1 hex; subst hq; clear hex) | (intro rx hrx; have hq := hsub1 hrx (by omega); subst hq; clear hrx) | (refine Ev.go ?_; conv => whnf) | refine And.intro ?_ ?_ | exact True.intro | exact rfl | (intro rx hrx; rw [ij _ (by omega)] at hrx) | (intro hcx; exfalso; omega) | intro _))
            all_goals (first | (refine ⟨?_⟩; exact vc) | exact cl | skip)
            all_goals (try (refine ⟨?_⟩; first | exact encK_clo _ | (intro e he; exact (List.mem_append.1 he).elim (encK_clo _ e) (encK_clo _ e)) | (simp [encK]; done) | (simp [cellR, cloL, clo]; done)))
def AwardQ (c : Cas) (s : SV) : Prop := ∃ outs lo hi, OutsAll c c.flds.length outs ∧ BndOf (reachS outs sm0) lo hi ∧ s = .tup [.agg [.int .i64 lo, .int .i64 hi], .int .i64 0]
set_option maxRecDepth 100000 in
set_option maxHeartbeats 4000000 in
theorem c11 (c : Cas) (h : OkC c) : PF Tryz.prog 11 [encCas c] (AwardQ c) := by
  have d1 := c54 c h
  have d2 := c55 c h
  have hgf1 : ∀ {s : SV} {n : Nat} {e : SV}, ([s] : List SV)[n]? = some e → e = s := by
    intro s n e he
    cases n <;> simp at he
    exact he.symm
  refine PF.of (TF.ev fn_11 (Ev.at ?_))
  (repeat' (first | (intro ex hex; have hq := hgf1 hex; subst hq; clear hex) | (refine Ev.go ?_; conv => whnf) | refine And.intro ?_ ?_ | exact True.intro | exact rfl | (intro rx hrx; rw [ij _ (by omega)] at hrx) | (intro hcx; exfalso; omega) | intro _))
  all_goals (first | (refine ⟨?_⟩; exact vc) | exact cl | skip)
  refine TSq.pureC d1 (by simp [cloL, encCas_clo]) rfl (And.intro rfl rfl) ?_
  (repeat' (first | (intro ex hex; have hq := hgf1 hex; subst hq; clear hex) | (refine Ev.go ?_; conv => whnf) | refine And.intro ?_ ?_ | exact True.intro | exact rfl | (intro rx hrx; rw [ij _ (by omega)] at hrx) | (intro hcx; exfalso; omega) | intro _))
  all_goals (first | (refine ⟨?_⟩; exact vc) | exact cl | skip)
  refine TSq.pubS 2 ?_
  (repeat' (first | (intro ex hex; have hq := hgf1 hex; subst hq; clear hex) | (refine Ev.go ?_; conv => whnf) | refine And.intro ?_ ?_ | exact True.intro | exact rfl | (intro rx hrx; rw [ij _ (by omega)] at hrx) | (intro hcx; exfalso; omega) | intro _))
  all_goals (first | (refine ⟨?_⟩; exact vc) | exact cl | skip)
  all_goals (try (refine ⟨?_⟩; simp [chunks, cloL, clo]; done))
  refine TSq.pureQ rfl d2 (by simp [cloL, clo, encCas_clo]) rfl (And.intro rfl rfl) ?_
  rintro s ⟨outs, lo, hi, q1, q2, rfl⟩ _
  (repeat' (first | (intro ex hex; have hq := hgf1 hex; subst hq; clear hex) | (refine Ev.go ?_; conv => whnf) | refine And.intro ?_ ?_ | exact True.intro | exact rfl | (intro rx hrx; rw [ij _ (by omega)] at hrx) | (intro hcx; exfalso; omega) | intro _))
  all_goals (first | (refine ⟨?_⟩; exact vc) | exact cl | skip)
  exact ⟨outs, lo, hi, q1, q2, rfl⟩
end Go.Proofs.YtjadiajfbflghaaGreat
set_option linter.unusedSimpArgs false
set_option linter.unusedVariables false
open Go Go.TV
namespace Go.Proofs.YtjadiajfbflghaaGreat
def askU (out : List Int) (k i : Nat) : Bool := decide (i < k) && !out.contains (i : Int)
theorem askU_other {out : List Int} {k i : Nat} (h : i ≠ k) : askU out k i = askU out (k + 1) i := by
  unfold askU
  have : i < k ↔ i < k + 1 := by omega
  simp only [this]
theorem askU_at {out : List Int} {k : Nat} : (!out.contains (k : Int)) = askU out (k + 1) k := by
  unfold askU
  simp
def LN (l : List Int) (o : SV) : Prop := o = .sl 1 (ints l) ∨ (l = [] ∧ o = .nils)
theorem LN.clo {l : List Int} {o : SV} (h : LN l o) : clo o := by
  rcases h with rfl | ⟨_, rfl⟩ <;> simp [TV.clo, ints_clo]
theorem c133n {l : List Int} {o : SV} (h : LN l o) (n : Int) (hlen : l.length ≤ 1000000) : PF Tryz.prog 133 [o, .int .i64 n] (· = .bool (l.contains n)) := by
  rcases h with rfl | ⟨rfl, rfl⟩
  · exact c133 l n hlen
  · refine PF.fit (c133 [] n (by simp)) ?_
    (repeat' (first | (refine Ev.go ?_; conv => whnf) | refine And.intro ?_ ?_ | exact True.intro | exact rfl | (intro rx hrx; rw [ij _ (by omega)] at hrx) | (intro hcx; exfalso; omega) | (intro hcx; exfalso; simp only [lz] at hcx; omega) | intro _))
    all_goals (first | (refine ⟨?_⟩; exact vc) | exact cl | skip)
set_option maxHeartbeats 4000000 in
set_option maxRecDepth 100000 in
theorem t69 (s : Soc) (out : List Int) (o : SV) (ho : LN out o) (hl : s.members.length ≤ 5) (hol : out.length ≤ 1000000) :
    TF Tryz.prog 69 [encSoc s, o] [.cells (socC s)] (fun r h' => h' = [.cells (socC s), .cells (socC s), .cells (encW s (askF s.members out) .nilm)] ∧ r = .ptr 2 0) := by
  have hz := encYs_len s.members
  obtain ⟨ct, hct⟩ : ∃ ct : Nat → Bool, ∀ k : Nat, out.contains (k : Int) = ct k := ⟨_, fun _ => rfl⟩
  have hd88 : ∀ k : Nat, PF Tryz.prog 133 [o, .int .i64 k] (· = .bool (ct k)) := fun k => by have := c133n ho (k : Int) hol; rw [hct] at this; exact this
  have hask : ∀ k : Nat, (!ct k) = askU out (k + 1) k := fun k => by rw [← hct]; exact askU_at
  clear hct
  obtain ⟨L, hL⟩ : ∃ L, L = out := ⟨_, rfl⟩
  rcases ho with rfl | ⟨rfl, rfl⟩
  all_goals
    refine TF.cutTo (TF.ev fn_69 (Ev.at ?_))
    (repeat' (first | (refine Ev.go ?_; conv => whnf) | refine And.intro ?_ ?_ | exact True.intro | exact rfl | (intro rx hrx; rw [ij _ (by omega)] at hrx) | (intro hcx; exfalso; omega) | intro _))
    all_goals (first | (refine ⟨?_⟩; exact vc) | exact cl | skip)
    refine TWq.loop (fun k : Nat => [(14, .int .i64 k), (6, .junk)]) (fun k => [(2, .cells (encW s (askU L k) .nilm))]) (fun k => k ≤ s.members.length) (fun k => s.members.length - k) 0 [] [] ?_ (by omega) ?_
    · (repeat' (first | (refine Ev.go ?_; conv => whnf) | refine And.intro ?_ ?_ | exact True.intro | exact rfl | (intro rx hrx; rw [ij _ (by omega)] at hrx) | (intro hcx; exfalso; omega) | intro _))
      all_goals (first | (refine ⟨?_⟩; exact vc) | exact cl | skip)
      all_goals (refine ⟨?_⟩; simp [askU])
    · subst hL
      intro k hk
      rcases Nat.lt_or_ge k s.members.length with hkl | hkl
      · have d88 := hd88 k
        obtain ⟨k1, hk1⟩ : ∃ k1, k1 = k + 1 := ⟨_, rfl⟩
        have hcs : k = 0 ∨ k = 1 ∨ k = 2 ∨ k = 3 ∨ k = 4 := by omega
        rcases hcs with rfl | rfl | rfl | rfl | rfl
        all_goals
          have hca := hask (k1 - 1)
          rw [hk1] at hca
          simp only [Nat.add_sub_cancel] at hca
          cases hck : ct (k1 - 1)
          all_goals
            rw [hk1, Nat.add_sub_cancel] at hck
            rw [hck] at d88 hca
            (repeat' (first | (refine Ev.go ?_; conv => whnf) | refine And.intro ?_ ?_ | exact True.intro | exact rfl | (intro rx hrx; rw [ij _ (by omega)] at hrx) | (intro hcx; exfalso; omega) | intro _))
            all_goals (first | (refine ⟨?_⟩; exact vc) | exact cl | skip)
            refine TDq.pureC d88 cl rfl (And.intro rfl rfl) ?_
            (repeat' (first | (refine Ev.go ?_; conv => whnf) | refine And.intro ?_ ?_ | exact True.intro | exact rfl | (intro rx hrx; rw [ij _ (by omega)] at hrx) | (intro hcx; exfalso; omega) | intro _))
            all_goals (first | (refine ⟨?_⟩; exact vk) | exact cl | skip)
            refine ⟨⟨k1, by omega, by omega, ?_⟩⟩
            subst hk1
            (repeat' (first | (refine Ev.go ?_; conv => whnf) | refine And.intro ?_ ?_ | exact True.intro | exact rfl | (intro rx hrx; rw [ij _ (by omega)] at hrx) | (intro hcx; exfalso; omega) | intro _))
            all_goals (first | (refine ⟨?_⟩; exact vc) | exact cl | skip)
            all_goals (first | exact ⟨hca⟩ | exact ⟨askU_other (by decide)⟩ | skip)
      · have hke : k = s.members.length := by omega
        subst hke
        (repeat' (first | (refine Ev.go ?_; conv => whnf) | refine And.intro ?_ ?_ | exact True.intro | exact rfl | (intro rx hrx; rw [ij _ (by omega)] at hrx) | (intro hcx; exfalso; omega) | intro _))
        all_goals (first | (refine ⟨?_⟩; exact vc) | exact cl | skip)
theorem any5_iff {f : Nat → Bool} : any5 f = false ↔ f 0 = false ∧ f 1 = false ∧ f 2 = false ∧ f 3 = false ∧ f 4 = false := by
  simp [any5]
def capU (ms : List Mem) (f : Nat → Bool) (need : Int) (k i : Nat) : Bool := f i && !(decide (i < k) && capF ms f need i)
def outU (ms : List Mem) (f : Nat → Bool) (need : Int) (o : Nat → Int) (k i : Nat) : Int := if i < k ∧ capF ms f need i = true then mst ms i else o i
def finU (ms : List Mem) (f : Nat → Bool) (need : Int) (o : Nat → Int) (k i : Nat) : Int := if i < k ∧ f i = true then shareF ms f need i else o i
def cntB (f : Nat → Bool) : Nat := (f 0).toNat + (f 1).toNat + (f 2).toNat + (f 3).toNat + (f 4).toNat
end Go.Proofs.YtjadiajfbflghaaGreat
set_option linter.unusedSimpArgs false
set_option linter.unusedVariables false
open Go Go.TV
namespace Go.Proofs.YtjadiajfbflghaaGreat
section
variable {ms : List Mem} {f : Nat → Bool} {need : Int}
theorem quo_nnK (hm : ∀ m ∈ ms, OkM m) (h0 : 0 ≤ need) {U : Int} (hU : 0 ≤ U) (i : Nat) : 0 ≤ quo ms need U i := Int.ediv_nonneg (Int.mul_nonneg h0 (un_nn hm i).1) hU
theorem leftF_anti (hm : ∀ m ∈ ms, OkM m) (h0 : 0 ≤ need) {U : Int} (hU : 0 ≤ U) (j : Nat) : ∀ k, leftF ms f need U (j + k) ≤ leftF ms f need U j
  | 0 => Int.le_refl _
  | k + 1 => by
    have ih := leftF_anti hm h0 hU j k
    have q := quo_nnK hm h0 hU (j + k)
    have e : leftF ms f need U (j + (k + 1)) = leftF ms f need U (j + k) - (if f (j + k) = true then quo ms need U (j + k) else 0) := rfl
    rw [e]
    split <;> omega
theorem leftF_mul {U : Int} (hU : 0 < U) : ∀ k, need * (U - unitsF ms f k) ≤ U * leftF ms f need U k
  | 0 => by simp only [unitsF, leftF, Int.sub_zero]; rw [Int.mul_comm]; exact Int.le_refl _
  | k + 1 => by
    have ih := leftF_mul hU k
    simp only [unitsF, leftF]
    split
    · have h1 : U * quo ms need U k ≤ need * un ms k := by
        unfold quo; exact Int.mul_ediv_self_le (by omega)
      have e1 : need * (U - (unitsF ms f k + un ms k)) = need * (U - unitsF ms f k) - need * un ms k := by rw [← Int.mul_sub]; congr 1; omega
      have e2 : U * (leftF ms f need U k - quo ms need U k) = U * leftF ms f need U k - U * quo ms need U k := Int.mul_sub ..
      rw [e1, e2]; omega
    · simpa using ih
theorem leftF_nn (hU : 0 < unitsF ms f ms.length) : 0 ≤ leftF ms f need (unitsF ms f ms.length) ms.length := by
  have h := leftF_mul (ms := ms) (f := f) (need := need) hU ms.length
  rw [Int.sub_self, Int.mul_zero] at h
  exact Int.le_of_mul_le_mul_left (a := unitsF ms f ms.length) (by rw [Int.mul_zero]; exact h) hU
theorem cap_quo {i : Nat} (h : capF ms f need i = true) : i < ms.length ∧ f i = true ∧ mst ms i ≤ quo ms need (unitsF ms f ms.length) i := by
  simp only [capF, Bool.and_eq_true, decide_eq_true_eq] at h
  obtain ⟨h1, h2, h3⟩ := h
  refine ⟨h1, h2, ?_⟩
  unfold shareF at h3
  rw [if_pos ⟨h1, h2⟩] at h3
  split at h3 <;> omega
theorem mst_nn (hm : ∀ m ∈ ms, OkM m) (i : Nat) : 0 ≤ mst ms i ∧ mst ms i ≤ 100000 := by
  unfold mst
  cases hi : ms[i]? with
  | none => simp
  | some m => have := (hm m (List.mem_of_getElem? hi)).2.2; simp only; omega
theorem needF_ok (hm : ∀ m ∈ ms, OkM m) (h0 : 0 ≤ need) : ∀ k, k ≤ ms.length → leftF ms f need (unitsF ms f ms.length) k ≤ needF ms (capF ms f need) need k ∧ needF ms (capF ms f need) need k ≤ need
  | 0, _ => by simp [leftF, needF]
  | k + 1, hk => by
    have ih := needF_ok hm h0 k (by omega)
    have hU := (unitsF_le hm f ms.length).1
    have q := quo_nnK (need := need) hm h0 hU k
    have mm := mst_nn hm k
    simp only [leftF, needF]
    by_cases hc : capF ms f need k = true
    · have := cap_quo hc
      rw [if_pos hc, if_pos this.2.1]
      omega
    · rw [if_neg hc]
      split <;> omega
end
theorem capF_of {ms : List Mem} {f : Nat → Bool} {need : Int} {k : Nat} (hk : k < ms.length) (hf : f k = true) : capF ms f need k = decide (mst ms k < shareF ms f need k) := by simp [capF, hk, hf]
theorem capF_no {ms : List Mem} {f : Nat → Bool} {need : Int} {k : Nat} (hf : f k = false) : capF ms f need k = false := by simp [capF, hf]
theorem capU_0 {ms : List Mem} {f : Nat → Bool} {need : Int} (i : Nat) : f i = capU ms f need 0 i := by simp [capU]
theorem capU_other {ms : List Mem} {f : Nat → Bool} {need : Int} {k i : Nat} (h : i ≠ k) : capU ms f need k i = capU ms f need (k + 1) i := by
  unfold capU
  have : i < k ↔ i < k + 1 := by omega
  simp only [this]
theorem capU_at {ms : List Mem} {f : Nat → Bool} {need : Int} {k : Nat} (h : capF ms f need k = true) : false = capU ms f need (k + 1) k := by
  simp [capU, h]
theorem capU_not {ms : List Mem} {f : Nat → Bool} {need : Int} {k : Nat} (h : capF ms f need k = false) (i : Nat) : capU ms f need k i = capU ms f need (k + 1) i := by
  by_cases e : i = k
  · subst e; simp [capU, h]
  · exact capU_other e
theorem capU_n {ms : List Mem} {f : Nat → Bool} {need : Int} (i : Nat) : capU ms f need ms.length i = (f i && !capF ms f need i) := by
  unfold capU capF
  by_cases h : i < ms.length <;> simp [h]
theorem tab_len (n : Nat) (o : Nat → Int) : (tab n o).length = n := by simp [tab]
theorem tab_set {n k : Nat} (o : Nat → Int) {o' : Nat → Int} {v : Int} (h1 : v = o' k) (h2 : ∀ i, i ≠ k → o i = o' i) : (ints (tab n o)).set k (.int .i64 v) = ints (tab n o') := by
  apply List.ext_getElem?
  intro i
  rw [List.getElem?_set]
  simp only [ints, tab, List.map_map, List.length_map, List.length_range, List.getElem?_map]
  by_cases e : k = i
  · subst e
    rw [if_pos rfl]
    by_cases hk : k < n
    · rw [if_pos hk, List.getElem?_range hk]; simp [h1]
    · rw [if_neg hk, List.getElem?_eq_none (by simp; omega)]; rfl
  · rw [if_neg e]
    by_cases hi : i < n
    · rw [List.getElem?_range hi]; simp [h2 i (fun h => e h.symm)]
    · rw [List.getElem?_eq_none (by simp; omega)]; rfl
theorem tab_congr {n : Nat} {o o' : Nat → Int} (h : ∀ i, i < n → o i = o' i) : tab n o = tab n o' := List.map_congr_left fun i hi => h i (List.mem_range.1 hi)
theorem cntB_lt {f c : Nat → Bool} (h : any5 c = true) (hc : ∀ i, c i = true → f i = true) : cntB (fun i => f i && !c i) < cntB f := by
  simp only [any5, Bool.or_eq_true] at h
  unfold cntB
  have h0 := hc 0; have h1 := hc 1; have h2 := hc 2; have h3 := hc 3; have h4 := hc 4
  cases e0 : c 0 <;> cases e1 : c 1 <;> cases e2 : c 2 <;> cases e3 : c 3 <;> cases e4 : c 4 <;> simp_all <;> omega
end Go.Proofs.YtjadiajfbflghaaGreat
set_option linter.unusedSimpArgs false
set_option linter.unusedVariables false
open Go Go.TV
namespace Go.Proofs.YtjadiajfbflghaaGreat
theorem sh5 (a b c d e : Bool) : shOK (.arr 5 1 false .bool) (.agg [.bool a, .bool b, .bool c, .bool d, .bool e]) := by simp [shOK, andN, partK, getK, lenIs]
theorem cntB_le (f : Nat → Bool) : cntB f ≤ 5 := by
  have h0 := Bool.toNat_le (f 0); have h1 := Bool.toNat_le (f 1); have h2 := Bool.toNat_le (f 2); have h3 := Bool.toNat_le (f 3); have h4 := Bool.toNat_le (f 4)
  unfold cntB; omega
theorem outU_0 {ms : List Mem} {f : Nat → Bool} {need : Int} {o : Nat → Int} (i : Nat) : o i = outU ms f need o 0 i := by simp [outU]
theorem outU_other {ms : List Mem} {f : Nat → Bool} {need : Int} {o : Nat → Int} {k i : Nat} (h : i ≠ k) : outU ms f need o k i = outU ms f need o (k + 1) i := by
  unfold outU
  have : i < k ↔ i < k + 1 := by omega
  simp only [this]
theorem outU_at {ms : List Mem} {f : Nat → Bool} {need : Int} {o : Nat → Int} {k : Nat} (h : capF ms f need k = true) : mst ms k = outU ms f need o (k + 1) k := by
  unfold outU
  rw [if_pos ⟨by omega, h⟩]
theorem outU_not {ms : List Mem} {f : Nat → Bool} {need : Int} {o : Nat → Int} {k : Nat} (h : capF ms f need k = false) (i : Nat) : outU ms f need o k i = outU ms f need o (k + 1) i := by
  by_cases e : i = k
  · subst e; unfold outU; simp [h]
  · exact outU_other e
theorem finU_0 {ms : List Mem} {f : Nat → Bool} {need : Int} {o : Nat → Int} (i : Nat) : o i = finU ms f need o 0 i := by simp [finU]
theorem finU_other {ms : List Mem} {f : Nat → Bool} {need : Int} {o : Nat → Int} {k i : Nat} (h : i ≠ k) : finU ms f need o k i = finU ms f need o (k + 1) i := by
  unfold finU
  have : i < k ↔ i < k + 1 := by omega
  simp only [this]
theorem finU_at {ms : List Mem} {f : Nat → Bool} {need : Int} {o : Nat → Int} {k : Nat} (h : f k = true) : shareF ms f need k = finU ms f need o (k + 1) k := by
  unfold finU
  rw [if_pos ⟨by omega, h⟩]
theorem finU_not {ms : List Mem} {f : Nat → Bool} {need : Int} {o : Nat → Int} {k : Nat} (h : f k = false) (i : Nat) : finU ms f need o k i = finU ms f need o (k + 1) i := by
  by_cases e : i = k
  · subst e; unfold finU; simp [h]
  · exact finU_other e
theorem fi5_at {g : Nat → Int} {k : Nat} (h : k < 5) : [SV.int .i64 (g 0), SV.int .i64 (g 1), SV.int .i64 (g 2), SV.int .i64 (g 3), SV.int .i64 (g 4)][0 + (k : Int).toNat * 1]? = some (.int .i64 (g k)) := by
  have : k = 0 ∨ k = 1 ∨ k = 2 ∨ k = 3 ∨ k = 4 := by omega
  rcases this with rfl | rfl | rfl | rfl | rfl <;> rfl
theorem fl5_at {g : Nat → Bool} {k : Nat} (h : k < 5) : [SV.bool (g 0), SV.bool (g 1), SV.bool (g 2), SV.bool (g 3), SV.bool (g 4)][0 + (k : Int).toNat * 1]? = some (.bool (g k)) := by
  have : k = 0 ∨ k = 1 ∨ k = 2 ∨ k = 3 ∨ k = 4 := by omega
  rcases this with rfl | rfl | rfl | rfl | rfl <;> rfl
structure CallI (ms : List Mem) (f0 : Nat → Bool) (need0 : Int) (t : Nat) (f : Nat → Bool) (need : Int) (o : Nat → Int) : Prop where
  eq : callsF ms 6 f0 need0 (fun _ => 0) = callsF ms t f need o
  cnt : cntB f < t
  lt : ∀ i, f i = true → i < ms.length
  nn : 0 ≤ need ∧ need ≤ 300000
set_option maxHeartbeats 16000000 in
set_option maxRecDepth 100000 in
theorem t70 (s : Soc) (f0 : Nat → Bool) (need0 : Int) (hm : ∀ m ∈ s.members, OkM m) (hl : s.members.length ≤ 5) (hf0 : ∀ i, f0 i = true → i < s.members.length) (hn : 0 ≤ need0 ∧ need0 ≤ 300000) :
    TF Tryz.prog 70 [.ptr 2 0, .int .i64 need0] [.cells (socC s), .cells (socC s), .cells (encW s f0 .nilm)] (fun r h' => h' = [.cells (socC s), .cells (socC s), .dead, .arr 3 1 (ints (tab s.members.length (callsF s.members 6 f0 need0 fun _ => 0).1))] ∧
      r = .tup [.own 3, .int .i64 (callsF s.members 6 f0 need0 fun _ => 0).2]) := by
  have hz := encYs_len s.members
  refine TF.cutTo (TF.ev fn_70 (Ev.at ?_))
  (repeat' (first | (intro ex hex; (first | have hq := hg1 (by omega) hex | have hq := hg2 (by omega) hex); subst hq; clear hex) | (refine Ev.go ?_; conv => whnf) | refine And.intro ?_ ?_ | exact True.intro | exact rfl | (intro rx hrx; rw [ij _ (by omega)] at hrx) | (intro hcx; exfalso; omega) | intro _))
  all_goals (first | (refine ⟨?_⟩; exact vc) | exact cl | skip)
  refine TWq.loop (fun p : Nat × (Nat → Bool) × Int × (Nat → Int) => [(1, .int .i64 p.2.2.1), (6, .junk), (7, .junk), (8, .junk), (9, .junk), (10, .junk)])
    (fun p => [(2, .cells (encW s p.2.1 .junk)), (3, .arr 3 1 (ints (tab s.members.length p.2.2.2)))]) (fun p => CallI s.members f0 need0 p.1 p.2.1 p.2.2.1 p.2.2.2) (fun p => p.1) (6, f0, need0, fun _ => 0) [] [] ?_ ⟨rfl, ?_, hf0, hn⟩ ?_
  · (repeat' (first | (intro ex hex; (first | have hq := hg1 (by omega) hex | have hq := hg2 (by omega) hex); subst hq; clear hex) | (refine Ev.go ?_; conv => whnf) | refine And.intro ?_ ?_ | exact True.intro | exact rfl | (intro rx hrx; rw [ij _ (by omega)] at hrx) | (intro hcx; exfalso; omega) | intro _))
    all_goals (first | (refine ⟨?_⟩; exact vc) | exact cl | skip)
    all_goals (refine ⟨?_⟩; rw [hz]; simp [tab, ints, List.map_const'])
  · have := cntB_le f0
    dsimp only; omega
  · rintro ⟨t, f, need, o⟩ hI
    dsimp only at hI ⊢
    cases ha : any5 f
    · obtain ⟨a0, a1, a2, a3, a4⟩ := any5_iff.1 ha
      obtain ⟨t, rfl⟩ : ∃ t', t = t' + 1 := ⟨t - 1, by have := hI.cnt; omega⟩
      have he := hI.eq.trans (show callsF s.members (t + 1) f need o = (o, need) by simp only [callsF, if_pos ha])
      (repeat' (first | (intro ex hex; (first | have hq := hg1 (by omega) hex | have hq := hg2 (by omega) hex); subst hq; clear hex) | (refine Ev.go ?_; conv => whnf) | refine And.intro ?_ ?_ | exact True.intro | exact rfl | (intro rx hrx; rw [ij _ (by omega)] at hrx) | (intro hcx; exfalso; omega) | intro _))
      all_goals (first | (refine ⟨?_⟩; exact vc) | exact cl | skip)
      all_goals (try exact ⟨sh5 _ _ _ _ _⟩)
      · exact ⟨by rw [he]⟩
      · change SV.tup [.own 3, .int .i64 need] = _
        rw [he]
      · rename_i hq
        exact absurd (by rw [a0, a1, a2, a3, a4]) hq
    · (repeat' (first | (intro ex hex; (first | have hq := hg1 (by omega) hex | have hq := hg2 (by omega) hex); subst hq; clear hex) | (refine Ev.go ?_; conv => whnf) | refine And.intro ?_ ?_ | exact True.intro | exact rfl | (intro rx hrx; rw [ij _ (by omega)] at hrx) | (intro hcx; exfalso; omega) | intro _))
      all_goals (first | (refine ⟨?_⟩; exact vc) | exact cl | skip)
      all_goals (try exact ⟨sh5 _ _ _ _ _⟩)
      all_goals (try (rename_i hq; exfalso; simp only [SV.agg.injEq, List.cons.injEq, SV.bool.injEq, and_true] at hq; rw [any5_iff.2 hq] at ha; cases ha; done))
      · rename_i hq
        obtain ⟨t, rfl⟩ : ∃ t', t = t' + 1 := ⟨t - 1, by have := hI.cnt; omega⟩
        have d89 := t134 s f need (tab s.members.length o) hm hl hI.nn
        refine TSq.callT rfl rfl (calleeK_const (And.intro rfl rfl) (d89.mono ?_))
        rintro _ _ ⟨rfl, rfl⟩
        (repeat' (first | (intro ex hex; (first | have hq := hg1 (by omega) hex | have hq := hg2 (by omega) hex); subst hq; clear hex) | (refine Ev.go ?_; conv => whnf) | refine And.intro ?_ ?_ | exact True.intro | exact rfl | (intro rx hrx; rw [ij _ (by omega)] at hrx) | (intro hcx; exfalso; omega) | intro _))
        all_goals (first | (refine ⟨?_⟩; exact vc) | exact cl | skip)
        have hUpos : 0 < unitsF s.members f s.members.length := by
          obtain ⟨i, hi⟩ : ∃ i, f i = true := by
            simp only [any5, Bool.or_eq_true] at ha
            rcases ha with h | h | h | h | h <;> exact ⟨_, h⟩
          have := unitsF_pos hm (List.getElem?_eq_getElem (hI.lt i hi)) (hI.lt i hi) hi
          omega
        have hnb : ∀ k, k ≤ s.members.length → 0 ≤ needF s.members (capF s.members f need) need k ∧ needF s.members (capF s.members f need) need k ≤ 300000 := fun k hk => by
          have q1 := needF_ok (f := f) (need := need) hm hI.nn.1 k hk
          have q2 := leftF_nn (ms := s.members) (f := f) (need := need) hUpos
          have q3 := leftF_anti (f := f) (need := need) hm hI.nn.1 (Int.le_of_lt hUpos) k (s.members.length - k)
          rw [show k + (s.members.length - k) = s.members.length by omega] at q3
          have := hI.nn
          omega
        refine TWq.loop (fun k : Nat => [(1, .int .i64 (needF s.members (capF s.members f need) need k)), (37, .int .i64 k), (8, .junk), (9, .junk)])
          (fun k => [(2, .cells (encW s (capU s.members f need k) .junk)), (3, .arr 3 1 (ints (tab s.members.length (outU s.members f need o k))))]) (fun k => k ≤ s.members.length) (fun k => s.members.length - k) 0 [] [] ?_ (by omega) ?_
        · (repeat' (first | (intro ex hex; (first | have hq := hg1 (by omega) hex | have hq := hg2 (by omega) hex); subst hq; clear hex) | (refine Ev.go ?_; conv => whnf) | refine And.intro ?_ ?_ | exact True.intro | exact rfl | (intro rx hrx; rw [ij _ (by omega)] at hrx) | (intro hcx; exfalso; omega) | intro _))
          all_goals (first | (refine ⟨?_⟩; exact vc) | exact cl | skip)
          all_goals (first | exact ⟨capU_0 _⟩ | exact ⟨congrArg ints (tab_congr fun i _ => outU_0 i)⟩)
        · intro k hk
          have hnk := hnb k hk
          rcases Nat.lt_or_ge k s.members.length with hkl | hkl
          · obtain ⟨m, hmk⟩ : ∃ m, s.members[k]? = some m := ⟨_, List.getElem?_eq_getElem hkl⟩
            have hnk1 := hnb (k + 1) hkl
            have hns : needF s.members (capF s.members f need) need (k + 1) = needF s.members (capF s.members f need) need k - (if capF s.members f need k = true then mst s.members k else 0) := rfl
            have hg1 : ∀ {n : Nat} {e : SV}, n = k → (encYs s.members)[n]? = some e → e = encY m := by
              rintro n e rfl he
              obtain ⟨x, hx, rfl⟩ := encYs_at he
              rw [hmk] at hx; cases hx; rfl
            have hmst := mst_at hmk
            have hLk : (ints (tab s.members.length (outU s.members f need o k))).length = s.members.length := by rw [ints_len, tab_len]
            have hg2 : ∀ {n : Nat} {e : SV}, n = k → (ints (tab s.members.length (outU s.members f need o k)))[n]? = some e → e = .int .i64 (outU s.members f need o k k) := by
              rintro n e rfl he
              obtain ⟨x, hx, rfl⟩ := ints_at he
              simp only [tab, List.getElem?_map, List.getElem?_range hkl, Option.map_some, Option.some.injEq] at hx
              rw [hx]
            cases hf : f k
            · have hc := capF_no (ms := s.members) (need := need) hf
              rw [hc] at hns
              simp only [Bool.false_eq_true, if_false] at hns
              have hat := fl5_at (g := f) (k := k) (by omega)
              rw [hf] at hat
              (repeat' (first | (intro ex hex; (first | have hq := hg1 (by omega) hex | have hq := hg2 (by omega) hex); subst hq; clear hex) | (refine Ev.go ?_; conv => whnf) | refine And.intro ?_ ?_ | exact True.intro | exact rfl | (intro rx hrx; rw [ij _ (by omega)] at hrx) | (intro hcx; exfalso; omega) | intro _))
              all_goals (first | (refine ⟨?_⟩; exact vc) | exact cl | skip)
              refine getK_of hat ?_
              (repeat' (first | (intro ex hex; (first | have hq := hg1 (by omega) hex | have hq := hg2 (by omega) hex); subst hq; clear hex) | (refine Ev.go ?_; conv => whnf) | refine And.intro ?_ ?_ | exact True.intro | exact rfl | (intro rx hrx; rw [ij _ (by omega)] at hrx) | (intro hcx; exfalso; omega) | intro _))
              all_goals (first | (refine ⟨?_⟩; exact vk) | exact cl | skip)
              refine ⟨⟨k + 1, by omega, by omega, ?_⟩⟩
              (repeat' (first | (intro ex hex; (first | have hq := hg1 (by omega) hex | have hq := hg2 (by omega) hex); subst hq; clear hex) | (refine Ev.go ?_; conv => whnf) | refine And.intro ?_ ?_ | exact True.intro | exact rfl | (intro rx hrx; rw [ij _ (by omega)] at hrx) | (intro hcx; exfalso; omega) | intro _))
              all_goals (first | (refine ⟨?_⟩; exact vc) | exact cl | skip)
              all_goals (first | exact ⟨capU_not hc _⟩ | exact ⟨congrArg ints (tab_congr fun i _ => outU_not hc i)⟩ | (refine ⟨?_⟩; rw [hns]; omega))
            · have hcd := capF_of (need := need) hkl hf
              obtain ⟨k1, hk1⟩ : ∃ k1, k1 = k + 1 := ⟨_, rfl⟩
              have tset := fun (v : Int) (h : v = outU s.members f need o (k + 1) k) => tab_set (n := s.members.length) (outU s.members f need o k) (o' := outU s.members f need o (k + 1)) h (fun i hi => outU_other hi)
              rcases Int.lt_or_le (mst s.members k) (shareF s.members f need k) with hlt | hge
              · have hc : capF s.members f need k = true := by rw [hcd, decide_eq_true hlt]
                rw [hc] at hns
                simp only [if_true] at hns
                have hout := outU_at (o := o) hc
                have hcu := capU_at hc
                rw [hmst] at hlt hns hout
                have hcs : k = 0 ∨ k = 1 ∨ k = 2 ∨ k = 3 ∨ k = 4 := by omega
                rcases hcs with rfl | rfl | rfl | rfl | rfl
                all_goals
                  (repeat' (first | (intro ex hex; (first | have hq := hg1 (by omega) hex | have hq := hg2 (by omega) hex); subst hq; clear hex) | (refine Ev.go ?_; conv => whnf) | refine And.intro ?_ ?_ | exact True.intro | exact rfl | (intro rx hrx; rw [ij _ (by omega)] at hrx) | (intro hcx; exfalso; omega) | intro _))
                  all_goals (first | (refine ⟨?_⟩; exact vc) | exact cl | skip)
                  rw [hf]
                  conv => whnf
                  (repeat' (first | (intro ex hex; (first | have hq := hg1 (by omega) hex | have hq := hg2 (by omega) hex); subst hq; clear hex) | (refine Ev.go ?_; conv => whnf) | refine And.intro ?_ ?_ | exact True.intro | exact rfl | (intro rx hrx; rw [ij _ (by omega)] at hrx) | (intro hcx; exfalso; omega) | intro _))
                  all_goals (first | (refine ⟨?_⟩; exact vk) | exact cl | skip)
                  refine ⟨⟨k1, by omega, by omega, ?_⟩⟩
                  subst hk1
                  (repeat' (first | (intro ex hex; (first | have hq := hg1 (by omega) hex | have hq := hg2 (by omega) hex); subst hq; clear hex) | (refine Ev.go ?_; conv => whnf) | refine And.intro ?_ ?_ | exact True.intro | exact rfl | (intro rx hrx; rw [ij _ (by omega)] at hrx) | (intro hcx; exfalso; omega) | intro _))
                  all_goals (first | (refine ⟨?_⟩; exact vc) | exact cl | skip)
                  all_goals (first | exact ⟨hcu⟩ | exact ⟨capU_other (by decide)⟩ | exact ⟨tset _ hout⟩ | (refine ⟨?_⟩; rw [hns]; omega))
              · have hc : capF s.members f need k = false := by rw [hcd, decide_eq_false (by omega)]
                rw [hc] at hns
                simp only [Bool.false_eq_true, if_false] at hns
                have hat := fl5_at (g := f) (k := k) (by omega)
                have hat2 := fi5_at (g := shareF s.members f need) (k := k) (by omega)
                rw [hf] at hat
                rw [hmst] at hge
                (repeat' (first | (intro ex hex; (first | have hq := hg1 (by omega) hex | have hq := hg2 (by omega) hex); subst hq; clear hex) | (refine Ev.go ?_; conv => whnf) | refine And.intro ?_ ?_ | exact True.intro | exact rfl | (intro rx hrx; rw [ij _ (by omega)] at hrx) | (intro hcx; exfalso; omega) | intro _))
                all_goals (first | (refine ⟨?_⟩; exact vc) | exact cl | skip)
                refine getK_of hat ?_
                (repeat' (first | (intro ex hex; (first | have hq := hg1 (by omega) hex | have hq := hg2 (by omega) hex); subst hq; clear hex) | (refine Ev.go ?_; conv => whnf) | refine And.intro ?_ ?_ | exact True.intro | exact rfl | (intro rx hrx; rw [ij _ (by omega)] at hrx) | (intro hcx; exfalso; omega) | intro _))
                all_goals (first | (refine ⟨?_⟩; exact vc) | exact cl | skip)
                refine getK_of hat2 ?_
                (repeat' (first | (intro ex hex; (first | have hq := hg1 (by omega) hex | have hq := hg2 (by omega) hex); subst hq; clear hex) | (refine Ev.go ?_; conv => whnf) | refine And.intro ?_ ?_ | exact True.intro | exact rfl | (intro rx hrx; rw [ij _ (by omega)] at hrx) | (intro hcx; exfalso; omega) | intro _))
                all_goals (first | (refine ⟨?_⟩; exact vk) | exact cl | skip)
                refine ⟨⟨k + 1, by omega, by omega, ?_⟩⟩
                (repeat' (first | (intro ex hex; (first | have hq := hg1 (by omega) hex | have hq := hg2 (by omega) hex); subst hq; clear hex) | (refine Ev.go ?_; conv => whnf) | refine And.intro ?_ ?_ | exact True.intro | exact rfl | (intro rx hrx; rw [ij _ (by omega)] at hrx) | (intro hcx; exfalso; omega) | intro _))
                all_goals (first | (refine ⟨?_⟩; exact vc) | exact cl | skip)
                all_goals (first | exact ⟨capU_not hc _⟩ | exact ⟨congrArg ints (tab_congr fun i _ => outU_not hc i)⟩ | (refine ⟨?_⟩; rw [hns]; omega))
          · have hke : k = s.members.length := by omega
            subst hke
            have hLn : (ints (tab s.members.length (outU s.members f need o s.members.length))).length = s.members.length := by rw [ints_len, tab_len]
            cases hcap : any5 (capF s.members f need)
            · obtain ⟨c0, c1, c2, c3, c4⟩ := any5_iff.1 hcap
              have he := hI.eq.trans (show callsF s.members (t + 1) f need o = (fun i => if f i = true ∧ i < s.members.length then shareF s.members f need i else o i, 0) by
                show (if any5 f = false then _ else if any5 (capF s.members f need) = false then _ else _) = _
                rw [if_neg (by rw [ha]; simp), if_pos hcap])
              have hcn : ∀ i, i < s.members.length → capF s.members f need i = false := fun i hi => by
                have : i = 0 ∨ i = 1 ∨ i = 2 ∨ i = 3 ∨ i = 4 := by omega
                rcases this with rfl | rfl | rfl | rfl | rfl <;> assumption
              (repeat' (first | (intro ex hex; (first | have hq := hg1 (by omega) hex | have hq := hg2 (by omega) hex); subst hq; clear hex) | (refine Ev.go ?_; conv => whnf) | refine And.intro ?_ ?_ | exact True.intro | exact rfl | (intro rx hrx; rw [ij _ (by omega)] at hrx) | (intro hcx; exfalso; omega) | intro _))
              all_goals (first | (refine ⟨?_⟩; exact vk) | exact cl | skip)
              all_goals (try exact ⟨sh5 _ _ _ _ _⟩)
              all_goals (try (rename_i hq; exfalso; refine hq ?_; simp only [capU_n, c0, c1, c2, c3, c4, Bool.not_false, Bool.and_true]; done))
              refine TWq.loop (fun k : Nat => [(80, .int .i64 k), (10, .junk)]) (fun k => [(3, .arr 3 1 (ints (tab s.members.length (finU s.members f need (outU s.members f need o s.members.length) k))))]) (fun k => k ≤ s.members.length) (fun k => s.members.length - k) 0 [] [] ?_ (by omega) ?_
              · (repeat' (first | (intro ex hex; (first | have hq := hg1 (by omega) hex | have hq := hg2 (by omega) hex); subst hq; clear hex) | (refine Ev.go ?_; conv => whnf) | refine And.intro ?_ ?_ | exact True.intro | exact rfl | (intro rx hrx; rw [ij _ (by omega)] at hrx) | (intro hcx; exfalso; omega) | intro _))
                all_goals (first | (refine ⟨?_⟩; exact vc) | exact cl | skip)
                all_goals (exact ⟨congrArg ints (tab_congr fun i _ => finU_0 i)⟩)
              · intro k hk
                rcases Nat.lt_or_ge k s.members.length with hkl | hkl
                · have hLk : (ints (tab s.members.length (finU s.members f need (outU s.members f need o s.members.length) k))).length = s.members.length := by rw [ints_len, tab_len]
                  have hg1 : ∀ {n : Nat} {e : SV}, n = k → (ints (tab s.members.length (finU s.members f need (outU s.members f need o s.members.length) k)))[n]? = some e → e = .int .i64 (finU s.members f need (outU s.members f need o s.members.length) k k) := by
                    rintro n e rfl he
                    obtain ⟨x, hx, rfl⟩ := ints_at he
                    simp only [tab, List.getElem?_map, List.getElem?_range hkl, Option.map_some, Option.some.injEq] at hx
                    rw [hx]
                  have hat := fl5_at (g := f) (k := k) (by omega)
                  have hat2 := fi5_at (g := shareF s.members f need) (k := k) (by omega)
                  cases hf : f k
                  · rw [hf] at hat
                    (repeat' (first | (intro ex hex; (first | have hq := hg1 (by omega) hex | have hq := hg2 (by omega) hex); subst hq; clear hex) | (refine Ev.go ?_; conv => whnf) | refine And.intro ?_ ?_ | exact True.intro | exact rfl | (intro rx hrx; rw [ij _ (by omega)] at hrx) | (intro hcx; exfalso; omega) | intro _))
                    all_goals (first | (refine ⟨?_⟩; exact vc) | exact cl | skip)
                    refine getK_of hat ?_
                    (repeat' (first | (intro ex hex; (first | have hq := hg1 (by omega) hex | have hq := hg2 (by omega) hex); subst hq; clear hex) | (refine Ev.go ?_; conv => whnf) | refine And.intro ?_ ?_ | exact True.intro | exact rfl | (intro rx hrx; rw [ij _ (by omega)] at hrx) | (intro hcx; exfalso; omega) | intro _))
                    all_goals (first | (refine ⟨?_⟩; exact vc) | exact cl | skip)
                    refine ⟨⟨k + 1, by omega, by omega, ?_⟩⟩
                    (repeat' (first | (intro ex hex; (first | have hq := hg1 (by omega) hex | have hq := hg2 (by omega) hex); subst hq; clear hex) | (refine Ev.go ?_; conv => whnf) | refine And.intro ?_ ?_ | exact True.intro | exact rfl | (intro rx hrx; rw [ij _ (by omega)] at hrx) | (intro hcx; exfalso; omega) | intro _))
                    all_goals (first | (refine ⟨?_⟩; exact vc) | exact cl | skip)
                    all_goals (exact ⟨congrArg ints (tab_congr fun i _ => finU_not hf i)⟩)
                  · rw [hf] at hat
                    (repeat' (first | (intro ex hex; (first | have hq := hg1 (by omega) hex | have hq := hg2 (by omega) hex); subst hq; clear hex) | (refine Ev.go ?_; conv => whnf) | refine And.intro ?_ ?_ | exact True.intro | exact rfl | (intro rx hrx; rw [ij _ (by omega)] at hrx) | (intro hcx; exfalso; omega) | intro _))
                    all_goals (first | (refine ⟨?_⟩; exact vc) | exact cl | skip)
                    refine getK_of hat ?_
                    (repeat' (first | (intro ex hex; (first | have hq := hg1 (by omega) hex | have hq := hg2 (by omega) hex); subst hq; clear hex) | (refine Ev.go ?_; conv => whnf) | refine And.intro ?_ ?_ | exact True.intro | exact rfl | (intro rx hrx; rw [ij _ (by omega)] at hrx) | (intro hcx; exfalso; omega) | intro _))
                    all_goals (first | (refine ⟨?_⟩; exact vc) | exact cl | skip)
                    refine getK_of hat2 ?_
                    (repeat' (first | (intro ex hex; (first | have hq := hg1 (by omega) hex | have hq := hg2 (by omega) hex); subst hq; clear hex) | (refine Ev.go ?_; conv => whnf) | refine And.intro ?_ ?_ | exact True.intro | exact rfl | (intro rx hrx; rw [ij _ (by omega)] at hrx) | (intro hcx; exfalso; omega) | intro _))
                    all_goals (first | (refine ⟨?_⟩; exact vc) | exact cl | skip)
                    refine ⟨⟨k + 1, by omega, by omega, ?_⟩⟩
                    (repeat' (first | (intro ex hex; (first | have hq := hg1 (by omega) hex | have hq := hg2 (by omega) hex); subst hq; clear hex) | (refine Ev.go ?_; conv => whnf) | refine And.intro ?_ ?_ | exact True.intro | exact rfl | (intro rx hrx; rw [ij _ (by omega)] at hrx) | (intro hcx; exfalso; omega) | intro _))
                    all_goals (first | (refine ⟨?_⟩; exact vc) | exact cl | skip)
                    all_goals (exact ⟨tab_set _ (finU_at hf) (fun i hi => finU_other hi)⟩)
                · have hke : k = s.members.length := by omega
                  subst hke
                  (repeat' (first | (intro ex hex; (first | have hq := hg1 (by omega) hex | have hq := hg2 (by omega) hex); subst hq; clear hex) | (refine Ev.go ?_; conv => whnf) | refine And.intro ?_ ?_ | exact True.intro | exact rfl | (intro rx hrx; rw [ij _ (by omega)] at hrx) | (intro hcx; exfalso; omega) | intro _))
                  all_goals (first | (refine ⟨?_⟩; exact vc) | exact cl | skip)
                  · refine ⟨congrArg ints ?_⟩
                    rw [he]
                    refine tab_congr fun i hi => ?_
                    simp only [finU, outU, hi, hcn i hi, true_and, and_true, Bool.false_eq_true, and_false, if_false]
                  · change SV.tup [.own 3, .int .i64 0] = _
                    rw [he]
            · (repeat' (first | (intro ex hex; (first | have hq := hg1 (by omega) hex | have hq := hg2 (by omega) hex); subst hq; clear hex) | (refine Ev.go ?_; conv => whnf) | refine And.intro ?_ ?_ | exact True.intro | exact rfl | (intro rx hrx; rw [ij _ (by omega)] at hrx) | (intro hcx; exfalso; omega) | intro _))
              all_goals (first | (refine ⟨?_⟩; exact vk) | exact cl | skip)
              all_goals (try exact ⟨sh5 _ _ _ _ _⟩)
              all_goals (try (rename_i hq; exfalso; simp only [SV.agg.injEq, List.cons.injEq, SV.bool.injEq, and_true, capU_n] at hq; simp only [any5, Bool.or_eq_true] at hcap; obtain ⟨q0, q1, q2, q3, q4⟩ := hq; rcases hcap with h | h | h | h | h <;> (have hfi := (cap_quo h).2.1; simp_all); done))
              have hstep : callsF s.members (t + 1) f need o = callsF s.members t (fun i => f i && !capF s.members f need i) (needF s.members (capF s.members f need) need s.members.length) (fun i => if capF s.members f need i = true then mst s.members i else o i) := by
                show (if any5 f = false then _ else if any5 (capF s.members f need) = false then _ else _) = _
                rw [if_neg (by rw [ha]; simp), if_neg (by rw [hcap]; simp)]
              have hcl := cntB_lt hcap (fun i h => (cap_quo h).2.1)
              have hI' : CallI s.members f0 need0 t (fun i => f i && !capF s.members f need i) (needF s.members (capF s.members f need) need s.members.length) (fun i => if capF s.members f need i = true then mst s.members i else o i) :=
                ⟨hI.eq.trans hstep, by have := hI.cnt; omega, fun i hi => hI.lt i (by simp only [Bool.and_eq_true] at hi; exact hi.1), hnb _ (Nat.le_refl _)⟩
              refine ⟨⟨(t, _, _, _), hI', by dsimp only; omega, ?_⟩⟩
              (repeat' (first | (intro ex hex; (first | have hq := hg1 (by omega) hex | have hq := hg2 (by omega) hex); subst hq; clear hex) | (refine Ev.go ?_; conv => whnf) | refine And.intro ?_ ?_ | exact True.intro | exact rfl | (intro rx hrx; rw [ij _ (by omega)] at hrx) | (intro hcx; exfalso; omega) | intro _))
              all_goals (first | (refine ⟨?_⟩; exact vc) | exact cl | skip)
              all_goals (first | exact ⟨capU_n _⟩ | (refine ⟨congrArg ints (tab_congr fun i hi => ?_)⟩; show outU s.members f need o s.members.length i = if capF s.members f need i = true then mst s.members i else o i; simp only [outU, hi, true_and]))
end Go.Proofs.YtjadiajfbflghaaGreat
set_option linter.unusedSimpArgs false
set_option linter.unusedVariables false
open Go Go.TV
namespace Go.Proofs.YtjadiajfbflghaaGreat
theorem fault_ok {s : Soc} (h : fault s = 0) : (∀ m ∈ s.members, OkM m) ∧ (∀ r ∈ s.losses, 0 ≤ r.lo ∧ r.lo ≤ r.hi ∧ r.hi ≤ 100000 ∧ r.hi - r.lo ≤ 30) ∧ (0 ≤ s.treaty.lo ∧ s.treaty.lo ≤ s.treaty.hi ∧ s.treaty.hi ≤ 100000 ∧ s.treaty.hi - s.treaty.lo ≤ 30) ∧ (0 ≤ s.reserve ∧ s.reserve ≤ 100000) ∧ 1 ≤ s.members.length := by
  have hv := fault_valid h
  simp only [Soc.valid, Bool.and_eq_true, decide_eq_true_eq, List.all_eq_true] at hv
  obtain ⟨h1, h2, h3, h4, h5⟩ := hv
  refine ⟨fun m hm => ?_, fun r hr => ?_, ?_, ?_, by omega⟩
  · have := h2 m hm
    simp only [Mem.valid, within, Bool.and_eq_true, decide_eq_true_eq] at this
    exact ⟨this.1, this.2.1, this.2.2⟩
  · have := h3 r hr
    simpa only [Rng.pence, decide_eq_true_eq] using this
  · simpa only [Rng.pence, decide_eq_true_eq] using h4
  · simpa only [within, decide_eq_true_eq] using h5
theorem askF_lt {ms : List Mem} {out : List Int} (i : Nat) (h : askF ms out i = true) : i < ms.length := by
  simp only [askF, Bool.and_eq_true, decide_eq_true_eq] at h
  exact h.1
def D69 (s : Soc) (o : SV) (f0 : Nat → Bool) : Prop := TF Tryz.prog 69 [encSoc s, o] [LB.cells (socC s)] fun r h' => h' = [LB.cells (socC s), LB.cells (socC s), LB.cells (encW s f0 SV.nilm)] ∧ r = SV.ptr 2 0
def D70 (s : Soc) (f0 : Nat → Bool) (need : Int) (L : List SV) (z : Int) : Prop := TF Tryz.prog 70 [SV.ptr 2 0, SV.int IntKind.i64 need] [LB.cells (socC s), LB.cells (socC s), LB.cells (encW s f0 SV.nilm)] fun r h' => h' = [LB.cells (socC s), LB.cells (socC s), LB.dead, LB.arr 3 1 L] ∧ r = SV.tup [SV.own 3, SV.int IntKind.i64 z]
theorem d71_of (s : Soc) (out : List Int) (need : Int) (hm : ∀ m ∈ s.members, OkM m) (hl : s.members.length ≤ 5) (hn : 0 ≤ need ∧ need ≤ 300000) : D70 s (askF s.members out) need (ints (callsOf s out need).1) (callsOf s out need).2 :=
  t70 s (askF s.members out) need hm hl askF_lt hn
set_option maxRecDepth 100000 in
set_option maxHeartbeats 4000000 in
theorem c131g (s : Soc) (o : SV) (ho : ∃ l, LN l o) (need : Int) (L : List SV) (f0 : Nat → Bool) (z : Int) (hL : cloL L) (d70 : D69 s o f0) (d71 : D70 s f0 need L z) :
    PF Tryz.prog 131 [encSoc s, o, .int .i64 need] (· = .sl 1 L) := by
  obtain ⟨out, ho⟩ := ho
  unfold D69 at d70
  unfold D70 at d71
  rcases ho with rfl | ⟨rfl, rfl⟩
  all_goals
    refine PF.of (TF.ev fn_131 (Ev.at ?_))
    (repeat' (first | (refine Ev.go ?_; conv => whnf) | refine And.intro ?_ ?_ | exact True.intro | exact rfl | (intro rx hrx; rw [ij _ (by omega)] at hrx) | (intro hcx; exfalso; omega) | intro _))
    refine TSq.callT rfl rfl (calleeK_const (And.intro rfl rfl) (d70.mono ?_))
    rintro _ _ ⟨rfl, rfl⟩
    (repeat' (first | (refine Ev.go ?_; conv => whnf) | refine And.intro ?_ ?_ | exact True.intro | exact rfl | (intro rx hrx; rw [ij _ (by omega)] at hrx) | (intro hcx; exfalso; omega) | intro _))
    refine TSq.callT rfl rfl (calleeK_const (And.intro rfl rfl) (d71.mono ?_))
    rintro _ _ ⟨rfl, rfl⟩
    (repeat' (first | (refine Ev.go ?_; conv => whnf) | refine And.intro ?_ ?_ | exact True.intro | exact rfl | (intro rx hrx; rw [ij _ (by omega)] at hrx) | (intro hcx; exfalso; omega) | intro _))
    all_goals (first | (refine ⟨?_⟩; exact vc) | exact cl | skip)
    all_goals (first | exact ⟨hL⟩ | rfl)
theorem c131 (s : Soc) (out : List Int) (o : SV) (need : Int) (ho : LN out o) (hm : ∀ m ∈ s.members, OkM m) (hl : s.members.length ≤ 5) (hol : out.length ≤ 1000000) (hn : 0 ≤ need ∧ need ≤ 300000) :
    PF Tryz.prog 131 [encSoc s, o, .int .i64 need] (· = .sl 1 (ints (callsOf s out need).1)) :=
  c131g s o ⟨out, ho⟩ need _ _ _ (ints_clo _) (t69 s out o ho hl hol) (d71_of s out need hm hl hn)
def SlN (l : List Int) (s : SV) : Prop := s = .sl 1 (ints l) ∨ (l = [] ∧ s = .nils)
def SlE3 (l : List Int) (n e : Int) (s : SV) : Prop := ∃ x, s = .tup [x, .int .i64 n, .int .i64 e] ∧ SlN l x
theorem SlE3.pf {f : FuncId} {args : List SV} {l : List Int} {n e : Int} (h : PF Tryz.prog f args (SlE3 l n e)) : PF Tryz.prog f args (· = .tup [.sl 1 (ints l), .int .i64 n, .int .i64 e]) := by
  refine PF.res h fun s hs _ => ?_
  obtain ⟨x, rfl, hx⟩ := hs
  refine ⟨_, rfl, by simp [clo, cloL, ints_clo], ?_⟩
  rcases hx with rfl | ⟨rfl, rfl⟩
  · (repeat' (first | (refine Ev.go ?_; conv => whnf) | refine And.intro ?_ ?_ | exact True.intro | exact rfl | (intro rx hrx; rw [ij _ (by omega)] at hrx) | (intro hcx; exfalso; omega) | (intro hcx; exfalso; simp only [lz] at hcx; omega) | intro _))
    all_goals (first | (refine ⟨?_⟩; exact vc) | exact cl | skip)
  · (repeat' (first | (refine Ev.go ?_; conv => whnf) | refine And.intro ?_ ?_ | exact True.intro | exact rfl | (intro rx hrx; rw [ij _ (by omega)] at hrx) | (intro hcx; exfalso; omega) | (intro hcx; exfalso; simp only [lz] at hcx; omega) | intro _))
    all_goals (first | (refine ⟨?_⟩; exact vc) | exact cl | skip)
def callsR (s : Soc) (need : Int) : List Int × Int × Int := if fault s ≠ 0 then ([], 0, fault s) else if within need 0 300000 = true then ((callsOf s [] need).1, (callsOf s [] need).2, 0) else ([], 0, 2)
set_option maxRecDepth 100000 in
set_option maxHeartbeats 4000000 in
theorem c19g (s : Soc) (need : Int) (hf : fault s = 0) (hw : within need 0 300000 = true) (L : List Int) (f0 : Nat → Bool) (z : Int) (h1 : s.members.length ≤ 1000000) (h2 : s.losses.length ≤ 1000000) (d70 : D69 s .nils f0) (d71 : D70 s f0 need (ints L) z) :
    PF Tryz.prog 19 [encSoc s, .int .i64 need] (SlE3 L z 0) := by
  unfold D69 at d70
  unfold D70 at d71
  have c53' := c63 s h1 h2
  rw [hf] at c53'
  refine PF.of (TF.ev fn_19 (Ev.at ?_))
  (repeat' (first | (refine Ev.go ?_; conv => whnf) | refine And.intro ?_ ?_ | exact True.intro | exact rfl | (intro rx hrx; rw [ij _ (by omega)] at hrx) | (intro hcx; exfalso; omega) | intro _))
  refine TSq.pureC c53' cl rfl (And.intro rfl rfl) ?_
  (repeat' (first | (refine Ev.go ?_; conv => whnf) | refine And.intro ?_ ?_ | exact True.intro | exact rfl | (intro rx hrx; rw [ij _ (by omega)] at hrx) | (intro hcx; exfalso; omega) | intro _))
  · refine TSq.pureBC (c68 need 0 300000) cl rfl (And.intro rfl rfl) ?_ ?_ <;> intro hw'
    · (repeat' (first | (refine Ev.go ?_; conv => whnf) | refine And.intro ?_ ?_ | exact True.intro | exact rfl | (intro rx hrx; rw [ij _ (by omega)] at hrx) | (intro hcx; exfalso; omega) | intro _))
      refine TSq.callT rfl rfl (calleeK_const (And.intro rfl rfl) (d70.mono ?_))
      rintro _ _ ⟨rfl, rfl⟩
      (repeat' (first | (refine Ev.go ?_; conv => whnf) | refine And.intro ?_ ?_ | exact True.intro | exact rfl | (intro rx hrx; rw [ij _ (by omega)] at hrx) | (intro hcx; exfalso; omega) | intro _))
      refine TSq.callT rfl rfl (calleeK_const (And.intro rfl rfl) (d71.mono ?_))
      rintro _ _ ⟨rfl, rfl⟩
      (repeat' (first | (refine Ev.go ?_; conv => whnf) | refine And.intro ?_ ?_ | exact True.intro | exact rfl | (intro rx hrx; rw [ij _ (by omega)] at hrx) | (intro hcx; exfalso; omega) | intro _))
      all_goals (first | (refine ⟨?_⟩; exact vc) | exact cl | skip)
      all_goals (try exact ⟨ints_clo _⟩)
      exact ⟨_, rfl, .inl rfl⟩
    · rw [hw] at hw'; exact absurd hw' (by simp)
set_option maxRecDepth 100000 in
set_option maxHeartbeats 4000000 in
theorem c19 (s : Soc) (need : Int) (h1 : s.members.length ≤ 1000000) (h2 : s.losses.length ≤ 1000000) : PF Tryz.prog 19 [encSoc s, .int .i64 need] (· = .tup [.sl 1 (ints (callsR s need).1), .int .i64 (callsR s need).2.1, .int .i64 (callsR s need).2.2]) := by
  refine SlE3.pf ?_
  by_cases hf : fault s = 0
  · by_cases hw : within need 0 300000 = true
    · have hn : 0 ≤ need ∧ need ≤ 300000 := by simpa only [within, decide_eq_true_eq] using hw
      have h := c19g s need hf hw _ _ _ h1 h2 (t69 s [] .nils (.inr ⟨rfl, rfl⟩) (fault_len hf).1 (by simp)) (d71_of s [] need (fault_ok hf).1 (fault_len hf).1 hn)
      simp only [callsR, if_neg (show ¬ fault s ≠ 0 by simpa using hf), if_pos hw]
      exact h
    · have c53' := c63 s h1 h2
      rw [hf] at c53'
      have e : callsR s need = ([], 0, 2) := by simp only [callsR, if_neg (show ¬ fault s ≠ 0 by simpa using hf), if_neg hw]
      rw [e]
      refine PF.of (TF.ev fn_19 (Ev.at ?_))
      (repeat' (first | (refine Ev.go ?_; conv => whnf) | refine And.intro ?_ ?_ | exact True.intro | exact rfl | (intro rx hrx; rw [ij _ (by omega)] at hrx) | (intro hcx; exfalso; omega) | intro _))
      refine TSq.pureC c53' cl rfl (And.intro rfl rfl) ?_
      (repeat' (first | (refine Ev.go ?_; conv => whnf) | refine And.intro ?_ ?_ | exact True.intro | exact rfl | (intro rx hrx; rw [ij _ (by omega)] at hrx) | (intro hcx; exfalso; omega) | intro _))
      · refine TSq.pureBC (c68 need 0 300000) cl rfl (And.intro rfl rfl) ?_ ?_ <;> intro hw'
        · exact absurd hw' hw
        · (repeat' (first | (refine Ev.go ?_; conv => whnf) | refine And.intro ?_ ?_ | exact True.intro | exact rfl | (intro rx hrx; rw [ij _ (by omega)] at hrx) | (intro hcx; exfalso; omega) | intro _))
          exact ⟨_, rfl, .inr ⟨rfl, rfl⟩⟩
  · have e : callsR s need = ([], 0, fault s) := by simp only [callsR, if_pos hf]
    rw [e]
    have c53' := c63 s h1 h2
    generalize fault s = ft at *
    refine PF.of (TF.ev fn_19 (Ev.at ?_))
    (repeat' (first | (refine Ev.go ?_; conv => whnf) | refine And.intro ?_ ?_ | exact True.intro | exact rfl | (intro rx hrx; rw [ij _ (by omega)] at hrx) | (intro hcx; exfalso; omega) | intro _))
    refine TSq.pureC c53' cl rfl (And.intro rfl rfl) ?_
    (repeat' (first | (refine Ev.go ?_; conv => whnf) | refine And.intro ?_ ?_ | exact True.intro | exact rfl | (intro rx hrx; rw [ij _ (by omega)] at hrx) | (intro hcx; exfalso; omega) | intro _))
    exact ⟨_, rfl, .inr ⟨rfl, rfl⟩⟩
end Go.Proofs.YtjadiajfbflghaaGreat
