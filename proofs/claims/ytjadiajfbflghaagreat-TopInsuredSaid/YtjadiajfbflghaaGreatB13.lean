/- TopInsured, the walk of the statement. -/
import Derived.Test.YtjadiajfbflghaaGreatB12
import Derived.Test.YtjadiajfbflghaaGreatProg
set_option maxHeartbeats 32000000
set_option maxRecDepth 100000
set_option linter.unusedSimpArgs false
set_option linter.unusedVariables false
set_option linter.defProp false
open Go Go.TV
namespace Go.Proofs.YtjadiajfbflghaaGreat
theorem TF.cutX {P : Program} {α : Type} {pr : α → Prop} {h0 : α → List LB} {R : α → SV → Prop} {f : FuncId} {args : List SV} {h : List LB} (hT : TF P f args h fun s h' => Vc (∃ x, pr x ∧ Ev (fitS h.length [] ⟨[s], h', []⟩ ⟨[s], h0 x, []⟩) ∧ R x s)) : TF P f args h (fun s h' => ∃ x, pr x ∧ h' = h0 x ∧ R x s) := by
 refine ⟨hT.ok, fun hm g w vals h1 h2 h3 h4 h5 => (hT.run hm g w vals h1 h2 h3 h4 h5).mono ?_⟩
 rintro _ w' ⟨v, s, h', g', rfl, q, k1, k2, k3, k4, k5⟩
 obtain ⟨x, q0, q1, q2⟩ := q.h
 have hno : g'.hid = none := k5.hid.trans h1
 obtain ⟨g2, s2, e2⟩ := Wk.fit (P := P) [] q1.at g' ⟨#[v], []⟩ w' ⟨k1, k2, by simp only [Gh.denL, denL]; exact ⟨v, [], rfl, k3, rfl⟩, k4, by simp [dfden]⟩
 have d2 := s2.tm
 simp only [Gh.denL, denL] at d2
 obtain ⟨u, us, e, d2, _⟩ := d2
 have : u = v := by simpa using (List.cons.inj e).1.symm
 subst this
 exact ⟨u, s, h0 x, g2, rfl, ⟨x, q0, rfl, q2⟩, s2.ok, s2.lt, d2, s2.hp, ((k5.exw h.length).trans e2).ext h3 h1⟩
def encK (K : List Sm) : List (SV × SV) := K.map fun s => (encSm s, .bool true)
def shSum : TShape := .st [(0, 1, false, .int .i64), (1, 4, true, .arr 4 1 false (.int .i64))]
theorem shSm (s : Sm) : shOK shSum (encSm s) := by simp [shSum, encSm, shOK, shF, partK, getK, lenIs, dropK, takeK, andN]
theorem shK (K : List Sm) : ∀ e ∈ encK K, shOK shSum e.1 := by
 intro e he
 obtain ⟨x, _, rfl⟩ := List.mem_map.1 he
 exact shSm _
theorem encK_clo (K : List Sm) : cloM (encK K) := by
 intro e he
 obtain ⟨x, _, rfl⟩ := List.mem_map.1 he
 simp [encSm, clo, cloL]
theorem encSm_inj {x y : Sm} (h : encSm x = encSm y) : x = y := by
 obtain ⟨a1, a2, a3, a4, a5⟩ := x
 obtain ⟨b1, b2, b3, b4, b5⟩ := y
 simp only [encSm, SV.agg.injEq, List.cons.injEq, SV.int.injEq, true_and, and_true] at h
 simp_all
theorem encK_nodup {K : List Sm} (h : K.Nodup) : ((encK K).map (·.1)).Nodup := by
 have e : (encK K).map (·.1) = K.map encSm := by simp [encK]
 rw [e]
 exact List.Pairwise.map _ (fun a b hab e => hab (encSm_inj e)) h
theorem encK_split {K : List Sm} {pre post : List (SV × SV)} {k v : SV} (h : encK K = pre ++ (k, v) :: post) : ∃ a x b, K = a ++ x :: b ∧ pre = encK a ∧ k = encSm x ∧ v = .bool true ∧ post = encK b := by
 obtain ⟨a, c, rfl, rfl, h2⟩ := List.map_eq_append_iff.1 h
 obtain ⟨x, b, rfl, h3, rfl⟩ := List.map_eq_cons_iff.1 h2
 cases h3
 exact ⟨a, x, b, rfl, rfl, rfl, rfl, rfl⟩
def reachS : List (List (Int × Int)) → Sm → List Sm
 | [], s => [s]
 | m :: ms, s => m.flatMap fun o => reachS ms (s.plus o)
def OkOuts (outs : List (List (Int × Int))) : Prop := outs.length ≤ 3 ∧ ∀ m ∈ outs, ∀ o ∈ m, (0 ≤ o.1 ∧ o.1 ≤ 100000) ∧ 0 ≤ o.2 ∧ o.2 ≤ 3
def SumQ (outs : List (List (Int × Int))) (i : Nat) (s : Sm) (K0 K : List Sm) : Prop := K.Nodup ∧ ∀ x, x ∈ K ↔ x ∈ K0 ∨ x ∈ reachS (outs.drop i) s
def sumB (c : Cas) (outs : List (List (Int × Int))) (K : List Sm) : List LB := [.cells [encWk c outs], .map (encK K), .cells [.mp 1], .cells [.fn 184 [] [.ptr 0 0, .ptr 2 0, .ptr 3 0]]]
theorem t184 (c : Cas) (outs : List (List (Int × Int))) (hO : OkOuts outs) : ∀ (n i : Nat) (s : Sm) (K0 : List Sm), i + n = outs.length → OkS i s → K0.Nodup →
  TF Tryz.prog 184 [encSm s, .int .i64 i, .ptr 0 0, .ptr 2 0, .ptr 3 0] (sumB c outs K0) (fun r h' => ∃ K, SumQ outs i s K0 K ∧ h' = sumB c outs K ∧ r = .tup []) := by
 intro n
 induction n with
 | zero =>
  intro i s K0 hi hs hK
  have hfew := hO.1
  have hz := encOuts_len outs
  refine TF.cutX (TF.ev fn_184 (Ev.at ?_))
  unfold sumB
  have hR : ∀ x, x ∈ reachS (outs.drop i) s ↔ x = s := fun x => by
   rw [List.drop_eq_nil_of_le (by omega)]; simp [reachS]
  simp only [SumQ, hR]
  clear hR
  rcases outs with _ | ⟨b, l⟩
  all_goals
   simp only [List.length_cons, List.length_nil] at hi
   (repeat' first | (refine eg ?_; conv => whnf) | refine gx hg1 ?_ | refine an ?_ ?_ | (refine iw ?_; intro rx hrx) | exact lf | intro _)
   all_goals try exact vy
   all_goals (try (exfalso; simp only [encOuts_len, List.length_cons] at *; omega))
   all_goals (first | exact ⟨shSm _⟩ | exact ⟨shK _⟩ | skip)
   refine upd_cases (encK_nodup hK) ?_ ?_
   ·intro pre v0 post he
    obtain ⟨a', x', b', hk', rfl, hx', rfl, rfl⟩ := encK_split he
    have hx' : s = x' := encSm_inj hx'
    (repeat' first | (refine eg ?_; conv => whnf) | refine gx hg1 ?_ | refine an ?_ ?_ | (refine iw ?_; intro rx hrx) | exact lf | intro _)
    all_goals try exact vy
    refine ⟨⟨K0, ⟨hK, fun x => ⟨.inl, ?_⟩⟩, ?_, rfl⟩⟩
    ·rintro (h1 | rfl)
     ·exact h1
     ·rw [hk', hx']; simp
    ·(repeat' first | (refine eg ?_; conv => whnf) | refine gx hg1 ?_ | refine an ?_ ?_ | (refine iw ?_; intro rx hrx) | exact lf | intro _)
     all_goals try exact vy
     all_goals (try (refine ⟨?_⟩; exact encK_clo _))
     all_goals (try (refine ⟨?_⟩; rw [hk']; simp only [encK, List.map_append, List.map_cons, ← hx']; rfl))
   ·intro hno
    have hno' : ¬ s ∈ K0 := fun hm => hno _ (List.mem_map.2 ⟨_, hm, rfl⟩) rfl
    (repeat' first | (refine eg ?_; conv => whnf) | refine gx hg1 ?_ | refine an ?_ ?_ | (refine iw ?_; intro rx hrx) | exact lf | intro _)
    all_goals try exact vy
    refine ⟨⟨K0 ++ [s], ⟨?_, fun x => by simp⟩, ?_, rfl⟩⟩
    ·rw [List.nodup_append]
     exact ⟨hK, by simp, fun p hp q hq e => by simp at hq; subst hq; subst e; exact hno' hp⟩
    ·(repeat' first | (refine eg ?_; conv => whnf) | refine gx hg1 ?_ | refine an ?_ ?_ | (refine iw ?_; intro rx hrx) | exact lf | intro _)
     all_goals try exact vy
     all_goals (try (refine ⟨?_⟩; exact encK_clo _))
     all_goals (try (refine ⟨?_⟩; simp only [encK, List.map_append, List.map_cons, List.map_nil]; rfl))
 | succ n ih =>
  intro i s K0 hi hs hK
  have hfew := hO.1
  have hz := encOuts_len outs
  obtain ⟨m, hm⟩ : ∃ v, outs[i]? = some v := ⟨_, List.getElem?_eq_getElem (by omega)⟩
  have hmo := hO.2 m (List.mem_of_getElem? hm)
  have hR : ∀ x, x ∈ reachS (outs.drop i) s ↔ ∃ o ∈ m, x ∈ reachS (outs.drop (i + 1)) (s.plus o) := fun x => by
   have : outs.drop i = m :: outs.drop (i + 1) := by
    rw [List.drop_eq_getElem_cons (by omega)]
    congr 1
    exact (List.getElem?_eq_some_iff.1 hm).2
   rw [this, reachS, List.mem_flatMap]
  have hg1 : ∀ {k : Nat} {e : SV}, k = i → (encOuts outs)[k]? = some e → e = .imap (encOM m) := by
   rintro k e rfl he
   obtain ⟨y, hy, rfl⟩ := map_at he
   rw [hm] at hy; cases hy; rfl
  obtain ⟨s1, s2, s3, s4, s5⟩ := hs
  have hs' : OkS i s := ⟨s1, s2, s3, s4, s5⟩
  refine TF.cutX (TF.ev fn_184 (Ev.at ?_))
  unfold sumB
  rcases outs with _ | ⟨b, l⟩
  ·simp at hm
  ·(repeat' first | (refine eg ?_; conv => whnf) | refine gx hg1 ?_ | refine an ?_ ?_ | (refine iw ?_; intro rx hrx) | exact lf | intro _)
   all_goals try exact vy
   refine TWq.loop (fun _ : List (Int × Int) × List (Int × Int) × List Sm => []) (fun p => [(1, .map (encK p.2.2)), (5, .iter (.imap (encOM m)) (encOM p.1) none)])
    (fun p => (∀ o, o ∈ m ↔ o ∈ p.2.1 ∨ o ∈ p.1) ∧ p.2.2.Nodup ∧ ∀ x, x ∈ p.2.2 ↔ x ∈ K0 ∨ ∃ o ∈ p.2.1, x ∈ reachS ((b :: l).drop (i + 1)) (s.plus o)) (fun p => p.1.length) (m, [], K0) [] [] ?_ ⟨by simp, hK, by simp⟩ ?_
   ·(repeat' first | (refine eg ?_; conv => whnf) | refine gx hg1 ?_ | refine an ?_ ?_ | (refine iw ?_; intro rx hrx) | exact lf | intro _)
    all_goals try exact vy
    all_goals (try (refine ⟨?_⟩; first | exact encK_clo _ | exact encOM_clo _))
   ·rintro ⟨left, done, K⟩ ⟨q1, q2, q3⟩
    dsimp only at q1 q2 q3 ⊢
    (repeat' first | (refine eg ?_; conv => whnf) | refine gx hg1 ?_ | refine an ?_ ?_ | (refine iw ?_; intro rx hrx) | exact lf | intro _)
    refine TSq.next rfl rfl rfl rfl ?_ ?_
    ·intro hleft
     have hleft : left = [] := List.map_eq_nil_iff.1 hleft
     subst hleft
     (repeat' first | (refine eg ?_; conv => whnf) | refine gx hg1 ?_ | refine an ?_ ?_ | (refine iw ?_; intro rx hrx) | exact lf | intro _)
     all_goals try exact vy
     refine ⟨⟨K, ⟨q2, fun x => by rw [q3, hR]; simp only [q1]; simp⟩, ?_, rfl⟩⟩
     (repeat' first | (refine eg ?_; conv => whnf) | refine gx hg1 ?_ | refine an ?_ ?_ | (refine iw ?_; intro rx hrx) | exact lf | intro _)
     all_goals try exact vy
     all_goals (try (refine ⟨?_⟩; exact encK_clo _))
    ·intro pre sk sv post he
     obtain ⟨la, o, lb, hl, rfl, rfl, rfl, rfl⟩ := encOM_split he
     obtain ⟨o1, o2⟩ := hmo o ((q1 o).2 (.inr (by rw [hl]; simp)))
     have d1 := c61 s o (by omega) (by omega) (by omega) o2
     have d2 := (ih (i + 1) (s.plus o) K (by omega) (hs'.plus o1) q2).mono (Q' := fun r h' => ∃ K', SumQ (b :: l) (i + 1) (s.plus o) K K' ∧ r = .tup [] ∧ h' = sumB c (b :: l) K') fun _ _ ⟨K', p1, p2, p3⟩ => ⟨K', p1, p3, p2⟩
     (repeat' first | (refine eg ?_; conv => whnf) | refine gx hg1 ?_ | refine an ?_ ?_ | (refine iw ?_; intro rx hrx) | exact lf | intro _)
     all_goals try exact vy
     refine TDq.pureC d1 (by simp [cloL, clo, encSm]) rfl (And.intro rfl rfl) ?_
     (repeat' first | (refine eg ?_; conv => whnf) | refine gx hg1 ?_ | refine an ?_ ?_ | (refine iw ?_; intro rx hrx) | exact lf | intro _)
     all_goals try exact vz
     obtain rfl : rx = ((i + 1 : Nat) : Int) := by push_cast; omega
     refine TDq.last rfl rfl (by kernel_rfl) (by kernel_rfl) ?_
     refine TSq.callX (α := List Sm) (SumQ (b :: l) (i + 1) (s.plus o) K) [0, 1, 2, 3] (fun K' => [(0, .cells [encWk c (b :: l)]), (1, .map (encK K')), (2, .cells [.mp 1]), (3, .cells [.fn 184 [] [.ptr 0 0, .ptr 2 0, .ptr 3 0]])]) (s1 := fun _ => .tup []) (s' := fun _ => .tup []) (h1 := sumB c (b :: l)) d2 rfl rfl (And.intro rfl rfl) rfl (by decide) (allLt_iff rfl) rfl
      (fun a ha => by match a, ha with | 0, _ => exact ⟨rfl, rfl⟩ | 1, _ => exact ⟨rfl, congrArg LB.map (cloM_ren _ (encK_clo K)).symm⟩ | 2, _ => exact ⟨rfl, rfl⟩ | 3, _ => exact ⟨rfl, rfl⟩) rfl rfl (fun _ _ => Nat.le_refl _) (fun _ _ => rfl)
      (fun K' _ a ha => by match a, ha with | 0, _ => exact ⟨rfl, rfl⟩ | 1, _ => exact ⟨rfl, congrArg (fun e => some (1, LB.map e)) (cloM_ren _ (encK_clo K')).symm⟩ | 2, _ => exact ⟨rfl, rfl⟩ | 3, _ => exact ⟨rfl, rfl⟩) (fun _ _ => rfl) ?_
     rintro K' ⟨p1, p2⟩
     (repeat' first | (refine eg ?_; conv => whnf) | refine gx hg1 ?_ | refine an ?_ ?_ | (refine iw ?_; intro rx hrx) | exact lf | intro _)
     all_goals try exact vz
     refine ⟨⟨(la ++ lb, done ++ [o], K'), ⟨fun o' => ?_, p1, fun x => ?_⟩, ?_, ?_⟩⟩
     ·rw [q1, hl]
      simp only [List.mem_append, List.mem_cons, List.mem_singleton, List.not_mem_nil, or_false]
      constructor
      ·rintro (h1 | h1 | h1 | h1)
       ·exact .inl (.inl h1)
       ·exact .inr (.inl h1)
       ·exact .inl (.inr h1)
       ·exact .inr (.inr h1)
      ·rintro ((h1 | h1) | h1 | h1)
       ·exact .inl h1
       ·exact .inr (.inr (.inl h1))
       ·exact .inr (.inl h1)
       ·exact .inr (.inr (.inr h1))
     ·rw [p2, q3]
      constructor
      ·rintro ((h1 | ⟨o', h1, h2⟩) | h1)
       ·exact .inl h1
       ·exact .inr ⟨o', List.mem_append_left _ h1, h2⟩
       ·exact .inr ⟨o, by simp, h1⟩
      ·rintro (h1 | ⟨o', h1, h2⟩)
       ·exact .inl (.inl h1)
       ·rcases List.mem_append.1 h1 with h3 | h3
        ·exact .inl (.inr ⟨o', h3, h2⟩)
        ·simp at h3; subst h3; exact .inr h2
     ·rw [hl]; simp
     ·(repeat' first | (refine eg ?_; conv => whnf) | refine gx hg1 ?_ | refine an ?_ ?_ | (refine iw ?_; intro rx hrx) | exact lf | intro _)
      all_goals try exact vy
      all_goals (try (refine ⟨?_⟩; first | exact encK_clo _ | exact encOM_clo _ | (intro e he; exact (List.mem_append.1 he).elim (encOM_clo _ e) (encOM_clo _ e)) | (simp [encOM]; done)))
def SumsQ (outs : List (List (Int × Int))) (s : SV) : Prop := ∃ K : List Sm, s = .imap (encK K) ∧ K.Nodup ∧ ∀ x, x ∈ K ↔ x ∈ reachS outs sm0
theorem c120 (c : Cas) (outs : List (List (Int × Int))) (hO : OkOuts outs) : PF Tryz.prog 120 [encWk c outs] (SumsQ outs) := by
 have d1 := (t184 c outs hO outs.length 0 sm0 [] (by omega) okS0 List.nodup_nil).mono (Q' := fun r h' => ∃ K', SumQ outs 0 sm0 [] K' ∧ r = .tup [] ∧ h' = sumB c outs K') fun _ _ ⟨K', p1, p2, p3⟩ => ⟨K', p1, p3, p2⟩
 refine PF.of (TF.ev fn_120 (Ev.at ?_))
 (repeat' first | (refine eg ?_; conv => whnf) | refine an ?_ ?_ | (refine iw ?_; intro rx hrx) | exact lf | intro _)
 all_goals try exact vy
 refine TSq.callX (α := List Sm) (SumQ outs 0 sm0 []) [0, 1, 2, 3] (fun K' => [(0, .cells [encWk c outs]), (1, .map (encK K')), (2, .cells [.mp 1]), (3, .cells [.fn 184 [] [.ptr 0 0, .ptr 2 0, .ptr 3 0]])]) (s1 := fun _ => .tup []) (s' := fun _ => .tup []) (h1 := sumB c outs) d1 rfl rfl (And.intro rfl rfl) rfl (by decide) (allLt_iff rfl) rfl
  (fun a ha => by match a, ha with | 0, _ => exact ⟨rfl, rfl⟩ | 1, _ => exact ⟨rfl, rfl⟩ | 2, _ => exact ⟨rfl, rfl⟩ | 3, _ => exact ⟨rfl, rfl⟩) rfl rfl (fun _ _ => Nat.le_refl _) (fun _ _ => rfl)
  (fun K' _ a ha => by match a, ha with | 0, _ => exact ⟨rfl, rfl⟩ | 1, _ => exact ⟨rfl, congrArg (fun e => some (1, LB.map e)) (cloM_ren _ (encK_clo K')).symm⟩ | 2, _ => exact ⟨rfl, rfl⟩ | 3, _ => exact ⟨rfl, rfl⟩) (fun _ _ => rfl) ?_
 rintro K' ⟨p1, p2⟩
 (repeat' first | (refine eg ?_; conv => whnf) | refine an ?_ ?_ | (refine iw ?_; intro rx hrx) | exact lf | intro _)
 all_goals try exact vy
 all_goals (try (refine ⟨?_⟩; exact encK_clo _))
 exact ⟨K', rfl, p1, fun x => by rw [p2]; simp⟩
end Go.Proofs.YtjadiajfbflghaaGreat
open Go Go.TV
namespace Go.Proofs.YtjadiajfbflghaaGreat
theorem reach_ok {outs : List (List (Int × Int))} (hm : ∀ m ∈ outs, ∀ o ∈ m, 0 ≤ o.1 ∧ o.1 ≤ 100000) : ∀ {k : Nat} {s x : Sm}, OkS k s → x ∈ reachS outs s → OkS (k + outs.length) x := by
 induction outs with
 | nil => intro k s x h hx; simp [reachS] at hx; subst hx; exact h
 | cons m ms ih =>
  intro k s x h hx
  rw [reachS, List.mem_flatMap] at hx
  obtain ⟨o, ho, hx⟩ := hx
  have := ih (fun m' hm' => hm m' (List.mem_cons_of_mem _ hm')) (h.plus (hm m (List.mem_cons_self ..) o ho)) hx
  rw [List.length_cons, Nat.add_comm ms.length 1, ← Nat.add_assoc]
  exact this
theorem reach_ne {outs : List (List (Int × Int))} (hm : ∀ m ∈ outs, m ≠ []) : ∀ (s : Sm), ∃ x, x ∈ reachS outs s := by
 induction outs with
 | nil => intro s; exact ⟨s, by simp [reachS]⟩
 | cons m ms ih =>
  intro s
  obtain ⟨o, ho⟩ := List.exists_mem_of_ne_nil m (hm m (List.mem_cons_self ..))
  obtain ⟨x, hx⟩ := ih (fun m' hm' => hm m' (List.mem_cons_of_mem _ hm')) (s.plus o)
  exact ⟨x, by rw [reachS, List.mem_flatMap]; exact ⟨o, ho, hx⟩⟩
theorem c56 (s : Sm) (n : Int) : PF Tryz.prog 56 [encSm s, .int .i64 n] (· = .int .i64 s.aw) := by
 refine PF.of (TF.ev fn_56 (Ev.at ?_))
 (repeat' first | (refine eg ?_; conv => whnf) | refine an ?_ ?_ | (refine iw ?_; intro rx hrx) | exact lf | intro _)
 try rfl
def BndOf (D : List Sm) (lo hi : Int) : Prop := (∃ x ∈ D, x.aw = lo) ∧ (∃ x ∈ D, x.aw = hi) ∧ ∀ x ∈ D, lo ≤ x.aw ∧ x.aw ≤ hi
def BndQ (c : Cas) (s : SV) : Prop := ∃ outs lo hi, OutsAll c c.flds.length outs ∧ BndOf (reachS outs sm0) lo hi ∧ s = .sl 2 [encR ⟨lo, hi⟩]
theorem outs_ok {c : Cas} (h : OkC c) {outs : List (List (Int × Int))} (ho : OutsAll c c.flds.length outs) : OkOuts outs ∧ ∀ m ∈ outs, m ≠ [] := by
 have key : ∀ m ∈ outs, ∃ f ∈ c.flds, OutsOf c f m := fun m hm => by
  obtain ⟨i, hi⟩ := List.getElem?_of_mem hm
  have hil := (List.getElem?_eq_some_iff.1 hi).1
  have hl := ho.1
  obtain ⟨f, hf⟩ : ∃ v, c.flds[i]? = some v := ⟨_, List.getElem?_eq_getElem (by omega)⟩
  exact ⟨f, List.mem_of_getElem? hf, ho.2 i f m (by omega) hf hi⟩
 refine ⟨⟨by rw [ho.1]; exact h.few, fun m hm o hom => ?_⟩, fun m hm => ?_⟩
 ·obtain ⟨f, hf, h1, h2⟩ := key m hm
  obtain ⟨x, hx, rfl⟩ := (h2 o).1 hom
  obtain ⟨_, _, k1, k2⟩ := out_ok h hf (truths_mem.1 hx)
  exact ⟨k1, k2⟩
 ·obtain ⟨f, hf, h1, h2⟩ := key m hm
  obtain ⟨a, ha, _⟩ := first_of h
  have o := h.flds a ha f hf
  have c1 := cnt_of o.fi
  have c2 := cnt_of o.se
  have c3 := cnt_of o.um
  have hx : (⟨f.fi.lo, f.se.lo, f.um.lo⟩ : Thr) ∈ truthsL f := truths_mem.2 ⟨⟨Int.le_refl _, c1.2.1⟩, ⟨Int.le_refl _, c2.2.1⟩, Int.le_refl _, c3.2.1⟩
  intro he
  have := (h2 _).2 ⟨_, hx, rfl⟩
  rw [he] at this
  cases this
def cellR : List Sm → Int → Int → List SV
 | [], _, _ => [.agg [.int .i64 0, .int .i64 0]]
 | _ :: _, lo, hi => [.agg [.int .i64 lo, .int .i64 hi]]
def isNilB : List Sm → Bool
 | [] => true
 | _ :: _ => false
theorem c55 (c : Cas) (h : OkC c) : PF Tryz.prog 55 [encCas c, .sl 1 [.agg [.fn 56 [] []]]] (BndQ c) := by
 have hz : ([SV.agg [SV.fn 56 [] []]] : List SV).length = 1 := rfl
 have hgf1 : ∀ {s : SV} {n : Nat} {e : SV}, ([s] : List SV)[n]? = some e → e = s := by
  intro s n e he
  cases n <;> simp at he
  exact he.symm
 have d1 := c119 c h
 refine PF.of (TF.ev fn_55 (Ev.at ?_))
 (repeat' first | refine gf hgf1 ?_ | (intro rx hrx; have hq := hsub1 hrx (by omega); subst hq; clear hrx) | (refine eg ?_; conv => whnf) | refine an ?_ ?_ | (refine iw ?_; intro rx hrx) | exact lf | intro _)
 all_goals try exact vy
 refine TSq.pureQ rfl d1 (by simp [cloL, encCas_clo]) rfl (And.intro rfl rfl) ?_
 rintro s ⟨outs, rfl, ho⟩ _
 obtain ⟨ok, hne⟩ := outs_ok h ho
 (repeat' first | refine gf hgf1 ?_ | (intro rx hrx; have hq := hsub1 hrx (by omega); subst hq; clear hrx) | (refine eg ?_; conv => whnf) | refine an ?_ ?_ | (refine iw ?_; intro rx hrx) | exact lf | intro _)
 refine TSq.pureQ rfl (c120 c outs ok) (by simp [cloL, encWk, clo]) rfl (And.intro rfl rfl) ?_
 rintro s ⟨K, rfl, hnd, hK⟩ _
 obtain ⟨x0, hx0⟩ := reach_ne hne sm0
 (repeat' first | refine gf hgf1 ?_ | (intro rx hrx; have hq := hsub1 hrx (by omega); subst hq; clear hrx) | (refine eg ?_; conv => whnf) | refine an ?_ ?_ | (refine iw ?_; intro rx hrx) | exact lf | intro _)
 all_goals try exact vy
 have hKo : ∀ x ∈ K, 0 ≤ x.aw ∧ x.aw ≤ 1000000 := fun x hx => by
  have := (reach_ok (fun m hm o ho => (ok.2 m hm o ho).1) okS0 ((hK x).1 hx)).aw
  have := ok.1
  omega
 refine TWq.loop (fun p : List Sm × List Sm × Int × Int => [(6, .bool (isNilB p.2.1))]) (fun p => [(1, .arr 38 2 (cellR p.2.1 p.2.2.1 p.2.2.2)), (2, .iter (.imap (encK K)) (encK p.1) none)])
  (fun p => (∀ x, x ∈ K ↔ x ∈ p.2.1 ∨ x ∈ p.1) ∧ (p.2.1 ≠ [] → BndOf p.2.1 p.2.2.1 p.2.2.2)) (fun p => p.1.length) (K, [], 0, 0) [] [] ?_ ⟨by simp, fun h => absurd rfl h⟩ ?_
 ·(repeat' first | refine gf hgf1 ?_ | (intro rx hrx; have hq := hsub1 hrx (by omega); subst hq; clear hrx) | (refine eg ?_; conv => whnf) | refine an ?_ ?_ | (refine iw ?_; intro rx hrx) | exact lf | intro _)
  all_goals try exact vy
  all_goals (try (refine ⟨?_⟩; first | exact encK_clo _ | (simp [cellR, cloL, clo]; done)))
 ·rintro ⟨left, done, lo, hi⟩ ⟨q1, q2⟩
  dsimp only at q1 q2 ⊢
  (repeat' first | refine gf hgf1 ?_ | (intro rx hrx; have hq := hsub1 hrx (by omega); subst hq; clear hrx) | (refine eg ?_; conv => whnf) | refine an ?_ ?_ | (refine iw ?_; intro rx hrx) | exact lf | intro _)
  refine TSq.next rfl rfl rfl rfl ?_ ?_
  ·intro hleft
   have hleft : left = [] := List.map_eq_nil_iff.1 hleft
   subst hleft
   have hdone : ∀ x, x ∈ done ↔ x ∈ reachS outs sm0 := fun x => by rw [← hK, q1]; simp
   rcases done with _ | ⟨d, ds⟩
   ·exact absurd ((hdone x0).2 hx0) (List.not_mem_nil)
   ·obtain ⟨⟨x1, h1, h2⟩, ⟨x2, h3, h4⟩, h5⟩ := q2 (by simp)
    (repeat' first | refine gf hgf1 ?_ | (intro rx hrx; have hq := hsub1 hrx (by omega); subst hq; clear hrx) | (refine eg ?_; conv => whnf) | refine an ?_ ?_ | (refine iw ?_; intro rx hrx) | exact lf | intro _)
    all_goals try exact vy
    all_goals (try (refine ⟨?_⟩; simp [cellR, cloL, clo]; done))
    exact ⟨outs, lo, hi, ho, ⟨⟨x1, (hdone x1).1 h1, h2⟩, ⟨x2, (hdone x2).1 h3, h4⟩, fun x hx => h5 x ((hdone x).2 hx)⟩, rfl⟩
  ·intro pre sk sv post he
   obtain ⟨la, x, lb, hl, rfl, rfl, rfl, rfl⟩ := encK_split he
   have hxK : x ∈ K := (q1 x).2 (.inr (by rw [hl]; simp))
   have hxo := hKo x hxK
   have d2 := c56 x c.fee
   have q1' : ∀ y, y ∈ K ↔ y ∈ done ++ [x] ∨ y ∈ la ++ lb := fun y => by
    rw [q1, hl]
    simp only [List.mem_append, List.mem_cons, List.mem_singleton, List.not_mem_nil, or_false]
    constructor
    ·rintro (h1 | h1 | h1 | h1)
     ·exact .inl (.inl h1)
     ·exact .inr (.inl h1)
     ·exact .inl (.inr h1)
     ·exact .inr (.inr h1)
    ·rintro ((h1 | h1) | h1 | h1)
     ·exact .inl h1
     ·exact .inr (.inr (.inl h1))
     ·exact .inr (.inl h1)
     ·exact .inr (.inr (.inr h1))
   rcases done with _ | ⟨d, ds⟩
   ·have d3 := c121 [x.aw, x.aw] (by simp) (by simp)
    rw [min2, show min x.aw x.aw = x.aw by omega] at d3
    have hsub1 : ∀ {r : Int}, r = max x.aw x.aw → (0 : Int) ≤ 0 → x.aw = r := fun h _ => by rw [h]; omega
    (repeat' first | refine gf hgf1 ?_ | (intro rx hrx; have hq := hsub1 hrx (by omega); subst hq; clear hrx) | (refine eg ?_; conv => whnf) | refine an ?_ ?_ | (refine iw ?_; intro rx hrx) | exact lf | intro _)
    all_goals try exact vy
    refine TWq.loop (fun k : Nat => [(24, .int .i64 k)]) (fun k => [(1, .arr 38 2 [match k with | 0 => .agg [.int .i64 0, .int .i64 0] | _ + 1 => .agg [.int .i64 x.aw, .int .i64 x.aw]]), (2, .iter (.imap (encK K)) (encK la ++ encK lb) none)]) (fun k => k ≤ 1) (fun k => 1 - k) 0 [] [] ?_ (by omega) ?_
    ·(repeat' first | refine gf hgf1 ?_ | (intro rx hrx; have hq := hsub1 hrx (by omega); subst hq; clear hrx) | (refine eg ?_; conv => whnf) | refine an ?_ ?_ | (refine iw ?_; intro rx hrx) | exact lf | intro _)
     all_goals try exact vy
     all_goals (try (refine ⟨?_⟩; first | (intro e he; exact (List.mem_append.1 he).elim (encK_clo _ e) (encK_clo _ e)) | (simp [cellR, cloL, clo]; done)))
    ·intro k hk
     obtain rfl | rfl : k = 0 ∨ k = 1 := by omega
     ·(repeat' first | refine gf hgf1 ?_ | (intro rx hrx; have hq := hsub1 hrx (by omega); subst hq; clear hrx) | (refine eg ?_; conv => whnf) | refine an ?_ ?_ | (refine iw ?_; intro rx hrx) | exact lf | intro _)
      all_goals try exact vy
      refine TSq.pureC d2 (by simp [cloL, clo, encSm]) rfl (And.intro rfl rfl) ?_
      (repeat' first | refine gf hgf1 ?_ | (intro rx hrx; have hq := hsub1 hrx (by omega); subst hq; clear hrx) | (refine eg ?_; conv => whnf) | refine an ?_ ?_ | (refine iw ?_; intro rx hrx) | exact lf | intro _)
      all_goals try exact vz
      refine TDq.lendC d3 (by simp [scal]) rfl (And.intro rfl ?_)
      (repeat' first | refine gf hgf1 ?_ | (intro rx hrx; have hq := hsub1 hrx (by omega); subst hq; clear hrx) | (refine eg ?_; conv => whnf) | refine an ?_ ?_ | (refine iw ?_; intro rx hrx) | exact lf | intro _)
      all_goals try exact vz
      refine ⟨⟨1, by omega, by omega, ?_⟩⟩
      (repeat' first | refine gf hgf1 ?_ | (intro rx hrx; have hq := hsub1 hrx (by omega); subst hq; clear hrx) | (refine eg ?_; conv => whnf) | refine an ?_ ?_ | (refine iw ?_; intro rx hrx) | exact lf | intro _)
      all_goals try exact vy
      all_goals (try (refine ⟨?_⟩; intro e he; exact (List.mem_append.1 he).elim (encK_clo _ e) (encK_clo _ e)))
     ·(repeat' first | refine gf hgf1 ?_ | (intro rx hrx; have hq := hsub1 hrx (by omega); subst hq; clear hrx) | (refine eg ?_; conv => whnf) | refine an ?_ ?_ | (refine iw ?_; intro rx hrx) | exact lf | intro _)
      all_goals try exact vy
      refine ⟨⟨(la ++ lb, [x], x.aw, x.aw), ⟨q1', fun _ => ⟨⟨x, by simp, rfl⟩, ⟨x, by simp, rfl⟩, fun y hy => by rw [List.mem_singleton.1 hy]; exact ⟨Int.le_refl _, Int.le_refl _⟩⟩⟩, by dsimp only; rw [hl]; simp, ?_⟩⟩
      (repeat' first | refine gf hgf1 ?_ | (intro rx hrx; have hq := hsub1 hrx (by omega); subst hq; clear hrx) | (refine eg ?_; conv => whnf) | refine an ?_ ?_ | (refine iw ?_; intro rx hrx) | exact lf | intro _)
      all_goals try exact vy
      all_goals (try (refine ⟨?_⟩; first | exact encK_clo _ | (intro e he; exact (List.mem_append.1 he).elim (encK_clo _ e) (encK_clo _ e)) | (simp [encK]; done) | (simp [cellR, cloL, clo]; done)))
   ·obtain ⟨⟨x1, h1, h2⟩, ⟨x2, h3, h4⟩, h5⟩ := q2 (by simp)
    have hlo : 0 ≤ lo ∧ lo ≤ 1000000 := by rw [← h2]; exact hKo x1 ((q1 x1).2 (.inl h1))
    have hhi : 0 ≤ hi ∧ hi ≤ 1000000 := by rw [← h4]; exact hKo x2 ((q1 x2).2 (.inl h3))
    have hB : BndOf ((d :: ds) ++ [x]) (min lo x.aw) (max hi x.aw) := by
     refine ⟨?_, ?_, fun y hy => ?_⟩
     ·rcases Int.le_total lo x.aw with h | h
      ·exact ⟨x1, List.mem_append_left _ h1, by omega⟩
      ·exact ⟨x, by simp, by omega⟩
     ·rcases Int.le_total hi x.aw with h | h
      ·exact ⟨x, by simp, by omega⟩
      ·exact ⟨x2, List.mem_append_left _ h3, by omega⟩
     ·rcases List.mem_append.1 hy with h | h
      ·have := h5 y h; omega
      ·simp at h; subst h; omega
    have d3 := c121 [lo, x.aw] (by simp) (by simp)
    rw [min2] at d3
    have hmi : 0 ≤ min lo x.aw ∧ min lo x.aw ≤ 1000000 := by omega
    have hma : 0 ≤ max hi x.aw ∧ max hi x.aw ≤ 1000000 := by omega
    generalize min lo x.aw = mi at *
    generalize hmx : max hi x.aw = ma at *
    have hsub1 : ∀ {r : Int}, r = max hi x.aw → (0 : Int) ≤ 0 → ma = r := fun h _ => by rw [h, hmx]
    (repeat' first | refine gf hgf1 ?_ | (intro rx hrx; have hq := hsub1 hrx (by omega); subst hq; clear hrx) | (refine eg ?_; conv => whnf) | refine an ?_ ?_ | (refine iw ?_; intro rx hrx) | exact lf | intro _)
    all_goals try exact vy
    refine TWq.loop (fun k : Nat => [(24, .int .i64 k)]) (fun k => [(1, .arr 38 2 [match k with | 0 => .agg [.int .i64 lo, .int .i64 hi] | _ + 1 => .agg [.int .i64 mi, .int .i64 ma]]), (2, .iter (.imap (encK K)) (encK la ++ encK lb) none)]) (fun k => k ≤ 1) (fun k => 1 - k) 0 [] [] ?_ (by omega) ?_
    ·(repeat' first | refine gf hgf1 ?_ | (intro rx hrx; have hq := hsub1 hrx (by omega); subst hq; clear hrx) | (refine eg ?_; conv => whnf) | refine an ?_ ?_ | (refine iw ?_; intro rx hrx) | exact lf | intro _)
     all_goals try exact vy
     all_goals (try (refine ⟨?_⟩; first | (intro e he; exact (List.mem_append.1 he).elim (encK_clo _ e) (encK_clo _ e)) | (simp [cellR, cloL, clo]; done)))
    ·intro k hk
     obtain rfl | rfl : k = 0 ∨ k = 1 := by omega
     ·(repeat' first | refine gf hgf1 ?_ | (intro rx hrx; have hq := hsub1 hrx (by omega); subst hq; clear hrx) | (refine eg ?_; conv => whnf) | refine an ?_ ?_ | (refine iw ?_; intro rx hrx) | exact lf | intro _)
      all_goals try exact vy
      refine TSq.pureC d2 (by simp [cloL, clo, encSm]) rfl (And.intro rfl rfl) ?_
      (repeat' first | refine gf hgf1 ?_ | (intro rx hrx; have hq := hsub1 hrx (by omega); subst hq; clear hrx) | (refine eg ?_; conv => whnf) | refine an ?_ ?_ | (refine iw ?_; intro rx hrx) | exact lf | intro _)
      all_goals try exact vz
      refine TDq.lendC d3 (by simp [scal]) rfl (And.intro rfl ?_)
      (repeat' first | refine gf hgf1 ?_ | (intro rx hrx; have hq := hsub1 hrx (by omega); subst hq; clear hrx) | (refine eg ?_; conv => whnf) | refine an ?_ ?_ | (refine iw ?_; intro rx hrx) | exact lf | intro _)
      all_goals try exact vz
      refine ⟨⟨1, by omega, by omega, ?_⟩⟩
      (repeat' first | refine gf hgf1 ?_ | (intro rx hrx; have hq := hsub1 hrx (by omega); subst hq; clear hrx) | (refine eg ?_; conv => whnf) | refine an ?_ ?_ | (refine iw ?_; intro rx hrx) | exact lf | intro _)
      all_goals try exact vy
      all_goals (try (refine ⟨?_⟩; intro e he; exact (List.mem_append.1 he).elim (encK_clo _ e) (encK_clo _ e)))
     ·(repeat' first | refine gf hgf1 ?_ | (intro rx hrx; have hq := hsub1 hrx (by omega); subst hq; clear hrx) | (refine eg ?_; conv => whnf) | refine an ?_ ?_ | (refine iw ?_; intro rx hrx) | exact lf | intro _)
      all_goals try exact vy
      refine ⟨⟨(la ++ lb, (d :: ds) ++ [x], mi, ma), ⟨q1', fun _ => hB⟩, by dsimp only; rw [hl]; simp, ?_⟩⟩
      (repeat' first | refine gf hgf1 ?_ | (intro rx hrx; have hq := hsub1 hrx (by omega); subst hq; clear hrx) | (refine eg ?_; conv => whnf) | refine an ?_ ?_ | (refine iw ?_; intro rx hrx) | exact lf | intro _)
      all_goals try exact vy
      all_goals (try (refine ⟨?_⟩; first | exact encK_clo _ | (intro e he; exact (List.mem_append.1 he).elim (encK_clo _ e) (encK_clo _ e)) | (simp [encK]; done) | (simp [cellR, cloL, clo]; done)))
def AwardQ (c : Cas) (s : SV) : Prop := ∃ outs lo hi, OutsAll c c.flds.length outs ∧ BndOf (reachS outs sm0) lo hi ∧ s = .tup [.agg [.int .i64 lo, .int .i64 hi], .int .i64 0]
theorem c11 (c : Cas) (h : OkC c) : PF Tryz.prog 11 [encCas c] (AwardQ c) := by
 have d1 := c54 c h
 have d2 := c55 c h
 have hgf1 : ∀ {s : SV} {n : Nat} {e : SV}, ([s] : List SV)[n]? = some e → e = s := by
  intro s n e he
  cases n <;> simp at he
  exact he.symm
 refine PF.of (TF.ev fn_11 (Ev.at ?_))
 (repeat' first | refine gf hgf1 ?_ | (refine eg ?_; conv => whnf) | refine an ?_ ?_ | (refine iw ?_; intro rx hrx) | exact lf | intro _)
 all_goals try exact vy
 refine TSq.pureC d1 (by simp [cloL, encCas_clo]) rfl (And.intro rfl rfl) ?_
 (repeat' first | refine gf hgf1 ?_ | (refine eg ?_; conv => whnf) | refine an ?_ ?_ | (refine iw ?_; intro rx hrx) | exact lf | intro _)
 all_goals try exact vy
 refine TSq.pubS 2 ?_
 (repeat' first | refine gf hgf1 ?_ | (refine eg ?_; conv => whnf) | refine an ?_ ?_ | (refine iw ?_; intro rx hrx) | exact lf | intro _)
 all_goals try exact vy
 all_goals (try (refine ⟨?_⟩; simp [chunks, cloL, clo]; done))
 refine TSq.pureQ rfl d2 (by simp [cloL, clo, encCas_clo]) rfl (And.intro rfl rfl) ?_
 rintro s ⟨outs, lo, hi, q1, q2, rfl⟩ _
 (repeat' first | refine gf hgf1 ?_ | (refine eg ?_; conv => whnf) | refine an ?_ ?_ | (refine iw ?_; intro rx hrx) | exact lf | intro _)
 all_goals try exact vy
 exact ⟨outs, lo, hi, q1, q2, rfl⟩
end Go.Proofs.YtjadiajfbflghaaGreat
open Go Go.TV
namespace Go.Proofs.YtjadiajfbflghaaGreat
end Go.Proofs.YtjadiajfbflghaaGreat
open Go Go.TV
namespace Go.Proofs.YtjadiajfbflghaaGreat
def tf10 : TFn := ⟨63, [(.tmp 0)], (.seq (.region false [⟨(some 0), (.mv (.c (.bool false))), none, [], []⟩]) (.seq (.region false [⟨(some 7), (.bslice 3 false 1 1 [(.int .i64 0)] [(0, (1, (.c (.int .i64 0))))]), none, [], []⟩, ⟨(some 8), (.bslice 3 false 1 2 [(.int .i64 0)] [(0, (1, (.c (.int .i64 0)))), (1, (1, (.c (.int .i64 100))))]), none, [], []⟩, ⟨(some 9), (.bslice 3 false 1 2 [(.int .i64 0)] [(0, (1, (.c (.int .i64 0)))), (1, (1, (.c (.int .i64 100))))]), none, [], []⟩, ⟨(some 10), (.bslice 54 false 1 1 [.nils] [(0, (1, (.t 9)))]), none, [], []⟩, ⟨(some 11), (.bslice 116 false 1 1 [.nils] [(0, (1, (.t 10)))]), none, [], []⟩, ⟨(some 12), (.build [(.int .i64 0), (.bool false), (.int .i64 0), .nils, .nils, .nils] [(1, (1, (.c (.bool true)))), (3, (1, (.t 7))), (4, (1, (.t 8))), (5, (1, (.t 11)))]), none, [], []⟩, ⟨(some 13), (.bslice 152 true 6 1 [(.int .i64 0), (.bool false), (.int .i64 0), .nils, .nils, .nils] [(0, (6, (.t 12)))]), none, [], []⟩, ⟨(some 14), (.build [(.int .i64 0), (.int .i64 0)] [(0, (1, (.c (.int .i64 10)))), (1, (1, (.c (.int .i64 10))))]), none, [], []⟩, ⟨(some 15), (.build [(.int .i64 0), (.int .i64 0)] [(0, (1, (.c (.int .i64 14)))), (1, (1, (.c (.int .i64 14))))]), none, [], []⟩, ⟨(some 16), (.build [(.int .i64 0), (.int .i64 0), (.int .i64 0), (.int .i64 0), (.int .i64 0), (.int .i64 0), (.int .i64 0), (.int .i64 0), (.int .i64 0)] [(1, (1, (.c (.int .i64 1000)))), (2, (1, (.c (.int .i64 4)))), (3, (2, (.t 14))), (5, (2, (.t 15)))]), none, [], []⟩, ⟨(some 17), (.bslice 154 true 9 1 [(.int .i64 0), (.int .i64 0), (.int .i64 0), (.int .i64 0), (.int .i64 0), (.int .i64 0), (.int .i64 0), (.int .i64 0), (.int .i64 0)] [(0, (9, (.t 16)))]), none, [], []⟩, ⟨(some 18), (.build [.nils, (.int .i64 0), (.int .i64 0), .nils] [(0, (1, (.t 13))), (3, (1, (.t 17)))]), none, [], []⟩, ⟨(some 19), (.call 11 [(.t 18)]), none, [], []⟩, ⟨(some 6), (.mv (.t 19)), none, [], []⟩, ⟨(some 20), (.extract (.t 6) 0), none, [], []⟩, ⟨(some 21), (.extract (.t 6) 1), none, [], []⟩, ⟨(some 1), (.alloc [(.int .i64 0), (.int .i64 0)]), none, [], []⟩, ⟨none, (.store 2 (.t 1) (.t 20)), none, [], []⟩, ⟨(some 2), (.mv (.t 21)), none, [], []⟩]) (.seq (.region false [⟨(some 23), (.build [(.int .i64 0), (.int .i64 0), (.int .i64 0)] [(0, (1, (.c (.int .i64 100)))), (1, (1, (.c (.int .i64 1)))), (2, (1, (.c (.int .i64 500))))]), none, [], []⟩, ⟨(some 24), (.build [(.int .i64 0), (.int .i64 0), (.int .i64 0)] [(0, (1, (.c (.int .i64 100)))), (1, (1, (.c (.int .i64 2)))), (2, (1, (.c (.int .i64 500))))]), none, [], []⟩, ⟨(some 25), (.bslice 135 true 3 2 [(.int .i64 0), (.int .i64 0), (.int .i64 0)] [(0, (3, (.t 23))), (3, (3, (.t 24)))]), none, [], []⟩, ⟨(some 26), (.build [.nils, .nils, (.int .i64 0), (.int .i64 0), (.int .i64 0)] [(0, (1, (.t 25)))]), none, [], []⟩, ⟨(some 27), (.call 19 [(.t 26), (.c (.int .i64 120))]), none, [], []⟩, ⟨(some 22), (.mv (.t 27)), none, [], []⟩, ⟨(some 28), (.extract (.t 22) 0), none, [], []⟩, ⟨(some 29), (.extract (.t 22) 1), none, [], []⟩, ⟨(some 30), (.extract (.t 22) 2), none, [], []⟩, ⟨(some 3), (.mv (.t 28)), none, [], []⟩, ⟨(some 4), (.mv (.t 29)), none, [], []⟩, ⟨(some 5), (.mv (.t 30)), none, [], []⟩]) (.seq (.region false [⟨(some 31), (.mv (.t 2)), none, [], []⟩, ⟨(some 32), (.cmp .eql (.t 31) (.c (.int .i64 0))), none, [], []⟩, ⟨(some 33), (.mv (.t 32)), none, [], []⟩, ⟨(some 34), (.load true 2 (.t 1)), (some (33, true)), [], []⟩, ⟨(some 35), (.build [(.int .i64 0), (.int .i64 0)] [(0, (1, (.c (.int .i64 120)))), (1, (1, (.c (.int .i64 120))))]), (some (33, true)), [], []⟩, ⟨(some 36), (.eqv (.st [(0, (1, (false, (.int .i64)))), (1, (1, (false, (.int .i64))))]) false (.t 34) (.t 35)), (some (33, true)), [], []⟩, ⟨(some 37), (.pick (.t 33) (.t 36) (.c (.bool false))), none, [], []⟩, ⟨(some 38), (.mv (.t 37)), none, [], []⟩, ⟨(some 39), (.mv (.t 5)), (some (38, true)), [], []⟩, ⟨(some 40), (.cmp .eql (.t 39) (.c (.int .i64 0))), (some (38, true)), [], []⟩, ⟨(some 41), (.pick (.t 38) (.t 40) (.c (.bool false))), none, [], []⟩, ⟨(some 42), (.mv (.t 41)), none, [], []⟩, ⟨(some 43), (.mv (.t 4)), (some (42, true)), [], []⟩, ⟨(some 44), (.cmp .eql (.t 43) (.c (.int .i64 0))), (some (42, true)), [], []⟩, ⟨(some 45), (.pick (.t 42) (.t 44) (.c (.bool false))), none, [], []⟩, ⟨(some 46), (.mv (.t 45)), none, [], []⟩, ⟨(some 47), (.mv (.t 3)), (some (46, true)), [], []⟩, ⟨(some 48), (.lenS (.t 47)), (some (46, true)), [], []⟩, ⟨(some 49), (.cmp .eql (.t 48) (.c (.int .i64 2))), (some (46, true)), [], []⟩, ⟨(some 50), (.pick (.t 46) (.t 49) (.c (.bool false))), none, [], []⟩, ⟨(some 51), (.mv (.t 50)), none, [], []⟩, ⟨(some 52), (.mv (.t 3)), (some (51, true)), [], []⟩, ⟨(some 53), (.idxS 1 (.t 52) (.c (.int .i64 0))), (some (51, true)), [], []⟩, ⟨(some 54), (.load false 1 (.t 53)), (some (51, true)), [], []⟩, ⟨(some 55), (.cmp .eql (.t 54) (.c (.int .i64 40))), (some (51, true)), [], []⟩, ⟨(some 56), (.pick (.t 51) (.t 55) (.c (.bool false))), none, [], []⟩, ⟨(some 57), (.mv (.t 56)), none, [], []⟩, ⟨(some 58), (.mv (.t 3)), (some (57, true)), [], []⟩, ⟨(some 59), (.idxS 1 (.t 58) (.c (.int .i64 1))), (some (57, true)), [], []⟩, ⟨(some 60), (.load false 1 (.t 59)), (some (57, true)), [], []⟩, ⟨(some 61), (.cmp .eql (.t 60) (.c (.int .i64 80))), (some (57, true)), [], []⟩, ⟨(some 62), (.pick (.t 57) (.t 61) (.c (.bool false))), none, [], []⟩, ⟨(some 0), (.mv (.t 62)), none, [], []⟩]) .ret))))⟩
theorem fn_10 : fnOf Tryz.prog 10 = some tf10 := by kernel_rfl
end Go.Proofs.YtjadiajfbflghaaGreat
open Go Go.TV
namespace Go.Proofs.YtjadiajfbflghaaGreat
def tfEx : Tf := ⟨0, true, 0, [0], [0, 100], [[[0, 100]]]⟩
def fldEx : Fld := ⟨0, 1000, 4, ⟨10, 10⟩, ⟨14, 14⟩, ⟨0, 0⟩⟩
def caseEx : Cas := ⟨[tfEx], 0, 0, [fldEx]⟩
def socEx : Soc := ⟨[⟨100, 1, 500⟩, ⟨100, 2, 500⟩], [], ⟨0, 0⟩, 0⟩
theorem okEx : OkC caseEx where
 tfs := {
  len := by decide
  few := fun t ht => by
   rw [List.mem_singleton.1 (show t ∈ [tfEx] from ht)]
   decide
  ne := by decide
  first := fun t ht => by
   have : tfEx = t := by simpa [caseEx] using ht
   rw [← this]; rfl
  valid := fun t ht => by
   rw [List.mem_singleton.1 (show t ∈ [tfEx] from ht)]
   decide
  next := fun i a b _ hb => by
   have := (List.getElem?_eq_some_iff.1 hb).1
   exact absurd this (by simp [caseEx])
  crops := fun i a b ha hb => by
   have := (List.getElem?_eq_some_iff.1 hb).1
   have h0 : i = 0 := by simpa [caseEx] using this
   subst h0
   rw [ha] at hb; cases hb; rfl }
 day := by decide
 fee := by decide
 few := by decide
 flds := fun a ha f hf => by
  have h1 : tfEx = a := by simpa [caseEx] using ha
  rw [List.mem_singleton.1 (show f ∈ [fldEx] from hf), ← h1]
  exact ⟨by decide, by decide, by decide, by decide, by decide, by decide⟩
theorem truthsEx : truthsL fldEx = [⟨10, 14, 0⟩] := by kernel_rfl
theorem outEx : outF caseEx fldEx ⟨10, 14, 0⟩ = (120, 0) := by kernel_rfl
theorem callsEx : callsR socEx 120 = ([40, 80], 0, 0) := by kernel_rfl
theorem awardEx {outs : List (List (Int × Int))} {lo hi : Int} (h : OutsAll caseEx caseEx.flds.length outs) (hb : BndOf (reachS outs sm0) lo hi) : lo = 120 ∧ hi = 120 := by
 have key : ∀ x ∈ reachS outs sm0, x.aw = 120 := by
  have hl : outs.length = 1 := h.1
  obtain ⟨m, rfl⟩ : ∃ m, outs = [m] := by
   match outs, hl with
   | [m], _ => exact ⟨m, rfl⟩
  have hm := h.2 0 fldEx m (by decide) rfl rfl
  intro x hx
  simp only [reachS, List.mem_flatMap, List.mem_singleton] at hx
  obtain ⟨o, ho, rfl⟩ := hx
  obtain ⟨y, hy, rfl⟩ := (hm.2 o).1 ho
  rw [truthsEx, List.mem_singleton] at hy
  rw [hy, outEx]
  rfl
 obtain ⟨⟨x, h1, h2⟩, ⟨y, h3, h4⟩, _⟩ := hb
 exact ⟨by rw [← h2]; exact key x h1, by rw [← h4]; exact key y h3⟩
theorem c10 : PF Tryz.prog 10 [] (· = .bool true) := by
 have d1 := c11 caseEx okEx
 have d2 := c19 socEx 120 (by decide) (by decide)
 rw [callsEx] at d2
 have d3 : PF Tryz.prog 19 [.agg [.sl 3 (encYs socEx.members), .nils, .int .i64 0, .int .i64 0, .int .i64 0], .int .i64 120] (· = .tup [.sl 1 (ints [40, 80]), .int .i64 0, .int .i64 0]) := by
  refine PF.fit d2 ?_
  (repeat' first | (refine eg ?_; conv => whnf) | refine gx hg1 ?_ | refine gx hg2 ?_ | refine an ?_ ?_ | (refine iw ?_; intro rx hrx) | exact lf | intro _)
  all_goals try exact vy
 obtain ⟨A, hA⟩ : ∃ A : List Int, A = [40, 80] := ⟨_, rfl⟩
 rw [← hA] at d3
 have hz : (ints A).length = 2 := by rw [hA]; rfl
 have hg1 : ∀ {n : Nat} {e : SV}, n = 0 → (ints A)[n]? = some e → e = .int .i64 40 := by
  rintro n e rfl he
  rw [hA] at he; exact (Option.some.inj he).symm
 have hg2 : ∀ {n : Nat} {e : SV}, n = 1 → (ints A)[n]? = some e → e = .int .i64 80 := by
  rintro n e rfl he
  rw [hA] at he; exact (Option.some.inj he).symm
 clear hA
 refine PF.of (TF.ev fn_10 (Ev.at ?_))
 (repeat' first | (refine eg ?_; conv => whnf) | refine gx hg1 ?_ | refine gx hg2 ?_ | refine an ?_ ?_ | (refine iw ?_; intro rx hrx) | exact lf | intro _)
 all_goals try exact vy
 refine TSq.pub2 0 ?_
 (repeat' first | (refine eg ?_; conv => whnf) | refine gx hg1 ?_ | refine gx hg2 ?_ | refine an ?_ ?_ | (refine iw ?_; intro rx hrx) | exact lf | intro _)
 all_goals try exact vy
 all_goals (try (refine ⟨?_⟩; simp [chunks, cloL, clo]; done))
 refine TSq.pub2 1 ?_
 (repeat' first | (refine eg ?_; conv => whnf) | refine gx hg1 ?_ | refine gx hg2 ?_ | refine an ?_ ?_ | (refine iw ?_; intro rx hrx) | exact lf | intro _)
 all_goals try exact vy
 all_goals (try (refine ⟨?_⟩; simp [chunks, cloL, clo]; done))
 refine TSq.pub2 2 ?_
 (repeat' first | (refine eg ?_; conv => whnf) | refine gx hg1 ?_ | refine gx hg2 ?_ | refine an ?_ ?_ | (refine iw ?_; intro rx hrx) | exact lf | intro _)
 all_goals try exact vy
 all_goals (try (refine ⟨?_⟩; simp [chunks, cloL, clo]; done))
 refine TSq.pub2 3 ?_
 (repeat' first | (refine eg ?_; conv => whnf) | refine gx hg1 ?_ | refine gx hg2 ?_ | refine an ?_ ?_ | (refine iw ?_; intro rx hrx) | exact lf | intro _)
 all_goals try exact vy
 all_goals (try (refine ⟨?_⟩; simp [chunks, cloL, clo]; done))
 refine TSq.pub2 4 ?_
 (repeat' first | (refine eg ?_; conv => whnf) | refine gx hg1 ?_ | refine gx hg2 ?_ | refine an ?_ ?_ | (refine iw ?_; intro rx hrx) | exact lf | intro _)
 all_goals try exact vy
 all_goals (try (refine ⟨?_⟩; simp [chunks, cloL, clo]; done))
 refine TSq.pub2 5 ?_
 (repeat' first | (refine eg ?_; conv => whnf) | refine gx hg1 ?_ | refine gx hg2 ?_ | refine an ?_ ?_ | (refine iw ?_; intro rx hrx) | exact lf | intro _)
 all_goals try exact vy
 all_goals (try (refine ⟨?_⟩; simp [chunks, cloL, clo]; done))
 refine TSq.pub2 6 ?_
 (repeat' first | (refine eg ?_; conv => whnf) | refine gx hg1 ?_ | refine gx hg2 ?_ | refine an ?_ ?_ | (refine iw ?_; intro rx hrx) | exact lf | intro _)
 all_goals try exact vy
 all_goals (try (refine ⟨?_⟩; simp [chunks, cloL, clo]; done))
 refine TSq.pureQ rfl d1 (by simp [cloL, encCas_clo]) rfl (And.intro rfl rfl) ?_
 rintro s ⟨outs, lo, hi, q1, q2, rfl⟩ _
 obtain ⟨rfl, rfl⟩ := awardEx q1 q2
 (repeat' first | (refine eg ?_; conv => whnf) | refine gx hg1 ?_ | refine gx hg2 ?_ | refine an ?_ ?_ | (refine iw ?_; intro rx hrx) | exact lf | intro _)
 all_goals try exact vy
 refine TSq.pub2 8 ?_
 (repeat' first | (refine eg ?_; conv => whnf) | refine gx hg1 ?_ | refine gx hg2 ?_ | refine an ?_ ?_ | (refine iw ?_; intro rx hrx) | exact lf | intro _)
 all_goals try exact vy
 all_goals (try (refine ⟨?_⟩; simp [chunks, cloL, clo]; done))
 refine TSq.pureC d3 (by simp [cloL, clo]) rfl (And.intro rfl rfl) ?_
 (repeat' first | (refine eg ?_; conv => whnf) | refine gx hg1 ?_ | refine gx hg2 ?_ | refine an ?_ ?_ | (refine iw ?_; intro rx hrx) | exact lf | intro _)
 all_goals try exact vy
 all_goals (first | rfl | (rename_i hne; exact absurd rfl hne))
end Go.Proofs.YtjadiajfbflghaaGreat
open Go Go.TV
namespace Go.Proofs.YtjadiajfbflghaaGreat
theorem TWq.seq {P : Program} {r : Fr} {x y : TCode} {S : St} {Q : Option Jump → St → Prop} (h : TWq P r x S fun j S' => match j with | none => TWq P r y S' Q | some j => Q (some j) S') : TWq P r (.seq x y) S Q := by
 rw [TWq_iff] at h ⊢
 intro hm k g a w ro Q' hk hs hr hh hp
 cases k <;> first | (cases hk; done) | skip
 rename_i kx ky
 simp only [comp, TCode.seq.injEq] at hk
 refine wpIn_seq (h hm kx g a w ro _ hk.1 hs hr (fun j S' g' a' w' q1 q2 q3 => ?_) (hp.as fun _ _ _ h => h))
 cases j with
 | none => exact (TWq_iff.1 q1) hm ky g' a' w' ro Q' hk.2 q2 (q3.ro hr) (fun j S'' g'' a'' w'' r1 r2 r3 => hh j S'' g'' a'' w'' r1 r2 (q3.trans r3)) (hp.trans q3)
 | some j =>
  have := hh (some j) S' g' a' w' q1 q2 q3
  cases j <;> exact this
theorem TWq.go {P : Program} {r : Fr} {c : TCode} {S : St} {Q : Option Jump → St → Prop} (h : Ev (evC P r c S Q)) : TWq P r c S Q := TWq_iff.2 (evC_sound h.at)
theorem TWq.pubW {P : Program} {r : Fr} {c : TCode} {S : St} {Q : Option Jump → St → Prop} (b : Nat) (h : Ev (pubB b S fun S' => TWq P r c S' Q)) : TWq P r c S Q := by
 obtain ⟨S', h1, h2⟩ := pubB_spec h.at
 exact TWq.wk h2 h1
theorem TWq.fitW {P : Program} {r : Fr} {c : TCode} {S : St} {Q : Option Jump → St → Prop} (ch : List (Nat × SV)) (bl : List (Nat × LB)) (h : Ev (mkStK S [] ch bl fun T => Ev (fitS r.base [] S T) ∧ TWq P r c T Q)) : TWq P r c S Q := by
 obtain ⟨h1, h2⟩ := mkStK_eq h.at
 exact TWq.wk (Wk.fit [] h1.at) h2
end Go.Proofs.YtjadiajfbflghaaGreat
open Go Go.TV
namespace Go.Proofs.YtjadiajfbflghaaGreat
def fn_5 := fo 5
end Go.Proofs.YtjadiajfbflghaaGreat
open Go Go.TV
namespace Go.Proofs.YtjadiajfbflghaaGreat
def ownM (n : Nat) (l : List Mem) : SV := match l with | [] => .nils | _ :: _ => .own n
def arrM (l : List Mem) : LB := match l with | [] => .dead | _ :: _ => .arr /-t-/135 3 (encYs l)
theorem c5 (b : Bok) (on need : Int) (ho : 0 ≤ on ∧ on ≤ 255) (hn : 0 ≤ need ∧ need ≤ 65535) : PF Tryz.prog 5 [encBok b, .int .u8 on, .int .u16 need] (· = .bool true) := by
 have d10 := c10
 have d42 := c42 b
 refine PF.of (TF.of fn_5 (TWq_iff.1 (TWq.seq (TWq.go ?_))))
 (repeat' first | (intro ex hex; obtain ⟨mx, hmx, rfl⟩ := hgx1 hex; clear hex) | (intro rx hrx; have hq := hres1 hrx (by omega); clear hrx) | (intro rx hrx; have hq := hsub1 hrx (by omega); subst hq; clear hrx) | (refine eg ?_; conv => whnf) | refine gx hg1 ?_ | refine gx hg2 ?_ | refine gx hg3 ?_ | refine gx hg4 ?_ | refine an ?_ ?_ | (refine iw ?_; intro rx hrx) | exact lf | intro _)
 refine TWq.seq (TWq.go ?_)
 (repeat' first | (intro ex hex; obtain ⟨mx, hmx, rfl⟩ := hgx1 hex; clear hex) | (intro rx hrx; have hq := hres1 hrx (by omega); clear hrx) | (intro rx hrx; have hq := hsub1 hrx (by omega); subst hq; clear hrx) | (refine eg ?_; conv => whnf) | refine gx hg1 ?_ | refine gx hg2 ?_ | refine gx hg3 ?_ | refine gx hg4 ?_ | refine an ?_ ?_ | (refine iw ?_; intro rx hrx) | exact lf | intro _)
 all_goals try exact vy
 refine TSq.pureQ rfl d42 (by simp [cloL, encBok_clo]) rfl (And.intro rfl rfl) ?_
 rintro v ⟨r, rfl, hr⟩ _
 cases r
 ·(repeat' first | (intro ex hex; obtain ⟨mx, hmx, rfl⟩ := hgx1 hex; clear hex) | (intro rx hrx; have hq := hres1 hrx (by omega); clear hrx) | (intro rx hrx; have hq := hsub1 hrx (by omega); subst hq; clear hrx) | (refine eg ?_; conv => whnf) | refine gx hg1 ?_ | refine gx hg2 ?_ | refine gx hg3 ?_ | refine gx hg4 ?_ | refine an ?_ ?_ | (refine iw ?_; intro rx hrx) | exact lf | intro _)
  all_goals try exact vy
  refine TSq.pureC d10 cl rfl (And.intro rfl rfl) ?_
  (repeat' first | (intro ex hex; obtain ⟨mx, hmx, rfl⟩ := hgx1 hex; clear hex) | (intro rx hrx; have hq := hres1 hrx (by omega); clear hrx) | (intro rx hrx; have hq := hsub1 hrx (by omega); subst hq; clear hrx) | (refine eg ?_; conv => whnf) | refine gx hg1 ?_ | refine gx hg2 ?_ | refine gx hg3 ?_ | refine gx hg4 ?_ | refine an ?_ ?_ | (refine iw ?_; intro rx hrx) | exact lf | intro _)
  try rfl
 have hpe := hr rfl
 have d43 := c43 b (by omega) (by omega)
 clear hr
 (repeat' first | (intro ex hex; obtain ⟨mx, hmx, rfl⟩ := hgx1 hex; clear hex) | (intro rx hrx; have hq := hres1 hrx (by omega); clear hrx) | (intro rx hrx; have hq := hsub1 hrx (by omega); subst hq; clear hrx) | (refine eg ?_; conv => whnf) | refine gx hg1 ?_ | refine gx hg2 ?_ | refine gx hg3 ?_ | refine gx hg4 ?_ | refine an ?_ ?_ | (refine iw ?_; intro rx hrx) | exact lf | intro _)
 refine TSq.pureQ rfl d43 (by simp [cloL, encBok_clo]) rfl (And.intro rfl rfl) ?_
 rintro v ⟨r, rfl, hr, _⟩ _
 by_cases hr0 : r = 0
 rotate_left
 ·(repeat' first | (intro ex hex; obtain ⟨mx, hmx, rfl⟩ := hgx1 hex; clear hex) | (intro rx hrx; have hq := hres1 hrx (by omega); clear hrx) | (intro rx hrx; have hq := hsub1 hrx (by omega); subst hq; clear hrx) | (refine eg ?_; conv => whnf) | refine gx hg1 ?_ | refine gx hg2 ?_ | refine gx hg3 ?_ | refine gx hg4 ?_ | refine an ?_ ?_ | (refine iw ?_; intro rx hrx) | exact lf | intro _)
  all_goals try exact vy
  refine TSq.pureC d10 cl rfl (And.intro rfl rfl) ?_
  (repeat' first | (intro ex hex; obtain ⟨mx, hmx, rfl⟩ := hgx1 hex; clear hex) | (intro rx hrx; have hq := hres1 hrx (by omega); clear hrx) | (intro rx hrx; have hq := hsub1 hrx (by omega); subst hq; clear hrx) | (refine eg ?_; conv => whnf) | refine gx hg1 ?_ | refine gx hg2 ?_ | refine gx hg3 ?_ | refine gx hg4 ?_ | refine an ?_ ?_ | (refine iw ?_; intro rx hrx) | exact lf | intro _)
  try rfl
 obtain ⟨hb, hS⟩ := hr hr0
 subst hr0
 have d44 := c44 b hb
 (repeat' first | (intro ex hex; obtain ⟨mx, hmx, rfl⟩ := hgx1 hex; clear hex) | (intro rx hrx; have hq := hres1 hrx (by omega); clear hrx) | (intro rx hrx; have hq := hsub1 hrx (by omega); subst hq; clear hrx) | (refine eg ?_; conv => whnf) | refine gx hg1 ?_ | refine gx hg2 ?_ | refine gx hg3 ?_ | refine gx hg4 ?_ | refine an ?_ ?_ | (refine iw ?_; intro rx hrx) | exact lf | intro _)
 all_goals try exact vy
 refine TSq.pureBC d44 (by simp [cloL, encBok_clo, clo]) rfl (And.intro rfl rfl) ?_ ?_ <;> intro hhas
 rotate_left
 ·(repeat' first | (intro ex hex; obtain ⟨mx, hmx, rfl⟩ := hgx1 hex; clear hex) | (intro rx hrx; have hq := hres1 hrx (by omega); clear hrx) | (intro rx hrx; have hq := hsub1 hrx (by omega); subst hq; clear hrx) | (refine eg ?_; conv => whnf) | refine gx hg1 ?_ | refine gx hg2 ?_ | refine gx hg3 ?_ | refine gx hg4 ?_ | refine an ?_ ?_ | (refine iw ?_; intro rx hrx) | exact lf | intro _)
  all_goals try exact vy
  refine TSq.pureC d10 cl rfl (And.intro rfl rfl) ?_
  (repeat' first | (intro ex hex; obtain ⟨mx, hmx, rfl⟩ := hgx1 hex; clear hex) | (intro rx hrx; have hq := hres1 hrx (by omega); clear hrx) | (intro rx hrx; have hq := hsub1 hrx (by omega); subst hq; clear hrx) | (refine eg ?_; conv => whnf) | refine gx hg1 ?_ | refine gx hg2 ?_ | refine gx hg3 ?_ | refine gx hg4 ?_ | refine an ?_ ?_ | (refine iw ?_; intro rx hrx) | exact lf | intro _)
  try rfl
 have hM := many_iff hb hS
 have hlast := hb.last
 have hown := hb.owners
 obtain ⟨day, hday⟩ : ∃ day : Nat, on.tmod (b.last + 1) = day := ⟨(on.tmod (b.last + 1)).toNat, by
  have := rem_bd (r := on.tmod (b.last + 1)) rfl ho.1 (by omega); omega⟩
 have hdl : (day : Int) ≤ b.last := by
  have := rem_bd (r := on.tmod (b.last + 1)) rfl ho.1 (by omega); omega
 have hsub1 : ∀ {r x y : Int}, r = x.tmod y → x = on ∧ y = b.last + 1 → (day : Int) = r := fun h ⟨h1, h2⟩ => by subst h1 h2; omega
 (repeat' first | (intro ex hex; obtain ⟨mx, hmx, rfl⟩ := hgx1 hex; clear hex) | (intro rx hrx; have hq := hres1 hrx (by omega); clear hrx) | (intro rx hrx; have hq := hsub1 hrx (by omega); subst hq; clear hrx) | (refine eg ?_; conv => whnf) | refine gx hg1 ?_ | refine gx hg2 ?_ | refine gx hg3 ?_ | refine gx hg4 ?_ | refine an ?_ ?_ | (refine iw ?_; intro rx hrx) | exact lf | intro _)
 all_goals try exact vy
 refine TWq.seq (TWq.go ?_)
 (repeat' first | (intro ex hex; obtain ⟨mx, hmx, rfl⟩ := hgx1 hex; clear hex) | (intro rx hrx; have hq := hres1 hrx (by omega); clear hrx) | (intro rx hrx; have hq := hsub1 hrx (by omega); subst hq; clear hrx) | (refine eg ?_; conv => whnf) | refine gx hg1 ?_ | refine gx hg2 ?_ | refine gx hg3 ?_ | refine gx hg4 ?_ | refine an ?_ ?_ | (refine iw ?_; intro rx hrx) | exact lf | intro _)
 all_goals try exact vy
 clear hsub1 hday
 -- there is a truth
 obtain ⟨v0, hv0⟩ : ∃ v0, v0 ∈ truthsB b (manyS b.rngs).toNat := by
  obtain ⟨n, hn1, hn2⟩ := List.any_eq_true.1 hhas
  exact ⟨_, by simp only [truthsB, List.mem_filter, List.mem_map]; exact ⟨⟨n, hn1, rfl⟩, hn2⟩⟩
 obtain ⟨hl0, a0, hs0, _⟩ := truth_seen hb hv0 hdl
 have hworth := fun o => worth_some hb hl0 hs0 o
 have hplen := hb.plen
 have helen := hb.elen
 have d46 := c46 b (by omega) (by omega)
 have hgt : ∀ o : Nat, (o : Int) < b.owners → ∃ lo hi : Int, loO (bdL (worthL b o day)) = lo ∧ hiO (bdL (worthL b o day)) = hi ∧ 0 ≤ lo ∧ PF Tryz.prog 45 [encBok b, .int .i64 o, .int .i64 day] (· = .tup [.agg [.int .i64 lo, .int .i64 hi], .int .i64 0]) := fun o ho => by
  obtain ⟨lo, hi, e, h⟩ := hworth o
  have d := c45 b o day hb hM hdl ⟨by omega, ho⟩
  rw [e] at d
  rw [e]
  exact ⟨lo, hi, rfl, rfl, h, d⟩
 clear hworth
 generalize hw : (fun o : Nat => loO (bdL (worthL b o day))) = w
 have hw' : ∀ o : Nat, loO (bdL (worthL b o day)) = w o := fun o => by rw [← hw]
 refine TWq.seq (TWq.go ?_)
 (repeat' first | (intro ex hex; obtain ⟨mx, hmx, rfl⟩ := hgx1 hex; clear hex) | (intro rx hrx; have hq := hres1 hrx (by omega); clear hrx) | (intro rx hrx; have hq := hsub1 hrx (by omega); subst hq; clear hrx) | (refine eg ?_; conv => whnf) | refine gx hg1 ?_ | refine gx hg2 ?_ | refine gx hg3 ?_ | refine gx hg4 ?_ | refine an ?_ ?_ | (refine iw ?_; intro rx hrx) | exact lf | intro _)
 refine TWq.seq (TWq.go ?_)
 (repeat' first | (intro ex hex; obtain ⟨mx, hmx, rfl⟩ := hgx1 hex; clear hex) | (intro rx hrx; have hq := hres1 hrx (by omega); clear hrx) | (intro rx hrx; have hq := hsub1 hrx (by omega); subst hq; clear hrx) | (refine eg ?_; conv => whnf) | refine gx hg1 ?_ | refine gx hg2 ?_ | refine gx hg3 ?_ | refine gx hg4 ?_ | refine an ?_ ?_ | (refine iw ?_; intro rx hrx) | exact lf | intro _)
 refine TWq.seq (TWq.go ?_)
 (repeat' first | (intro ex hex; obtain ⟨mx, hmx, rfl⟩ := hgx1 hex; clear hex) | (intro rx hrx; have hq := hres1 hrx (by omega); clear hrx) | (intro rx hrx; have hq := hsub1 hrx (by omega); subst hq; clear hrx) | (refine eg ?_; conv => whnf) | refine gx hg1 ?_ | refine gx hg2 ?_ | refine gx hg3 ?_ | refine gx hg4 ?_ | refine an ?_ ?_ | (refine iw ?_; intro rx hrx) | exact lf | intro _)
 refine TWq.loopP (fun k : Nat => [(10, .int .i64 k), (9, .int .i64 (sumO w k))]) (fun k => [(1, .cells [ownM 2 (memO w k), .nils, .int .i64 0, .int .i64 0, .int .i64 0]), (2, arrM (memO w k))])
  (fun k => (k : Int) ≤ b.owners ∧ ∀ o, o < k → (0 ≤ w o ∧ w o ≤ 1000) ∧ hiO (bdL (worthL b o day)) = w o) (fun k => (b.owners - k).toNat) 0 [] ?_ ⟨by omega, fun o ho => absurd ho (by omega)⟩ ?_
 ·(repeat' first | (intro ex hex; obtain ⟨mx, hmx, rfl⟩ := hgx1 hex; clear hex) | (intro rx hrx; have hq := hres1 hrx (by omega); clear hrx) | (intro rx hrx; have hq := hsub1 hrx (by omega); subst hq; clear hrx) | (refine eg ?_; conv => whnf) | refine gx hg1 ?_ | refine gx hg2 ?_ | refine gx hg3 ?_ | refine gx hg4 ?_ | refine an ?_ ?_ | (refine iw ?_; intro rx hrx) | exact lf | intro _)
  all_goals try exact vy
 rintro k ⟨hk, hkw⟩
 have hsb := sumO_bd k fun o ho => (hkw o ho).1
 rcases Int.lt_or_le k b.owners with hkl | hkl
 ·obtain ⟨lo, hi, e1, e2, hlo, d45⟩ := hgt k hkl
  have ew : w k = lo := by rw [← hw', e1]
  by_cases hlh : lo = hi ∧ hi ≤ 1000
  rotate_left
  ·(repeat' first | (intro ex hex; obtain ⟨mx, hmx, rfl⟩ := hgx1 hex; clear hex) | (intro rx hrx; have hq := hres1 hrx (by omega); clear hrx) | (intro rx hrx; have hq := hsub1 hrx (by omega); subst hq; clear hrx) | (refine eg ?_; conv => whnf) | refine gx hg1 ?_ | refine gx hg2 ?_ | refine gx hg3 ?_ | refine gx hg4 ?_ | refine an ?_ ?_ | (refine iw ?_; intro rx hrx) | exact lf | intro _)
   all_goals try exact vy
   refine TSq.pureC d46 (by simp [cloL, encBok_clo]) rfl (And.intro rfl rfl) ?_
   (repeat' first | (intro ex hex; obtain ⟨mx, hmx, rfl⟩ := hgx1 hex; clear hex) | (intro rx hrx; have hq := hres1 hrx (by omega); clear hrx) | (intro rx hrx; have hq := hsub1 hrx (by omega); subst hq; clear hrx) | (refine eg ?_; conv => whnf) | refine gx hg1 ?_ | refine gx hg2 ?_ | refine gx hg3 ?_ | refine gx hg4 ?_ | refine an ?_ ?_ | (refine iw ?_; intro rx hrx) | exact lf | intro _)
   refine TSq.pureC d45 (by simp [cloL, encBok_clo, clo]) rfl (And.intro rfl rfl) ?_
   (repeat' first | (intro ex hex; obtain ⟨mx, hmx, rfl⟩ := hgx1 hex; clear hex) | (intro rx hrx; have hq := hres1 hrx (by omega); clear hrx) | (intro rx hrx; have hq := hsub1 hrx (by omega); subst hq; clear hrx) | (refine eg ?_; conv => whnf) | refine gx hg1 ?_ | refine gx hg2 ?_ | refine gx hg3 ?_ | refine gx hg4 ?_ | refine an ?_ ?_ | (refine iw ?_; intro rx hrx) | exact lf | intro _)
   all_goals try exact vy
   all_goals (try (exfalso; omega))
   all_goals
    refine TSq.pureC d10 cl rfl (And.intro rfl rfl) ?_
    (repeat' first | (intro ex hex; obtain ⟨mx, hmx, rfl⟩ := hgx1 hex; clear hex) | (intro rx hrx; have hq := hres1 hrx (by omega); clear hrx) | (intro rx hrx; have hq := hsub1 hrx (by omega); subst hq; clear hrx) | (refine eg ?_; conv => whnf) | refine gx hg1 ?_ | refine gx hg2 ?_ | refine gx hg3 ?_ | refine gx hg4 ?_ | refine an ?_ ?_ | (refine iw ?_; intro rx hrx) | exact lf | intro _)
    try rfl
  obtain ⟨rfl, hlk⟩ := hlh
  have hz := memO_len (w := w) k
  have hzy := encYs_len (memO w k)
  have hnext : ∀ o, o < k + 1 → (0 ≤ w o ∧ w o ≤ 1000) ∧ hiO (bdL (worthL b o day)) = w o := fun o ho => by
   rcases Nat.lt_or_ge o k with h | h
   ·exact hkw o h
   ·obtain rfl : o = k := by omega
    rw [ew]; exact ⟨⟨hlo, hlk⟩, e2⟩
  have hs1 : sumO w (k + 1) = sumO w k + lo := by rw [sumO, ew]
  rcases Int.lt_or_le 0 lo with hl0' | hl0'
  ·have hm : memO w (k + 1) = memO w k ++ [⟨lo, 1, 65535⟩] := by rw [memO, ew, if_pos hl0']
   rcases hmm : memO w k with _ | ⟨m0, ms⟩
   all_goals
    rw [hmm] at hm hz hzy
    simp only [List.length_cons, List.length_nil] at hz hzy
    (repeat' first | (intro ex hex; obtain ⟨mx, hmx, rfl⟩ := hgx1 hex; clear hex) | (intro rx hrx; have hq := hres1 hrx (by omega); clear hrx) | (intro rx hrx; have hq := hsub1 hrx (by omega); subst hq; clear hrx) | (refine eg ?_; conv => whnf) | refine gx hg1 ?_ | refine gx hg2 ?_ | refine gx hg3 ?_ | refine gx hg4 ?_ | refine an ?_ ?_ | (refine iw ?_; intro rx hrx) | exact lf | intro _)
    all_goals try exact vy
    refine TSq.pureC d46 (by simp [cloL, encBok_clo]) rfl (And.intro rfl rfl) ?_
    (repeat' first | (intro ex hex; obtain ⟨mx, hmx, rfl⟩ := hgx1 hex; clear hex) | (intro rx hrx; have hq := hres1 hrx (by omega); clear hrx) | (intro rx hrx; have hq := hsub1 hrx (by omega); subst hq; clear hrx) | (refine eg ?_; conv => whnf) | refine gx hg1 ?_ | refine gx hg2 ?_ | refine gx hg3 ?_ | refine gx hg4 ?_ | refine an ?_ ?_ | (refine iw ?_; intro rx hrx) | exact lf | intro _)
    refine TSq.pureC d45 (by simp [cloL, encBok_clo, clo]) rfl (And.intro rfl rfl) ?_
    (repeat' first | (intro ex hex; obtain ⟨mx, hmx, rfl⟩ := hgx1 hex; clear hex) | (intro rx hrx; have hq := hres1 hrx (by omega); clear hrx) | (intro rx hrx; have hq := hsub1 hrx (by omega); subst hq; clear hrx) | (refine eg ?_; conv => whnf) | refine gx hg1 ?_ | refine gx hg2 ?_ | refine gx hg3 ?_ | refine gx hg4 ?_ | refine an ?_ ?_ | (refine iw ?_; intro rx hrx) | exact lf | intro _)
    all_goals try exact vy
    all_goals (try (exfalso; omega))
    all_goals (try (refine ⟨?_⟩; simp [encYs_len, catS, repl, chunks]; omega))
    refine ⟨⟨[(2, 5)], k + 1, ⟨by omega, hnext⟩, by omega, ?_⟩⟩
    rw [hm, hs1]
    (repeat' first | (intro ex hex; obtain ⟨mx, hmx, rfl⟩ := hgx1 hex; clear hex) | (intro rx hrx; have hq := hres1 hrx (by omega); clear hrx) | (intro rx hrx; have hq := hsub1 hrx (by omega); subst hq; clear hrx) | (refine eg ?_; conv => whnf) | refine gx hg1 ?_ | refine gx hg2 ?_ | refine gx hg3 ?_ | refine gx hg4 ?_ | refine an ?_ ?_ | (refine iw ?_; intro rx hrx) | exact lf | intro _)
    all_goals try exact vy
    all_goals (try (refine ⟨?_⟩; first | exact encYs_clo _ | (simp [encYs, encY, catS, repl, chunks]; done)))
  ·have hm : memO w (k + 1) = memO w k := by rw [memO, ew, if_neg (by omega), List.append_nil]
   rcases hmm : memO w k with _ | ⟨m0, ms⟩
   all_goals
    rw [hmm] at hm hz hzy
    simp only [List.length_cons, List.length_nil] at hz hzy
    (repeat' first | (intro ex hex; obtain ⟨mx, hmx, rfl⟩ := hgx1 hex; clear hex) | (intro rx hrx; have hq := hres1 hrx (by omega); clear hrx) | (intro rx hrx; have hq := hsub1 hrx (by omega); subst hq; clear hrx) | (refine eg ?_; conv => whnf) | refine gx hg1 ?_ | refine gx hg2 ?_ | refine gx hg3 ?_ | refine gx hg4 ?_ | refine an ?_ ?_ | (refine iw ?_; intro rx hrx) | exact lf | intro _)
    all_goals try exact vy
    refine TSq.pureC d46 (by simp [cloL, encBok_clo]) rfl (And.intro rfl rfl) ?_
    (repeat' first | (intro ex hex; obtain ⟨mx, hmx, rfl⟩ := hgx1 hex; clear hex) | (intro rx hrx; have hq := hres1 hrx (by omega); clear hrx) | (intro rx hrx; have hq := hsub1 hrx (by omega); subst hq; clear hrx) | (refine eg ?_; conv => whnf) | refine gx hg1 ?_ | refine gx hg2 ?_ | refine gx hg3 ?_ | refine gx hg4 ?_ | refine an ?_ ?_ | (refine iw ?_; intro rx hrx) | exact lf | intro _)
    refine TSq.pureC d45 (by simp [cloL, encBok_clo, clo]) rfl (And.intro rfl rfl) ?_
    (repeat' first | (intro ex hex; obtain ⟨mx, hmx, rfl⟩ := hgx1 hex; clear hex) | (intro rx hrx; have hq := hres1 hrx (by omega); clear hrx) | (intro rx hrx; have hq := hsub1 hrx (by omega); subst hq; clear hrx) | (refine eg ?_; conv => whnf) | refine gx hg1 ?_ | refine gx hg2 ?_ | refine gx hg3 ?_ | refine gx hg4 ?_ | refine an ?_ ?_ | (refine iw ?_; intro rx hrx) | exact lf | intro _)
    all_goals try exact vy
    all_goals (try (exfalso; omega))
    refine ⟨⟨[], k + 1, ⟨by omega, hnext⟩, by omega, ?_⟩⟩
    rw [hm, hs1]
    (repeat' first | (intro ex hex; obtain ⟨mx, hmx, rfl⟩ := hgx1 hex; clear hex) | (intro rx hrx; have hq := hres1 hrx (by omega); clear hrx) | (intro rx hrx; have hq := hsub1 hrx (by omega); subst hq; clear hrx) | (refine eg ?_; conv => whnf) | refine gx hg1 ?_ | refine gx hg2 ?_ | refine gx hg3 ?_ | refine gx hg4 ?_ | refine an ?_ ?_ | (refine iw ?_; intro rx hrx) | exact lf | intro _)
    all_goals try exact vy
 have hke : b.owners.toNat = k := by omega
 have htm := fun (v : List Int) (hv : v ∈ truthsB b (manyS b.rngs).toNat) => truth_seen hb hv hdl
 have hks : ∀ (v : List Int) (a : Fds), v ∈ listsL b.rngs → seenF b [] day v = some a → sumO w k = covK a day b.nums := fun v a h1 h2 => by
  rw [← hw, ← hke]
  exact known_sum hb h1 h2 fun o ho => by rw [hw']; exact ((hkw o (by omega)).2).symm
 have d47 := c47 b hb
 have hT0 : 0 < (truthsB b (manyS b.rngs).toNat).length := List.length_pos_of_mem hv0
 have hTm := fun v (h : v ∈ truthsB b (manyS b.rngs).toNat) => truthsB_mem h
 have hTl : (truthsB b (manyS b.rngs).toNat).length ≤ 1000 := by
  have h1 := List.length_filter_le (isT b) ((List.range (manyS b.rngs).toNat).map fun (k : Nat) => nthL b.rngs (k : Int))
  rw [List.length_map, List.length_range] at h1
  exact Nat.le_trans h1 (by omega)
 have hpl48 : ∀ v, v ∈ truthsB b (manyS b.rngs).toNat → ∃ a, PF Tryz.prog 48 [encBok b, encTru b v, .int .i64 day] (· = .tup [.sl 4 (hldL a day b.nums), .int .i64 0]) ∧ sumO w k = covK a day b.nums ∧ OkG a ∧ PF Tryz.prog 49 [encTru b v] (· = encTru b v) := fun v hv => by
  obtain ⟨h1, a, h2, h3⟩ := htm v hv
  obtain ⟨n, e, ht⟩ := hTm v hv
  obtain ⟨q1, q2⟩ := nthL_in b.rngs n fun r hr => (hb.rsize r hr).1
  rw [← e] at q1 q2
  have hrl : b.rngs.length = b.ents.length + b.pcls.length := by simp [Bok.rngs]
  have t1 : (v.take b.ents.length).length = b.ents.length := by rw [List.length_take]; omega
  have t2 : (v.drop b.ents.length).length = b.pcls.length := by rw [List.length_drop]; omega
  refine ⟨a, c48' (c48 b _ _ day hb hM hdl t1 t2 (fun j r x hr hx => ?_) a ht h3), hks v a h1 h2, seenF_ok hb h2, c49 _ _ (by omega) (by omega)⟩
  rw [List.take_append_drop] at hx
  exact q2 j r x hr hx
 clear htm hTm hks
 generalize truthsB b (manyS b.rngs).toNat = T at *
 have hzt := encTrus_len b T
 have hres1 : ∀ {r x y : Int}, r = x.tmod y → 0 ≤ x ∧ 0 < y → 0 ≤ r ∧ r < y := fun h hxy => rem_bd h hxy.1 hxy.2
 have hgx1 : ∀ {n : Nat} {e : SV}, (encTrus b T)[n]? = some e → ∃ v : List Int, v ∈ T ∧ e = encTru b v := fun he => by
  obtain ⟨x, hx, rfl⟩ := map_at he
  exact ⟨x, List.mem_of_getElem? hx, rfl⟩
 rcases hmm : memO w k with _ | ⟨m0, ms⟩
 all_goals
  (repeat' first | (intro ex hex; obtain ⟨mx, hmx, rfl⟩ := hgx1 hex; clear hex) | (intro rx hrx; have hq := hres1 hrx (by omega); clear hrx) | (intro rx hrx; have hq := hsub1 hrx (by omega); subst hq; clear hrx) | (refine eg ?_; conv => whnf) | refine gx hg1 ?_ | refine gx hg2 ?_ | refine gx hg3 ?_ | refine gx hg4 ?_ | refine an ?_ ?_ | (refine iw ?_; intro rx hrx) | exact lf | intro _)
  all_goals try exact vy
  refine TWq.seq (TWq.go ?_)
  (repeat' first | (intro ex hex; obtain ⟨mx, hmx, rfl⟩ := hgx1 hex; clear hex) | (intro rx hrx; have hq := hres1 hrx (by omega); clear hrx) | (intro rx hrx; have hq := hsub1 hrx (by omega); subst hq; clear hrx) | (refine eg ?_; conv => whnf) | refine gx hg1 ?_ | refine gx hg2 ?_ | refine gx hg3 ?_ | refine gx hg4 ?_ | refine an ?_ ?_ | (refine iw ?_; intro rx hrx) | exact lf | intro _)
  refine TSq.pureC d47 (by simp [cloL, encBok_clo]) rfl (And.intro rfl rfl) ?_
  (repeat' first | (intro ex hex; obtain ⟨mx, hmx, rfl⟩ := hgx1 hex; clear hex) | (intro rx hrx; have hq := hres1 hrx (by omega); clear hrx) | (intro rx hrx; have hq := hsub1 hrx (by omega); subst hq; clear hrx) | (refine eg ?_; conv => whnf) | refine gx hg1 ?_ | refine gx hg2 ?_ | refine gx hg3 ?_ | refine gx hg4 ?_ | refine an ?_ ?_ | (refine iw ?_; intro rx hrx) | exact lf | intro _)
  refine TWq.seq (TWq.go ?_)
  (repeat' first | (intro ex hex; obtain ⟨mx, hmx, rfl⟩ := hgx1 hex; clear hex) | (intro rx hrx; have hq := hres1 hrx (by omega); clear hrx) | (intro rx hrx; have hq := hsub1 hrx (by omega); subst hq; clear hrx) | (refine eg ?_; conv => whnf) | refine gx hg1 ?_ | refine gx hg2 ?_ | refine gx hg3 ?_ | refine gx hg4 ?_ | refine an ?_ ?_ | (refine iw ?_; intro rx hrx) | exact lf | intro _)
  all_goals try exact vy
  refine TDq.pureC d46 (by simp [cloL, encBok_clo]) rfl (And.intro rfl rfl) ?_
  (repeat' first | (intro ex hex; obtain ⟨mx, hmx, rfl⟩ := hgx1 hex; clear hex) | (intro rx hrx; have hq := hres1 hrx (by omega); clear hrx) | (intro rx hrx; have hq := hsub1 hrx (by omega); subst hq; clear hrx) | (refine eg ?_; conv => whnf) | refine gx hg1 ?_ | refine gx hg2 ?_ | refine gx hg3 ?_ | refine gx hg4 ?_ | refine an ?_ ?_ | (refine iw ?_; intro rx hrx) | exact lf | intro _)
  all_goals try exact vy
  obtain ⟨a, d48, hsum, hok, d49⟩ := hpl48 mx hmx
  have hcb := covK_bd hok day
  have hHl := hldL_len a day b.nums
  have hnl := hb.nums_le
  refine TDq.pureC d49 (by simp [cloL, encTru, clo]) rfl (And.intro rfl rfl) ?_
  (repeat' first | (intro ex hex; obtain ⟨mx, hmx, rfl⟩ := hgx1 hex; clear hex) | (intro rx hrx; have hq := hres1 hrx (by omega); clear hrx) | (intro rx hrx; have hq := hsub1 hrx (by omega); subst hq; clear hrx) | (refine eg ?_; conv => whnf) | refine gx hg1 ?_ | refine gx hg2 ?_ | refine gx hg3 ?_ | refine gx hg4 ?_ | refine an ?_ ?_ | (refine iw ?_; intro rx hrx) | exact lf | intro _)
  all_goals try exact vy
  refine TDq.pureC d48 (by simp [cloL, encTru, encBok_clo, clo]) rfl (And.intro rfl rfl) ?_
  (repeat' first | (intro ex hex; obtain ⟨mx, hmx, rfl⟩ := hgx1 hex; clear hex) | (intro rx hrx; have hq := hres1 hrx (by omega); clear hrx) | (intro rx hrx; have hq := hsub1 hrx (by omega); subst hq; clear hrx) | (refine eg ?_; conv => whnf) | refine gx hg1 ?_ | refine gx hg2 ?_ | refine gx hg3 ?_ | refine gx hg4 ?_ | refine an ?_ ?_ | (refine iw ?_; intro rx hrx) | exact lf | intro _)
  all_goals try exact vz
  refine TWq.seq (TWq.go ?_)
  (repeat' first | (intro ex hex; obtain ⟨mx, hmx, rfl⟩ := hgx1 hex; clear hex) | (intro rx hrx; have hq := hres1 hrx (by omega); clear hrx) | (intro rx hrx; have hq := hsub1 hrx (by omega); subst hq; clear hrx) | (refine eg ?_; conv => whnf) | refine gx hg1 ?_ | refine gx hg2 ?_ | refine gx hg3 ?_ | refine gx hg4 ?_ | refine an ?_ ?_ | (refine iw ?_; intro rx hrx) | exact lf | intro _)
  all_goals try exact vy
  refine TWq.seq (TWq.go ?_)
  (repeat' first | (intro ex hex; obtain ⟨mx, hmx, rfl⟩ := hgx1 hex; clear hex) | (intro rx hrx; have hq := hres1 hrx (by omega); clear hrx) | (intro rx hrx; have hq := hsub1 hrx (by omega); subst hq; clear hrx) | (refine eg ?_; conv => whnf) | refine gx hg1 ?_ | refine gx hg2 ?_ | refine gx hg3 ?_ | refine gx hg4 ?_ | refine an ?_ ?_ | (refine iw ?_; intro rx hrx) | exact lf | intro _)
  refine TWq.loop (fun j : Nat => [(16, .int .i64 j), (9, .int .i64 (sumO w k - covK a day j))]) (fun _ => []) (fun j => j ≤ b.nums) (fun j => b.nums - j) 0 [] [] ?_ (by omega) ?_
  ·(repeat' first | (intro ex hex; obtain ⟨mx, hmx, rfl⟩ := hgx1 hex; clear hex) | (intro rx hrx; have hq := hres1 hrx (by omega); clear hrx) | (intro rx hrx; have hq := hsub1 hrx (by omega); subst hq; clear hrx) | (refine eg ?_; conv => whnf) | refine gx hg1 ?_ | refine gx hg2 ?_ | refine gx hg3 ?_ | refine gx hg4 ?_ | refine an ?_ ?_ | (refine iw ?_; intro rx hrx) | exact lf | intro _)
   all_goals try exact vy
   all_goals (try (refine ⟨?_⟩; simp [covK]; done))
  ·intro j hj
   have hcj := hcb j
   rcases Nat.lt_or_ge j b.nums with hjl | hjl
   ·have hg1 : ∀ {n : Nat} {e : SV}, n = j → (hldL a day b.nums)[n]? = some e → e = encHld a day j := by
     rintro n e rfl he
     simp only [hldL, List.getElem?_map, Option.map_eq_some_iff] at he
     obtain ⟨x, h1, rfl⟩ := he
     rw [List.getElem?_range hjl] at h1
     cases h1; rfl
    have hvj := hok j
    cases hcv : covF (a j) day
    all_goals
     have hcs : covK a day (j + 1) = covK a day j + _ := rfl
     rw [hcv] at hcs
     simp only [encHld, hcv] at hg1
     (repeat' first | (intro ex hex; obtain ⟨mx, hmx, rfl⟩ := hgx1 hex; clear hex) | (intro rx hrx; have hq := hres1 hrx (by omega); clear hrx) | (intro rx hrx; have hq := hsub1 hrx (by omega); subst hq; clear hrx) | (refine eg ?_; conv => whnf) | refine gx hg1 ?_ | refine gx hg2 ?_ | refine gx hg3 ?_ | refine gx hg4 ?_ | refine an ?_ ?_ | (refine iw ?_; intro rx hrx) | exact lf | intro _)
     all_goals try exact vy
     refine ⟨⟨j + 1, by omega, by omega, ?_⟩⟩
     (repeat' first | (intro ex hex; obtain ⟨mx, hmx, rfl⟩ := hgx1 hex; clear hex) | (intro rx hrx; have hq := hres1 hrx (by omega); clear hrx) | (intro rx hrx; have hq := hsub1 hrx (by omega); subst hq; clear hrx) | (refine eg ?_; conv => whnf) | refine gx hg1 ?_ | refine gx hg2 ?_ | refine gx hg3 ?_ | refine gx hg4 ?_ | refine an ?_ ?_ | (refine iw ?_; intro rx hrx) | exact lf | intro _)
     all_goals try exact vy
     all_goals (try (refine ⟨?_⟩; rw [hcs]; simp; try omega))
   ·have hje : j = b.nums := by omega
    have h0 : sumO w k - covK a day j = 0 := by rw [hje]; omega
    rw [h0]
    (repeat' first | (intro ex hex; obtain ⟨mx, hmx, rfl⟩ := hgx1 hex; clear hex) | (intro rx hrx; have hq := hres1 hrx (by omega); clear hrx) | (intro rx hrx; have hq := hsub1 hrx (by omega); subst hq; clear hrx) | (refine eg ?_; conv => whnf) | refine gx hg1 ?_ | refine gx hg2 ?_ | refine gx hg3 ?_ | refine gx hg4 ?_ | refine an ?_ ?_ | (refine iw ?_; intro rx hrx) | exact lf | intro _)
    all_goals try exact vy
    refine TWq.seq (TWq.go ?_)
    (repeat' first | (intro ex hex; obtain ⟨mx, hmx, rfl⟩ := hgx1 hex; clear hex) | (intro rx hrx; have hq := hres1 hrx (by omega); clear hrx) | (intro rx hrx; have hq := hsub1 hrx (by omega); subst hq; clear hrx) | (refine eg ?_; conv => whnf) | refine gx hg1 ?_ | refine gx hg2 ?_ | refine gx hg3 ?_ | refine gx hg4 ?_ | refine an ?_ ?_ | (refine iw ?_; intro rx hrx) | exact lf | intro _)
    all_goals (try (exfalso; omega))
    all_goals try exact vy
    refine TWq.seq (TWq.go ?_)
    (repeat' first | (intro ex hex; obtain ⟨mx, hmx, rfl⟩ := hgx1 hex; clear hex) | (intro rx hrx; have hq := hres1 hrx (by omega); clear hrx) | (intro rx hrx; have hq := hsub1 hrx (by omega); subst hq; clear hrx) | (refine eg ?_; conv => whnf) | refine gx hg1 ?_ | refine gx hg2 ?_ | refine gx hg3 ?_ | refine gx hg4 ?_ | refine an ?_ ?_ | (refine iw ?_; intro rx hrx) | exact lf | intro _)
    all_goals try exact vy
    all_goals (first | (refine TSq.pureC d10 cl rfl (And.intro rfl rfl) ?_; (repeat' first | (intro ex hex; obtain ⟨mx, hmx, rfl⟩ := hgx1 hex; clear hex) | (intro rx hrx; have hq := hres1 hrx (by omega); clear hrx) | (intro rx hrx; have hq := hsub1 hrx (by omega); subst hq; clear hrx) | (refine eg ?_; conv => whnf) | refine gx hg1 ?_ | refine gx hg2 ?_ | refine gx hg3 ?_ | refine gx hg4 ?_ | refine an ?_ ?_ | (refine iw ?_; intro rx hrx) | exact lf | intro _)) | skip)
    all_goals
     obtain ⟨l, d19, hl, hlb, hlaw⟩ := insured_calls hmm (by omega) (fun o ho => (hkw o ho).1.2) hn
     have hil := ints_len l
     have d19' := fun (x : Int) (h : x = need) => show PF Tryz.prog 19 [.agg [.sl 3 (encYs (m0 :: ms)), .nils, .int .i64 0, .int .i64 0, .int .i64 0], .int .i64 x] (· = .tup [.sl 1 (ints l), .int .i64 0, .int .i64 0]) by rw [h]; exact d19
     have hzy := encYs_len (m0 :: ms)
     have hz := memO_len (w := w) k
     rw [hmm] at hz
     simp only [List.length_cons] at hzy hz
     refine TWq.fitW [(0, .junk), (22, .junk), (26, .junk), (31, .junk), (89, .junk), (92, .junk), (93, .junk)] [] ?_
     (repeat' first | (intro ex hex; obtain ⟨mx, hmx, rfl⟩ := hgx1 hex; clear hex) | (intro rx hrx; have hq := hres1 hrx (by omega); clear hrx) | (intro rx hrx; have hq := hsub1 hrx (by omega); subst hq; clear hrx) | (refine eg ?_; conv => whnf) | refine gx hg1 ?_ | refine gx hg2 ?_ | refine gx hg3 ?_ | refine gx hg4 ?_ | refine an ?_ ?_ | (refine iw ?_; intro rx hrx) | exact lf | intro _)
     all_goals try exact vy
     refine TWq.pubW 2 ?_
     (repeat' first | (intro ex hex; obtain ⟨mx, hmx, rfl⟩ := hgx1 hex; clear hex) | (intro rx hrx; have hq := hres1 hrx (by omega); clear hrx) | (intro rx hrx; have hq := hsub1 hrx (by omega); subst hq; clear hrx) | (refine eg ?_; conv => whnf) | refine gx hg1 ?_ | refine gx hg2 ?_ | refine gx hg3 ?_ | refine gx hg4 ?_ | refine an ?_ ?_ | (refine iw ?_; intro rx hrx) | exact lf | intro _)
     all_goals try exact vy
     all_goals (try (refine ⟨?_⟩; exact encYs_clo _))
     refine TWq.seq (TWq.go ?_)
     (repeat' first | (intro ex hex; obtain ⟨mx, hmx, rfl⟩ := hgx1 hex; clear hex) | (intro rx hrx; have hq := hres1 hrx (by omega); clear hrx) | (intro rx hrx; have hq := hsub1 hrx (by omega); subst hq; clear hrx) | (refine eg ?_; conv => whnf) | refine gx hg1 ?_ | refine gx hg2 ?_ | refine gx hg3 ?_ | refine gx hg4 ?_ | refine an ?_ ?_ | (refine iw ?_; intro rx hrx) | exact lf | intro _)
     all_goals try exact vy
     refine TSq.pureC (d19' _ (by assumption)) (by simp [cloL, clo, encYs_clo]) rfl (And.intro rfl rfl) ?_
     (repeat' first | (intro ex hex; obtain ⟨mx, hmx, rfl⟩ := hgx1 hex; clear hex) | (intro rx hrx; have hq := hres1 hrx (by omega); clear hrx) | (intro rx hrx; have hq := hsub1 hrx (by omega); subst hq; clear hrx) | (refine eg ?_; conv => whnf) | refine gx hg1 ?_ | refine gx hg2 ?_ | refine gx hg3 ?_ | refine gx hg4 ?_ | refine an ?_ ?_ | (refine iw ?_; intro rx hrx) | exact lf | intro _)
     all_goals try exact vy
     refine TWq.seq (TWq.go ?_)
     (repeat' first | (intro ex hex; obtain ⟨mx, hmx, rfl⟩ := hgx1 hex; clear hex) | (intro rx hrx; have hq := hres1 hrx (by omega); clear hrx) | (intro rx hrx; have hq := hsub1 hrx (by omega); subst hq; clear hrx) | (refine eg ?_; conv => whnf) | refine gx hg1 ?_ | refine gx hg2 ?_ | refine gx hg3 ?_ | refine gx hg4 ?_ | refine an ?_ ?_ | (refine iw ?_; intro rx hrx) | exact lf | intro _)
     all_goals (try (exfalso; omega))
     all_goals try exact vy
     refine TWq.seq (TWq.go ?_)
     (repeat' first | (intro ex hex; obtain ⟨mx, hmx, rfl⟩ := hgx1 hex; clear hex) | (intro rx hrx; have hq := hres1 hrx (by omega); clear hrx) | (intro rx hrx; have hq := hsub1 hrx (by omega); subst hq; clear hrx) | (refine eg ?_; conv => whnf) | refine gx hg1 ?_ | refine gx hg2 ?_ | refine gx hg3 ?_ | refine gx hg4 ?_ | refine an ?_ ?_ | (refine iw ?_; intro rx hrx) | exact lf | intro _)
     refine TWq.loop (fun i : Nat => [(20, .int .i64 i), (21, .junk)]) (fun _ => []) (fun i => i ≤ l.length) (fun i => l.length - i) 0 [] [] ?_ (by omega) ?_
     ·(repeat' first | (intro ex hex; obtain ⟨mx, hmx, rfl⟩ := hgx1 hex; clear hex) | (intro rx hrx; have hq := hres1 hrx (by omega); clear hrx) | (intro rx hrx; have hq := hsub1 hrx (by omega); subst hq; clear hrx) | (refine eg ?_; conv => whnf) | refine gx hg1 ?_ | refine gx hg2 ?_ | refine gx hg3 ?_ | refine gx hg4 ?_ | refine an ?_ ?_ | (refine iw ?_; intro rx hrx) | exact lf | intro _)
      all_goals try exact vy
     intro i hi
     rcases Nat.lt_or_ge i l.length with hil2 | hil2
     ·obtain ⟨x, hx⟩ : ∃ x, (m0 :: ms)[i]? = some x := ⟨_, List.getElem?_eq_getElem (by simp only [List.length_cons]; omega)⟩
      obtain ⟨u, hu⟩ : ∃ u, l[i]? = some u := ⟨_, List.getElem?_eq_getElem hil2⟩
      have hub := hlb u (List.mem_of_getElem? hu)
      have hg1 : ∀ {n : Nat} {e : SV}, n = i → (encYs (m0 :: ms))[n]? = some e → e = encY x := by
       rintro n e rfl he
       obtain ⟨q, hq, rfl⟩ := encYs_at he
       rw [hx] at hq; cases hq; rfl
      have hg2 : ∀ {n : Nat} {e : SV}, n = i → (ints l)[n]? = some e → e = .int .i64 u := by
       rintro n e rfl he
       obtain ⟨q, hq, rfl⟩ := ints_at he
       rw [hu] at hq; cases hq; rfl
      (repeat' first | (intro ex hex; obtain ⟨mx, hmx, rfl⟩ := hgx1 hex; clear hex) | (intro rx hrx; have hq := hres1 hrx (by omega); clear hrx) | (intro rx hrx; have hq := hsub1 hrx (by omega); subst hq; clear hrx) | (refine eg ?_; conv => whnf) | refine gx hg1 ?_ | refine gx hg2 ?_ | refine gx hg3 ?_ | refine gx hg4 ?_ | refine an ?_ ?_ | (refine iw ?_; intro rx hrx) | exact lf | intro _)
      all_goals try exact vy
      refine TWq.loop (fun j : Nat => [(21, .int .i64 j)]) (fun _ => []) (fun j => j ≤ l.length) (fun j => l.length - j) 0 [] [] ?_ (by omega) ?_
      ·(repeat' first | (intro ex hex; obtain ⟨mx, hmx, rfl⟩ := hgx1 hex; clear hex) | (intro rx hrx; have hq := hres1 hrx (by omega); clear hrx) | (intro rx hrx; have hq := hsub1 hrx (by omega); subst hq; clear hrx) | (refine eg ?_; conv => whnf) | refine gx hg1 ?_ | refine gx hg2 ?_ | refine gx hg3 ?_ | refine gx hg4 ?_ | refine an ?_ ?_ | (refine iw ?_; intro rx hrx) | exact lf | intro _)
       all_goals try exact vy
      intro j2 hj2
      rcases Nat.lt_or_ge j2 l.length with hjl2 | hjl2
      ·obtain ⟨y, hy⟩ : ∃ x, (m0 :: ms)[j2]? = some x := ⟨_, List.getElem?_eq_getElem (by simp only [List.length_cons]; omega)⟩
       obtain ⟨v, hv⟩ : ∃ u, l[j2]? = some u := ⟨_, List.getElem?_eq_getElem hjl2⟩
       have hvb := hlb v (List.mem_of_getElem? hv)
       have hg3 : ∀ {n : Nat} {e : SV}, n = j2 → (encYs (m0 :: ms))[n]? = some e → e = encY y := by
        rintro n e rfl he
        obtain ⟨q, hq, rfl⟩ := encYs_at he
        rw [hy] at hq; cases hq; rfl
       have hg4 : ∀ {n : Nat} {e : SV}, n = j2 → (ints l)[n]? = some e → e = .int .i64 v := by
        rintro n e rfl he
        obtain ⟨q, hq, rfl⟩ := ints_at he
        rw [hv] at hq; cases hq; rfl
       have hlw := hlaw i j2 x y u v hx hy hu hv
       rcases Int.lt_or_le y.sum x.sum with hlt | hlt
       ·have hlw := hlw hlt
        (repeat' first | (intro ex hex; obtain ⟨mx, hmx, rfl⟩ := hgx1 hex; clear hex) | (intro rx hrx; have hq := hres1 hrx (by omega); clear hrx) | (intro rx hrx; have hq := hsub1 hrx (by omega); subst hq; clear hrx) | (refine eg ?_; conv => whnf) | refine gx hg1 ?_ | refine gx hg2 ?_ | refine gx hg3 ?_ | refine gx hg4 ?_ | refine an ?_ ?_ | (refine iw ?_; intro rx hrx) | exact lf | intro _)
        all_goals try exact vz
        all_goals (try (exfalso; omega))
        refine ⟨⟨j2 + 1, by omega, by omega, ?_⟩⟩
        (repeat' first | (intro ex hex; obtain ⟨mx, hmx, rfl⟩ := hgx1 hex; clear hex) | (intro rx hrx; have hq := hres1 hrx (by omega); clear hrx) | (intro rx hrx; have hq := hsub1 hrx (by omega); subst hq; clear hrx) | (refine eg ?_; conv => whnf) | refine gx hg1 ?_ | refine gx hg2 ?_ | refine gx hg3 ?_ | refine gx hg4 ?_ | refine an ?_ ?_ | (refine iw ?_; intro rx hrx) | exact lf | intro _)
        all_goals try exact vy
       ·clear hlw
        (repeat' first | (intro ex hex; obtain ⟨mx, hmx, rfl⟩ := hgx1 hex; clear hex) | (intro rx hrx; have hq := hres1 hrx (by omega); clear hrx) | (intro rx hrx; have hq := hsub1 hrx (by omega); subst hq; clear hrx) | (refine eg ?_; conv => whnf) | refine gx hg1 ?_ | refine gx hg2 ?_ | refine gx hg3 ?_ | refine gx hg4 ?_ | refine an ?_ ?_ | (refine iw ?_; intro rx hrx) | exact lf | intro _)
        all_goals try exact vz
        all_goals (try (exfalso; omega))
        refine ⟨⟨j2 + 1, by omega, by omega, ?_⟩⟩
        (repeat' first | (intro ex hex; obtain ⟨mx, hmx, rfl⟩ := hgx1 hex; clear hex) | (intro rx hrx; have hq := hres1 hrx (by omega); clear hrx) | (intro rx hrx; have hq := hsub1 hrx (by omega); subst hq; clear hrx) | (refine eg ?_; conv => whnf) | refine gx hg1 ?_ | refine gx hg2 ?_ | refine gx hg3 ?_ | refine gx hg4 ?_ | refine an ?_ ?_ | (refine iw ?_; intro rx hrx) | exact lf | intro _)
        all_goals try exact vy
      ·(repeat' first | (intro ex hex; obtain ⟨mx, hmx, rfl⟩ := hgx1 hex; clear hex) | (intro rx hrx; have hq := hres1 hrx (by omega); clear hrx) | (intro rx hrx; have hq := hsub1 hrx (by omega); subst hq; clear hrx) | (refine eg ?_; conv => whnf) | refine gx hg1 ?_ | refine gx hg2 ?_ | refine gx hg3 ?_ | refine gx hg4 ?_ | refine an ?_ ?_ | (refine iw ?_; intro rx hrx) | exact lf | intro _)
       all_goals (try (exfalso; omega))
       all_goals try exact vy
       refine ⟨⟨i + 1, by omega, by omega, ?_⟩⟩
       (repeat' first | (intro ex hex; obtain ⟨mx, hmx, rfl⟩ := hgx1 hex; clear hex) | (intro rx hrx; have hq := hres1 hrx (by omega); clear hrx) | (intro rx hrx; have hq := hsub1 hrx (by omega); subst hq; clear hrx) | (refine eg ?_; conv => whnf) | refine gx hg1 ?_ | refine gx hg2 ?_ | refine gx hg3 ?_ | refine gx hg4 ?_ | refine an ?_ ?_ | (refine iw ?_; intro rx hrx) | exact lf | intro _)
       all_goals try exact vy
     ·(repeat' first | (intro ex hex; obtain ⟨mx, hmx, rfl⟩ := hgx1 hex; clear hex) | (intro rx hrx; have hq := hres1 hrx (by omega); clear hrx) | (intro rx hrx; have hq := hsub1 hrx (by omega); subst hq; clear hrx) | (refine eg ?_; conv => whnf) | refine gx hg1 ?_ | refine gx hg2 ?_ | refine gx hg3 ?_ | refine gx hg4 ?_ | refine an ?_ ?_ | (refine iw ?_; intro rx hrx) | exact lf | intro _)
      all_goals try exact vy
      all_goals (try (exfalso; omega))
      refine TWq.go ?_
      (repeat' first | (intro ex hex; obtain ⟨mx, hmx, rfl⟩ := hgx1 hex; clear hex) | (intro rx hrx; have hq := hres1 hrx (by omega); clear hrx) | (intro rx hrx; have hq := hsub1 hrx (by omega); subst hq; clear hrx) | (refine eg ?_; conv => whnf) | refine gx hg1 ?_ | refine gx hg2 ?_ | refine gx hg3 ?_ | refine gx hg4 ?_ | refine an ?_ ?_ | (refine iw ?_; intro rx hrx) | exact lf | intro _)
      refine TSq.pureC d10 cl rfl (And.intro rfl rfl) ?_
      (repeat' first | (intro ex hex; obtain ⟨mx, hmx, rfl⟩ := hgx1 hex; clear hex) | (intro rx hrx; have hq := hres1 hrx (by omega); clear hrx) | (intro rx hrx; have hq := hsub1 hrx (by omega); subst hq; clear hrx) | (refine eg ?_; conv => whnf) | refine gx hg1 ?_ | refine gx hg2 ?_ | refine gx hg3 ?_ | refine gx hg4 ?_ | refine an ?_ ?_ | (refine iw ?_; intro rx hrx) | exact lf | intro _)
      try rfl
end Go.Proofs.YtjadiajfbflghaaGreat
