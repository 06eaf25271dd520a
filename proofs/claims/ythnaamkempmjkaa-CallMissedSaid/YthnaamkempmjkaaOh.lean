/- A society without some members; whether something is short without them. -/
import Derived.Test.YthnaamkempmjkaaOg
import Derived.Test.YthnaamkempmjkaaKfZ
set_option linter.unusedSimpArgs false
set_option linter.unusedVariables false
open Go Go.TV
namespace Go.Proofs.Ythnaamkempmjkaa

/-- Those who are left, of the first ones. -/
def keepM (ms : List Mem) (o : Nat) : Nat → List Mem
  | 0 => []
  | k + 1 => keepM ms o k ++ (match ms[k]? with
    | some m => if bitN o k = true then [] else [m]
    | none => [])
def lessS (s : Soc) (o : Nat) : Soc := ⟨keepM s.members o s.members.length, s.losses, s.treaty, s.reserve⟩
theorem keepM_len (ms : List Mem) (o : Nat) : ∀ k, (keepM ms o k).length ≤ k
  | 0 => by simp [keepM]
  | k + 1 => by
    have ih := keepM_len ms o k
    simp only [keepM, List.length_append]
    cases ms[k]? with
    | none => simp; omega
    | some m => dsimp only; split <;> simp <;> omega
theorem keepM_mem {ms : List Mem} {o : Nat} {m : Mem} : ∀ {k}, m ∈ keepM ms o k → m ∈ ms
  | 0, h => by simp [keepM] at h
  | k + 1, h => by
    simp only [keepM, List.mem_append] at h
    rcases h with h | h
    · exact keepM_mem h
    · cases hk : ms[k]? with
      | none => rw [hk] at h; simp at h
      | some x =>
        rw [hk] at h; dsimp only at h
        split at h
        · simp at h
        · have : m = x := by simpa using h
          subst this; exact List.mem_of_getElem? hk
theorem sumF_mst (ms : List Mem) : sumF (mst ms) ms.length = sumL (ms.map (·.most)) := by
  have h : ∀ k, k ≤ ms.length → sumF (mst ms) k = sumL ((ms.map (·.most)).take k) := by
    intro k
    induction k with
    | zero => intro _; simp [sumF, sumL]
    | succ k ih =>
      intro hk
      have hm : ms[k]? = some ms[k] := List.getElem?_eq_getElem hk
      have hx : (ms.map (·.most))[k]? = some ms[k].most := by rw [List.getElem?_map, hm]; rfl
      rw [sumL_take hx, ← ih (by omega)]
      simp only [sumF, mst_at hm]
  have := h ms.length (Nat.le_refl _)
  rw [List.take_of_length_le (by simp)] at this
  exact this
theorem keepM_most (ms : List Mem) (o : Nat) : ∀ k, k ≤ ms.length → sumL ((keepM ms o k).map (·.most)) = sumF (fun i => if bitN o i = true then 0 else mst ms i) k
  | 0, _ => by simp [keepM, sumL, sumF]
  | k + 1, hk => by
    have ih := keepM_most ms o k (by omega)
    have hm : ms[k]? = some ms[k] := List.getElem?_eq_getElem hk
    simp only [keepM, hm, sumF]
    rw [mst_at hm]
    split
    · simp only [List.append_nil]; rw [ih]; simp
    · rw [List.map_append, List.map_cons, List.map_nil, sumL_append, ih]
theorem most_less {s : Soc} {o : Nat} : mostOf (lessS s o) [] = mostOf s (bitsN o s.members.length) := by
  have h1 : mostOf (lessS s o) [] = sumF (mst (lessS s o).members) (lessS s o).members.length := sumF_congr fun i hi => by simp [askF, hi]
  rw [h1, sumF_mst]
  show sumL ((keepM s.members o s.members.length).map (·.most)) = _
  rw [keepM_most _ _ _ (Nat.le_refl _)]
  refine sumF_congr fun i hi => ?_
  simp only [askF, hi, decide_true, Bool.true_and, bitsN_contains hi]
  cases bitN o i <;> simp
theorem bndF_congr {g g' : Int → Int} : ∀ {l : List Int}, (∀ n ∈ l, g n = g' n) → bndF g l = bndF g' l
  | [], _ => rfl
  | a :: L, hL => by
    simp only [bndF]
    rw [hL a (by simp)]
    have : ∀ (L : List Int) (R : Rng), (∀ n ∈ L, g n = g' n) → L.foldl (fun r n => uB r (g n)) R = L.foldl (fun r n => uB r (g' n)) R := by
      intro L
      induction L with
      | nil => intro R _; rfl
      | cons b L ih => intro R h; simp only [List.foldl_cons]; rw [h b (by simp), ih _ fun n hn => h n (by simp [hn])]
    exact this L _ fun n hn => hL n (by simp [hn])
theorem less_fault {s : Soc} {o : Nat} (h : fault s = 0) (h1 : keepM s.members o s.members.length ≠ []) : fault (lessS s o) = 0 := by
  have hv := fault_valid h
  have hl := fault_len h
  have hk := keepM_len s.members o s.members.length
  refine fault_0 (by simp only [lessS]; omega) ?_
  simp only [Soc.valid, Bool.and_eq_true, decide_eq_true_eq, List.all_eq_true] at hv ⊢
  refine ⟨fun e => h1 (List.eq_nil_of_length_eq_zero e), fun m hm => hv.2.1 m (keepM_mem hm), hv.2.2⟩
theorem less_short {s : Soc} {o : Nat} (h : fault s = 0) (h1 : keepM s.members o s.members.length ≠ []) : shortOf (lessS s o) [] = shortOf s (bitsN o s.members.length) := by
  have hn := needs_le h
  refine bndF_congr fun n hn' => ?_
  have := every_mem.1 hn'
  have e : (needsOf (lessS s o)).lo = (needsOf s).lo := rfl
  rw [calls_short (less_fault h h1) [] (by omega), calls_short h _ (by omega), most_less]
theorem none_short {s : Soc} {o : Nat} (h : fault s = 0) (h1 : keepM s.members o s.members.length = []) : (shortOf s (bitsN o s.members.length)).hi = (needsOf s).hi := by
  have hn := needs_le h
  have hm : mostOf s (bitsN o s.members.length) = 0 := by
    rw [← most_less]
    have : (lessS s o).members = [] := h1
    simp [mostOf, mostF, this, sumF]
  obtain ⟨_, ⟨a, ha, ea⟩, h3⟩ := bndF_is (fun n => (callsOf s (bitsN o s.members.length) n).2) (every (needsOf s)) (every_ne hn.1.2)
  change _ = (shortOf s (bitsN o s.members.length)).hi at ea
  have h4 := h3 (needsOf s).hi (every_mem.2 ⟨hn.1.2, Int.le_refl _⟩)
  change _ ∧ _ ≤ (shortOf s (bitsN o s.members.length)).hi at h4
  have := every_mem.1 ha
  rw [calls_short h _ (by omega), hm] at ea
  rw [calls_short h _ (by omega), hm] at h4
  omega
def encN (s : Soc) : SV := .agg [match s.members with | [] => .nils | m :: ms => .sl 3 (encYs (m :: ms)), .sl 2 (encRs s.losses), .int .i64 s.treaty.lo, .int .i64 s.treaty.hi, .int .i64 s.reserve]

set_option maxHeartbeats 4000000 in
set_option maxRecDepth 100000 in
theorem c72 (s : Soc) (o : Nat) (hl : s.members.length ≤ 5) (ho : o < 1000) : PF Try.prog 72 [encSoc s, .int .i64 (o : Int)] (· = .tup [encN (lessS s o), .bool (decide (keepM s.members o s.members.length ≠ []))]) := by
  have hz := encYs_len s.members
  refine PF.of (TF.ev fn_72 (Ev.at ?_))
  (repeat' (first | (intro rx hrx; have hq := hsub1 hrx (by omega); subst hq; clear hrx) | (intro rx hrx; have hq := hsub2 hrx (by omega); subst hq; clear hrx) | (intro rx hrx; have hq := hsub3 hrx (by omega); subst hq; clear hrx) | (intro ex hex; have hq := hg1 (by omega) hex; subst hq; clear hex) | (refine Ev.go ?_; conv => whnf) | refine And.intro ?_ ?_ | exact True.intro | exact rfl | (intro rx hrx; rw [IntWalk.i64_in _ (by omega)] at hrx) | (intro hcx; exfalso; omega) | intro _))
  all_goals (first | (refine ⟨?_⟩; exact vc) | exact cl | skip)
  refine TWq.loopP (fun p : Nat × List Mem => [(7, .int .i64 p.1)])
    (fun p => [(2, .cells [match p.2 with | [] => .nils | _ :: _ => .own 3, .sl 2 (encRs s.losses), .int .i64 s.treaty.lo, .int .i64 s.treaty.hi, .int .i64 s.reserve]), (3, match p.2 with | [] => .dead | _ :: _ => .arr 62 3 (encYs p.2))])
    (fun p => p.1 ≤ s.members.length ∧ p.2 = keepM s.members o p.1) (fun p => s.members.length - p.1) (0, []) [] ?_ ⟨by omega, rfl⟩ ?_
  · (repeat' (first | (intro rx hrx; have hq := hsub1 hrx (by omega); subst hq; clear hrx) | (intro rx hrx; have hq := hsub2 hrx (by omega); subst hq; clear hrx) | (intro rx hrx; have hq := hsub3 hrx (by omega); subst hq; clear hrx) | (intro ex hex; have hq := hg1 (by omega) hex; subst hq; clear hex) | (refine Ev.go ?_; conv => whnf) | refine And.intro ?_ ?_ | exact True.intro | exact rfl | (intro rx hrx; rw [IntWalk.i64_in _ (by omega)] at hrx) | (intro hcx; exfalso; omega) | intro _))
    all_goals (first | (refine ⟨?_⟩; exact vc) | exact cl | skip)
  · rintro ⟨k, y⟩ ⟨hk, hy⟩
    dsimp only at hk hy ⊢
    have hyl : y.length ≤ k := by rw [hy]; exact keepM_len _ _ _
    rcases Nat.lt_or_ge k s.members.length with hkl | hkl
    · obtain ⟨m, hm⟩ : ∃ m, s.members[k]? = some m := ⟨_, List.getElem?_eq_getElem hkl⟩
      have hg1 : ∀ {n : Nat} {e : SV}, n = k → (encYs s.members)[n]? = some e → e = encY m := by
        rintro n e rfl he
        obtain ⟨x, hx, rfl⟩ := encYs_at he
        rw [hm] at hx; cases hx; rfl
      have hsub1 : ∀ {x n : Int}, x = IntKind.u64.wrap n → 0 ≤ n ∧ n ≤ 60 → x = n := fun h e => by rw [h, IntWalk.u64_in _ (by omega)]
      have hsub2 : ∀ {x m : Int}, x = (o : Int).fdiv (2 ^ min m.toNat IntKind.i64.bits) → m = k ∧ k ≤ 60 → x = ((o >>> k : Nat) : Int) := fun h e => shr_n h e
      have hsub3 : ∀ {x : Int}, x = ((o >>> k : Nat) : Int).tmod 2 → (0 : Int) ≤ 0 → x = if bitN o k = true then 1 else 0 := fun h _ => bit_n h
      have hst : keepM s.members o (k + 1) = y ++ (if bitN o k = true then [] else [m]) := by rw [keepM, ← hy, hm]
      cases hb : bitN o k
      · rw [hb] at hsub3 hst
        simp only [Bool.false_eq_true, if_false] at hsub3 hst
        rcases y with _ | ⟨a, l⟩
        · (repeat' (first | (intro rx hrx; have hq := hsub1 hrx (by omega); subst hq; clear hrx) | (intro rx hrx; have hq := hsub2 hrx (by omega); subst hq; clear hrx) | (intro rx hrx; have hq := hsub3 hrx (by omega); subst hq; clear hrx) | (intro ex hex; have hq := hg1 (by omega) hex; subst hq; clear hex) | (refine Ev.go ?_; conv => whnf) | refine And.intro ?_ ?_ | exact True.intro | exact rfl | (intro rx hrx; rw [IntWalk.i64_in _ (by omega)] at hrx) | (intro hcx; exfalso; omega) | intro _))
          all_goals (first | (refine ⟨?_⟩; exact vk) | exact cl | skip)
          refine ⟨⟨[(3, 5)], (k + 1, [m]), ⟨by dsimp only; omega, hst.symm⟩, by dsimp only; omega, ?_⟩⟩
          (repeat' (first | (intro rx hrx; have hq := hsub1 hrx (by omega); subst hq; clear hrx) | (intro rx hrx; have hq := hsub2 hrx (by omega); subst hq; clear hrx) | (intro rx hrx; have hq := hsub3 hrx (by omega); subst hq; clear hrx) | (intro ex hex; have hq := hg1 (by omega) hex; subst hq; clear hex) | (refine Ev.go ?_; conv => whnf) | refine And.intro ?_ ?_ | exact True.intro | exact rfl | (intro rx hrx; rw [IntWalk.i64_in _ (by omega)] at hrx) | (intro hcx; exfalso; omega) | intro _))
          all_goals (first | (refine ⟨?_⟩; exact vc) | exact cl | skip)
          all_goals (try (refine ⟨?_⟩; simp [encYs, encY, catS, repl, chunks]))
        · have hln : (encYs (a :: l)).length = l.length + 1 := by rw [encYs_len]; simp
          simp only [List.length_cons] at hyl
          (repeat' (first | (intro rx hrx; have hq := hsub1 hrx (by omega); subst hq; clear hrx) | (intro rx hrx; have hq := hsub2 hrx (by omega); subst hq; clear hrx) | (intro rx hrx; have hq := hsub3 hrx (by omega); subst hq; clear hrx) | (intro ex hex; have hq := hg1 (by omega) hex; subst hq; clear hex) | (refine Ev.go ?_; conv => whnf) | refine And.intro ?_ ?_ | exact True.intro | exact rfl | (intro rx hrx; rw [IntWalk.i64_in _ (by omega)] at hrx) | (intro hcx; exfalso; omega) | intro _))
          all_goals (first | (refine ⟨?_⟩; exact vk) | exact cl | skip)
          all_goals (try (refine ⟨?_⟩; simp only [hln]; simp [catS, repl, chunks]; omega))
          refine ⟨⟨[(3, 5)], (k + 1, (a :: l) ++ [m]), ⟨by dsimp only; omega, hst.symm⟩, by dsimp only; omega, ?_⟩⟩
          (repeat' (first | (intro rx hrx; have hq := hsub1 hrx (by omega); subst hq; clear hrx) | (intro rx hrx; have hq := hsub2 hrx (by omega); subst hq; clear hrx) | (intro rx hrx; have hq := hsub3 hrx (by omega); subst hq; clear hrx) | (intro ex hex; have hq := hg1 (by omega) hex; subst hq; clear hex) | (refine Ev.go ?_; conv => whnf) | refine And.intro ?_ ?_ | exact True.intro | exact rfl | (intro rx hrx; rw [IntWalk.i64_in _ (by omega)] at hrx) | (intro hcx; exfalso; omega) | intro _))
          all_goals (first | (refine ⟨?_⟩; exact vc) | exact cl | skip)
          all_goals (try (refine ⟨?_⟩; simp [encYs, encY, catS, repl, chunks]))
      · rw [hb] at hsub3 hst
        simp only [if_true, List.append_nil] at hsub3 hst
        rcases y with _ | ⟨a, l⟩
        · (repeat' (first | (intro rx hrx; have hq := hsub1 hrx (by omega); subst hq; clear hrx) | (intro rx hrx; have hq := hsub2 hrx (by omega); subst hq; clear hrx) | (intro rx hrx; have hq := hsub3 hrx (by omega); subst hq; clear hrx) | (intro ex hex; have hq := hg1 (by omega) hex; subst hq; clear hex) | (refine Ev.go ?_; conv => whnf) | refine And.intro ?_ ?_ | exact True.intro | exact rfl | (intro rx hrx; rw [IntWalk.i64_in _ (by omega)] at hrx) | (intro hcx; exfalso; omega) | intro _))
          all_goals (first | (refine ⟨?_⟩; exact vc) | exact cl | skip)
          refine ⟨⟨[], (k + 1, []), ⟨by dsimp only; omega, hst.symm⟩, by dsimp only; omega, ?_⟩⟩
          (repeat' (first | (intro rx hrx; have hq := hsub1 hrx (by omega); subst hq; clear hrx) | (intro rx hrx; have hq := hsub2 hrx (by omega); subst hq; clear hrx) | (intro rx hrx; have hq := hsub3 hrx (by omega); subst hq; clear hrx) | (intro ex hex; have hq := hg1 (by omega) hex; subst hq; clear hex) | (refine Ev.go ?_; conv => whnf) | refine And.intro ?_ ?_ | exact True.intro | exact rfl | (intro rx hrx; rw [IntWalk.i64_in _ (by omega)] at hrx) | (intro hcx; exfalso; omega) | intro _))
          all_goals (first | (refine ⟨?_⟩; exact vc) | exact cl | skip)
        · (repeat' (first | (intro rx hrx; have hq := hsub1 hrx (by omega); subst hq; clear hrx) | (intro rx hrx; have hq := hsub2 hrx (by omega); subst hq; clear hrx) | (intro rx hrx; have hq := hsub3 hrx (by omega); subst hq; clear hrx) | (intro ex hex; have hq := hg1 (by omega) hex; subst hq; clear hex) | (refine Ev.go ?_; conv => whnf) | refine And.intro ?_ ?_ | exact True.intro | exact rfl | (intro rx hrx; rw [IntWalk.i64_in _ (by omega)] at hrx) | (intro hcx; exfalso; omega) | intro _))
          all_goals (first | (refine ⟨?_⟩; exact vc) | exact cl | skip)
          refine ⟨⟨[], (k + 1, a :: l), ⟨by dsimp only; omega, hst.symm⟩, by dsimp only; omega, ?_⟩⟩
          (repeat' (first | (intro rx hrx; have hq := hsub1 hrx (by omega); subst hq; clear hrx) | (intro rx hrx; have hq := hsub2 hrx (by omega); subst hq; clear hrx) | (intro rx hrx; have hq := hsub3 hrx (by omega); subst hq; clear hrx) | (intro ex hex; have hq := hg1 (by omega) hex; subst hq; clear hex) | (refine Ev.go ?_; conv => whnf) | refine And.intro ?_ ?_ | exact True.intro | exact rfl | (intro rx hrx; rw [IntWalk.i64_in _ (by omega)] at hrx) | (intro hcx; exfalso; omega) | intro _))
          all_goals (first | (refine ⟨?_⟩; exact vc) | exact cl | skip)
    · have hke : k = s.members.length := by omega
      subst hke
      rw [← hy, show lessS s o = ⟨y, s.losses, s.treaty, s.reserve⟩ by rw [hy]; rfl]
      rcases y with _ | ⟨a, l⟩
      · (repeat' (first | (intro rx hrx; have hq := hsub1 hrx (by omega); subst hq; clear hrx) | (intro rx hrx; have hq := hsub2 hrx (by omega); subst hq; clear hrx) | (intro rx hrx; have hq := hsub3 hrx (by omega); subst hq; clear hrx) | (intro ex hex; have hq := hg1 (by omega) hex; subst hq; clear hex) | (refine Ev.go ?_; conv => whnf) | refine And.intro ?_ ?_ | exact True.intro | exact rfl | (intro rx hrx; rw [IntWalk.i64_in _ (by omega)] at hrx) | (intro hcx; exfalso; omega) | intro _))
        all_goals (first | (refine ⟨?_⟩; exact vk) | exact cl | skip)
        all_goals (try rfl)
      · have hln : (encYs (a :: l)).length = l.length + 1 := by rw [encYs_len]; simp
        (repeat' (first | (intro rx hrx; have hq := hsub1 hrx (by omega); subst hq; clear hrx) | (intro rx hrx; have hq := hsub2 hrx (by omega); subst hq; clear hrx) | (intro rx hrx; have hq := hsub3 hrx (by omega); subst hq; clear hrx) | (intro ex hex; have hq := hg1 (by omega) hex; subst hq; clear hex) | (refine Ev.go ?_; conv => whnf) | refine And.intro ?_ ?_ | exact True.intro | exact rfl | (intro rx hrx; rw [IntWalk.i64_in _ (by omega)] at hrx) | (intro hcx; exfalso; omega) | intro _))
        all_goals (first | (refine ⟨?_⟩; exact vk) | exact cl | skip)
        all_goals (try (exfalso; omega))
        all_goals (try rfl)
set_option maxHeartbeats 4000000 in
set_option maxRecDepth 100000 in
theorem c47 (s : Soc) (o : Nat) (hf : fault s = 0) (ho : o < 1000) : PF Try.prog 47 [encSoc s, .int .i64 (o : Int)] (· = .tup [.bool (goodM s (bitsN o s.members.length)), .bool true]) := by
  have hl := fault_len hf
  have d72 := c72 s o hl.1 ho
  cases hk : keepM s.members o s.members.length with
  | nil =>
    have d34 := c34 s hf
    rw [show goodM s (bitsN o s.members.length) = decide (0 < (needsOf s).hi) by unfold goodM; rw [none_short hf hk]]
    rw [hk, show encN (lessS s o) = .agg [.nils, .sl 2 (encRs s.losses), .int .i64 s.treaty.lo, .int .i64 s.treaty.hi, .int .i64 s.reserve] by simp only [encN, lessS, hk]] at d72
    generalize needsOf s = N at *
    refine PF.of (TF.ev fn_47 (Ev.at ?_))
    (repeat' (first | (refine Ev.go ?_; conv => whnf) | refine And.intro ?_ ?_ | exact True.intro | exact rfl | (intro rx hrx; rw [IntWalk.i64_in _ (by omega)] at hrx) | (intro hcx; exfalso; omega) | intro _))
    all_goals (first | (refine ⟨?_⟩; exact vc) | exact cl | skip)
    refine TSq.pureC d72 cl rfl (And.intro rfl rfl) ?_
    (repeat' (first | (refine Ev.go ?_; conv => whnf) | refine And.intro ?_ ?_ | exact True.intro | exact rfl | (intro rx hrx; rw [IntWalk.i64_in _ (by omega)] at hrx) | (intro hcx; exfalso; omega) | intro _))
    refine TSq.pureC d34 cl rfl (And.intro rfl rfl) ?_
    (repeat' (first | (refine Ev.go ?_; conv => whnf) | refine And.intro ?_ ?_ | exact True.intro | exact rfl | (intro rx hrx; rw [IntWalk.i64_in _ (by omega)] at hrx) | (intro hcx; exfalso; omega) | intro _))
    all_goals (try (show SV.tup _ = SV.tup _; simp only [SV.tup.injEq, List.cons.injEq, SV.bool_iff]; simp; try omega))
  | cons a l =>
    have hne : keepM s.members o s.members.length ≠ [] := by rw [hk]; simp
    have hX0 := less_fault hf hne
    have hXl := fault_len hX0
    have b1 := c21 (lessS s o) (by omega) (by omega)
    have d42 := c42 (lessS s o) (by omega) (by omega)
    simp only [shortR, if_neg (show ¬ fault (lessS s o) ≠ 0 by simpa using hX0)] at d42
    rw [show goodM s (bitsN o s.members.length) = decide (0 < (shortOf (lessS s o) []).hi) by unfold goodM; rw [less_short hf hne]]
    rw [hk, show encN (lessS s o) = encSoc (lessS s o) by simp only [encN, encSoc, lessS, hk]] at d72
    generalize shortOf (lessS s o) [] = C at *
    generalize lessS s o = X at *
    refine PF.of (TF.ev fn_47 (Ev.at ?_))
    (repeat' (first | (refine Ev.go ?_; conv => whnf) | refine And.intro ?_ ?_ | exact True.intro | exact rfl | (intro rx hrx; rw [IntWalk.i64_in _ (by omega)] at hrx) | (intro hcx; exfalso; omega) | intro _))
    all_goals (first | (refine ⟨?_⟩; exact vc) | exact cl | skip)
    refine TSq.pureC d72 cl rfl (And.intro rfl rfl) ?_
    (repeat' (first | (refine Ev.go ?_; conv => whnf) | refine And.intro ?_ ?_ | exact True.intro | exact rfl | (intro rx hrx; rw [IntWalk.i64_in _ (by omega)] at hrx) | (intro hcx; exfalso; omega) | intro _))
    refine TSq.pureC b1 cl rfl (And.intro rfl rfl) ?_
    (repeat' (first | (refine Ev.go ?_; conv => whnf) | refine And.intro ?_ ?_ | exact True.intro | exact rfl | (intro rx hrx; rw [IntWalk.i64_in _ (by omega)] at hrx) | (intro hcx; exfalso; omega) | intro _))
    refine TSq.pureC d42 cl rfl (And.intro rfl rfl) ?_
    (repeat' (first | (refine Ev.go ?_; conv => whnf) | refine And.intro ?_ ?_ | exact True.intro | exact rfl | (intro rx hrx; rw [IntWalk.i64_in _ (by omega)] at hrx) | (intro hcx; exfalso; omega) | intro _))
    all_goals (try (show SV.tup _ = SV.tup _; simp only [SV.tup.injEq, List.cons.injEq, SV.bool_iff]; simp; try omega))
end Go.Proofs.Ythnaamkempmjkaa
