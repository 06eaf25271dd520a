/- The calls for a need: the walk. The calls for a need, from outside; needs; what a rate brings. Lists of members. The bounds of all numbers that are asked, in all truths. Bounds, Without and Short. Sums of calls; what the calls for a need are told of in the statements. TopInsured, the plain law: owners with what is covered of theirs as members of a society. Parcels: a truth's days are listed, each within its range. Parcels: a truth played, and what is held of it at a day's end. TopInsured: what is known of an owner's covered value; the fewest facts that the walk of the statement needs. Books, for the program. An own slice published, also where it lies in records that are elements of another own slice; all aggregates of the state written out. Cases: the outcomes of all fields. -/
import Derived.Test.YtjadiajfbflghaaGreatB11
import Derived.Test.YtjadiajfbflghaaGreatB5
import Derived.Test.YtjadiajfbflghaaGreatB8
import Derived.Test.YtjadiajfbflghaaGreatB10
import Derived.Test.YtjadiajfbflghaaGreatB4
import Derived.Test.YtjadiajfbflghaaGreatB9
set_option maxHeartbeats 32000000
set_option maxRecDepth 100000
set_option linter.unusedSimpArgs false
set_option linter.unusedVariables false
open Go Go.TV
namespace Go.Proofs.YtjadiajfbflghaaGreat
theorem sh5 (a b c d e : Bool) : shOK (.arr 5 1 false .bool) (.agg [.bool a, .bool b, .bool c, .bool d, .bool e]) := by simp [shOK, andN, partK, getK, lenIs]
theorem cntB_le (f : Nat → Bool) : cntB f ≤ 5 := by
 have h0 := Bool.toNat_le (f 0); have h1 := Bool.toNat_le (f 1); have h2 := Bool.toNat_le (f 2); have h3 := Bool.toNat_le (f 3); have h4 := Bool.toNat_le (f 4)
 unfold cntB; omega
theorem outU_0 {ms : List Mem} {f : Nat → Bool} {need : Int} {o : Nat → Int} (i : Nat) : o i = outU ms f need o 0 i := by simp [outU]
theorem outU_other {ms : List Mem} {f : Nat → Bool} {need : Int} {o : Nat → Int} {k i : Nat} (h : i ≠ k) : outU ms f need o k i = outU ms f need o (k + 1) i := by
 unfold outU
 have : i < k ↔ i < k + 1 := by omega
 simp only [this]
theorem outU_at {ms : List Mem} {f : Nat → Bool} {need : Int} {o : Nat → Int} {k : Nat} (h : capF ms f need k = true) : mst ms k = outU ms f need o (k + 1) k := by
 unfold outU
 rw [if_pos ⟨by omega, h⟩]
theorem outU_not {ms : List Mem} {f : Nat → Bool} {need : Int} {o : Nat → Int} {k : Nat} (h : capF ms f need k = false) (i : Nat) : outU ms f need o k i = outU ms f need o (k + 1) i := by
 by_cases e : i = k
 ·subst e; unfold outU; simp [h]
 ·exact outU_other e
theorem finU_0 {ms : List Mem} {f : Nat → Bool} {need : Int} {o : Nat → Int} (i : Nat) : o i = finU ms f need o 0 i := by simp [finU]
theorem finU_other {ms : List Mem} {f : Nat → Bool} {need : Int} {o : Nat → Int} {k i : Nat} (h : i ≠ k) : finU ms f need o k i = finU ms f need o (k + 1) i := by
 unfold finU
 have : i < k ↔ i < k + 1 := by omega
 simp only [this]
theorem finU_at {ms : List Mem} {f : Nat → Bool} {need : Int} {o : Nat → Int} {k : Nat} (h : f k = true) : shareF ms f need k = finU ms f need o (k + 1) k := by
 unfold finU
 rw [if_pos ⟨by omega, h⟩]
theorem finU_not {ms : List Mem} {f : Nat → Bool} {need : Int} {o : Nat → Int} {k : Nat} (h : f k = false) (i : Nat) : finU ms f need o k i = finU ms f need o (k + 1) i := by
 by_cases e : i = k
 ·subst e; unfold finU; simp [h]
 ·exact finU_other e
theorem fi5_at {g : Nat → Int} {k : Nat} (h : k < 5) : [SV.int .i64 (g 0), SV.int .i64 (g 1), SV.int .i64 (g 2), SV.int .i64 (g 3), SV.int .i64 (g 4)][0 + (k : Int).toNat * 1]? = some (.int .i64 (g k)) := by
 have : k = 0 ∨ k = 1 ∨ k = 2 ∨ k = 3 ∨ k = 4 := by omega
 rcases this with rfl | rfl | rfl | rfl | rfl <;> rfl
theorem fl5_at {g : Nat → Bool} {k : Nat} (h : k < 5) : [SV.bool (g 0), SV.bool (g 1), SV.bool (g 2), SV.bool (g 3), SV.bool (g 4)][0 + (k : Int).toNat * 1]? = some (.bool (g k)) := by
 have : k = 0 ∨ k = 1 ∨ k = 2 ∨ k = 3 ∨ k = 4 := by omega
 rcases this with rfl | rfl | rfl | rfl | rfl <;> rfl
structure CallI (ms : List Mem) (f0 : Nat → Bool) (need0 : Int) (t : Nat) (f : Nat → Bool) (need : Int) (o : Nat → Int) : Prop where
 eq : callsF ms 6 f0 need0 (fun _ => 0) = callsF ms t f need o
 cnt : cntB f < t
 lt : ∀ i, f i = true → i < ms.length
 nn : 0 ≤ need ∧ need ≤ 300000
theorem t70 (s : Soc) (f0 : Nat → Bool) (need0 : Int) (hm : ∀ m ∈ s.members, OkM m) (hl : s.members.length ≤ 5) (hf0 : ∀ i, f0 i = true → i < s.members.length) (hn : 0 ≤ need0 ∧ need0 ≤ 300000) :
  TF Tryz.prog 70 [.ptr 2 0, .int .i64 need0] [.cells (socC s), .cells (socC s), .cells (encW s f0 .nilm)] (fun r h' => h' = [.cells (socC s), .cells (socC s), .dead, .arr 3 1 (ints (tab s.members.length (callsF s.members 6 f0 need0 fun _ => 0).1))] ∧
   r = .tup [.own 3, .int .i64 (callsF s.members 6 f0 need0 fun _ => 0).2]) := by
 have hz := encYs_len s.members
 refine TF.cutTo (TF.ev fn_70 (Ev.at ?_))
 (repeat' first | refine gx hg1 ?_ | refine gx hg2 ?_ | (refine eg ?_; conv => whnf) | refine an ?_ ?_ | (refine iw ?_; intro rx hrx) | exact lf | intro _)
 all_goals try exact vy
 refine TWq.loop (fun p : Nat × (Nat → Bool) × Int × (Nat → Int) => [(1, .int .i64 p.2.2.1), (6, .junk), (7, .junk), (8, .junk), (9, .junk), (10, .junk)])
  (fun p => [(2, .cells (encW s p.2.1 .junk)), (3, .arr 3 1 (ints (tab s.members.length p.2.2.2)))]) (fun p => CallI s.members f0 need0 p.1 p.2.1 p.2.2.1 p.2.2.2) (fun p => p.1) (6, f0, need0, fun _ => 0) [] [] ?_ ⟨rfl, ?_, hf0, hn⟩ ?_
 ·(repeat' first | refine gx hg1 ?_ | refine gx hg2 ?_ | (refine eg ?_; conv => whnf) | refine an ?_ ?_ | (refine iw ?_; intro rx hrx) | exact lf | intro _)
  all_goals try exact vy
  all_goals (refine ⟨?_⟩; rw [hz]; simp [tab, ints, List.map_const'])
 ·have := cntB_le f0
  dsimp only; omega
 ·rintro ⟨t, f, need, o⟩ hI
  dsimp only at hI ⊢
  cases ha : any5 f
  ·obtain ⟨a0, a1, a2, a3, a4⟩ := any5_iff.1 ha
   obtain ⟨t, rfl⟩ : ∃ t', t = t' + 1 := ⟨t - 1, by have := hI.cnt; omega⟩
   have he := hI.eq.trans (show callsF s.members (t + 1) f need o = (o, need) by simp only [callsF, if_pos ha])
   (repeat' first | refine gx hg1 ?_ | refine gx hg2 ?_ | (refine eg ?_; conv => whnf) | refine an ?_ ?_ | (refine iw ?_; intro rx hrx) | exact lf | intro _)
   all_goals try exact vy
   all_goals (try exact ⟨sh5 _ _ _ _ _⟩)
   ·exact ⟨by rw [he]⟩
   ·change SV.tup [.own 3, .int .i64 need] = _
    rw [he]
   ·rename_i hq
    exact absurd (by rw [a0, a1, a2, a3, a4]) hq
  ·(repeat' first | refine gx hg1 ?_ | refine gx hg2 ?_ | (refine eg ?_; conv => whnf) | refine an ?_ ?_ | (refine iw ?_; intro rx hrx) | exact lf | intro _)
   all_goals try exact vy
   all_goals (try exact ⟨sh5 _ _ _ _ _⟩)
   all_goals (try (rename_i hq; exfalso; simp only [SV.agg.injEq, List.cons.injEq, SV.bool.injEq, and_true] at hq; rw [any5_iff.2 hq] at ha; cases ha; done))
   ·rename_i hq
    obtain ⟨t, rfl⟩ : ∃ t', t = t' + 1 := ⟨t - 1, by have := hI.cnt; omega⟩
    have d89 := t134 s f need (tab s.members.length o) hm hl hI.nn
    refine TSq.callT rfl rfl (calleeK_const (And.intro rfl rfl) (d89.mono ?_))
    rintro _ _ ⟨rfl, rfl⟩
    (repeat' first | refine gx hg1 ?_ | refine gx hg2 ?_ | (refine eg ?_; conv => whnf) | refine an ?_ ?_ | (refine iw ?_; intro rx hrx) | exact lf | intro _)
    all_goals try exact vy
    have hUpos : 0 < unitsF s.members f s.members.length := by
     obtain ⟨i, hi⟩ : ∃ i, f i = true := by
      simp only [any5, Bool.or_eq_true] at ha
      rcases ha with h | h | h | h | h <;> exact ⟨_, h⟩
     have := unitsF_pos hm (List.getElem?_eq_getElem (hI.lt i hi)) (hI.lt i hi) hi
     omega
    have hnb : ∀ k, k ≤ s.members.length → 0 ≤ needF s.members (capF s.members f need) need k ∧ needF s.members (capF s.members f need) need k ≤ 300000 := fun k hk => by
     have q1 := needF_ok (f := f) (need := need) hm hI.nn.1 k hk
     have q2 := leftF_nn (ms := s.members) (f := f) (need := need) hUpos
     have q3 := leftF_anti (f := f) (need := need) hm hI.nn.1 (Int.le_of_lt hUpos) k (s.members.length - k)
     rw [show k + (s.members.length - k) = s.members.length by omega] at q3
     have := hI.nn
     omega
    refine TWq.loop (fun k : Nat => [(1, .int .i64 (needF s.members (capF s.members f need) need k)), (37, .int .i64 k), (8, .junk), (9, .junk)])
     (fun k => [(2, .cells (encW s (capU s.members f need k) .junk)), (3, .arr 3 1 (ints (tab s.members.length (outU s.members f need o k))))]) (fun k => k ≤ s.members.length) (fun k => s.members.length - k) 0 [] [] ?_ (by omega) ?_
    ·(repeat' first | refine gx hg1 ?_ | refine gx hg2 ?_ | (refine eg ?_; conv => whnf) | refine an ?_ ?_ | (refine iw ?_; intro rx hrx) | exact lf | intro _)
     all_goals try exact vy
     all_goals (first | exact ⟨capU_0 _⟩ | exact ⟨congrArg ints (tab_congr fun i _ => outU_0 i)⟩)
    ·intro k hk
     have hnk := hnb k hk
     rcases Nat.lt_or_ge k s.members.length with hkl | hkl
     ·obtain ⟨m, hmk⟩ : ∃ m, s.members[k]? = some m := ⟨_, List.getElem?_eq_getElem hkl⟩
      have hnk1 := hnb (k + 1) hkl
      have hns : needF s.members (capF s.members f need) need (k + 1) = needF s.members (capF s.members f need) need k - (if capF s.members f need k = true then mst s.members k else 0) := rfl
      have hg1 : ∀ {n : Nat} {e : SV}, n = k → (encYs s.members)[n]? = some e → e = encY m := by
       rintro n e rfl he
       obtain ⟨x, hx, rfl⟩ := encYs_at he
       rw [hmk] at hx; cases hx; rfl
      have hmst := mst_at hmk
      have hLk : (ints (tab s.members.length (outU s.members f need o k))).length = s.members.length := by rw [ints_len, tab_len]
      have hg2 : ∀ {n : Nat} {e : SV}, n = k → (ints (tab s.members.length (outU s.members f need o k)))[n]? = some e → e = .int .i64 (outU s.members f need o k k) := by
       rintro n e rfl he
       obtain ⟨x, hx, rfl⟩ := ints_at he
       simp only [tab, List.getElem?_map, List.getElem?_range hkl, Option.map_some, Option.some.injEq] at hx
       rw [hx]
      cases hf : f k
      ·have hc := capF_no (ms := s.members) (need := need) hf
       rw [hc] at hns
       simp only [Bool.false_eq_true, if_false] at hns
       have hat := fl5_at (g := f) (k := k) (by omega)
       rw [hf] at hat
       (repeat' first | refine gx hg1 ?_ | refine gx hg2 ?_ | (refine eg ?_; conv => whnf) | refine an ?_ ?_ | (refine iw ?_; intro rx hrx) | exact lf | intro _)
       all_goals try exact vy
       refine getK_of hat ?_
       (repeat' first | refine gx hg1 ?_ | refine gx hg2 ?_ | (refine eg ?_; conv => whnf) | refine an ?_ ?_ | (refine iw ?_; intro rx hrx) | exact lf | intro _)
       all_goals try exact vz
       refine ⟨⟨k + 1, by omega, by omega, ?_⟩⟩
       (repeat' first | refine gx hg1 ?_ | refine gx hg2 ?_ | (refine eg ?_; conv => whnf) | refine an ?_ ?_ | (refine iw ?_; intro rx hrx) | exact lf | intro _)
       all_goals try exact vy
       all_goals (first | exact ⟨capU_not hc _⟩ | exact ⟨congrArg ints (tab_congr fun i _ => outU_not hc i)⟩ | (refine ⟨?_⟩; rw [hns]; omega))
      ·have hcd := capF_of (need := need) hkl hf
       obtain ⟨k1, hk1⟩ : ∃ k1, k1 = k + 1 := ⟨_, rfl⟩
       have tset := fun (v : Int) (h : v = outU s.members f need o (k + 1) k) => tab_set (n := s.members.length) (outU s.members f need o k) (o' := outU s.members f need o (k + 1)) h (fun i hi => outU_other hi)
       rcases Int.lt_or_le (mst s.members k) (shareF s.members f need k) with hlt | hge
       ·have hc : capF s.members f need k = true := by rw [hcd, decide_eq_true hlt]
        rw [hc] at hns
        simp only [if_true] at hns
        have hout := outU_at (o := o) hc
        have hcu := capU_at hc
        rw [hmst] at hlt hns hout
        have hcs : k = 0 ∨ k = 1 ∨ k = 2 ∨ k = 3 ∨ k = 4 := by omega
        rcases hcs with rfl | rfl | rfl | rfl | rfl
        all_goals
         (repeat' first | refine gx hg1 ?_ | refine gx hg2 ?_ | (refine eg ?_; conv => whnf) | refine an ?_ ?_ | (refine iw ?_; intro rx hrx) | exact lf | intro _)
         all_goals try exact vy
         rw [hf]
         conv => whnf
         (repeat' first | refine gx hg1 ?_ | refine gx hg2 ?_ | (refine eg ?_; conv => whnf) | refine an ?_ ?_ | (refine iw ?_; intro rx hrx) | exact lf | intro _)
         all_goals try exact vz
         refine ⟨⟨k1, by omega, by omega, ?_⟩⟩
         subst hk1
         (repeat' first | refine gx hg1 ?_ | refine gx hg2 ?_ | (refine eg ?_; conv => whnf) | refine an ?_ ?_ | (refine iw ?_; intro rx hrx) | exact lf | intro _)
         all_goals try exact vy
         all_goals (first | exact ⟨hcu⟩ | exact ⟨capU_other (by decide)⟩ | exact ⟨tset _ hout⟩ | (refine ⟨?_⟩; rw [hns]; omega))
       ·have hc : capF s.members f need k = false := by rw [hcd, decide_eq_false (by omega)]
        rw [hc] at hns
        simp only [Bool.false_eq_true, if_false] at hns
        have hat := fl5_at (g := f) (k := k) (by omega)
        have hat2 := fi5_at (g := shareF s.members f need) (k := k) (by omega)
        rw [hf] at hat
        rw [hmst] at hge
        (repeat' first | refine gx hg1 ?_ | refine gx hg2 ?_ | (refine eg ?_; conv => whnf) | refine an ?_ ?_ | (refine iw ?_; intro rx hrx) | exact lf | intro _)
        all_goals try exact vy
        refine getK_of hat ?_
        (repeat' first | refine gx hg1 ?_ | refine gx hg2 ?_ | (refine eg ?_; conv => whnf) | refine an ?_ ?_ | (refine iw ?_; intro rx hrx) | exact lf | intro _)
        all_goals try exact vy
        refine getK_of hat2 ?_
        (repeat' first | refine gx hg1 ?_ | refine gx hg2 ?_ | (refine eg ?_; conv => whnf) | refine an ?_ ?_ | (refine iw ?_; intro rx hrx) | exact lf | intro _)
        all_goals try exact vz
        refine ⟨⟨k + 1, by omega, by omega, ?_⟩⟩
        (repeat' first | refine gx hg1 ?_ | refine gx hg2 ?_ | (refine eg ?_; conv => whnf) | refine an ?_ ?_ | (refine iw ?_; intro rx hrx) | exact lf | intro _)
        all_goals try exact vy
        all_goals (first | exact ⟨capU_not hc _⟩ | exact ⟨congrArg ints (tab_congr fun i _ => outU_not hc i)⟩ | (refine ⟨?_⟩; rw [hns]; omega))
     ·have hke : k = s.members.length := by omega
      subst hke
      have hLn : (ints (tab s.members.length (outU s.members f need o s.members.length))).length = s.members.length := by rw [ints_len, tab_len]
      cases hcap : any5 (capF s.members f need)
      ·obtain ⟨c0, c1, c2, c3, c4⟩ := any5_iff.1 hcap
       have he := hI.eq.trans (show callsF s.members (t + 1) f need o = (fun i => if f i = true ∧ i < s.members.length then shareF s.members f need i else o i, 0) by
        show (if any5 f = false then _ else if any5 (capF s.members f need) = false then _ else _) = _
        rw [if_neg (by rw [ha]; simp), if_pos hcap])
       have hcn : ∀ i, i < s.members.length → capF s.members f need i = false := fun i hi => by
        have : i = 0 ∨ i = 1 ∨ i = 2 ∨ i = 3 ∨ i = 4 := by omega
        rcases this with rfl | rfl | rfl | rfl | rfl <;> assumption
       (repeat' first | refine gx hg1 ?_ | refine gx hg2 ?_ | (refine eg ?_; conv => whnf) | refine an ?_ ?_ | (refine iw ?_; intro rx hrx) | exact lf | intro _)
       all_goals try exact vz
       all_goals (try exact ⟨sh5 _ _ _ _ _⟩)
       all_goals (try (rename_i hq; exfalso; refine hq ?_; simp only [capU_n, c0, c1, c2, c3, c4, Bool.not_false, Bool.and_true]; done))
       refine TWq.loop (fun k : Nat => [(80, .int .i64 k), (10, .junk)]) (fun k => [(3, .arr 3 1 (ints (tab s.members.length (finU s.members f need (outU s.members f need o s.members.length) k))))]) (fun k => k ≤ s.members.length) (fun k => s.members.length - k) 0 [] [] ?_ (by omega) ?_
       ·(repeat' first | refine gx hg1 ?_ | refine gx hg2 ?_ | (refine eg ?_; conv => whnf) | refine an ?_ ?_ | (refine iw ?_; intro rx hrx) | exact lf | intro _)
        all_goals try exact vy
        all_goals (exact ⟨congrArg ints (tab_congr fun i _ => finU_0 i)⟩)
       ·intro k hk
        rcases Nat.lt_or_ge k s.members.length with hkl | hkl
        ·have hLk : (ints (tab s.members.length (finU s.members f need (outU s.members f need o s.members.length) k))).length = s.members.length := by rw [ints_len, tab_len]
         have hg1 : ∀ {n : Nat} {e : SV}, n = k → (ints (tab s.members.length (finU s.members f need (outU s.members f need o s.members.length) k)))[n]? = some e → e = .int .i64 (finU s.members f need (outU s.members f need o s.members.length) k k) := by
          rintro n e rfl he
          obtain ⟨x, hx, rfl⟩ := ints_at he
          simp only [tab, List.getElem?_map, List.getElem?_range hkl, Option.map_some, Option.some.injEq] at hx
          rw [hx]
         have hat := fl5_at (g := f) (k := k) (by omega)
         have hat2 := fi5_at (g := shareF s.members f need) (k := k) (by omega)
         cases hf : f k
         ·rw [hf] at hat
          (repeat' first | refine gx hg1 ?_ | refine gx hg2 ?_ | (refine eg ?_; conv => whnf) | refine an ?_ ?_ | (refine iw ?_; intro rx hrx) | exact lf | intro _)
          all_goals try exact vy
          refine getK_of hat ?_
          (repeat' first | refine gx hg1 ?_ | refine gx hg2 ?_ | (refine eg ?_; conv => whnf) | refine an ?_ ?_ | (refine iw ?_; intro rx hrx) | exact lf | intro _)
          all_goals try exact vy
          refine ⟨⟨k + 1, by omega, by omega, ?_⟩⟩
          (repeat' first | refine gx hg1 ?_ | refine gx hg2 ?_ | (refine eg ?_; conv => whnf) | refine an ?_ ?_ | (refine iw ?_; intro rx hrx) | exact lf | intro _)
          all_goals try exact vy
          all_goals (exact ⟨congrArg ints (tab_congr fun i _ => finU_not hf i)⟩)
         ·rw [hf] at hat
          (repeat' first | refine gx hg1 ?_ | refine gx hg2 ?_ | (refine eg ?_; conv => whnf) | refine an ?_ ?_ | (refine iw ?_; intro rx hrx) | exact lf | intro _)
          all_goals try exact vy
          refine getK_of hat ?_
          (repeat' first | refine gx hg1 ?_ | refine gx hg2 ?_ | (refine eg ?_; conv => whnf) | refine an ?_ ?_ | (refine iw ?_; intro rx hrx) | exact lf | intro _)
          all_goals try exact vy
          refine getK_of hat2 ?_
          (repeat' first | refine gx hg1 ?_ | refine gx hg2 ?_ | (refine eg ?_; conv => whnf) | refine an ?_ ?_ | (refine iw ?_; intro rx hrx) | exact lf | intro _)
          all_goals try exact vy
          refine ⟨⟨k + 1, by omega, by omega, ?_⟩⟩
          (repeat' first | refine gx hg1 ?_ | refine gx hg2 ?_ | (refine eg ?_; conv => whnf) | refine an ?_ ?_ | (refine iw ?_; intro rx hrx) | exact lf | intro _)
          all_goals try exact vy
          all_goals (exact ⟨tab_set _ (finU_at hf) (fun i hi => finU_other hi)⟩)
        ·have hke : k = s.members.length := by omega
         subst hke
         (repeat' first | refine gx hg1 ?_ | refine gx hg2 ?_ | (refine eg ?_; conv => whnf) | refine an ?_ ?_ | (refine iw ?_; intro rx hrx) | exact lf | intro _)
         all_goals try exact vy
         ·refine ⟨congrArg ints ?_⟩
          rw [he]
          refine tab_congr fun i hi => ?_
          simp only [finU, outU, hi, hcn i hi, true_and, and_true, Bool.false_eq_true, and_false, if_false]
         ·change SV.tup [.own 3, .int .i64 0] = _
          rw [he]
      ·(repeat' first | refine gx hg1 ?_ | refine gx hg2 ?_ | (refine eg ?_; conv => whnf) | refine an ?_ ?_ | (refine iw ?_; intro rx hrx) | exact lf | intro _)
       all_goals try exact vz
       all_goals (try exact ⟨sh5 _ _ _ _ _⟩)
       all_goals (try (rename_i hq; exfalso; simp only [SV.agg.injEq, List.cons.injEq, SV.bool.injEq, and_true, capU_n] at hq; simp only [any5, Bool.or_eq_true] at hcap; obtain ⟨q0, q1, q2, q3, q4⟩ := hq; rcases hcap with h | h | h | h | h <;> (have hfi := (cap_quo h).2.1; simp_all); done))
       have hstep : callsF s.members (t + 1) f need o = callsF s.members t (fun i => f i && !capF s.members f need i) (needF s.members (capF s.members f need) need s.members.length) (fun i => if capF s.members f need i = true then mst s.members i else o i) := by
        show (if any5 f = false then _ else if any5 (capF s.members f need) = false then _ else _) = _
        rw [if_neg (by rw [ha]; simp), if_neg (by rw [hcap]; simp)]
       have hcl := cntB_lt hcap (fun i h => (cap_quo h).2.1)
       have hI' : CallI s.members f0 need0 t (fun i => f i && !capF s.members f need i) (needF s.members (capF s.members f need) need s.members.length) (fun i => if capF s.members f need i = true then mst s.members i else o i) :=
        ⟨hI.eq.trans hstep, by have := hI.cnt; omega, fun i hi => hI.lt i (by simp only [Bool.and_eq_true] at hi; exact hi.1), hnb _ (Nat.le_refl _)⟩
       refine ⟨⟨(t, _, _, _), hI', by dsimp only; omega, ?_⟩⟩
       (repeat' first | refine gx hg1 ?_ | refine gx hg2 ?_ | (refine eg ?_; conv => whnf) | refine an ?_ ?_ | (refine iw ?_; intro rx hrx) | exact lf | intro _)
       all_goals try exact vy
       all_goals (first | exact ⟨capU_n _⟩ | (refine ⟨congrArg ints (tab_congr fun i hi => ?_)⟩; show outU s.members f need o s.members.length i = if capF s.members f need i = true then mst s.members i else o i; simp only [outU, hi, true_and]))
end Go.Proofs.YtjadiajfbflghaaGreat
open Go Go.TV
namespace Go.Proofs.YtjadiajfbflghaaGreat
theorem fault_ok {s : Soc} (h : fault s = 0) : (∀ m ∈ s.members, OkM m) ∧ (∀ r ∈ s.losses, 0 ≤ r.lo ∧ r.lo ≤ r.hi ∧ r.hi ≤ 100000 ∧ r.hi - r.lo ≤ 30) ∧ (0 ≤ s.treaty.lo ∧ s.treaty.lo ≤ s.treaty.hi ∧ s.treaty.hi ≤ 100000 ∧ s.treaty.hi - s.treaty.lo ≤ 30) ∧ (0 ≤ s.reserve ∧ s.reserve ≤ 100000) ∧ 1 ≤ s.members.length := by
 have hv := fault_valid h
 simp only [Soc.valid, Bool.and_eq_true, decide_eq_true_eq, List.all_eq_true] at hv
 obtain ⟨h1, h2, h3, h4, h5⟩ := hv
 refine ⟨fun m hm => ?_, fun r hr => ?_, ?_, ?_, by omega⟩
 ·have := h2 m hm
  simp only [Mem.valid, within, Bool.and_eq_true, decide_eq_true_eq] at this
  exact ⟨this.1, this.2.1, this.2.2⟩
 ·have := h3 r hr
  simpa only [Rng.pence, decide_eq_true_eq] using this
 ·simpa only [Rng.pence, decide_eq_true_eq] using h4
 ·simpa only [within, decide_eq_true_eq] using h5
theorem askF_lt {ms : List Mem} {out : List Int} (i : Nat) (h : askF ms out i = true) : i < ms.length := by
 simp only [askF, Bool.and_eq_true, decide_eq_true_eq] at h
 exact h.1
def D69 (s : Soc) (o : SV) (f0 : Nat → Bool) : Prop := TF Tryz.prog 69 [encSoc s, o] [LB.cells (socC s)] fun r h' => h' = [LB.cells (socC s), LB.cells (socC s), LB.cells (encW s f0 SV.nilm)] ∧ r = SV.ptr 2 0
def D70 (s : Soc) (f0 : Nat → Bool) (need : Int) (L : List SV) (z : Int) : Prop := TF Tryz.prog 70 [SV.ptr 2 0, SV.int IntKind.i64 need] [LB.cells (socC s), LB.cells (socC s), LB.cells (encW s f0 SV.nilm)] fun r h' => h' = [LB.cells (socC s), LB.cells (socC s), LB.dead, LB.arr 3 1 L] ∧ r = SV.tup [SV.own 3, SV.int IntKind.i64 z]
theorem d71_of (s : Soc) (out : List Int) (need : Int) (hm : ∀ m ∈ s.members, OkM m) (hl : s.members.length ≤ 5) (hn : 0 ≤ need ∧ need ≤ 300000) : D70 s (askF s.members out) need (ints (callsOf s out need).1) (callsOf s out need).2 :=
 t70 s (askF s.members out) need hm hl askF_lt hn
def SlN (l : List Int) (s : SV) : Prop := s = .sl 1 (ints l) ∨ (l = [] ∧ s = .nils)
def SlE3 (l : List Int) (n e : Int) (s : SV) : Prop := ∃ x, s = .tup [x, .int .i64 n, .int .i64 e] ∧ SlN l x
theorem SlE3.pf {f : FuncId} {args : List SV} {l : List Int} {n e : Int} (h : PF Tryz.prog f args (SlE3 l n e)) : PF Tryz.prog f args (· = .tup [.sl 1 (ints l), .int .i64 n, .int .i64 e]) := by
 refine PF.res h fun s hs _ => ?_
 obtain ⟨x, rfl, hx⟩ := hs
 refine ⟨_, rfl, by simp [clo, cloL, ints_clo], ?_⟩
 rcases hx with rfl | ⟨rfl, rfl⟩
 ·(repeat' first | (refine eg ?_; conv => whnf) | refine an ?_ ?_ | (refine iw ?_; intro rx hrx) | exact lf | (intro hcx; exfalso; simp only [lz] at hcx; omega) | intro _)
  all_goals try exact vy
 ·(repeat' first | (refine eg ?_; conv => whnf) | refine an ?_ ?_ | (refine iw ?_; intro rx hrx) | exact lf | (intro hcx; exfalso; simp only [lz] at hcx; omega) | intro _)
  all_goals try exact vy
def callsR (s : Soc) (need : Int) : List Int × Int × Int := if fault s ≠ 0 then ([], 0, fault s) else if within need 0 300000 = true then ((callsOf s [] need).1, (callsOf s [] need).2, 0) else ([], 0, 2)
theorem c19g (s : Soc) (need : Int) (hf : fault s = 0) (hw : within need 0 300000 = true) (L : List Int) (f0 : Nat → Bool) (z : Int) (h1 : s.members.length ≤ 1000000) (h2 : s.losses.length ≤ 1000000) (d70 : D69 s .nils f0) (d71 : D70 s f0 need (ints L) z) :
  PF Tryz.prog 19 [encSoc s, .int .i64 need] (SlE3 L z 0) := by
 unfold D69 at d70
 unfold D70 at d71
 have c53' := c63 s h1 h2
 rw [hf] at c53'
 refine PF.of (TF.ev fn_19 (Ev.at ?_))
 (repeat' first | (refine eg ?_; conv => whnf) | refine an ?_ ?_ | (refine iw ?_; intro rx hrx) | exact lf | intro _)
 refine TSq.pureC c53' cl rfl (And.intro rfl rfl) ?_
 (repeat' first | (refine eg ?_; conv => whnf) | refine an ?_ ?_ | (refine iw ?_; intro rx hrx) | exact lf | intro _)
 ·refine TSq.pureBC (c68 need 0 300000) cl rfl (And.intro rfl rfl) ?_ ?_ <;> intro hw'
  ·(repeat' first | (refine eg ?_; conv => whnf) | refine an ?_ ?_ | (refine iw ?_; intro rx hrx) | exact lf | intro _)
   refine TSq.callT rfl rfl (calleeK_const (And.intro rfl rfl) (d70.mono ?_))
   rintro _ _ ⟨rfl, rfl⟩
   (repeat' first | (refine eg ?_; conv => whnf) | refine an ?_ ?_ | (refine iw ?_; intro rx hrx) | exact lf | intro _)
   refine TSq.callT rfl rfl (calleeK_const (And.intro rfl rfl) (d71.mono ?_))
   rintro _ _ ⟨rfl, rfl⟩
   (repeat' first | (refine eg ?_; conv => whnf) | refine an ?_ ?_ | (refine iw ?_; intro rx hrx) | exact lf | intro _)
   all_goals try exact vy
   all_goals (try exact ⟨ints_clo _⟩)
   exact ⟨_, rfl, .inl rfl⟩
  ·rw [hw] at hw'; exact absurd hw' (by simp)
theorem c19 (s : Soc) (need : Int) (h1 : s.members.length ≤ 1000000) (h2 : s.losses.length ≤ 1000000) : PF Tryz.prog 19 [encSoc s, .int .i64 need] (· = .tup [.sl 1 (ints (callsR s need).1), .int .i64 (callsR s need).2.1, .int .i64 (callsR s need).2.2]) := by
 refine SlE3.pf ?_
 by_cases hf : fault s = 0
 ·by_cases hw : within need 0 300000 = true
  ·have hn : 0 ≤ need ∧ need ≤ 300000 := by simpa only [within, decide_eq_true_eq] using hw
   have h := c19g s need hf hw _ _ _ h1 h2 (t69 s [] .nils (.inr ⟨rfl, rfl⟩) (fault_len hf).1 (by simp)) (d71_of s [] need (fault_ok hf).1 (fault_len hf).1 hn)
   simp only [callsR, if_neg (show ¬ fault s ≠ 0 by simpa using hf), if_pos hw]
   exact h
  ·have c53' := c63 s h1 h2
   rw [hf] at c53'
   have e : callsR s need = ([], 0, 2) := by simp only [callsR, if_neg (show ¬ fault s ≠ 0 by simpa using hf), if_neg hw]
   rw [e]
   refine PF.of (TF.ev fn_19 (Ev.at ?_))
   (repeat' first | (refine eg ?_; conv => whnf) | refine an ?_ ?_ | (refine iw ?_; intro rx hrx) | exact lf | intro _)
   refine TSq.pureC c53' cl rfl (And.intro rfl rfl) ?_
   (repeat' first | (refine eg ?_; conv => whnf) | refine an ?_ ?_ | (refine iw ?_; intro rx hrx) | exact lf | intro _)
   ·refine TSq.pureBC (c68 need 0 300000) cl rfl (And.intro rfl rfl) ?_ ?_ <;> intro hw'
    ·exact absurd hw' hw
    ·(repeat' first | (refine eg ?_; conv => whnf) | refine an ?_ ?_ | (refine iw ?_; intro rx hrx) | exact lf | intro _)
     exact ⟨_, rfl, .inr ⟨rfl, rfl⟩⟩
 ·have e : callsR s need = ([], 0, fault s) := by simp only [callsR, if_pos hf]
  rw [e]
  have c53' := c63 s h1 h2
  generalize fault s = ft at *
  refine PF.of (TF.ev fn_19 (Ev.at ?_))
  (repeat' first | (refine eg ?_; conv => whnf) | refine an ?_ ?_ | (refine iw ?_; intro rx hrx) | exact lf | intro _)
  refine TSq.pureC c53' cl rfl (And.intro rfl rfl) ?_
  (repeat' first | (refine eg ?_; conv => whnf) | refine an ?_ ?_ | (refine iw ?_; intro rx hrx) | exact lf | intro _)
  exact ⟨_, rfl, .inr ⟨rfl, rfl⟩⟩
end Go.Proofs.YtjadiajfbflghaaGreat
open Go Go.TV
namespace Go.Proofs.YtjadiajfbflghaaGreat
def incr : Int → List Int → Bool
 | _, [] => true
 | a, x :: l => decide (a < x) && incr x l
end Go.Proofs.YtjadiajfbflghaaGreat
open Go Go.TV
namespace Go.Proofs.YtjadiajfbflghaaGreat
end Go.Proofs.YtjadiajfbflghaaGreat
open Go Go.TV
namespace Go.Proofs.YtjadiajfbflghaaGreat
def SlR (l : List Rng) (e : Int) (s : SV) : Prop := ∃ x, s = .tup [x, .int .i64 e] ∧ (x = .sl 2 (encRs l) ∨ (l = [] ∧ x = .nils))
theorem SlR.pf {f : FuncId} {args : List SV} {l : List Rng} {e : Int} (h : PF Tryz.prog f args (SlR l e)) : PF Tryz.prog f args (· = .tup [.sl 2 (encRs l), .int .i64 e]) := by
 refine PF.res h fun s hs _ => ?_
 obtain ⟨x, rfl, hx⟩ := hs
 refine ⟨_, rfl, by simp [clo, cloL, encRs_clo], ?_⟩
 rcases hx with rfl | ⟨rfl, rfl⟩
 ·(repeat' first | (refine eg ?_; conv => whnf) | refine an ?_ ?_ | (refine iw ?_; intro rx hrx) | exact lf | (intro hcx; exfalso; simp only [lz] at hcx; omega) | intro _)
  all_goals try exact vy
 ·(repeat' first | (refine eg ?_; conv => whnf) | refine an ?_ ?_ | (refine iw ?_; intro rx hrx) | exact lf | (intro hcx; exfalso; simp only [lz] at hcx; omega) | intro _)
  all_goals try exact vy
end Go.Proofs.YtjadiajfbflghaaGreat
open Go Go.TV
namespace Go.Proofs.YtjadiajfbflghaaGreat
theorem rem_bd {x r n : Int} (h : r = x.tmod n) (hx : 0 ≤ x) (hn : 0 < n) : 0 ≤ r ∧ r < n := by
 rw [h, Int.tmod_eq_emod_of_nonneg hx]; exact ⟨Int.emod_nonneg _ (by omega), Int.emod_lt_of_pos _ hn⟩
theorem fault_ms {s : Soc} (h : fault s = 0) : OkMs s.members := by
 obtain ⟨hm, _⟩ := fault_ok h
 refine ⟨(fault_len h).1, fun i hi => ?_⟩
 have hx : s.members[i]? = some s.members[i] := List.getElem?_eq_getElem hi
 have := hm _ (List.mem_of_getElem? hx)
 rw [un_at hx, mst_at hx]
 exact ⟨this.units.1, this.2.2.1⟩
theorem callsR_good {s : Soc} {n : Int} (h : fault s = 0) (hn : 0 ≤ n ∧ n ≤ 300000) : callsR s n = ((callsOf s [] n).1, (callsOf s [] n).2, 0) := by
 simp only [callsR, if_neg (show ¬ fault s ≠ 0 by simpa using h), if_pos (show within n 0 300000 = true by simpa [within] using hn)]
theorem calls_paid {s : Soc} (h : fault s = 0) (out : List Int) {n : Int} (hn : 0 ≤ n) : Paid s.members (askF s.members out) n (fun _ => 0) (callsF s.members 6 (askF s.members out) n fun _ => 0) :=
 callsF_ok (fault_ms h) askF_len hn _
theorem calls_at {s : Soc} {out : List Int} {n : Int} {i : Nat} (hi : i < s.members.length) : (callsOf s out n).1[i]? = some ((callsF s.members 6 (askF s.members out) n fun _ => 0).1 i) := by
 simp only [callsOf, tab, List.getElem?_map, List.getElem?_range hi]; rfl
theorem calls_bd {s : Soc} (h : fault s = 0) (out : List Int) {n : Int} (hn : 0 ≤ n) : ∀ x ∈ (callsOf s out n).1, 0 ≤ x ∧ x ≤ 100000 := by
 intro x hx
 simp only [callsOf, tab, List.mem_map, List.mem_range] at hx
 obtain ⟨i, hi, rfl⟩ := hx
 have p := calls_paid h out hn
 cases hf : askF s.members out i
 ·rw [p.other i hf]; omega
 ·have := p.most i hf
  have hm : s.members[i]? = some s.members[i] := List.getElem?_eq_getElem hi
  have := (fault_ok h).1 _ (List.mem_of_getElem? hm)
  rw [mst_at hm] at *
  have := this.2.2
  omega
end Go.Proofs.YtjadiajfbflghaaGreat
open Go Go.TV
namespace Go.Proofs.YtjadiajfbflghaaGreat
def memO (w : Nat → Int) : Nat → List Mem
 | 0 => []
 | n + 1 => memO w n ++ if 0 < w n then [⟨w n, 1, 65535⟩] else []
def socO (ms : List Mem) : Soc := ⟨ms, [], ⟨0, 0⟩, 0⟩
theorem memO_mem {w : Nat → Int} {m : Mem} : ∀ {n : Nat}, m ∈ memO w n → ∃ o : Nat, o < n ∧ m = ⟨w o, 1, 65535⟩ ∧ 0 < w o
 | 0, h => by simp [memO] at h
 | n + 1, h => by
  rw [memO, List.mem_append] at h
  rcases h with h | h
  ·obtain ⟨o, h1, h2⟩ := memO_mem h
   exact ⟨o, by omega, h2⟩
  ·split at h
   ·rename_i hw
    rw [List.mem_singleton] at h
    exact ⟨n, by omega, h, hw⟩
   ·simp at h
theorem memO_len {w : Nat → Int} : ∀ n : Nat, (memO w n).length ≤ n
 | 0 => by simp [memO]
 | n + 1 => by
  have := memO_len (w := w) n
  rw [memO, List.length_append]
  split <;> simp <;> omega
theorem faultO {w : Nat → Int} {n : Nat} (hn : n ≤ 4) (hw : ∀ o, o < n → w o ≤ 1000) (h0 : (memO w n).length ≠ 0) : fault (socO (memO w n)) = 0 := by
 have hl := memO_len (w := w) n
 unfold fault
 rw [if_neg (by simp [socO]; omega), if_pos]
 simp only [Soc.valid, Bool.and_eq_true]
 refine ⟨decide_eq_true h0, ?_, rfl, rfl, rfl⟩
 refine List.all_eq_true.2 fun m hm => ?_
 obtain ⟨o, h1, rfl, h2⟩ := memO_mem hm
 have := hw o h1
 simp only [Mem.valid, within, Bool.and_eq_true, decide_eq_true_eq]
 omega
theorem law_insured {w : Nat → Int} {n : Nat} (hn : n ≤ 4) (hw : ∀ o, o < n → w o ≤ 1000) (h0 : (memO w n).length ≠ 0) {need : Int} (hd : 0 ≤ need ∧ need ≤ 65535) :
  ∃ l : List Int, callsR (socO (memO w n)) need = (l, 0, 0) ∧ l.length = (memO w n).length ∧
   ∀ (i k : Nat) (x y : Mem) (a c : Int), (memO w n)[i]? = some x → (memO w n)[k]? = some y → l[i]? = some a → l[k]? = some c → y.sum < x.sum → c - 1 ≤ a := by
 have hf := faultO hn hw h0
 have hM : OkMs (memO w n) := fault_ms hf
 have hF : FreeMs (memO w n) need := by
  intro i hi
  have hx : (memO w n)[i]? = some (memO w n)[i] := List.getElem?_eq_getElem hi
  obtain ⟨o, _, h2, _⟩ := memO_mem (List.mem_of_getElem? hx)
  rw [mst_at hx, h2]
  exact hd.2
 have hs := free_short hM hd.1 hF (by omega)
 refine ⟨(callsOf (socO (memO w n)) [] need).1, ?_, by simp [callsOf, tab, socO], ?_⟩
 ·rw [callsR_good hf (by omega)]
  rw [show (callsOf (socO (memO w n)) [] need).2 = 0 from hs]
 ·intro i k x y a c hx hy ha hc hlt
  have hi := (List.getElem?_eq_some_iff.1 hx).1
  have hk := (List.getElem?_eq_some_iff.1 hy).1
  rw [calls_at (s := socO (memO w n)) hi] at ha
  rw [calls_at (s := socO (memO w n)) hk] at hc
  cases ha
  cases hc
  have h1 := (free_near hM hd.1 hF hi).1
  have h2 := (free_near hM hd.1 hF hk).1
  obtain ⟨o, _, ex, _⟩ := memO_mem (List.mem_of_getElem? hx)
  obtain ⟨p, _, ey, _⟩ := memO_mem (List.mem_of_getElem? hy)
  have hu : un (memO w n) k ≤ un (memO w n) i := by
   rw [un_at hx, un_at hy]
   subst ex ey
   simp only [Mem.units]
   dsimp only at hlt
   omega
  have hU := allU_pos hM (by omega)
  have h3 : need * un (memO w n) k / allU (memO w n) ≤ need * un (memO w n) i / allU (memO w n) := Int.ediv_le_ediv (by omega) (Int.mul_le_mul_of_nonneg_left hu hd.1)
  show (callsF (memO w n) 6 (askF (memO w n) []) need fun _ => 0).1 k - 1 ≤ (callsF (memO w n) 6 (askF (memO w n) []) need fun _ => 0).1 i
  generalize need * un (memO w n) k / allU (memO w n) = A at *
  generalize need * un (memO w n) i / allU (memO w n) = B at *
  omega
theorem many_two : ∀ (l : List Rng) (a c : Int), (∀ r ∈ l, 1 ≤ rsize r) → (c ≤ 1000 ∧ a = c ∨ 1000 < c ∧ a = 1001) →
  ((l.foldl (fun m r => min 2000 (m * rsize r)) c ≤ 1000 ∧ l.foldl (fun m r => min (m * rsize r) 1001) a = l.foldl (fun m r => min 2000 (m * rsize r)) c) ∨ (1000 < l.foldl (fun m r => min 2000 (m * rsize r)) c ∧ l.foldl (fun m r => min (m * rsize r) 1001) a = 1001))
 | [], a, c, _, h => h
 | r :: l, a, c, hl, h => by
  refine many_two l _ _ (fun q hq => hl q (List.mem_cons_of_mem _ hq)) ?_
  have hr := hl r (List.mem_cons_self ..)
  rcases h with ⟨h1, rfl⟩ | ⟨h1, rfl⟩
  ·dsimp only
   generalize a * rsize r = z
   omega
  ·have : c ≤ c * rsize r := by
    have := Int.mul_le_mul_of_nonneg_left (a := 1) (b := rsize r) (c := c) hr (by omega)
    omega
   dsimp only
   generalize c * rsize r = z at *
   omega
theorem many_iff {b : Bok} (hb : OkBok b) : manyS b.rngs ≤ 1000 → manyR b.rngs ≤ 1000 := by
 intro h
 have := many_two b.rngs 1 1 (fun r hr => (hb.rsize r hr).1) (by omega)
 unfold manyS at h
 unfold manyR
 omega
theorem nthL_mem : ∀ {R : List Rng} (n : Int), (∀ r ∈ R, 1 ≤ rsize r) → nthL R n ∈ listsL R
 | [], n, _ => by simp [nthL, listsL]
 | r :: rs, n, h => by
  have hr := h r (List.mem_cons_self ..)
  have h1 := Int.emod_nonneg n (b := rsize r) (by omega)
  have h2 := Int.emod_lt_of_pos n (b := rsize r) (by omega)
  have h3 : r.lo + n % rsize r ∈ dayL r := by
   obtain ⟨q, hq⟩ : ∃ q : Nat, n % rsize r = (q : Int) := ⟨(n % rsize r).toNat, by omega⟩
   rw [hq]
   exact List.mem_of_getElem? (dayL_at (by omega))
  simp only [nthL, listsL, List.mem_flatMap, List.mem_map]
  exact ⟨_, h3, _, nthL_mem _ fun q hq => h q (List.mem_cons_of_mem _ hq), rfl⟩
theorem truth_seen {b : Bok} (hb : OkBok b) {n : Nat} {v : List Int} (hv : v ∈ truthsB b n) {day : Nat} (hd : (day : Int) ≤ b.last) : v ∈ listsL b.rngs ∧ ∃ a, seenF b [] day v = some a ∧ playG b (v.take b.ents.length) (v.drop b.ents.length) [] (day + 1) = some a := by
 simp only [truthsB, List.mem_filter, List.mem_map, List.mem_range] at hv
 obtain ⟨⟨k, _, rfl⟩, ht⟩ := hv
 refine ⟨nthL_mem _ fun r hr => (hb.rsize r hr).1, ?_⟩
 unfold isT at ht
 unfold seenF
 generalize nthL b.rngs k = v at *
 cases hp : playG b (v.take b.ents.length) (v.drop b.ents.length) [] (b.last.toNat + 1) with
 | none => rw [hp] at ht; cases ht
 | some g =>
  have key : ∀ (d e : Nat) (g : Fds), playG b (v.take b.ents.length) (v.drop b.ents.length) [] (e + d) = some g → ∃ a, playG b (v.take b.ents.length) (v.drop b.ents.length) [] e = some a := by
   intro d
   induction d with
   | zero => intro e g h; exact ⟨g, h⟩
   | succ d ih =>
    intro e g h
    rw [← Nat.add_assoc, playG] at h
    obtain ⟨g1, h1, _⟩ := Option.bind_eq_some_iff.1 h
    exact ih e g1 h1
  obtain ⟨a, ha⟩ := key (b.last.toNat - day) (day + 1) g (by rw [show day + 1 + (b.last.toNat - day) = b.last.toNat + 1 by omega]; exact hp)
  exact ⟨a, ha, ha⟩
end Go.Proofs.YtjadiajfbflghaaGreat
open Go Go.TV
namespace Go.Proofs.YtjadiajfbflghaaGreat
theorem copy2 {days sown : List Int} {N : Int} {z : SV} (h : N = ((ints days).length : Int) + ((ints sown).length : Int)) :
  List.take ((ints days).length : Int).toNat (ints days ++ List.drop (ints days).length (List.replicate N.toNat z)) ++ (ints sown ++ List.drop (((ints days).length : Int).toNat + (ints sown).length) (ints days ++ List.drop (ints days).length (List.replicate N.toNat z))) = ints (days ++ sown) := by
 have e : N.toNat = (ints days).length + (ints sown).length := by omega
 rw [e, Int.toNat_natCast, List.take_left, List.drop_eq_nil_of_le (by simp), List.append_nil]
 simp [ints]
theorem c111 (b : Bok) (days sown : List Int) (hb : OkBok b) (hds : days.length = b.ents.length) (hsw : sown.length = b.pcls.length)
  (hr : ∀ (k : Nat) (r : Rng) (n : Int), b.rngs[k]? = some r → (days ++ sown)[k]? = some n → r.lo ≤ n ∧ n ≤ r.hi) :
  PF Tryz.prog 111 [encBok b, .agg [.sl 1 (ints days), .sl 1 (ints sown)]] (· = .bool true) := by
 have hz := encPcls_len b.pcls
 have hw := encEnts_len b.ents
 have hzd := ints_len days
 have hzs := ints_len sown
 have hpl := hb.plen
 have hel := hb.elen
 have d1 := c170 b (by omega) (by omega)
 have hrl : b.rngs.length = b.ents.length + b.pcls.length := by simp [Bok.rngs]
 have hrn := encRs_len b.rngs
 refine PF.of (TF.ev fn_111 (Ev.at ?_))
 (repeat' first | refine gx hg1 ?_ | refine gx hg2 ?_ | (refine eg ?_; conv => whnf) | refine an ?_ ?_ | (refine iw ?_; intro rx hrx) | exact lf | intro _)
 all_goals try exact vy
 refine TSq.pureC d1 (by simp [cloL, encBok_clo, clo]) rfl (And.intro rfl rfl) ?_
 (repeat' first | refine gx hg1 ?_ | refine gx hg2 ?_ | (refine eg ?_; conv => whnf) | refine an ?_ ?_ | (refine iw ?_; intro rx hrx) | exact lf | intro _)
 all_goals try exact vy
 refine TWq.loop (fun k : Nat => [(47, .int .i64 k)]) (fun _ => [(2, .arr 3 1 (ints (days ++ sown)))]) (fun k => k ≤ b.rngs.length) (fun k => b.rngs.length - k) 0 [] [] ?_ (by omega) ?_
 ·(repeat' first | refine gx hg1 ?_ | refine gx hg2 ?_ | (refine eg ?_; conv => whnf) | refine an ?_ ?_ | (refine iw ?_; intro rx hrx) | exact lf | intro _)
  all_goals try exact vy
  all_goals exact ⟨copy2 hrx⟩
 ·intro k hk
  rcases Nat.lt_or_ge k b.rngs.length with hkl | hkl
  ·obtain ⟨r, hr1⟩ : ∃ r, b.rngs[k]? = some r := ⟨_, List.getElem?_eq_getElem hkl⟩
   have hlen : (days ++ sown).length = b.rngs.length := by simp; omega
   have hli := ints_len (days ++ sown)
   obtain ⟨n, hn1⟩ : ∃ n, (days ++ sown)[k]? = some n := ⟨_, List.getElem?_eq_getElem (by omega)⟩
   have hg1 : ∀ {m : Nat} {x : SV}, m = k → (encRs b.rngs)[m]? = some x → x = encR r := by
    rintro m x rfl he
    obtain ⟨y, hy, rfl⟩ := encRs_at he
    rw [hr1] at hy; cases hy; rfl
   have hg2 : ∀ {m : Nat} {x : SV}, m = k → (ints (days ++ sown))[m]? = some x → x = .int .i64 n := by
    rintro m x rfl he
    obtain ⟨y, hy, rfl⟩ := ints_at he
    rw [hn1] at hy; cases hy; rfl
   have d2 := c174 r n
   rw [show within n r.lo r.hi = true by have := hr k r n hr1 hn1; simp only [within, decide_eq_true_eq]; omega] at d2
   (repeat' first | refine gx hg1 ?_ | refine gx hg2 ?_ | (refine eg ?_; conv => whnf) | refine an ?_ ?_ | (refine iw ?_; intro rx hrx) | exact lf | intro _)
   all_goals try exact vy
   refine TDq.pureC d2 cl rfl (And.intro rfl rfl) ?_
   (repeat' first | refine gx hg1 ?_ | refine gx hg2 ?_ | (refine eg ?_; conv => whnf) | refine an ?_ ?_ | (refine iw ?_; intro rx hrx) | exact lf | intro _)
   all_goals try exact vy
   refine ⟨⟨k + 1, by omega, by omega, ?_⟩⟩
   (repeat' first | refine gx hg1 ?_ | refine gx hg2 ?_ | (refine eg ?_; conv => whnf) | refine an ?_ ?_ | (refine iw ?_; intro rx hrx) | exact lf | intro _)
   all_goals try exact vy
  ·(repeat' first | refine gx hg1 ?_ | refine gx hg2 ?_ | (refine eg ?_; conv => whnf) | refine an ?_ ?_ | (refine iw ?_; intro rx hrx) | exact lf | intro _)
   all_goals (try (exfalso; omega))
   all_goals try exact vy
end Go.Proofs.YtjadiajfbflghaaGreat
open Go Go.TV
namespace Go.Proofs.YtjadiajfbflghaaGreat
def encHld (a : Fds) (day : Int) (k : Nat) : SV := .agg [.bool (a k).there, .bool (covF (a k) day), .int .i64 (a k).owner, .int .i64 (a k).value]
def hldL (a : Fds) (day : Int) (n : Nat) : List SV := (List.range n).map (encHld a day)
theorem hldL_len (a : Fds) (day : Int) (n : Nat) : (hldL a day n).length = n := by simp [hldL]
theorem hldL_succ (a : Fds) (day : Int) (n : Nat) : hldL a day (n + 1) = hldL a day n ++ [encHld a day n] := by simp [hldL, List.range_succ]
theorem hldL_clo (a : Fds) (day : Int) (n : Nat) : cloL (hldL a day n) := by
 rw [cloL_iff]; intro s hs; obtain ⟨x, _, rfl⟩ := List.mem_map.1 hs; simp [encHld, clo, cloL]
def ownH (n : Nat) : SV := match n with | 0 => .nils | _ + 1 => .own 1
def arrH (a : Fds) (day : Int) (n : Nat) : LB := match n with | 0 => .dead | k + 1 => .arr /-t-/146 4 (hldL a day (k + 1))
theorem c48 (b : Bok) (days sown : List Int) (day : Nat) (hb : OkBok b) (hm : manyR b.rngs ≤ 1000) (hday : (day : Int) ≤ b.last) (hds : days.length = b.ents.length) (hsw : sown.length = b.pcls.length)
  (hr : ∀ (k : Nat) (r : Rng) (n : Int), b.rngs[k]? = some r → (days ++ sown)[k]? = some n → r.lo ≤ n ∧ n ≤ r.hi)
  (a : Fds) (hp : (playG b days sown [] (b.last.toNat + 1)).isSome = true) (ha : playG b days sown [] (day + 1) = some a) :
  PF Tryz.prog 48 [encBok b, .agg [.sl 1 (ints days), .sl 1 (ints sown)], .int .i64 day] (fun s => s = .tup [.sl 4 (hldL a day b.nums), .int .i64 0] ∨ (b.nums = 0 ∧ s = .tup [.nils, .int .i64 0])) := by
 have hpl := hb.plen
 have hel := hb.elen
 have hN := hb.nums_le
 have d1 := c103 b hb
 rw [if_pos hm] at d1
 have d2 := c111 b days sown hb hds hsw hr
 have d3 := c105 b day
 rw [show within day 0 b.last = true by simp only [within, decide_eq_true_eq]; omega] at d3
 have d4 : PF Tryz.prog 112 [encBok b, .agg [.sl 1 (ints days), .sl 1 (ints sown)], .int .i64 day, .nils] (PlayQ b days sown [] day) := by
  refine PF.fit (c112 b days sown [] day hb hds hsw (by simp) hday) ?_
  (repeat' first | (refine hst1 ?_ ?_; rotate_left; (first | omega | (dsimp only; omega))) | (refine eg ?_; conv => whnf) | refine an ?_ ?_ | (refine iw ?_; intro rx hrx) | exact lf | intro _)
  all_goals try exact vy
 have d5 := c113 b (by omega) (by omega)
 refine PF.of (TF.ev fn_48 (Ev.at ?_))
 (repeat' first | (refine hst1 ?_ ?_; rotate_left; (first | omega | (dsimp only; omega))) | (refine eg ?_; conv => whnf) | refine an ?_ ?_ | (refine iw ?_; intro rx hrx) | exact lf | intro _)
 all_goals try exact vy
 refine TSq.pureC d1 (by simp [cloL, encBok_clo]) rfl (And.intro rfl rfl) ?_
 (repeat' first | (refine hst1 ?_ ?_; rotate_left; (first | omega | (dsimp only; omega))) | (refine eg ?_; conv => whnf) | refine an ?_ ?_ | (refine iw ?_; intro rx hrx) | exact lf | intro _)
 all_goals try exact vy
 refine TSq.pureC d2 (by simp [cloL, encBok_clo, clo]) rfl (And.intro rfl rfl) ?_
 (repeat' first | (refine hst1 ?_ ?_; rotate_left; (first | omega | (dsimp only; omega))) | (refine eg ?_; conv => whnf) | refine an ?_ ?_ | (refine iw ?_; intro rx hrx) | exact lf | intro _)
 all_goals try exact vy
 refine TSq.pureC d3 (by simp [cloL, encBok_clo, clo]) rfl (And.intro rfl rfl) ?_
 (repeat' first | (refine hst1 ?_ ?_; rotate_left; (first | omega | (dsimp only; omega))) | (refine eg ?_; conv => whnf) | refine an ?_ ?_ | (refine iw ?_; intro rx hrx) | exact lf | intro _)
 all_goals try exact vy
 refine TSq.pureQ rfl d4 (by simp [cloL, encBok_clo, clo]) rfl (And.intro rfl rfl) ?_
 rintro s ⟨a', rfl, h2⟩ _
 have h3 := h2 hp
 rw [ha] at h3
 cases h3
 rw [hp]
 (repeat' first | (refine hst1 ?_ ?_; rotate_left; (first | omega | (dsimp only; omega))) | (refine eg ?_; conv => whnf) | refine an ?_ ?_ | (refine iw ?_; intro rx hrx) | exact lf | intro _)
 all_goals try exact vy
 refine TSq.pureC d5 (by simp [cloL, encBok_clo, clo]) rfl (And.intro rfl rfl) ?_
 (repeat' first | (refine hst1 ?_ ?_; rotate_left; (first | omega | (dsimp only; omega))) | (refine eg ?_; conv => whnf) | refine an ?_ ?_ | (refine iw ?_; intro rx hrx) | exact lf | intro _)
 all_goals try exact vy
 refine TWq.loopP (fun k : Nat => [(4, .junk), (42, .int .i64 k), (11, ownH k)]) (fun k => [(1, arrH a day k)]) (fun k => k ≤ b.nums) (fun k => b.nums - k) 0 [] ?_ (by omega) ?_
 ·(repeat' first | (refine hst1 ?_ ?_; rotate_left; (first | omega | (dsimp only; omega))) | (refine eg ?_; conv => whnf) | refine an ?_ ?_ | (refine iw ?_; intro rx hrx) | exact lf | intro _)
  all_goals try exact vy
 ·intro k hk
  rcases Nat.lt_or_ge k b.nums with hkl | hkl
  ·have hst1 : ∀ {K : SV → Prop}, Ev (K (encFd (a k))) → (0 : Nat) ≤ 0 → Ev (partK true (0 + (k : Int).toNat * 5) 5 (.agg (fdC a)) K) := fun hk _ => fd_part (by omega) hk (by omega)
   have d6 := c109 (a k) day
   have hz := hldL_len a day k
   have hs : hldL a day (k + 1) = hldL a day k ++ [.agg [.bool (a k).there, .bool (covF (a k) day), .int .i64 (a k).owner, .int .i64 (a k).value]] := hldL_succ a day k
   have h1 : arrH a day (k + 1) = .arr /-t-/146 4 (hldL a day (k + 1)) := rfl
   rw [hs] at h1
   rcases Nat.eq_zero_or_pos k with h0 | h0
   ·subst h0
    (repeat' first | (refine hst1 ?_ ?_; rotate_left; (first | omega | (dsimp only; omega))) | (refine eg ?_; conv => whnf) | refine an ?_ ?_ | (refine iw ?_; intro rx hrx) | exact lf | intro _)
    all_goals (try (exfalso; omega))
    all_goals try exact vy
    refine TDq.pureC d6 (by simp [cloL, clo, encFd]) rfl (And.intro rfl rfl) ?_
    (repeat' first | (refine hst1 ?_ ?_; rotate_left; (first | omega | (dsimp only; omega))) | (refine eg ?_; conv => whnf) | refine an ?_ ?_ | (refine iw ?_; intro rx hrx) | exact lf | intro _)
    all_goals try exact vy
    refine ⟨⟨[(1, 5)], 1, by omega, by omega, ?_⟩⟩
    (repeat' first | (refine hst1 ?_ ?_; rotate_left; (first | omega | (dsimp only; omega))) | (refine eg ?_; conv => whnf) | refine an ?_ ?_ | (refine iw ?_; intro rx hrx) | exact lf | intro _)
    all_goals try exact vy
    all_goals (try exact ⟨hldL_clo _ _ _⟩)
   ·have e1 : ownH k = .own 1 := by rcases k with _ | k; exact absurd h0 (by omega); rfl
    have e2 : arrH a day k = .arr /-t-/146 4 (hldL a day k) := by rcases k with _ | k; exact absurd h0 (by omega); rfl
    dsimp only
    rw [e1, e2]
    clear e1 e2 h1
    generalize hldL a day k = H at *
    have hk10 : k < 10 := by omega
    rcases ten hk10 with rfl | rfl | rfl | rfl | rfl | rfl | rfl | rfl | rfl | rfl
    ·exact absurd h0 (by omega)
    all_goals
     (repeat' first | (refine hst1 ?_ ?_; rotate_left; (first | omega | (dsimp only; omega))) | (refine eg ?_; conv => whnf) | refine an ?_ ?_ | (refine iw ?_; intro rx hrx) | exact lf | intro _)
     all_goals (try (exfalso; omega))
     all_goals try exact vy
     refine TDq.pureC d6 (by simp [cloL, clo, encFd]) rfl (And.intro rfl rfl) ?_
     (repeat' first | (refine hst1 ?_ ?_; rotate_left; (first | omega | (dsimp only; omega))) | (refine eg ?_; conv => whnf) | refine an ?_ ?_ | (refine iw ?_; intro rx hrx) | exact lf | intro _)
     all_goals try exact vy
     refine ⟨⟨[(1, 5)], _ + 1, hkl, by omega, ?_⟩⟩
     (repeat' first | (refine hst1 ?_ ?_; rotate_left; (first | omega | (dsimp only; omega))) | (refine eg ?_; conv => whnf) | refine an ?_ ?_ | (refine iw ?_; intro rx hrx) | exact lf | intro _)
     all_goals try exact vy
     all_goals (try exact ⟨hldL_clo _ _ _⟩)
     all_goals (try exact ⟨hs.symm⟩)
  ·have hke : k = b.nums := by omega
   rw [← hke]
   rcases k with _ | k
   all_goals
    (repeat' first | (refine hst1 ?_ ?_; rotate_left; (first | omega | (dsimp only; omega))) | (refine eg ?_; conv => whnf) | refine an ?_ ?_ | (refine iw ?_; intro rx hrx) | exact lf | intro _)
    all_goals (try (exfalso; omega))
    all_goals try exact vy
    all_goals first | exact ⟨hldL_clo _ _ _⟩ | exact .inl rfl | exact .inr ⟨rfl, rfl⟩
end Go.Proofs.YtjadiajfbflghaaGreat
open Go Go.TV
namespace Go.Proofs.YtjadiajfbflghaaGreat
theorem bd_ge : ∀ (l : List Int) (q : Int × Int), 0 ≤ q.1 → (∀ n ∈ l, (0 : Int) ≤ n) → ∀ p, l.foldl (fun r n => match r with | none => some (n, n) | some q => some (min q.1 n, max q.2 n)) (some q) = some p → 0 ≤ p.1
 | [], q, h, _, p, e => by cases e; exact h
 | x :: l, q, h, hl, p, e => by
  have := hl x (List.mem_cons_self ..)
  exact bd_ge l (min q.1 x, max q.2 x) (by dsimp only; omega) (fun n hn => hl n (List.mem_cons_of_mem _ hn)) p e
theorem worth_some {b : Bok} (hb : OkBok b) {day : Nat} {v : List Int} {a : Fds} (hv : v ∈ listsL b.rngs) (ha : seenF b [] day v = some a) (o : Int) :
  ∃ lo hi : Int, bdL (worthL b o day) = some (lo, hi) ∧ 0 ≤ lo := by
 have hm : valK a o day 10 ∈ worthL b o day := List.mem_map.2 ⟨a, List.mem_filterMap.2 ⟨v, hv, ha⟩, rfl⟩
 have hn : ∀ n ∈ worthL b o day, (0 : Int) ≤ n := fun n hn => by
  obtain ⟨a', h1, rfl⟩ := List.mem_map.1 hn
  obtain ⟨v', _, h2⟩ := List.mem_filterMap.1 h1
  exact (valK_bd (seenF_ok hb h2) o day 10).1
 match h : worthL b o day, hm with
 | x :: l, _ =>
  rw [h] at hn
  obtain ⟨p, h1, h2, h3, h4⟩ := bd_fold l (x, x)
  exact ⟨p.1, p.2, h1, bd_ge l (x, x) (hn x (List.mem_cons_self ..)) (fun n hn' => hn n (List.mem_cons_of_mem _ hn')) p h1⟩
theorem covK_bd {a : Fds} (h : OkG a) (d : Int) : ∀ k : Nat, 0 ≤ covK a d k ∧ covK a d k ≤ 1000 * k
 | 0 => by simp [covK]
 | k + 1 => by
  have ih := covK_bd h d k
  have := h k
  rw [covK]
  split <;> omega
theorem sumO_bd {w : Nat → Int} : ∀ k : Nat, (∀ o, o < k → 0 ≤ w o ∧ w o ≤ 1000) → 0 ≤ sumO w k ∧ sumO w k ≤ 1000 * k
 | 0, _ => by simp [sumO]
 | k + 1, h => by
  have ih := sumO_bd k fun o ho => h o (by omega)
  have := h k (by omega)
  rw [sumO]
  omega
theorem c48' {b : Bok} {days sown : List Int} {day : Nat} {a : Fds} (h : PF Tryz.prog 48 [encBok b, .agg [.sl 1 (ints days), .sl 1 (ints sown)], .int .i64 day] (fun s => s = .tup [.sl 4 (hldL a day b.nums), .int .i64 0] ∨ (b.nums = 0 ∧ s = .tup [.nils, .int .i64 0]))) :
  PF Tryz.prog 48 [encBok b, .agg [.sl 1 (ints days), .sl 1 (ints sown)], .int .i64 day] (· = .tup [.sl 4 (hldL a day b.nums), .int .i64 0]) := by
 refine PF.res h fun s hs _ => ?_
 refine ⟨_, rfl, by simp [clo, cloL, hldL_clo], ?_⟩
 rcases hs with rfl | ⟨h0, rfl⟩
 ·(repeat' first | (refine eg ?_; conv => whnf) | refine an ?_ ?_ | (refine iw ?_; intro rx hrx) | exact lf | intro _)
  all_goals try exact vy
 ·rw [h0]
  (repeat' first | (refine eg ?_; conv => whnf) | refine an ?_ ?_ | (refine iw ?_; intro rx hrx) | exact lf | intro _)
  all_goals try exact vy
theorem nthL_in : ∀ (R : List Rng) (n : Int), (∀ r ∈ R, 1 ≤ rsize r) → (nthL R n).length = R.length ∧ ∀ (k : Nat) (r : Rng) (x : Int), R[k]? = some r → (nthL R n)[k]? = some x → r.lo ≤ x ∧ x ≤ r.hi
 | [], n, _ => ⟨rfl, fun k r x h => by simp at h⟩
 | r :: rs, n, h => by
  have hr := h r (List.mem_cons_self ..)
  have h1 := Int.emod_nonneg n (b := rsize r) (by omega)
  have h2 := Int.emod_lt_of_pos n (b := rsize r) (by omega)
  obtain ⟨i1, i2⟩ := nthL_in rs (n / rsize r) fun q hq => h q (List.mem_cons_of_mem _ hq)
  refine ⟨by simp only [nthL, List.length_cons, i1], fun k q x hq hx => ?_⟩
  cases k with
  | zero =>
   simp only [List.getElem?_cons_zero, Option.some.injEq, nthL] at hq hx
   subst hq hx
   have hz : rsize r = r.hi - r.lo + 1 := rfl
   omega
  | succ k =>
   simp only [List.getElem?_cons_succ, nthL] at hq hx
   exact i2 k q x hq hx
theorem truthsB_mem {b : Bok} {n : Nat} {v : List Int} (h : v ∈ truthsB b n) : ∃ k : Int, v = nthL b.rngs k ∧ isT b v = true := by
 simp only [truthsB, List.mem_filter, List.mem_map] at h
 obtain ⟨⟨k, _, rfl⟩, ht⟩ := h
 exact ⟨k, rfl, ht⟩
theorem insured_calls {w : Nat → Int} {n : Nat} {m0 : Mem} {ms : List Mem} (hm : memO w n = m0 :: ms) (hn : n ≤ 4) (hw : ∀ o, o < n → w o ≤ 1000) {need : Int} (hd : 0 ≤ need ∧ need ≤ 65535) :
  ∃ l : List Int, PF Tryz.prog 19 [.agg [.sl 3 (encYs (m0 :: ms)), .nils, .int .i64 0, .int .i64 0, .int .i64 0], .int .i64 need] (· = .tup [.sl 1 (ints l), .int .i64 0, .int .i64 0]) ∧ l.length = ms.length + 1 ∧ (∀ x ∈ l, 0 ≤ x ∧ x ≤ 100000) ∧
   ∀ (i k : Nat) (x y : Mem) (a c : Int), (m0 :: ms)[i]? = some x → (m0 :: ms)[k]? = some y → l[i]? = some a → l[k]? = some c → y.sum < x.sum → c - 1 ≤ a := by
 have h0 : (memO w n).length ≠ 0 := by rw [hm]; simp
 obtain ⟨l, e, h1, h2⟩ := law_insured hn hw h0 hd
 have hf := faultO hn hw h0
 have e2 := callsR_good hf (n := need) (by omega)
 rw [e] at e2
 have e3 : l = (callsOf (socO (memO w n)) [] need).1 := (Prod.mk.inj e2).1
 have hb := calls_bd hf [] (n := need) hd.1
 rw [← e3] at hb
 rw [hm] at h1 h2 e
 refine ⟨l, ?_, h1, hb, h2⟩
 have hl := memO_len (w := w) n
 rw [hm] at hl
 have h := c19 (socO (m0 :: ms)) need (by show (m0 :: ms).length ≤ _; omega) (by show (0 : Nat) ≤ _; omega)
 rw [e] at h
 refine PF.fit h ?_
 (repeat' first | (refine eg ?_; conv => whnf) | refine an ?_ ?_ | (refine iw ?_; intro rx hrx) | exact lf | intro _)
 all_goals try exact vy
end Go.Proofs.YtjadiajfbflghaaGreat
open Go Go.TV
namespace Go.Proofs.YtjadiajfbflghaaGreat
theorem c110 (r : Rng) : PF Tryz.prog 110 [encR r] (· = encR r) := by
 refine PF.of (TF.ev fn_110 (Ev.at ?_))
 exact e trivial
theorem c114 (l : List Int) (h : l.length ≤ 1000000) : PF Tryz.prog 114 [.sl 1 (ints l)] (· = .sl 1 (ints l)) := by
 have hz := ints_len l
 refine PF.of (TF.ev fn_114 (Ev.at ?_))
 (repeat' first | (refine eg ?_; conv => whnf) | refine an ?_ ?_ | (refine iw ?_; intro rx hrx) | exact lf | intro _)
 all_goals (try (refine ⟨?_⟩; first | (simp [repl, ints_len, chunks, catS]; omega) | (simp [repl, chunks, catS]; exact ints_clo _) | (simp [repl, chunks, catS]; done)))
 all_goals try exact vy
 all_goals (try (simp [repl, chunks, catS]; done))
theorem c49 (a b : List Int) (ha : a.length ≤ 1000000) (hb : b.length ≤ 1000000) : PF Tryz.prog 49 [.agg [.sl 1 (ints a), .sl 1 (ints b)]] (· = .agg [.sl 1 (ints a), .sl 1 (ints b)]) := by
 refine PF.of (TF.ev fn_49 (Ev.at ?_))
 refine e (And.intro ?_ trivial); intros
 refine TDq.pureC (c114 a ha) (by simp [cloL, clo]) rfl (And.intro rfl rfl) ?_
 refine e (And.intro ?_ trivial); intros
 refine TDq.pureC (c114 b hb) (by simp [cloL, clo]) rfl (And.intro rfl rfl) ?_
 exact e trivial
theorem c42 (b : Bok) : PF Tryz.prog 42 [encBok b] fun s => ∃ r : Bool, s = .bool r ∧ (r = true → b.pcls.length ≤ 7 ∧ b.ents.length ≤ 9) := by
 have hz := encPcls_len b.pcls
 have hw := encEnts_len b.ents
 by_cases h1 : b.pcls.length ≤ 7
 ·by_cases h2 : b.ents.length ≤ 9
  ·refine PF.of (TF.ev fn_42 (Ev.at ?_))
   (repeat' first | (refine eg ?_; conv => whnf) | refine an ?_ ?_ | (refine iw ?_; intro rx hrx) | exact lf | intro _)
   all_goals (try (exfalso; omega))
   all_goals try exact vy
   all_goals exact ⟨_, rfl, fun _ => ⟨h1, h2⟩⟩
  ·refine PF.of (TF.ev fn_42 (Ev.at ?_))
   (repeat' first | (refine eg ?_; conv => whnf) | refine an ?_ ?_ | (refine iw ?_; intro rx hrx) | exact lf | intro _)
   all_goals (try (exfalso; omega))
   all_goals try exact vy
   all_goals exact ⟨_, rfl, fun h => by cases h⟩
 ·refine PF.of (TF.ev fn_42 (Ev.at ?_))
  (repeat' first | (refine eg ?_; conv => whnf) | refine an ?_ ?_ | (refine iw ?_; intro rx hrx) | exact lf | intro _)
  all_goals (try (exfalso; omega))
  all_goals try exact vy
  all_goals exact ⟨_, rfl, fun h => by cases h⟩
def LNx (sz : Nat) (es : List SV) (s : SV) : Prop := s = .sl sz es ∨ (es = [] ∧ s = .nils)
theorem bok_pf {f : FuncId} {args : List SV} {b : Bok} (h : PF Tryz.prog f args fun s => ∃ x y, s = .agg [.int .i64 b.last, .int .i64 b.owners, x, y] ∧ LNx 4 (encPcls b.pcls) x ∧ LNx 8 (encEnts b.ents) y) : PF Tryz.prog f args (· = encBok b) := by
 refine PF.res h fun v hv _ => ?_
 refine ⟨_, rfl, encBok_clo b, ?_⟩
 obtain ⟨x, y, rfl, hx, hy⟩ := hv
 unfold encBok
 rcases hx with rfl | ⟨h1, rfl⟩ <;> rcases hy with rfl | ⟨h2, rfl⟩
 all_goals
  (repeat' first | (refine eg ?_; conv => whnf) | refine an ?_ ?_ | (refine iw ?_; intro rx hrx) | exact lf | intro _)
  all_goals try exact vy
  all_goals (try (refine ⟨?_⟩; assumption))
def ownQ (n : Nat) (l : List Pcl) : SV := match l with | [] => .nils | _ :: _ => .own n
def arrQ (l : List Pcl) : LB := match l with | [] => .dead | _ :: _ => .arr /-t-/192 4 (encPcls l)
def ownE (n : Nat) (l : List Ent) : SV := match l with | [] => .nils | _ :: _ => .own n
def arrE (l : List Ent) : LB := match l with | [] => .dead | _ :: _ => .arr /-t-/194 8 (encEnts l)
theorem c46 (b : Bok) (hp : b.pcls.length ≤ 10) (he : b.ents.length ≤ 10) : PF Tryz.prog 46 [encBok b] (· = encBok b) := by
 have hz := encPcls_len b.pcls
 have hw := encEnts_len b.ents
 refine bok_pf (PF.of (TF.ev fn_46 (Ev.at ?_)))
 (repeat' first | refine gx hg1 ?_ | (refine eg ?_; conv => whnf) | refine an ?_ ?_ | (refine iw ?_; intro rx hrx) | exact lf | intro _)
 all_goals try exact vy
 refine TWq.loopP (fun p : Nat × List Pcl => [(4, .int .i64 p.1)]) (fun p => [(2, .cells [.int .i64 b.last, .int .i64 b.owners, ownQ 3 p.2, .nils]), (3, arrQ p.2)]) (fun p => p.1 ≤ b.pcls.length ∧ p.2 = b.pcls.take p.1) (fun p => b.pcls.length - p.1) (0, []) [] ?_ ⟨by omega, by simp⟩ ?_
 ·(repeat' first | refine gx hg1 ?_ | (refine eg ?_; conv => whnf) | refine an ?_ ?_ | (refine iw ?_; intro rx hrx) | exact lf | intro _)
  all_goals try exact vy
 ·rintro ⟨k, l⟩ ⟨hk, hl⟩
  dsimp only at hk hl ⊢
  have hlen : l.length = k := by rw [hl]; simp; omega
  rcases Nat.lt_or_ge k b.pcls.length with hkl | hkl
  ·obtain ⟨v, hv⟩ : ∃ v, b.pcls[k]? = some v := ⟨_, List.getElem?_eq_getElem hkl⟩
   have hg1 : ∀ {n : Nat} {x : SV}, n = k → (encPcls b.pcls)[n]? = some x → x = encPcl v := by
    rintro n x rfl he
    obtain ⟨y, hy, rfl⟩ := encPcls_at he
    rw [hv] at hy; cases hy; rfl
   have d1 := c110 v.sown
   rcases l with _ | ⟨y, l⟩
   all_goals
    simp only [List.length_cons, List.length_nil] at hlen
    (repeat' first | refine gx hg1 ?_ | (refine eg ?_; conv => whnf) | refine an ?_ ?_ | (refine iw ?_; intro rx hrx) | exact lf | intro _)
    all_goals (try (exfalso; omega))
    all_goals try exact vz
    refine TDq.pureC d1 (by simp [cloL, clo, encR]) rfl (And.intro rfl rfl) ?_
    (repeat' first | refine gx hg1 ?_ | (refine eg ?_; conv => whnf) | refine an ?_ ?_ | (refine iw ?_; intro rx hrx) | exact lf | intro _)
    all_goals try exact vz
    all_goals (try (refine ⟨?_⟩; simp [encPcls_len, catS, repl, chunks] <;> omega))
    refine ⟨⟨[(3, 6)], (k + 1, _ ++ [v]), ⟨by dsimp only; omega, by rw [take_snoc hv, ← hl]⟩, by dsimp only; omega, ?_⟩⟩
    (repeat' first | refine gx hg1 ?_ | (refine eg ?_; conv => whnf) | refine an ?_ ?_ | (refine iw ?_; intro rx hrx) | exact lf | intro _)
    all_goals try exact vy
    all_goals (refine ⟨?_⟩; first | exact encPcls_clo _ | (simp [encPcls, encPcl, catS, repl, chunks]; done))
  ·have hke : k = b.pcls.length := by omega
   subst hke
   rw [List.take_length] at hl
   rcases l with _ | ⟨y, l⟩
   ·(repeat' first | refine gx hg1 ?_ | (refine eg ?_; conv => whnf) | refine an ?_ ?_ | (refine iw ?_; intro rx hrx) | exact lf | intro _)
    all_goals (try (exfalso; omega))
    all_goals try exact vy
    refine TWq.loopP (fun p : Nat × List Ent => [(6, .int .i64 p.1)]) (fun p => [(2, .cells [.int .i64 b.last, .int .i64 b.owners, .nils, ownE 4 p.2]), (4, arrE p.2)]) (fun p => p.1 ≤ b.ents.length ∧ p.2 = b.ents.take p.1) (fun p => b.ents.length - p.1) (0, []) [] ?_ ⟨by omega, by simp⟩ ?_
    ·(repeat' first | refine gx hg1 ?_ | (refine eg ?_; conv => whnf) | refine an ?_ ?_ | (refine iw ?_; intro rx hrx) | exact lf | intro _)
     all_goals try exact vy
     all_goals (try exact ⟨encPcls_clo _⟩)
    ·rintro ⟨k, m⟩ ⟨hk, hm⟩
     dsimp only at hk hm ⊢
     have hmlen : m.length = k := by rw [hm]; simp; omega
     rcases Nat.lt_or_ge k b.ents.length with hkl | hkl
     ·obtain ⟨v, hv⟩ : ∃ v, b.ents[k]? = some v := ⟨_, List.getElem?_eq_getElem hkl⟩
      have hg1 : ∀ {n : Nat} {x : SV}, n = k → (encEnts b.ents)[n]? = some x → x = encEnt v := by
       rintro n x rfl he
       obtain ⟨y, hy, rfl⟩ := encEnts_at he
       rw [hv] at hy; cases hy; rfl
      have d1 := c110 v.day
      rcases m with _ | ⟨z, m⟩
      all_goals
       simp only [List.length_cons, List.length_nil] at hmlen
       (repeat' first | refine gx hg1 ?_ | (refine eg ?_; conv => whnf) | refine an ?_ ?_ | (refine iw ?_; intro rx hrx) | exact lf | intro _)
       all_goals (try (exfalso; omega))
       all_goals try exact vz
       refine TDq.pureC d1 (by simp [cloL, clo, encR]) rfl (And.intro rfl rfl) ?_
       (repeat' first | refine gx hg1 ?_ | (refine eg ?_; conv => whnf) | refine an ?_ ?_ | (refine iw ?_; intro rx hrx) | exact lf | intro _)
       all_goals try exact vz
       all_goals (try (refine ⟨?_⟩; simp [encEnts_len, catS, repl, chunks] <;> omega))
       refine ⟨⟨[(4, 7)], (k + 1, _ ++ [v]), ⟨by dsimp only; omega, by rw [take_snoc hv, ← hm]⟩, by dsimp only; omega, ?_⟩⟩
       (repeat' first | refine gx hg1 ?_ | (refine eg ?_; conv => whnf) | refine an ?_ ?_ | (refine iw ?_; intro rx hrx) | exact lf | intro _)
       all_goals try exact vy
       all_goals (refine ⟨?_⟩; first | exact encEnts_clo _ | exact encPcls_clo _ | (simp [encEnts, encEnt, catS, repl, chunks]; done))
     ·have hke : k = b.ents.length := by omega
      subst hke
      rw [List.take_length] at hm
      rcases m with _ | ⟨z, m⟩
      all_goals
       (repeat' first | refine gx hg1 ?_ | (refine eg ?_; conv => whnf) | refine an ?_ ?_ | (refine iw ?_; intro rx hrx) | exact lf | intro _)
       all_goals (try (exfalso; omega))
       all_goals try exact vy
       all_goals (try (refine ⟨?_⟩; first | exact encEnts_clo _ | exact encPcls_clo _))
       exact ⟨_, _, rfl, by first | exact .inr ⟨by rw [← hl]; rfl, rfl⟩ | exact .inl (by rw [← hl]), by first | exact .inr ⟨by rw [← hm]; rfl, rfl⟩ | exact .inl (by rw [← hm])⟩
   ·(repeat' first | refine gx hg1 ?_ | (refine eg ?_; conv => whnf) | refine an ?_ ?_ | (refine iw ?_; intro rx hrx) | exact lf | intro _)
    all_goals (try (exfalso; omega))
    all_goals try exact vy
    refine TWq.loopP (fun p : Nat × List Ent => [(6, .int .i64 p.1)]) (fun p => [(2, .cells [.int .i64 b.last, .int .i64 b.owners, .own 3, ownE 4 p.2]), (4, arrE p.2)]) (fun p => p.1 ≤ b.ents.length ∧ p.2 = b.ents.take p.1) (fun p => b.ents.length - p.1) (0, []) [] ?_ ⟨by omega, by simp⟩ ?_
    ·(repeat' first | refine gx hg1 ?_ | (refine eg ?_; conv => whnf) | refine an ?_ ?_ | (refine iw ?_; intro rx hrx) | exact lf | intro _)
     all_goals try exact vy
     all_goals (try exact ⟨encPcls_clo _⟩)
    ·rintro ⟨k, m⟩ ⟨hk, hm⟩
     dsimp only at hk hm ⊢
     have hmlen : m.length = k := by rw [hm]; simp; omega
     rcases Nat.lt_or_ge k b.ents.length with hkl | hkl
     ·obtain ⟨v, hv⟩ : ∃ v, b.ents[k]? = some v := ⟨_, List.getElem?_eq_getElem hkl⟩
      have hg1 : ∀ {n : Nat} {x : SV}, n = k → (encEnts b.ents)[n]? = some x → x = encEnt v := by
       rintro n x rfl he
       obtain ⟨y, hy, rfl⟩ := encEnts_at he
       rw [hv] at hy; cases hy; rfl
      have d1 := c110 v.day
      rcases m with _ | ⟨z, m⟩
      all_goals
       simp only [List.length_cons, List.length_nil] at hmlen
       (repeat' first | refine gx hg1 ?_ | (refine eg ?_; conv => whnf) | refine an ?_ ?_ | (refine iw ?_; intro rx hrx) | exact lf | intro _)
       all_goals (try (exfalso; omega))
       all_goals try exact vz
       refine TDq.pureC d1 (by simp [cloL, clo, encR]) rfl (And.intro rfl rfl) ?_
       (repeat' first | refine gx hg1 ?_ | (refine eg ?_; conv => whnf) | refine an ?_ ?_ | (refine iw ?_; intro rx hrx) | exact lf | intro _)
       all_goals try exact vz
       all_goals (try (refine ⟨?_⟩; simp [encEnts_len, catS, repl, chunks] <;> omega))
       refine ⟨⟨[(4, 7)], (k + 1, _ ++ [v]), ⟨by dsimp only; omega, by rw [take_snoc hv, ← hm]⟩, by dsimp only; omega, ?_⟩⟩
       (repeat' first | refine gx hg1 ?_ | (refine eg ?_; conv => whnf) | refine an ?_ ?_ | (refine iw ?_; intro rx hrx) | exact lf | intro _)
       all_goals try exact vy
       all_goals (refine ⟨?_⟩; first | exact encEnts_clo _ | exact encPcls_clo _ | (simp [encEnts, encEnt, catS, repl, chunks]; done))
     ·have hke : k = b.ents.length := by omega
      subst hke
      rw [List.take_length] at hm
      rcases m with _ | ⟨z, m⟩
      all_goals
       (repeat' first | refine gx hg1 ?_ | (refine eg ?_; conv => whnf) | refine an ?_ ?_ | (refine iw ?_; intro rx hrx) | exact lf | intro _)
       all_goals (try (exfalso; omega))
       all_goals try exact vy
       all_goals (try (refine ⟨?_⟩; first | exact encEnts_clo _ | exact encPcls_clo _))
       exact ⟨_, _, rfl, by first | exact .inr ⟨by rw [← hl]; rfl, rfl⟩ | exact .inl (by rw [← hl]), by first | exact .inr ⟨by rw [← hm]; rfl, rfl⟩ | exact .inl (by rw [← hm])⟩
end Go.Proofs.YtjadiajfbflghaaGreat
namespace Go.TV
open Go.RowKit
def subALK (b sz : Nat) (es : List SV) : List SV → (List SV → Prop) → Prop
 | [], k => k []
 | s :: ss, k => forceK (subA b sz es s) fun s' => subALK b sz es ss fun l => k (s' :: l)
theorem subALK_eq {b sz : Nat} {es : List SV} : ∀ {xs : List SV} {k : List SV → Prop}, subALK b sz es xs k → k (subAL b sz es xs)
 | [], _, h => h
 | s :: ss, k, h => subALK_eq (xs := ss) (k := fun l => k (subA b sz es s :: l)) (forceK_iff.1 h)
def deepG (b sz : Nat) (es : List SV) (s : SV) (k : SV → Prop) : Prop :=
 match s with
 | .agg cs => subALK b sz es cs fun l => k (.agg l)
 | .tup cs => subALK b sz es cs fun l => k (.tup l)
 | s => forceK (subT b sz es s) k
theorem deepG_eq {b sz : Nat} {es : List SV} {s : SV} {k : SV → Prop} (h : deepG b sz es s k) : k (subT b sz es s) := by
 unfold deepG at h
 split at h
 ·exact subALK_eq (k := fun l => k (.agg l)) h
 ·exact subALK_eq (k := fun l => k (.tup l)) h
 ·exact forceK_iff.1 h
def subTKD (b sz : Nat) (es : List SV) : List SV → (List SV → Prop) → Prop
 | [], k => k []
 | s :: ss, k => forceK s fun s0 => deepG b sz es s0 fun s' => subTKD b sz es ss fun l => k (s' :: l)
theorem subTKD_eq {b sz : Nat} {es : List SV} : ∀ {σ : List SV} {k : List SV → Prop}, subTKD b sz es σ k → k (σ.map (subT b sz es))
 | [], _, h => h
 | s :: ss, k, h => subTKD_eq (σ := ss) (k := fun l => k (subT b sz es s :: l)) (deepG_eq (forceK_iff.1 h))
def subH2 (b sz : Nat) (es : List SV) : LB → LB
 | .cells cs => .cells (subAL b sz es cs)
 | .arr e s xs => .arr e s (xs.map (subT b sz es))
 | lb => lb
def subHG2 (b sz : Nat) (es : List SV) (x : LB) (k : LB → Prop) : Prop :=
 match x with
 | .cells cs => subALK b sz es cs fun l => k (.cells l)
 | .arr e s xs => subTKD b sz es xs fun l => k (.arr e s l)
 | x => k x
theorem subHG2_eq {b sz : Nat} {es : List SV} {x : LB} {k : LB → Prop} (h : subHG2 b sz es x k) : k (subH2 b sz es x) := by
 cases x with
 | cells cs => exact subALK_eq (k := fun l => k (.cells l)) h
 | arr e s xs => exact subTKD_eq (k := fun l => k (.arr e s l)) h
 | _ => exact h
def subHKD2 (b sz : Nat) (es : List SV) : List LB → (List LB → Prop) → Prop
 | [], k => k []
 | x :: xs, k => subHG2 b sz es x fun x' => subHKD2 b sz es xs fun l => k (x' :: l)
theorem subHKD2_eq {b sz : Nat} {es : List SV} : ∀ {xs : List LB} {k : List LB → Prop}, subHKD2 b sz es xs k → k (xs.map (subH2 b sz es))
 | [], _, h => h
 | x :: xs, k, h => subHKD2_eq (xs := xs) (k := fun l => k (subH2 b sz es x :: l)) (subHG2_eq h)
def pubB2 (b : Nat) (S : St) (k : St → Prop) : Prop :=
 match hget S.h b with
 | .arr _ sz es => Vc (cloL es) ∧ Ev (subTKD b sz es S.σ fun σ' => subHKD2 b sz es S.h fun h1 => updGo h1 b .dead fun h' => k ⟨σ', h', S.mks⟩)
 | _ => False
section
variable {P : Program} {r : Fr}
theorem pubB2_spec {b B : Nat} {S : St} {k : St → Prop} (h : pubB2 b S k) : ∃ S', k S' ∧ Wk P B S S' := by
 unfold pubB2 at h
 split at h
 ·rename_i e sz es he
  obtain ⟨⟨hc⟩, h⟩ := h
  have h := updGo_spec (subHKD2_eq (subTKD_eq h.at))
  obtain ⟨h', h1, h2, h3, h4, h5⟩ := h
  refine ⟨_, h1, fun g a w hs => ?_⟩
  have hbb := hs.hp b
  rw [he] at hbb
  obtain ⟨l, hl⟩ : ∃ l, g.ι b = some l := ⟨_, hbb.choose_spec.choose_spec.1⟩
  have hblt : b < S.h.length := hs.lt b (hs.ok.own b l hl).1
  have bk : Bk P g S.h w := ⟨hs.ok, hs.lt, hs.hp⟩
  obtain ⟨r2, r3⟩ := pub_book (h' := S.h.set b .dead) bk hl (by simp) (by rw [hget_setD b hblt]; simp) (fun c hc => by rw [hget_setD c hblt]; simp [hc])
   (bk.nodep (fun es e => by rw [he] at e; cases e) (fun e => by rw [he] at e; cases e) (fun _ e => by rw [he] at e; cases e) (fun _ _ _ e => by rw [he] at e; cases e))
  have hsl : ∀ v, den w (g.pub b l.blk).imm (.own b) g.dom g.ι v → den w (g.pub b l.blk).imm (.sl sz es) g.dom g.ι v := fun v hv => by
   simp only [den] at hv
   exact clo_den _ (by simp only [clo]) (sl_of_own (imm := (g.pub b l.blk).imm) hl hbb hc (v := v) (by simp only [Gh.den, den]; exact hv) (fun r hr => .inl hr) (.inr rfl))
  have himm : ∀ r, g.imm r → (g.pub b l.blk).imm r := fun r hr => .inl hr
  have hι : ∀ c l', g.dom c → (g.pub b l.blk).ι c = some l' → g.ι c = some l' := fun c l' _ hc => by
   simp only [Gh.pub] at hc
   split at hc
   ·cases hc
   ·exact hc
  refine ⟨g.pub b l.blk, ⟨r2.ok, fun c hc' => ?_, ?_, fun c => ?_, r3.df hs.df⟩, r3.exw B⟩
  ·have := r2.lt c hc'
   simp at this h2
   simp only; omega
  ·exact denL.mono (fun _ h => h) (fun _ _ => rfl) _ (fun _ h => h) hι (map_denL (subT_den hsl) (denL_imm himm hs.tm))
  ·simp only
   by_cases hcb : c = b
   ·subst hcb; rw [h4]; trivial
   ·rw [h5 c hcb, hget_map rfl]
    have := r2.hp c
    rw [hget_setD c hblt, if_neg hcb] at this
    cases hg : hget S.h c <;> rw [hg] at this <;> try exact this
    ·rename_i cs
     have hcc := hs.hp c
     rw [hg] at hcc
     obtain ⟨l', vs, t, q1, q2, q3⟩ := hcc
     refine ⟨l', vs, t, by simp [Gh.pub, hcb, q1], q2, ?_⟩
     exact denL.mono (fun _ h => h) (fun _ _ => rfl) _ (fun _ h => h) hι (subAL_den hsl (denL_imm himm q3))
    ·rename_i e1 s1 xs
     have hcc := hs.hp c
     rw [hg] at hcc
     obtain ⟨l', vs, q1, q2, q3, q4, q5⟩ := hcc
     refine ⟨l', vs, by simp [Gh.pub, hcb, q1], by simpa using q2, ?_, q4, q5⟩
     exact denL.mono (fun _ h => h) (fun _ _ => rfl) _ (fun _ h => h) hι (map_denL (subT_den hsl) (denL_imm himm q3))
 ·exact h.elim
theorem TSq.pub2 (b : Nat) {ts : List TOper} {S : St} {K : St → Prop} (h : Ev (pubB2 b S fun S' => evR P r ts S' K)) : TSq P r ts S K := by
 obtain ⟨S', h1, h2⟩ := pubB2_spec h.at
 exact TSq.wk h2 (TSq_iff.2 (evR_sound h1))
end
end Go.TV
open Go Go.TV
namespace Go.Proofs.YtjadiajfbflghaaGreat
def encO (x : Int × Int) : SV := .agg [.int .i64 x.1, .int .i64 x.2]
def encOM (m : List (Int × Int)) : List (SV × SV) := m.map fun x => (encO x, .bool true)
def encOuts (l : List (List (Int × Int))) : List SV := l.map fun m => .imap (encOM m)
theorem encOuts_len (l : List (List (Int × Int))) : (encOuts l).length = l.length := List.length_map _
theorem encOM_clo (m : List (Int × Int)) : cloM (encOM m) := by
 intro e he
 obtain ⟨x, _, rfl⟩ := List.mem_map.1 he
 simp [encO, clo, cloL]
theorem encOuts_clo (l : List (List (Int × Int))) : cloL (encOuts l) := by
 rw [cloL_iff]; intro s hs; obtain ⟨x, _, rfl⟩ := List.mem_map.1 hs; simp only [clo]
theorem shOM (m : List (Int × Int)) : ∀ e ∈ encOM m, shOK (.st [(0, 1, false, .int .i64), (1, 1, false, .int .i64)]) e.1 := by
 intro e he
 obtain ⟨x, _, rfl⟩ := List.mem_map.1 he
 exact shS _ _
theorem encO_inj {x y : Int × Int} (h : encO x = encO y) : x = y := encS_inj h
theorem encOM_nodup {m : List (Int × Int)} (h : m.Nodup) : ((encOM m).map (·.1)).Nodup := by
 have e : (encOM m).map (·.1) = m.map encO := by simp [encOM]
 rw [e]
 exact List.Pairwise.map _ (fun a b hab e => hab (encO_inj e)) h
theorem encOM_split {m : List (Int × Int)} {pre post : List (SV × SV)} {k v : SV} (h : encOM m = pre ++ (k, v) :: post) : ∃ a x b, m = a ++ x :: b ∧ pre = encOM a ∧ k = encO x ∧ v = .bool true ∧ post = encOM b := by
 obtain ⟨a, c, rfl, rfl, h2⟩ := List.map_eq_append_iff.1 h
 obtain ⟨x, b, rfl, h3, rfl⟩ := List.map_eq_cons_iff.1 h2
 cases h3
 exact ⟨a, x, b, rfl, rfl, rfl, rfl, rfl⟩
def OutsOf (c : Cas) (f : Fld) (m : List (Int × Int)) : Prop := m.Nodup ∧ ∀ o, o ∈ m ↔ ∃ x ∈ truthsL f, o = outF c f x
def OutsAll (c : Cas) (n : Nat) (outs : List (List (Int × Int))) : Prop := outs.length = n ∧ ∀ (i : Nat) (f : Fld) (m : List (Int × Int)), i < n → c.flds[i]? = some f → outs[i]? = some m → OutsOf c f m
theorem OutsAll.snoc {c : Cas} {n : Nat} {outs : List (List (Int × Int))} (h : OutsAll c n outs) {f : Fld} (hf : c.flds[n]? = some f) {m : List (Int × Int)} (hm : OutsOf c f m) : OutsAll c (n + 1) (outs ++ [m]) := by
 refine ⟨by simp [h.1], fun i f' m' hi hf' hm' => ?_⟩
 rcases Nat.lt_or_ge i n with h1 | h1
 ·rw [List.getElem?_append_left (by rw [h.1]; exact h1)] at hm'
  exact h.2 i f' m' h1 hf' hm'
 ·have e : i = outs.length := by have := h.1; omega
  subst e
  have e2 : outs.length = n := h.1
  rw [e2, hf] at hf'
  cases hf'
  simp at hm'
  subst hm'
  exact hm
def encWk (c : Cas) (outs : List (List (Int × Int))) : SV := .iptr (.agg [.sl 6 (encTfs c.tfs), .int .i64 c.day, .int .i64 c.fee, .sl 9 (encFlds c.flds), match outs with | [] => .nils | _ :: _ => .sl 1 (encOuts outs)]) 0
def WorkQ (c : Cas) (s : SV) : Prop := ∃ outs, s = encWk c outs ∧ OutsAll c c.flds.length outs
theorem c119 (c : Cas) (h : OkC c) : PF Tryz.prog 119 [encCas c] (WorkQ c) := by
 obtain ⟨a, ha, _⟩ := first_of h
 have hz := encFlds_len c.flds
 have hfew := h.few
 refine PF.of (TF.ev fn_119 (Ev.at ?_))
 (repeat' first | refine gx hg1 ?_ | (refine eg ?_; conv => whnf) | refine an ?_ ?_ | (refine iw ?_; intro rx hrx) | exact lf | intro _)
 all_goals try exact vy
 refine TWq.loopP (fun p : Nat × List (List (Int × Int)) => [(21, .int .i64 p.1)])
  (fun p => [(1, .cells [.sl 6 (encTfs c.tfs), .int .i64 c.day, .int .i64 c.fee, .sl 9 (encFlds c.flds), match p.2 with | [] => .nils | _ :: _ => .own 3]), (3, match p.2 with | [] => .dead | _ :: _ => .arr 348 1 (encOuts p.2))])
  (fun p => p.1 ≤ c.flds.length ∧ OutsAll c p.1 p.2) (fun p => c.flds.length - p.1) (0, []) [] ?_ ⟨by omega, ⟨rfl, fun i _ _ hi => absurd hi (Nat.not_lt_zero i)⟩⟩ ?_
 ·(repeat' first | refine gx hg1 ?_ | (refine eg ?_; conv => whnf) | refine an ?_ ?_ | (refine iw ?_; intro rx hrx) | exact lf | intro _)
  all_goals try exact vy
 ·rintro ⟨k, l⟩ ⟨hk, hl⟩
  dsimp only at hk hl ⊢
  rcases Nat.lt_or_ge k c.flds.length with hkl | hkl
  ·obtain ⟨f, hf⟩ : ∃ v, c.flds[k]? = some v := ⟨_, List.getElem?_eq_getElem hkl⟩
   have hfm := List.mem_of_getElem? hf
   have o := h.flds a ha f hfm
   have hg1 : ∀ {n : Nat} {e : SV}, n = k → (encFlds c.flds)[n]? = some e → e = encFld f := by
    rintro n e rfl he
    obtain ⟨y, hy, rfl⟩ := encFlds_at he
    rw [hf] at hy; cases hy; rfl
   rcases l with _ | ⟨b, l⟩
   all_goals
    (repeat' first | refine gx hg1 ?_ | (refine eg ?_; conv => whnf) | refine an ?_ ?_ | (refine iw ?_; intro rx hrx) | exact lf | intro _)
    all_goals try exact vy
    refine TSq.pureC (c183 f) (by simp [cloL, encFld_clo]) rfl (And.intro rfl rfl) ?_
    (repeat' first | refine gx hg1 ?_ | (refine eg ?_; conv => whnf) | refine an ?_ ?_ | (refine iw ?_; intro rx hrx) | exact lf | intro _)
    all_goals try exact vy
    refine TWq.postM 5 ?_
    refine TWq.rng (α := List (Int × Int)) (β := Empty) true (truthsL f) (fun x => [encThr x]) (fun _ m => [(5, .map (encOM m))]) (fun j m => m.Nodup ∧ ∀ o, o ∈ m ↔ ∃ x ∈ (truthsL f).take j, o = outF c f x) [] (fun e => e.elim) (fun e => e.elim) (fun _ => False) [] [] [] rfl (it233 f o.fi o.se o.um) cl (by simp [cloL, clo, encFld_clo]) (fun _ => rfl) ⟨by simp, by simp⟩ ?_ ?_ ?_ ?_ ?_ ?_
    ·(repeat' first | refine gx hg1 ?_ | (refine eg ?_; conv => whnf) | refine an ?_ ?_ | (refine iw ?_; intro rx hrx) | exact lf | intro _)
     all_goals try exact vy
     all_goals (try (refine ⟨?_⟩; first | exact encOM_clo _ | exact encOuts_clo _))
    ·(repeat' first | refine gx hg1 ?_ | (refine eg ?_; conv => whnf) | refine an ?_ ?_ | (refine iw ?_; intro rx hrx) | exact lf | intro _)
     all_goals try exact vy
    ·intro _ _ _
     (repeat' first | refine gx hg1 ?_ | (refine eg ?_; conv => whnf) | refine an ?_ ?_ | (refine iw ?_; intro rx hrx) | exact lf | intro _)
    ·rintro j x m hx ⟨q1, q2⟩
     have hxm := truths_mem.1 (List.mem_of_getElem? hx)
     obtain ⟨⟨b1, b2, b3⟩, b4, b5, b6⟩ := out_ok h hfm hxm
     have d1 := c59 f x b1 b2 b3
     have d2 := c60 c f (settleF f x).1 a h.tfs ha o.crop o.value h.day b4
     (repeat' first | refine gx hg1 ?_ | (refine eg ?_; conv => whnf) | refine an ?_ ?_ | (refine iw ?_; intro rx hrx) | exact lf | intro _)
     all_goals try exact vy
     refine TSq.pureC d1 (by simp [cloL, encFld_clo, clo, encThr]) rfl (And.intro rfl rfl) ?_
     (repeat' first | refine gx hg1 ?_ | (refine eg ?_; conv => whnf) | refine an ?_ ?_ | (refine iw ?_; intro rx hrx) | exact lf | intro _)
     all_goals try exact vy
     refine TDq.pureC d2 (by simp [cloL, encFld_clo, encCas_clo, clo]) rfl (And.intro rfl rfl) ?_
     (repeat' first | refine gx hg1 ?_ | (refine eg ?_; conv => whnf) | refine an ?_ ?_ | (refine iw ?_; intro rx hrx) | exact lf | intro _)
     all_goals try exact vz
     all_goals (first | exact ⟨shS _ _⟩ | exact ⟨shOM _⟩ | skip)
     have hts : ∀ o, (∃ x ∈ (truthsL f).take (j + 1), o = outF c f x) ↔ (∃ x ∈ (truthsL f).take j, o = outF c f x) ∨ o = outF c f x := fun o => by
      rw [take_snoc hx]
      constructor
      ·rintro ⟨y, hy, rfl⟩
       rcases List.mem_append.1 hy with h1 | h1
       ·exact .inl ⟨y, h1, rfl⟩
       ·simp at h1; subst h1; exact .inr rfl
      ·rintro (⟨y, hy, rfl⟩ | rfl)
       ·exact ⟨y, List.mem_append_left _ hy, rfl⟩
       ·exact ⟨x, by simp, rfl⟩
     refine upd_cases (encOM_nodup q1) ?_ ?_
     ·intro pre v0 post he
      obtain ⟨a', x', b', hm', rfl, hx', rfl, rfl⟩ := encOM_split he
      have hx' : outF c f x = x' := encO_inj hx'
      (repeat' first | refine gx hg1 ?_ | (refine eg ?_; conv => whnf) | refine an ?_ ?_ | (refine iw ?_; intro rx hrx) | exact lf | intro _)
      all_goals try exact vy
      refine ⟨⟨m, ⟨q1, fun o => ?_⟩, ?_⟩⟩
      ·rw [hts, q2]
       constructor
       ·exact .inl
       ·rintro (h1 | rfl)
        ·exact h1
        ·rw [← q2, hm', hx']; simp
      ·(repeat' first | refine gx hg1 ?_ | (refine eg ?_; conv => whnf) | refine an ?_ ?_ | (refine iw ?_; intro rx hrx) | exact lf | intro _)
       all_goals try exact vy
       all_goals (try (refine ⟨?_⟩; first | exact encOM_clo _ | exact encOuts_clo _))
       all_goals (try (refine ⟨?_⟩; rw [hm']; simp only [encOM, List.map_append, List.map_cons, ← hx']; rfl))
     ·intro hno
      have hno' : ¬ outF c f x ∈ m := fun hm => hno _ (List.mem_map.2 ⟨_, hm, rfl⟩) rfl
      (repeat' first | refine gx hg1 ?_ | (refine eg ?_; conv => whnf) | refine an ?_ ?_ | (refine iw ?_; intro rx hrx) | exact lf | intro _)
      all_goals try exact vy
      refine ⟨⟨m ++ [outF c f x], ⟨?_, fun o => ?_⟩, ?_⟩⟩
      ·rw [List.nodup_append]
       exact ⟨q1, by simp, fun p hp q hq e => by simp at hq; subst hq; subst e; exact hno' hp⟩
      ·rw [hts, List.mem_append, q2]; simp
      ·(repeat' first | refine gx hg1 ?_ | (refine eg ?_; conv => whnf) | refine an ?_ ?_ | (refine iw ?_; intro rx hrx) | exact lf | intro _)
       all_goals try exact vy
       all_goals (try (refine ⟨?_⟩; first | exact encOM_clo _ | exact encOuts_clo _))
       all_goals (try (refine ⟨?_⟩; simp only [encOM, List.map_append, List.map_cons, List.map_nil]; rfl))
    ·rintro m ⟨q1, q2⟩
     rw [List.take_length] at q2
     (repeat' first | refine gx hg1 ?_ | (refine eg ?_; conv => whnf) | refine an ?_ ?_ | (refine iw ?_; intro rx hrx) | exact lf | intro _)
     all_goals try exact vy
     all_goals (try (refine ⟨?_⟩; exact encOM_clo _))
     all_goals (try (refine ⟨?_⟩; simp [subMAL_len, encOuts_len, catS, repl]; have := hl.1; simp at this; omega))
     all_goals (refine ⟨⟨[(3, 9)], (k + 1, _ ++ [m]), ⟨by dsimp only; omega, hl.snoc hf ⟨q1, q2⟩⟩, by dsimp only; omega, ?_⟩⟩)
     (repeat' first | refine gx hg1 ?_ | (refine eg ?_; conv => whnf) | refine an ?_ ?_ | (refine iw ?_; intro rx hrx) | exact lf | intro _)
     all_goals try exact vy
     all_goals (try (refine ⟨?_⟩; first | exact encOuts_clo _ | (simp [encOuts, catS, repl, chunks]; done) | (rw [subMAL_keep _ (fun s hs n e => by obtain ⟨y, _, rfl⟩ := List.mem_map.1 hs; cases e)]; simp [encOuts, catS, repl, chunks]; done)))
    ·exact fun e => e.elim
  ·have hke : k = c.flds.length := by omega
   subst hke
   cases l with
   | nil =>
    (repeat' first | refine gx hg1 ?_ | (refine eg ?_; conv => whnf) | refine an ?_ ?_ | (refine iw ?_; intro rx hrx) | exact lf | intro _)
    all_goals try exact vy
    exact ⟨[], rfl, hl⟩
   | cons b l =>
    (repeat' first | refine gx hg1 ?_ | (refine eg ?_; conv => whnf) | refine an ?_ ?_ | (refine iw ?_; intro rx hrx) | exact lf | intro _)
    all_goals try exact vy
    all_goals (try (refine ⟨?_⟩; exact encOuts_clo _))
    exact ⟨b :: l, rfl, hl⟩
end Go.Proofs.YtjadiajfbflghaaGreat
