/- Parts of a need, and who is asked before a member. -/
import Derived.Test.YthnaamkempmjkaaKd
set_option linter.unusedSimpArgs false
set_option linter.unusedVariables false
open Go Go.TV
namespace Go.Proofs.Ythnaamkempmjkaa

/-- A member whose numbers are small. -/
def OkM (m : Mem) : Prop := (1 ≤ m.sum ∧ m.sum ≤ 1000) ∧ (1 ≤ m.cls ∧ m.cls ≤ 10) ∧ 0 ≤ m.most ∧ m.most ≤ 100000
theorem OkM.units {m : Mem} (h : OkM m) : 1 ≤ m.units ∧ m.units ≤ 10000 := by
  obtain ⟨h1, h2, _⟩ := h
  unfold Mem.units
  have a := Int.mul_le_mul (a := 1) (b := 1) (c := m.sum) (d := m.cls) (by omega) (by omega) (by omega) (by omega)
  have b := Int.mul_le_mul (a := m.sum) (b := m.cls) (c := 1000) (d := 10) (by omega) (by omega) (by omega) (by omega)
  omega
def encW (s : Soc) (f : Nat → Bool) (p : SV) : List SV := [.sl 3 (encYs s.members), .sl 2 (encRs s.losses), .int .i64 s.treaty.lo, .int .i64 s.treaty.hi, .int .i64 s.reserve, .bool (f 0), .bool (f 1), .bool (f 2), .bool (f 3), .bool (f 4), p]
theorem un_at {ms : List Mem} {i : Nat} {m : Mem} (h : ms[i]? = some m) : un ms i = m.units := by simp only [un, h]
theorem mst_at {ms : List Mem} {i : Nat} {m : Mem} (h : ms[i]? = some m) : mst ms i = m.most := by simp only [mst, h]
/-- The numbers of a part. -/
theorem part_ok {need U u : Int} (hn : 0 ≤ need ∧ need ≤ 300000) (hu : 1 ≤ u ∧ u ≤ 10000) (hU : 1 ≤ U ∧ U ≤ 50000) : (0 ≤ need * u ∧ need * u ≤ 3000000000) ∧ (need * u).tdiv U = need * u / U ∧ (need * u).tmod U = need * u % U ∧ (0 ≤ need * u / U ∧ need * u / U ≤ 3000000000) ∧ 0 ≤ need * u % U ∧ need * u % U < U := by
  have a : 0 ≤ need * u := Int.mul_nonneg hn.1 (by omega)
  have b := Int.mul_le_mul (a := need) (b := u) (c := 300000) (d := 10000) (by omega) (by omega) (by omega) (by omega)
  have hq : need * u / U ≤ need * u := Int.ediv_le_self _ a
  refine ⟨⟨a, by omega⟩, Int.tdiv_eq_ediv_of_nonneg a, Int.tmod_eq_emod_of_nonneg a, ⟨Int.ediv_nonneg a (by omega), by omega⟩, Int.emod_nonneg _ (by omega), Int.emod_lt_of_pos _ (by omega)⟩

set_option maxRecDepth 100000 in
theorem c99 (s : Soc) (f : Nat → Bool) (es : List ((Int × Int) × Int)) (i : Nat) (m : Mem) (need U : Int) (hm : s.members[i]? = some m) (ho : OkM m) (hn : 0 ≤ need ∧ need ≤ 300000) (hU : 1 ≤ U ∧ U ≤ 50000) :
    PF Try.prog 99 [.iptr (.agg (encW s f (.imap (encM es)))) 0, .int .i64 i, .int .i64 need, .int .i64 U] (· = encS (quo s.members need U i, rst s.members need U i)) := by
  have hz := encYs_len s.members
  have hi : i < s.members.length := (List.getElem?_eq_some_iff.1 hm).1
  obtain ⟨a1, a2, a3, a4, a5, a6⟩ := part_ok (u := m.units) hn ho.units hU
  have hg1 : ∀ {n : Nat} {e : SV}, n = i → (encYs s.members)[n]? = some e → e = encY m := by
    rintro n e rfl he
    obtain ⟨x, hx, rfl⟩ := encYs_at he
    rw [hm] at hx; cases hx; rfl
  have hq : quo s.members need U i = need * m.units / U := by rw [quo, un_at hm]
  have hr : rst s.members need U i = need * m.units % U := by rw [rst, un_at hm]
  have ho1 := ho.1
  have ho2 := ho.2.1
  refine PF.of (TF.ev fn_99 (Ev.at ?_))
  (repeat' (first | (intro ex hex; have hq := hg1 (by omega) hex; subst hq; clear hex) | (refine Ev.go ?_; conv => whnf) | refine And.intro ?_ ?_ | exact True.intro | exact rfl | (intro rx hrx; rw [IntWalk.i64_in _ (by omega)] at hrx) | (intro hcx; exfalso; omega) | intro _))
  all_goals (first | (refine ⟨?_⟩; exact vc) | exact cl | skip)
  refine TSq.pureC (c82 m (by omega) (by omega)) cl rfl (And.intro rfl rfl) ?_
  (repeat' (first | (intro ex hex; have hq := hg1 (by omega) hex; subst hq; clear hex) | (refine Ev.go ?_; conv => whnf) | refine And.intro ?_ ?_ | exact True.intro | exact rfl | (intro rx hrx; rw [IntWalk.i64_in _ (by omega)] at hrx) | (intro hcx; exfalso; omega) | intro _))
  all_goals (first | (refine ⟨?_⟩; exact vc) | exact cl | skip)
  rename_i q0 h0 q1 h1
  subst hrx
  rw [a2, IntWalk.i64_in _ (by omega)] at h0
  rw [a3] at h1
  rw [hq, hr, h0, h1]; rfl

/-- How many of some parts have a greater rest. -/
def totG : List ((Int × Int) × Int) → Int → Int
  | [], _ => 0
  | e :: es, x => (if x < e.1.2 then e.2 else 0) + totG es x
theorem totG_append : ∀ (a b : List ((Int × Int) × Int)) (x : Int), totG (a ++ b) x = totG a x + totG b x
  | [], b, x => by simp [totG]
  | e :: a, b, x => by simp only [List.cons_append, totG, totG_append a b x]; omega
theorem totG_nn : ∀ {es : List ((Int × Int) × Int)} (x : Int), (∀ e ∈ es, 0 ≤ e.2) → 0 ≤ totG es x
  | [], _, _ => by simp [totG]
  | e :: es, x, h => by
    have h1 := totG_nn (es := es) x fun e he => h e (List.mem_cons_of_mem _ he)
    have h2 := h e (List.mem_cons_self ..)
    simp only [totG]
    split <;> omega
theorem cntF_le (p : Nat → Bool) : ∀ n, 0 ≤ cntF p n ∧ cntF p n ≤ n
  | 0 => by simp [cntF]
  | n + 1 => by
    have := cntF_le p n
    simp only [cntF]
    split <;> omega
theorem encW_at {s : Soc} {f : Nat → Bool} {p : SV} {k : Nat} (h : k < 5) : (encW s f p)[5 + k]? = some (.bool (f k)) := by
  have : k = 0 ∨ k = 1 ∨ k = 2 ∨ k = 3 ∨ k = 4 := by omega
  rcases this with rfl | rfl | rfl | rfl | rfl <;> rfl

set_option maxHeartbeats 4000000 in
set_option maxRecDepth 100000 in
theorem c100 (s : Soc) (f : Nat → Bool) (es : List ((Int × Int) × Int)) (i : Nat) (need U : Int) (hm : ∀ m ∈ s.members, OkM m) (hl : s.members.length ≤ 5) (hi : i < s.members.length) (hn : 0 ≤ need ∧ need ≤ 300000) (hU : 1 ≤ U ∧ U ≤ 50000)
    (he : ∀ e ∈ es, 0 ≤ e.2) (hT : ∀ x, totG es x = cntF (fun k => f k && decide (x < rst s.members need U k)) s.members.length) :
    PF Try.prog 100 [.iptr (.agg (encW s f (.imap (encM es)))) 0, .int .i64 i, .int .i64 need, .int .i64 U] (· = .int .i64 (beforeF s.members f need U i)) := by
  have hz := encYs_len s.members
  obtain ⟨mi, hmi⟩ : ∃ m, s.members[i]? = some m := ⟨_, List.getElem?_eq_getElem hi⟩
  have d := fun (k : Nat) (m : Mem) (h : s.members[k]? = some m) => c99 s f es k m need U h (hm m (List.mem_of_getElem? h)) hn hU
  refine PF.of (TF.ev fn_100 (Ev.at ?_))
  (repeat' (first | (refine Ev.go ?_; conv => whnf) | refine And.intro ?_ ?_ | exact True.intro | exact rfl | (intro rx hrx; rw [IntWalk.i64_in _ (by omega)] at hrx) | (intro hcx; exfalso; omega) | intro _))
  all_goals (first | (refine ⟨?_⟩; exact vc) | exact cl | skip)
  refine TSq.pureC (d i mi hmi) (by simp [cloL, clo, encW, encYs_clo, encRs_clo, encM_clo]) rfl (And.intro rfl rfl) ?_
  (repeat' (first | (refine Ev.go ?_; conv => whnf) | refine And.intro ?_ ?_ | exact True.intro | exact rfl | (intro rx hrx; rw [IntWalk.i64_in _ (by omega)] at hrx) | (intro hcx; exfalso; omega) | intro _))
  all_goals (first | (refine ⟨?_⟩; exact vc) | exact cl | skip)
  have hTi := hT (rst s.members need U i)
  have hc1 := cntF_le (fun k => f k && decide (rst s.members need U i < rst s.members need U k)) s.members.length
  generalize hown : rst s.members need U i = own at *
  refine TWq.loop (fun p : List ((Int × Int) × Int) × Int => [(10, .int .i64 p.2), (11, .junk), (12, .junk)]) (fun p => [(1, .iter (.imap (encM es)) (encM p.1) none)])
    (fun p => (0 ≤ p.2 ∧ p.2 + totG p.1 own = totG es own) ∧ ∀ e ∈ p.1, 0 ≤ e.2) (fun p => p.1.length) (es, 0) [] [] ?_ ⟨⟨by dsimp only; omega, by dsimp only; omega⟩, he⟩ ?_
  · (repeat' (first | (refine Ev.go ?_; conv => whnf) | refine And.intro ?_ ?_ | exact True.intro | exact rfl | (intro rx hrx; rw [IntWalk.i64_in _ (by omega)] at hrx) | (intro hcx; exfalso; omega) | intro _))
    all_goals (first | (refine ⟨?_⟩; exact vc) | exact cl | skip)
  · rintro ⟨left, acc⟩ ⟨⟨hp1, hp2⟩, hp3⟩
    dsimp only at hp1 hp2 hp3 ⊢
    (repeat' (first | (refine Ev.go ?_; conv => whnf) | refine And.intro ?_ ?_ | exact True.intro | exact rfl | (intro rx hrx; rw [IntWalk.i64_in _ (by omega)] at hrx) | (intro hcx; exfalso; omega) | intro _))
    refine TSq.next rfl rfl rfl rfl ?_ ?_
    · intro hleft
      have hleft : left = [] := List.map_eq_nil_iff.1 hleft
      subst hleft
      simp only [totG] at hp2
      have hacc : acc = totG es own := by omega
      subst hacc
      (repeat' (first | (refine Ev.go ?_; conv => whnf) | refine And.intro ?_ ?_ | exact True.intro | exact rfl | (intro rx hrx; rw [IntWalk.i64_in _ (by omega)] at hrx) | (intro hcx; exfalso; omega) | intro _))
      all_goals (first | (refine ⟨?_⟩; exact vc) | exact cl | skip)
      have hc2 := fun k => cntF_le (fun k => f k && decide (rst s.members need U k = own)) k
      refine TWq.loop (fun k : Nat => [(10, .int .i64 (totG es own + cntF (fun k => f k && decide (rst s.members need U k = own)) k)), (38, .int .i64 k), (13, .junk)]) (fun _ => [])
        (fun k => k ≤ i) (fun k => i - k) 0 [] [] ?_ (by omega) ?_
      · (repeat' (first | (refine Ev.go ?_; conv => whnf) | refine And.intro ?_ ?_ | exact True.intro | exact rfl | (intro rx hrx; rw [IntWalk.i64_in _ (by omega)] at hrx) | (intro hcx; exfalso; omega) | intro _))
        all_goals (first | (refine ⟨?_⟩; exact vc) | exact cl | skip)
        all_goals (refine ⟨?_⟩; simp [cntF])
      · intro k hk
        have hck := hc2 k
        have hck1 := hc2 (k + 1)
        have hcs : cntF (fun k => f k && decide (rst s.members need U k = own)) (k + 1) = cntF (fun k => f k && decide (rst s.members need U k = own)) k + (if (f k && decide (rst s.members need U k = own)) = true then 1 else 0) := rfl
        rcases Nat.lt_or_ge k i with hki | hki
        · obtain ⟨mk, hmk⟩ : ∃ m, s.members[k]? = some m := ⟨_, List.getElem?_eq_getElem (by omega)⟩
          have dk := d k mk hmk
          have hat : (encW s f (.imap (encM es)))[0 + 5 + (k : Int).toNat * 1]? = some (.bool (f k)) := by
            rw [show 0 + 5 + (k : Int).toNat * 1 = 5 + k by simp]; exact encW_at (by omega)
          cases hf : f k
          · rw [hf] at hcs hat
            simp only [Bool.false_and, Bool.false_eq_true, if_false] at hcs
            (repeat' (first | (refine Ev.go ?_; conv => whnf) | refine And.intro ?_ ?_ | exact True.intro | exact rfl | (intro rx hrx; rw [IntWalk.i64_in _ (by omega)] at hrx) | (intro hcx; exfalso; omega) | intro _))
            all_goals (first | (refine ⟨?_⟩; exact vc) | exact cl | skip)
            refine getK_of hat ?_
            (repeat' (first | (refine Ev.go ?_; conv => whnf) | refine And.intro ?_ ?_ | exact True.intro | exact rfl | (intro rx hrx; rw [IntWalk.i64_in _ (by omega)] at hrx) | (intro hcx; exfalso; omega) | intro _))
            all_goals (first | (refine ⟨?_⟩; exact vk) | exact cl | skip)
            refine ⟨⟨k + 1, by omega, by omega, ?_⟩⟩
            (repeat' (first | (refine Ev.go ?_; conv => whnf) | refine And.intro ?_ ?_ | exact True.intro | exact rfl | (intro rx hrx; rw [IntWalk.i64_in _ (by omega)] at hrx) | (intro hcx; exfalso; omega) | intro _))
            all_goals (first | (refine ⟨?_⟩; exact vc) | exact cl | skip)
            all_goals (refine ⟨?_⟩; rw [hcs]; simp)
          · rw [hf] at hcs hat
            by_cases he : rst s.members need U k = own
            · simp only [he, decide_true, Bool.and_self, if_true] at hcs
              (repeat' (first | (refine Ev.go ?_; conv => whnf) | refine And.intro ?_ ?_ | exact True.intro | exact rfl | (intro rx hrx; rw [IntWalk.i64_in _ (by omega)] at hrx) | (intro hcx; exfalso; omega) | intro _))
              all_goals (first | (refine ⟨?_⟩; exact vc) | exact cl | skip)
              refine getK_of hat ?_
              (repeat' (first | (refine Ev.go ?_; conv => whnf) | refine And.intro ?_ ?_ | exact True.intro | exact rfl | (intro rx hrx; rw [IntWalk.i64_in _ (by omega)] at hrx) | (intro hcx; exfalso; omega) | intro _))
              refine TDq.pureC dk (by simp [cloL, clo, encW, encYs_clo, encRs_clo, encM_clo]) rfl (And.intro rfl rfl) ?_
              (repeat' (first | (refine Ev.go ?_; conv => whnf) | refine And.intro ?_ ?_ | exact True.intro | exact rfl | (intro rx hrx; rw [IntWalk.i64_in _ (by omega)] at hrx) | (intro hcx; exfalso; omega) | intro _))
              all_goals (first | (refine ⟨?_⟩; exact vk) | exact cl | skip)
              all_goals (try (exfalso; omega))
              refine ⟨⟨k + 1, by omega, by omega, ?_⟩⟩
              (repeat' (first | (refine Ev.go ?_; conv => whnf) | refine And.intro ?_ ?_ | exact True.intro | exact rfl | (intro rx hrx; rw [IntWalk.i64_in _ (by omega)] at hrx) | (intro hcx; exfalso; omega) | intro _))
              all_goals (first | (refine ⟨?_⟩; exact vc) | exact cl | skip)
              all_goals (refine ⟨?_⟩; rw [hcs]; omega)
            · simp only [he, decide_false, Bool.and_false, Bool.false_eq_true, if_false] at hcs
              (repeat' (first | (refine Ev.go ?_; conv => whnf) | refine And.intro ?_ ?_ | exact True.intro | exact rfl | (intro rx hrx; rw [IntWalk.i64_in _ (by omega)] at hrx) | (intro hcx; exfalso; omega) | intro _))
              all_goals (first | (refine ⟨?_⟩; exact vc) | exact cl | skip)
              refine getK_of hat ?_
              (repeat' (first | (refine Ev.go ?_; conv => whnf) | refine And.intro ?_ ?_ | exact True.intro | exact rfl | (intro rx hrx; rw [IntWalk.i64_in _ (by omega)] at hrx) | (intro hcx; exfalso; omega) | intro _))
              refine TDq.pureC dk (by simp [cloL, clo, encW, encYs_clo, encRs_clo, encM_clo]) rfl (And.intro rfl rfl) ?_
              (repeat' (first | (refine Ev.go ?_; conv => whnf) | refine And.intro ?_ ?_ | exact True.intro | exact rfl | (intro rx hrx; rw [IntWalk.i64_in _ (by omega)] at hrx) | (intro hcx; exfalso; omega) | intro _))
              all_goals (first | (refine ⟨?_⟩; exact vk) | exact cl | skip)
              all_goals (try (exfalso; omega))
              refine ⟨⟨k + 1, by omega, by omega, ?_⟩⟩
              (repeat' (first | (refine Ev.go ?_; conv => whnf) | refine And.intro ?_ ?_ | exact True.intro | exact rfl | (intro rx hrx; rw [IntWalk.i64_in _ (by omega)] at hrx) | (intro hcx; exfalso; omega) | intro _))
              all_goals (first | (refine ⟨?_⟩; exact vc) | exact cl | skip)
              all_goals (refine ⟨?_⟩; rw [hcs]; omega)
        · have hke : k = i := by omega
          subst hke
          (repeat' (first | (refine Ev.go ?_; conv => whnf) | refine And.intro ?_ ?_ | exact True.intro | exact rfl | (intro rx hrx; rw [IntWalk.i64_in _ (by omega)] at hrx) | (intro hcx; exfalso; omega) | intro _))
          all_goals (first | (refine ⟨?_⟩; exact vc) | exact cl | skip)
          simp only [beforeF, hTi, hown]
    · intro pre sk sv post he'
      obtain ⟨la, x, lb, rfl, rfl, rfl, rfl, rfl⟩ := encM_split he'
      have hx0 := hp3 x (by simp)
      have hla := totG_nn own fun e h => hp3 e (List.mem_append_left _ h)
      have hlb := totG_nn (es := lb) own fun e h => hp3 e (by simp [h])
      rw [totG_append] at hp2
      simp only [totG] at hp2
      have hrest : ∀ e ∈ la ++ lb, 0 ≤ e.2 := fun e h => hp3 e (by
        rcases List.mem_append.1 h with h | h
        · simp [h]
        · simp [h])
      by_cases hlt : own < x.1.2
      · rw [if_pos hlt] at hp2
        (repeat' (first | (refine Ev.go ?_; conv => whnf) | refine And.intro ?_ ?_ | exact True.intro | exact rfl | (intro rx hrx; rw [IntWalk.i64_in _ (by omega)] at hrx) | (intro hcx; exfalso; omega) | intro _))
        all_goals (first | (refine ⟨?_⟩; exact vc) | exact cl | skip)
        refine ⟨⟨(la ++ lb, acc + x.2), ⟨⟨by dsimp only; omega, by dsimp only; rw [totG_append]; omega⟩, hrest⟩, by simp, ?_⟩⟩
        (repeat' (first | (refine Ev.go ?_; conv => whnf) | refine And.intro ?_ ?_ | exact True.intro | exact rfl | (intro rx hrx; rw [IntWalk.i64_in _ (by omega)] at hrx) | (intro hcx; exfalso; omega) | intro _))
        all_goals (first | (refine ⟨?_⟩; exact vc) | exact cl | skip)
        all_goals (refine ⟨?_⟩; simp [encM])
      · rw [if_neg hlt] at hp2
        (repeat' (first | (refine Ev.go ?_; conv => whnf) | refine And.intro ?_ ?_ | exact True.intro | exact rfl | (intro rx hrx; rw [IntWalk.i64_in _ (by omega)] at hrx) | (intro hcx; exfalso; omega) | intro _))
        all_goals (first | (refine ⟨?_⟩; exact vc) | exact cl | skip)
        refine ⟨⟨(la ++ lb, acc), ⟨⟨by dsimp only; omega, by dsimp only; rw [totG_append]; omega⟩, hrest⟩, by simp, ?_⟩⟩
        (repeat' (first | (refine Ev.go ?_; conv => whnf) | refine And.intro ?_ ?_ | exact True.intro | exact rfl | (intro rx hrx; rw [IntWalk.i64_in _ (by omega)] at hrx) | (intro hcx; exfalso; omega) | intro _))
        all_goals (first | (refine ⟨?_⟩; exact vc) | exact cl | skip)
        all_goals (refine ⟨?_⟩; simp [encM])
end Go.Proofs.Ythnaamkempmjkaa
