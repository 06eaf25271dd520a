/- What is valid, as the document says; the laws' helpers. -/
import Derived.Test.YthnaamkempmjkaaKb
set_option linter.unusedSimpArgs false
set_option linter.unusedVariables false
open Go Go.TV
namespace Go.Proofs.Ythnaamkempmjkaa

def lexLt : List Int → List Int → Bool
  | a :: m, b :: n => if a = b then lexLt m n else decide (a < b)
  | [], _ :: _ => true
  | _, [] => false
theorem lexLt_irrefl : ∀ l, lexLt l l = false
  | [] => rfl
  | a :: l => by simp [lexLt, lexLt_irrefl l]
theorem lexLt_eq : ∀ {a b : List Int}, a.length = b.length → lexLt a b = false → lexLt b a = false → a = b
  | [], [], _, _, _ => rfl
  | [], _ :: _, h, _, _ => by simp at h
  | _ :: _, [], h, _, _ => by simp at h
  | a :: m, b :: n, h, h1, h2 => by
    simp only [lexLt] at h1 h2
    by_cases e : a = b
    · subst e
      simp only [if_true] at h1 h2
      rw [lexLt_eq (by simpa using h) h1 h2]
    · rw [if_neg e] at h1
      rw [if_neg (fun h => e h.symm)] at h2
      simp at h1 h2; omega
theorem lexLt_drop {a b : List Int} {k : Nat} {x y : Int} (h1 : a[k]? = some x) (h2 : b[k]? = some y) : lexLt (a.drop k) (b.drop k) = if x = y then lexLt (a.drop (k + 1)) (b.drop (k + 1)) else decide (x < y) := by
  obtain ⟨l1, e1⟩ := List.getElem?_eq_some_iff.1 h1
  obtain ⟨l2, e2⟩ := List.getElem?_eq_some_iff.1 h2
  rw [List.drop_eq_getElem_cons l1, List.drop_eq_getElem_cons l2, e1, e2]
  rfl
theorem lexLt_end {a b : List Int} {k : Nat} (h : k ≤ a.length ∧ k ≤ b.length) (h' : ¬ (k < a.length ∧ k < b.length)) : lexLt (a.drop k) (b.drop k) = decide ((a.length : Int) < b.length) := by
  by_cases ha : k < a.length
  · have hb : b.length = k := by omega
    rw [show b.drop k = [] from List.drop_eq_nil_of_le (by omega)]
    have : lexLt (a.drop k) [] = false := by cases a.drop k <;> rfl
    rw [this]; symm; simp; omega
  · have hk : a.length = k := by omega
    rw [show a.drop k = [] from List.drop_eq_nil_of_le (by omega)]
    by_cases hb : k < b.length
    · rw [List.drop_eq_getElem_cons hb]; simp [lexLt]; omega
    · rw [show b.drop k = [] from List.drop_eq_nil_of_le (by omega)]; simp [lexLt]; omega

set_option maxRecDepth 100000 in
theorem c66 (a b : List Int) (h1 : a.length ≤ 1000000) (h2 : b.length ≤ 1000000) : PF Try.prog 66 [.sl 1 (ints a), .sl 1 (ints b)] (· = .bool (lexLt a b)) := by
  have ha := ints_len a
  have hb := ints_len b
  refine PF.of (TF.ev fn_66 (Ev.at ?_))
  (repeat' (first | (refine Ev.go ?_; conv => whnf) | refine And.intro ?_ ?_ | exact True.intro | exact rfl | (intro rx hrx; rw [IntWalk.i64_in _ (by omega)] at hrx) | (intro hcx; exfalso; omega) | (intro hcx; exfalso; simp only [lz] at hcx; omega) | (intro ex hex; (first | obtain ⟨xx, hxx, rfl⟩ := ints_at hex | obtain ⟨xx, hxx, rfl⟩ := encYs_at hex | obtain ⟨xx, hxx, rfl⟩ := encRs_at hex); clear hex; try simp only [Int.toNat_natCast] at hxx) | intro _))
  refine TWq.loop (fun k : Nat => [(5, .int .i64 k)]) (fun _ => []) (fun k => k ≤ a.length ∧ k ≤ b.length ∧ lexLt a b = lexLt (a.drop k) (b.drop k)) (fun k => a.length - k) 0 [] [] ?_ ⟨by omega, by omega, rfl⟩ ?_
  · (repeat' (first | (refine Ev.go ?_; conv => whnf) | refine And.intro ?_ ?_ | exact True.intro | exact rfl | (intro rx hrx; rw [IntWalk.i64_in _ (by omega)] at hrx) | (intro hcx; exfalso; omega) | (intro hcx; exfalso; simp only [lz] at hcx; omega) | (intro ex hex; (first | obtain ⟨xx, hxx, rfl⟩ := ints_at hex | obtain ⟨xx, hxx, rfl⟩ := encYs_at hex | obtain ⟨xx, hxx, rfl⟩ := encRs_at hex); clear hex; try simp only [Int.toNat_natCast] at hxx) | intro _))
    all_goals (first | (refine ⟨?_⟩; exact vc) | exact cl | skip)
  · rintro k ⟨k1, k2, k3⟩
    (repeat' (first | (refine Ev.go ?_; conv => whnf) | refine And.intro ?_ ?_ | exact True.intro | exact rfl | (intro rx hrx; rw [IntWalk.i64_in _ (by omega)] at hrx) | (intro hcx; exfalso; omega) | (intro hcx; exfalso; simp only [lz] at hcx; omega) | (intro ex hex; (first | obtain ⟨xx, hxx, rfl⟩ := ints_at hex | obtain ⟨xx, hxx, rfl⟩ := encYs_at hex | obtain ⟨xx, hxx, rfl⟩ := encRs_at hex); clear hex; try simp only [Int.toNat_natCast] at hxx) | intro _))
    all_goals (first | (refine ⟨?_⟩; exact vc) | exact cl | skip)
    · rename_i xa hxa he
      refine ⟨⟨k + 1, ⟨by omega, by omega, ?_⟩, by omega, ?_⟩⟩
      · rw [k3, lexLt_drop hxa hxx, if_pos he]
      · (repeat' (first | (refine Ev.go ?_; conv => whnf) | refine And.intro ?_ ?_ | exact True.intro | exact rfl | (intro rx hrx; rw [IntWalk.i64_in _ (by omega)] at hrx) | (intro hcx; exfalso; omega) | (intro hcx; exfalso; simp only [lz] at hcx; omega) | (intro ex hex; (first | obtain ⟨xx, hxx, rfl⟩ := ints_at hex | obtain ⟨xx, hxx, rfl⟩ := encYs_at hex | obtain ⟨xx, hxx, rfl⟩ := encRs_at hex); clear hex; try simp only [Int.toNat_natCast] at hxx) | intro _))
        all_goals (first | (refine ⟨?_⟩; exact vc) | exact cl | skip)
    · rename_i xa hxa xb hxb hne xc hxc hlt
      rw [hxa] at hxc; cases hxc
      rw [hxb] at hxx; cases hxx
      rw [k3, lexLt_drop hxa hxb, if_neg hne, decide_eq_true hlt]
    · rename_i xa hxa xb hxb hne xc hxc hlt
      rw [hxa] at hxc; cases hxc
      rw [hxb] at hxx; cases hxx
      rw [k3, lexLt_drop hxa hxb, if_neg hne, decide_eq_false (by omega)]
    · rw [k3, lexLt_end ⟨k1, k2⟩ (by omega), decide_eq_false (by omega)]
    · rw [k3, lexLt_end ⟨k1, k2⟩ (by omega), decide_eq_true (by omega)]
    · rw [k3, lexLt_end ⟨k1, k2⟩ (by omega), decide_eq_false (by omega)]

theorem c26 (a b : List Int) (h1 : a.length ≤ 1000000) (h2 : b.length ≤ 1000000) : PF Try.prog 26 [.sl 1 (ints a), .sl 1 (ints b)] (· = .bool (decide (a = b))) := by
  have ha := ints_len a
  have hb := ints_len b
  refine PF.of (TF.ev fn_26 (Ev.at ?_))
  (repeat' (first | (refine Ev.go ?_; conv => whnf) | refine And.intro ?_ ?_ | exact True.intro | exact rfl | (intro rx hrx; rw [IntWalk.i64_in _ (by omega)] at hrx) | (intro hcx; exfalso; omega) | (intro hcx; exfalso; simp only [lz] at hcx; omega) | intro _))
  · refine TSq.pureBC (c66 a b h1 h2) cl rfl (And.intro rfl rfl) ?_ ?_
    · intro hb1
      (repeat' (first | (refine Ev.go ?_; conv => whnf) | refine And.intro ?_ ?_ | exact True.intro | exact rfl | (intro rx hrx; rw [IntWalk.i64_in _ (by omega)] at hrx) | (intro hcx; exfalso; omega) | (intro hcx; exfalso; simp only [lz] at hcx; omega) | intro _))
      rw [SV.bool_iff]; simp
      intro e; subst e; rw [lexLt_irrefl] at hb1; cases hb1
    · intro hb1
      (repeat' (first | (refine Ev.go ?_; conv => whnf) | refine And.intro ?_ ?_ | exact True.intro | exact rfl | (intro rx hrx; rw [IntWalk.i64_in _ (by omega)] at hrx) | (intro hcx; exfalso; omega) | (intro hcx; exfalso; simp only [lz] at hcx; omega) | intro _))
      refine TSq.pureBC (c66 b a h2 h1) cl rfl (And.intro rfl rfl) ?_ ?_
      · intro hb2
        (repeat' (first | (refine Ev.go ?_; conv => whnf) | refine And.intro ?_ ?_ | exact True.intro | exact rfl | (intro rx hrx; rw [IntWalk.i64_in _ (by omega)] at hrx) | (intro hcx; exfalso; omega) | (intro hcx; exfalso; simp only [lz] at hcx; omega) | intro _))
        rw [SV.bool_iff]; simp
        intro e; subst e; rw [lexLt_irrefl] at hb2; cases hb2
      · intro hb2
        (repeat' (first | (refine Ev.go ?_; conv => whnf) | refine And.intro ?_ ?_ | exact True.intro | exact rfl | (intro rx hrx; rw [IntWalk.i64_in _ (by omega)] at hrx) | (intro hcx; exfalso; omega) | (intro hcx; exfalso; simp only [lz] at hcx; omega) | intro _))
        rw [SV.bool_iff]; simp
        exact lexLt_eq (by omega) hb1 hb2
  · rw [SV.bool_iff]; simp
    intro e; subst e; exact absurd rfl ‹_›

theorem c26s (a : List Int) (h1 : a.length ≤ 1000000) : PF Try.prog 26 [.sl 1 (ints a), .sl 1 (ints a)] (· = .bool true) := by
  have := c26 a a h1 h1
  rw [decide_eq_true rfl] at this
  exact this

theorem all_false {α : Type} {l : List α} {p : α → Bool} {k : Nat} {x : α} (h : l[k]? = some x) (hp : p x = false) : l.all p = false := by
  rw [List.all_eq_false]
  exact ⟨x, List.mem_of_getElem? h, by simp [hp]⟩
theorem fault_3 {s : Soc} (h : 5 < s.members.length ∨ 3 < s.losses.length) : fault s = 3 := by rw [fault, if_pos h]
theorem fault_1 {s : Soc} (h : ¬ (5 < s.members.length ∨ 3 < s.losses.length)) (h' : s.valid = false) : fault s = 1 := by
  rw [fault, if_neg h, if_neg (by rw [h']; simp)]
theorem fault_0 {s : Soc} (h : ¬ (5 < s.members.length ∨ 3 < s.losses.length)) (h' : s.valid = true) : fault s = 0 := by
  rw [fault, if_neg h, if_pos h']
theorem all_take {α : Type} {l : List α} {p : α → Bool} {k : Nat} {x : α} (h : l[k]? = some x) (h1 : (l.take k).all p = true) (h2 : p x = true) : (l.take (k + 1)).all p = true := by
  rw [take_snoc h, List.all_append, h1]; simp [h2]

set_option maxHeartbeats 4000000 in
set_option maxRecDepth 100000 in
theorem c65 (s : Soc) : PF Try.prog 65 [encSoc s] (· = .int .i64 (fault s)) := by
  have hz := encYs_len s.members
  have hw := encRs_len s.losses
  refine PF.of (TF.ev fn_65 (Ev.at ?_))
  (repeat' (first | (refine Ev.go ?_; conv => whnf) | refine And.intro ?_ ?_ | exact True.intro | exact rfl | (intro rx hrx; rw [IntWalk.i64_in _ (by omega)] at hrx) | (intro hcx; exfalso; omega) | (intro hcx; exfalso; simp only [lz] at hcx; omega) | intro _))
  all_goals (try (rw [fault_3 (by omega)]; done))
  · have h0 : s.members.length = 0 := by omega
    rw [fault_1 (by omega) (by simp [Soc.valid, List.length_eq_zero_iff.1 h0])]
  have hn1 : s.members.length ≠ 0 := by omega
  have hn0 : s.members ≠ [] := fun h => hn1 (by rw [h]; rfl)
  refine TSq.pureBC (c84 _) cl rfl (And.intro rfl rfl) ?_ ?_ <;> intro w1 <;> (repeat' (first | (refine Ev.go ?_; conv => whnf) | refine And.intro ?_ ?_ | exact True.intro | exact rfl | (intro rx hrx; rw [IntWalk.i64_in _ (by omega)] at hrx) | (intro hcx; exfalso; omega) | (intro hcx; exfalso; simp only [lz] at hcx; omega) | intro _))
  all_goals (try (rw [fault_1 (by omega) (by simp [Soc.valid, w1])]; done))
  refine TSq.pureBC (c40 _ _ _) cl rfl (And.intro rfl rfl) ?_ ?_ <;> intro w2 <;> (repeat' (first | (refine Ev.go ?_; conv => whnf) | refine And.intro ?_ ?_ | exact True.intro | exact rfl | (intro rx hrx; rw [IntWalk.i64_in _ (by omega)] at hrx) | (intro hcx; exfalso; omega) | (intro hcx; exfalso; simp only [lz] at hcx; omega) | intro _))
  all_goals (try (rw [fault_1 (by omega) (by simp [Soc.valid, w2])]; done))
  refine TWq.loop (fun k : Nat => [(3, .int .i64 k), (4, .junk)]) (fun k => []) (fun k => k ≤ s.members.length ∧ (s.members.take k).all Mem.valid = true) (fun k => s.members.length - k) 0 [] [] ?_ ⟨by omega, by simp⟩ ?_
  · (repeat' (first | (refine Ev.go ?_; conv => whnf) | refine And.intro ?_ ?_ | exact True.intro | exact rfl | (intro rx hrx; rw [IntWalk.i64_in _ (by omega)] at hrx) | (intro hcx; exfalso; omega) | (intro hcx; exfalso; simp only [lz] at hcx; omega) | intro _))
    all_goals (first | (refine ⟨?_⟩; exact vc) | exact cl | skip)
  · rintro k ⟨hk1, hk2⟩
    rcases Nat.lt_or_ge k s.members.length with hkl | hkl
    · obtain ⟨m, hm⟩ : ∃ m, s.members[k]? = some m := ⟨_, List.getElem?_eq_getElem hkl⟩
      have hg1 : ∀ {n : Nat} {e : SV}, n = k → (encYs s.members)[n]? = some e → e = encY m := by
        rintro n e rfl he
        obtain ⟨x, hx, rfl⟩ := encYs_at he
        rw [hm] at hx; cases hx; rfl
      have hbad : m.valid = false → s.valid = false := fun h => by simp only [Soc.valid, all_false hm h]; simp
      (repeat' (first | (intro ex hex; have hq := hg1 (by omega) hex; subst hq; clear hex) | (refine Ev.go ?_; conv => whnf) | refine And.intro ?_ ?_ | exact True.intro | exact rfl | (intro rx hrx; rw [IntWalk.i64_in _ (by omega)] at hrx) | (intro hcx; exfalso; omega) | intro _))
      all_goals (first | (refine ⟨?_⟩; exact vc) | exact cl | skip)
      refine TSq.pureBC (c40 _ _ _) cl rfl (And.intro rfl rfl) ?_ ?_ <;> intro w3 <;> (repeat' (first | (intro ex hex; have hq := hg1 (by omega) hex; subst hq; clear hex) | (refine Ev.go ?_; conv => whnf) | refine And.intro ?_ ?_ | exact True.intro | exact rfl | (intro rx hrx; rw [IntWalk.i64_in _ (by omega)] at hrx) | (intro hcx; exfalso; omega) | intro _))
      all_goals (try (rw [fault_1 (by omega) (hbad (by simp [Mem.valid, w3]))]; done))
      refine TSq.pureBC (c40 _ _ _) cl rfl (And.intro rfl rfl) ?_ ?_ <;> intro w4 <;> (repeat' (first | (intro ex hex; have hq := hg1 (by omega) hex; subst hq; clear hex) | (refine Ev.go ?_; conv => whnf) | refine And.intro ?_ ?_ | exact True.intro | exact rfl | (intro rx hrx; rw [IntWalk.i64_in _ (by omega)] at hrx) | (intro hcx; exfalso; omega) | intro _))
      all_goals (try (rw [fault_1 (by omega) (hbad (by simp [Mem.valid, w4]))]; done))
      refine TSq.pureBC (c40 _ _ _) cl rfl (And.intro rfl rfl) ?_ ?_ <;> intro w5 <;> (repeat' (first | (intro ex hex; have hq := hg1 (by omega) hex; subst hq; clear hex) | (refine Ev.go ?_; conv => whnf) | refine And.intro ?_ ?_ | exact True.intro | exact rfl | (intro rx hrx; rw [IntWalk.i64_in _ (by omega)] at hrx) | (intro hcx; exfalso; omega) | intro _))
      all_goals (try (rw [fault_1 (by omega) (hbad (by simp [Mem.valid, w5]))]; done))
      all_goals (first | (refine ⟨?_⟩; exact vc) | exact cl | skip)
      refine ⟨⟨k + 1, ⟨by omega, all_take hm hk2 (by simp [Mem.valid, w3, w4, w5])⟩, by omega, ?_⟩⟩
      (repeat' (first | (intro ex hex; have hq := hg1 (by omega) hex; subst hq; clear hex) | (refine Ev.go ?_; conv => whnf) | refine And.intro ?_ ?_ | exact True.intro | exact rfl | (intro rx hrx; rw [IntWalk.i64_in _ (by omega)] at hrx) | (intro hcx; exfalso; omega) | intro _))
      all_goals (first | (refine ⟨?_⟩; exact vc) | exact cl | skip)
    · have hke : k = s.members.length := by omega
      subst hke
      rw [List.take_length] at hk2
      (repeat' (first | (refine Ev.go ?_; conv => whnf) | refine And.intro ?_ ?_ | exact True.intro | exact rfl | (intro rx hrx; rw [IntWalk.i64_in _ (by omega)] at hrx) | (intro hcx; exfalso; omega) | (intro hcx; exfalso; simp only [lz] at hcx; omega) | intro _))
      all_goals (first | (refine ⟨?_⟩; exact vc) | exact cl | skip)
      refine TWq.loop (fun k : Nat => [(5, .int .i64 k)]) (fun k => []) (fun k => k ≤ s.losses.length ∧ (s.losses.take k).all Rng.pence = true) (fun k => s.losses.length - k) 0 [] [] ?_ ⟨by omega, by simp⟩ ?_
      · (repeat' (first | (refine Ev.go ?_; conv => whnf) | refine And.intro ?_ ?_ | exact True.intro | exact rfl | (intro rx hrx; rw [IntWalk.i64_in _ (by omega)] at hrx) | (intro hcx; exfalso; omega) | (intro hcx; exfalso; simp only [lz] at hcx; omega) | intro _))
        all_goals (first | (refine ⟨?_⟩; exact vc) | exact cl | skip)
      · rintro k ⟨hk3, hk4⟩
        rcases Nat.lt_or_ge k s.losses.length with hkl | hkl
        · obtain ⟨m, hm⟩ : ∃ m, s.losses[k]? = some m := ⟨_, List.getElem?_eq_getElem hkl⟩
          have hg1 : ∀ {n : Nat} {e : SV}, n = k → (encRs s.losses)[n]? = some e → e = encR m := by
            rintro n e rfl he
            obtain ⟨x, hx, rfl⟩ := encRs_at he
            rw [hm] at hx; cases hx; rfl
          have hbad : m.pence = false → s.valid = false := fun h => by simp only [Soc.valid, all_false hm h]; simp
          (repeat' (first | (intro ex hex; have hq := hg1 (by omega) hex; subst hq; clear hex) | (refine Ev.go ?_; conv => whnf) | refine And.intro ?_ ?_ | exact True.intro | exact rfl | (intro rx hrx; rw [IntWalk.i64_in _ (by omega)] at hrx) | (intro hcx; exfalso; omega) | intro _))
          all_goals (first | (refine ⟨?_⟩; exact vc) | exact cl | skip)
          refine TSq.pureBC (c84 _) cl rfl (And.intro rfl rfl) ?_ ?_ <;> intro w3 <;> (repeat' (first | (intro ex hex; have hq := hg1 (by omega) hex; subst hq; clear hex) | (refine Ev.go ?_; conv => whnf) | refine And.intro ?_ ?_ | exact True.intro | exact rfl | (intro rx hrx; rw [IntWalk.i64_in _ (by omega)] at hrx) | (intro hcx; exfalso; omega) | intro _))
          all_goals (try (rw [fault_1 (by omega) (hbad w3)]; done))
          all_goals (first | (refine ⟨?_⟩; exact vc) | exact cl | skip)
          refine ⟨⟨k + 1, ⟨by omega, all_take hm hk4 w3⟩, by omega, ?_⟩⟩
          (repeat' (first | (intro ex hex; have hq := hg1 (by omega) hex; subst hq; clear hex) | (refine Ev.go ?_; conv => whnf) | refine And.intro ?_ ?_ | exact True.intro | exact rfl | (intro rx hrx; rw [IntWalk.i64_in _ (by omega)] at hrx) | (intro hcx; exfalso; omega) | intro _))
          all_goals (first | (refine ⟨?_⟩; exact vc) | exact cl | skip)
        · have hke : k = s.losses.length := by omega
          subst hke
          rw [List.take_length] at hk4
          (repeat' (first | (refine Ev.go ?_; conv => whnf) | refine And.intro ?_ ?_ | exact True.intro | exact rfl | (intro rx hrx; rw [IntWalk.i64_in _ (by omega)] at hrx) | (intro hcx; exfalso; omega) | (intro hcx; exfalso; simp only [lz] at hcx; omega) | intro _))
          all_goals (first | (refine ⟨?_⟩; exact vc) | exact cl | skip)
          rw [fault_0 (by omega) (by simp [Soc.valid, hn0, hk2, hk4, w1, w2])]
theorem c23 (s : Soc) : PF Try.prog 23 [encSoc s] (· = .int .i64 (fault s)) := by
  refine PF.of (TF.ev fn_23 (Ev.at ?_))
  (repeat' (first | (refine Ev.go ?_; conv => whnf) | refine And.intro ?_ ?_ | exact True.intro | exact rfl | (intro rx hrx; rw [IntWalk.i64_in _ (by omega)] at hrx) | (intro hcx; exfalso; omega) | (intro hcx; exfalso; simp only [lz] at hcx; omega) | intro _))
  refine TSq.pureC (c65 s) cl rfl (And.intro rfl rfl) ?_
  (repeat' (first | (refine Ev.go ?_; conv => whnf) | refine And.intro ?_ ?_ | exact True.intro | exact rfl | (intro rx hrx; rw [IntWalk.i64_in _ (by omega)] at hrx) | (intro hcx; exfalso; omega) | (intro hcx; exfalso; simp only [lz] at hcx; omega) | intro _))
  try rfl
theorem c18 (s : Soc) : PF Try.prog 18 [encSoc s] (· = .bool (decide (s.members.length ≤ 8 ∧ s.losses.length ≤ 6))) := by
  have hz := encYs_len s.members
  have hw := encRs_len s.losses
  refine PF.of (TF.ev fn_18 (Ev.at ?_))
  (repeat' (first | (refine Ev.go ?_; conv => whnf) | refine And.intro ?_ ?_ | exact True.intro | exact rfl | (intro rx hrx; rw [IntWalk.i64_in _ (by omega)] at hrx) | (intro hcx; exfalso; omega) | (intro hcx; exfalso; simp only [lz] at hcx; omega) | intro _))
  all_goals (rw [SV.bool_iff]; simp; omega)
def ready (s : Soc) : Bool := decide (fault s = 0)
theorem fault_len {s : Soc} (h : fault s = 0) : s.members.length ≤ 5 ∧ s.losses.length ≤ 3 := by
  unfold fault at h
  split at h <;> omega
theorem fault_valid {s : Soc} (h : fault s = 0) : s.valid = true := by
  unfold fault at h
  split at h
  · omega
  · split at h
    · assumption
    · omega
theorem c27 (s : Soc) : PF Try.prog 27 [encSoc s] (· = .bool (ready s)) := by
  refine PF.of (TF.ev fn_27 (Ev.at ?_))
  (repeat' (first | (refine Ev.go ?_; conv => whnf) | refine And.intro ?_ ?_ | exact True.intro | exact rfl | (intro rx hrx; rw [IntWalk.i64_in _ (by omega)] at hrx) | (intro hcx; exfalso; omega) | (intro hcx; exfalso; simp only [lz] at hcx; omega) | intro _))
  refine TSq.pureBC (c18 s) cl rfl (And.intro rfl rfl) ?_ ?_
  · intro h
    (repeat' (first | (refine Ev.go ?_; conv => whnf) | refine And.intro ?_ ?_ | exact True.intro | exact rfl | (intro rx hrx; rw [IntWalk.i64_in _ (by omega)] at hrx) | (intro hcx; exfalso; omega) | (intro hcx; exfalso; simp only [lz] at hcx; omega) | intro _))
    refine TSq.pureC (c23 s) cl rfl (And.intro rfl rfl) ?_
    (repeat' (first | (refine Ev.go ?_; conv => whnf) | refine And.intro ?_ ?_ | exact True.intro | exact rfl | (intro rx hrx; rw [IntWalk.i64_in _ (by omega)] at hrx) | (intro hcx; exfalso; omega) | (intro hcx; exfalso; simp only [lz] at hcx; omega) | intro _))
    all_goals (rw [SV.bool_iff]; simp [ready]; assumption)
  · intro h
    (repeat' (first | (refine Ev.go ?_; conv => whnf) | refine And.intro ?_ ?_ | exact True.intro | exact rfl | (intro rx hrx; rw [IntWalk.i64_in _ (by omega)] at hrx) | (intro hcx; exfalso; omega) | (intro hcx; exfalso; simp only [lz] at hcx; omega) | intro _))
    rw [SV.bool_iff]; simp only [ready, Bool.false_eq_true, false_iff, decide_eq_true_eq]
    intro h0
    have := fault_len h0
    simp at h
    omega
theorem c33 (r : Rng) : PF Try.prog 33 [encR r] (· = encR r) := by
  refine PF.of (TF.ev fn_33 (Ev.at ?_))
  (repeat' (first | (refine Ev.go ?_; conv => whnf) | refine And.intro ?_ ?_ | exact True.intro | exact rfl | (intro rx hrx; rw [IntWalk.i64_in _ (by omega)] at hrx) | (intro hcx; exfalso; omega) | (intro hcx; exfalso; simp only [lz] at hcx; omega) | intro _))
  try rfl
theorem c57 (a b : Int) : PF Try.prog 57 [.int .i64 a, .int .i64 b] (· = encR ⟨a, b⟩) := by
  refine PF.of (TF.ev fn_57 (Ev.at ?_))
  (repeat' (first | (refine Ev.go ?_; conv => whnf) | refine And.intro ?_ ?_ | exact True.intro | exact rfl | (intro rx hrx; rw [IntWalk.i64_in _ (by omega)] at hrx) | (intro hcx; exfalso; omega) | (intro hcx; exfalso; simp only [lz] at hcx; omega) | intro _))
  try rfl
theorem c52 (t : Truth) (h : t.losses.length ≤ 1000000) : PF Try.prog 52 [encT t] (· = encT t) := by
  refine PF.of (TF.ev fn_52 (Ev.at ?_))
  (repeat' (first | (refine Ev.go ?_; conv => whnf) | refine And.intro ?_ ?_ | exact True.intro | exact rfl | (intro rx hrx; rw [IntWalk.i64_in _ (by omega)] at hrx) | (intro hcx; exfalso; omega) | (intro hcx; exfalso; simp only [lz] at hcx; omega) | intro _))
  refine TDq.pureC (c41 t.losses h) cl rfl (And.intro rfl rfl) ?_
  (repeat' (first | (refine Ev.go ?_; conv => whnf) | refine And.intro ?_ ?_ | exact True.intro | exact rfl | (intro rx hrx; rw [IntWalk.i64_in _ (by omega)] at hrx) | (intro hcx; exfalso; omega) | (intro hcx; exfalso; simp only [lz] at hcx; omega) | intro _))
  all_goals (first | (refine ⟨?_⟩; exact vc) | exact cl | skip)
  try rfl
def threeX (most : Int) : Soc := ⟨[⟨100, 2, most⟩, ⟨100, 1, 60⟩, ⟨50, 2, most⟩], [⟨200, 210⟩, ⟨90, 90⟩], ⟨20, 25⟩, 30⟩
theorem c56 (most : Int) : PF Try.prog 56 [.int .i64 most] (· = encSoc (threeX most)) := by
  refine PF.of (TF.ev fn_56 (Ev.at ?_))
  (repeat' (first | (refine Ev.go ?_; conv => whnf) | refine And.intro ?_ ?_ | exact True.intro | exact rfl | (intro rx hrx; rw [IntWalk.i64_in _ (by omega)] at hrx) | (intro hcx; exfalso; omega) | (intro hcx; exfalso; simp only [lz] at hcx; omega) | intro _))
  repeat (refine TSq.pureC (c57 _ _) cl rfl (And.intro rfl rfl) ?_; (repeat' (first | (refine Ev.go ?_; conv => whnf) | refine And.intro ?_ ?_ | exact True.intro | exact rfl | (intro rx hrx; rw [IntWalk.i64_in _ (by omega)] at hrx) | (intro hcx; exfalso; omega) | (intro hcx; exfalso; simp only [lz] at hcx; omega) | intro _)))
  all_goals (first | (refine ⟨?_⟩; exact vc) | exact cl | skip)
  all_goals (try exact ⟨encYs_clo (threeX most).members⟩)
  all_goals (try exact ⟨encRs_clo (threeX most).losses⟩)
  all_goals (try rfl)
end Go.Proofs.Ythnaamkempmjkaa
