/- All members but those of a list, by bits; bounds, as the document says. -/
import Derived.Test.YthnaamkempmjkaaOd
import Derived.Test.YthnaamkempmjkaaKp
set_option linter.unusedSimpArgs false
set_option linter.unusedVariables false
open Go Go.TV
namespace Go.Proofs.Ythnaamkempmjkaa

theorem bitN_ask {n : Nat} {ms : List Mem} {out : List Int} (h : n = ms.length) : bitN (valB (askF ms out) n) = askF ms out := by
  subst h
  funext i
  rcases Nat.lt_or_ge i ms.length with hi | hi
  · exact valB_bit _ _ i hi
  · rw [bitN_high (valB_lt _ _) hi]; simp [askF]; omega
theorem ask_step {ms : List Mem} {l : List Int} {k : Nat} {x : Int} (hx : l[k]? = some x) (h0 : 0 ≤ x ∧ x < ms.length) (hn : x ∉ l.take k) :
    valB (askF ms (l.take k)) ms.length = valB (askF ms (l.take (k + 1))) ms.length + 2 ^ x.toNat := by
  have hxe : ((x.toNat : Nat) : Int) = x := Int.toNat_of_nonneg h0.1
  refine valB_sub ?_ ?_ ?_ _ (by omega)
  · simp only [askF, hxe, Bool.and_eq_true, decide_eq_true_eq, Bool.not_eq_true', List.contains_eq_mem, decide_eq_false_iff_not]
    exact ⟨by omega, hn⟩
  · simp only [askF, hxe, take_snoc hx, List.contains_eq_mem]; simp
  · intro i hi
    have : (i : Int) ≠ x := by omega
    simp only [askF, take_snoc hx, List.contains_eq_mem]; simp [this]
theorem listed_nodup {s : Soc} {l : List Int} {k : Nat} {x : Int} (h : s.listed l = true) (hx : l[k]? = some x) : (0 ≤ x ∧ x < s.members.length) ∧ x ∉ l.take k := by
  simp only [Soc.listed, Bool.and_eq_true, decide_eq_true_eq, List.all_eq_true, within] at h
  obtain ⟨h1, h2⟩ := h
  refine ⟨by have := h1 x (List.mem_of_getElem? hx); omega, fun hm => ?_⟩
  obtain ⟨i, hi⟩ := List.getElem?_of_mem hm
  have hik : i < k := by have := (List.getElem?_eq_some_iff.1 hi).1; simp at this; omega
  have hi' : l[i]? = some x := by rw [List.getElem?_take_of_lt hik] at hi; exact hi
  have := (List.pairwise_iff_getElem.1 h2) i k (List.getElem?_eq_some_iff.1 hi').1 (List.getElem?_eq_some_iff.1 hx).1 hik
  rw [(List.getElem?_eq_some_iff.1 hi').2, (List.getElem?_eq_some_iff.1 hx).2] at this; omega
theorem listed_len {s : Soc} {l : List Int} (h : s.listed l = true) : l.length ≤ s.members.length := by
  simp only [Soc.listed, Bool.and_eq_true, decide_eq_true_eq, List.all_eq_true, within] at h
  obtain ⟨h1, h2⟩ := h
  have hb : ∀ (l : List Int) (a b : Int), (∀ x ∈ l, a ≤ x ∧ x < b) → l.Pairwise (· < ·) → a ≤ b → (l.length : Int) ≤ b - a := by
    intro l
    induction l with
    | nil => intro a b _ _ h; simp; omega
    | cons x l ih =>
      intro a b hl hp hab
      have hx := hl x (by simp)
      rw [List.pairwise_cons] at hp
      have := ih (x + 1) b (fun y hy => ⟨by have := hp.1 y hy; omega, (hl y (by simp [hy])).2⟩) hp.2 (by omega)
      simp only [List.length_cons]; omega
  have := hb l 0 s.members.length (fun x hx => by have := h1 x hx; omega) h2 (by omega)
  omega

set_option maxHeartbeats 4000000 in
set_option maxRecDepth 100000 in
theorem c46 (s : Soc) (l : List Int) (h1 : s.members.length ≤ 5) (hl : s.listed l = true) : PF Try.prog 46 [encSoc s, .sl 1 (ints l)] (· = .int .i64 ((valB (askF s.members l) s.members.length : Nat) : Int)) := by
  have hz := ints_len l
  have hy := encYs_len s.members
  have hll := listed_len hl
  have hp5 : 2 ^ s.members.length ≤ 32 := Nat.pow_le_pow_right (n := 2) (by omega) h1
  have d32 := c32 s (by omega)
  have hv0 : valB (askF s.members (l.take 0)) s.members.length = 2 ^ s.members.length - 1 := by
    rw [List.take_zero, ← bitN_all _ _ rfl]
    have : 1 ≤ 2 ^ s.members.length := Nat.one_le_two_pow
    exact valB_bitN (by omega)
  have hvb := fun k => valB_lt (askF s.members (l.take k)) s.members.length
  generalize 2 ^ s.members.length - 1 = who at *
  refine PF.of (TF.ev fn_46 (Ev.at ?_))
  (repeat' (first | (intro rx hrx; have hq := hsub1 hrx (by omega); subst hq; clear hrx) | (intro rx hrx; have hq := hsub2 hrx (by omega); subst hq; clear hrx) | (intro ex hex; have hq := hg1 (by omega) hex; subst hq; clear hex) | (refine Ev.go ?_; conv => whnf) | refine And.intro ?_ ?_ | exact True.intro | exact rfl | (intro rx hrx; rw [IntWalk.i64_in _ (by omega)] at hrx) | (intro hcx; exfalso; omega) | intro _))
  all_goals (first | (refine ⟨?_⟩; exact vc) | exact cl | skip)
  refine TSq.pureC d32 cl rfl (And.intro rfl rfl) ?_
  (repeat' (first | (intro rx hrx; have hq := hsub1 hrx (by omega); subst hq; clear hrx) | (intro rx hrx; have hq := hsub2 hrx (by omega); subst hq; clear hrx) | (intro ex hex; have hq := hg1 (by omega) hex; subst hq; clear hex) | (refine Ev.go ?_; conv => whnf) | refine And.intro ?_ ?_ | exact True.intro | exact rfl | (intro rx hrx; rw [IntWalk.i64_in _ (by omega)] at hrx) | (intro hcx; exfalso; omega) | intro _))
  refine TWq.loop (fun k : Nat => [(5, .int .i64 ((valB (askF s.members (l.take k)) s.members.length : Nat) : Int)), (6, .int .i64 k)]) (fun _ => []) (fun k => k ≤ l.length) (fun k => l.length - k) 0 [] [] ?_ (by omega) ?_
  · rw [hv0]
    (repeat' (first | (intro rx hrx; have hq := hsub1 hrx (by omega); subst hq; clear hrx) | (intro rx hrx; have hq := hsub2 hrx (by omega); subst hq; clear hrx) | (intro ex hex; have hq := hg1 (by omega) hex; subst hq; clear hex) | (refine Ev.go ?_; conv => whnf) | refine And.intro ?_ ?_ | exact True.intro | exact rfl | (intro rx hrx; rw [IntWalk.i64_in _ (by omega)] at hrx) | (intro hcx; exfalso; omega) | intro _))
    all_goals (first | (refine ⟨?_⟩; exact vc) | exact cl | skip)
  · intro k hk
    have hb1 := hvb k
    rcases Nat.lt_or_ge k l.length with hkl | hkl
    · obtain ⟨v, hv⟩ : ∃ v, l[k]? = some v := ⟨_, List.getElem?_eq_getElem hkl⟩
      obtain ⟨hv1, hv2⟩ := listed_nodup hl hv
      have hst := ask_step hv hv1 hv2
      have hb2 := hvb (k + 1)
      have hg1 : ∀ {n : Nat} {e : SV}, n = k → (ints l)[n]? = some e → e = .int .i64 v := by
        rintro n e rfl he
        obtain ⟨x, hx, rfl⟩ := ints_at he
        rw [hv] at hx; cases hx; rfl
      have hsub1 : ∀ {x n : Int}, x = IntKind.u64.wrap n → 0 ≤ n ∧ n ≤ 60 → x = n := fun h e => by rw [h, IntWalk.u64_in _ (by omega)]
      have hsub2 : ∀ {x m : Int}, x = IntKind.i64.wrap (1 * 2 ^ min m.toNat IntKind.i64.bits) → m = v.toNat ∧ v.toNat ≤ 10 → x = ((2 ^ v.toNat : Nat) : Int) := fun h e => shl_n h e
      generalize (2 ^ v.toNat : Nat) = p2 at *
      (repeat' (first | (intro rx hrx; have hq := hsub1 hrx (by omega); subst hq; clear hrx) | (intro rx hrx; have hq := hsub2 hrx (by omega); subst hq; clear hrx) | (intro ex hex; have hq := hg1 (by omega) hex; subst hq; clear hex) | (refine Ev.go ?_; conv => whnf) | refine And.intro ?_ ?_ | exact True.intro | exact rfl | (intro rx hrx; rw [IntWalk.i64_in _ (by omega)] at hrx) | (intro hcx; exfalso; omega) | intro _))
      all_goals (first | (refine ⟨?_⟩; exact vc) | exact cl | skip)
      refine ⟨⟨k + 1, by omega, by omega, ?_⟩⟩
      (repeat' (first | (intro rx hrx; have hq := hsub1 hrx (by omega); subst hq; clear hrx) | (intro rx hrx; have hq := hsub2 hrx (by omega); subst hq; clear hrx) | (intro ex hex; have hq := hg1 (by omega) hex; subst hq; clear hex) | (refine Ev.go ?_; conv => whnf) | refine And.intro ?_ ?_ | exact True.intro | exact rfl | (intro rx hrx; rw [IntWalk.i64_in _ (by omega)] at hrx) | (intro hcx; exfalso; omega) | intro _))
      all_goals (first | (refine ⟨?_⟩; exact vc) | exact cl | skip)
    · have hke : k = l.length := by omega
      subst hke
      rw [List.take_length]
      (repeat' (first | (intro rx hrx; have hq := hsub1 hrx (by omega); subst hq; clear hrx) | (intro rx hrx; have hq := hsub2 hrx (by omega); subst hq; clear hrx) | (intro ex hex; have hq := hg1 (by omega) hex; subst hq; clear hex) | (refine Ev.go ?_; conv => whnf) | refine And.intro ?_ ?_ | exact True.intro | exact rfl | (intro rx hrx; rw [IntWalk.i64_in _ (by omega)] at hrx) | (intro hcx; exfalso; omega) | intro _))
      all_goals (first | (refine ⟨?_⟩; exact vc) | exact cl | skip)
      all_goals (try rfl)
end Go.Proofs.Ythnaamkempmjkaa
