/- What all members pay, as the document says: bits, and the walk. -/
import Derived.Test.YthnaamkempmjkaaOb
set_option linter.unusedSimpArgs false
set_option linter.unusedVariables false
open Go Go.TV
namespace Go.Proofs.Ythnaamkempmjkaa

def valB (f : Nat → Bool) : Nat → Nat
  | 0 => 0
  | k + 1 => valB f k + (if f k = true then 2 ^ k else 0)
theorem valB_lt (f : Nat → Bool) : ∀ n, valB f n < 2 ^ n
  | 0 => by simp [valB]
  | n + 1 => by have := valB_lt f n; rw [Nat.pow_succ]; simp only [valB]; split <;> omega
theorem bitN_test (o j : Nat) : bitN o j = o.testBit j := by
  rw [Nat.testBit, bitN, Nat.and_comm, Nat.and_one_is_mod]
  rcases Nat.mod_two_eq_zero_or_one (o >>> j) with h | h <;> simp [h]
theorem valB_bit (f : Nat → Bool) : ∀ n i, i < n → bitN (valB f n) i = f i
  | n + 1, i, hi => by
    rw [bitN_test]
    simp only [valB]
    rcases Nat.lt_or_ge i n with h | h
    · rw [← valB_bit f n i h, bitN_test]
      split
      · rw [Nat.add_comm, Nat.testBit_two_pow_add_gt h]
      · rfl
    · have : i = n := by omega
      subst this
      have h0 : (valB f i).testBit i = false := Nat.testBit_lt_two_pow (valB_lt f i)
      cases hf : f i
      · simpa using h0
      · simp only [if_true]; rw [Nat.add_comm, Nat.testBit_two_pow_add_eq, h0]; rfl
theorem bits_ext {a b n : Nat} (ha : a < 2 ^ n) (hb : b < 2 ^ n) (h : ∀ i, i < n → bitN a i = bitN b i) : a = b := by
  refine Nat.eq_of_testBit_eq fun i => ?_
  rw [← bitN_test, ← bitN_test]
  rcases Nat.lt_or_ge i n with hi | hi
  · exact h i hi
  · rw [bitN_high ha hi, bitN_high hb hi]
theorem valB_bitN {o n : Nat} (h : o < 2 ^ n) : valB (bitN o) n = o := bits_ext (valB_lt _ n) h fun i hi => valB_bit _ n i hi
theorem valB_congr {f g : Nat → Bool} : ∀ {n : Nat}, (∀ i, i < n → f i = g i) → valB f n = valB g n
  | 0, _ => rfl
  | n + 1, h => by simp only [valB]; rw [valB_congr fun i hi => h i (by omega), h n (by omega)]
theorem valB_split {f c : Nat → Bool} (h : ∀ i, c i = true → f i = true) : ∀ n, valB f n = valB (fun i => f i && !c i) n + valB c n
  | 0 => rfl
  | n + 1 => by
    have ih := valB_split h n
    have hn := h n
    simp only [valB, ih]
    rcases Bool.eq_false_or_eq_true (c n) with hc | hc
    · simp only [hc, hn hc, Bool.not_true, Bool.and_false, Bool.false_eq_true, if_false, if_true]; omega
    · rcases Bool.eq_false_or_eq_true (f n) with hf | hf
      · simp only [hc, hf, Bool.not_false, Bool.and_true, Bool.false_eq_true, if_false, if_true]; omega
      · simp only [hc, hf, Bool.not_false, Bool.and_true, Bool.false_eq_true, if_false]; omega
theorem valB_sub {f g : Nat → Bool} {k : Nat} (hf : f k = true) (hg : g k = false) (ho : ∀ i, i ≠ k → f i = g i) : ∀ n, k < n → valB f n = valB g n + 2 ^ k
  | n + 1, hk => by
    rcases Nat.lt_or_ge k n with h | h
    · have ih := valB_sub hf hg ho n h
      simp only [valB, ih, ho n (by omega)]; omega
    · have : k = n := by omega
      subst this
      simp only [valB, hf, hg, if_true, Bool.false_eq_true, if_false]
      rw [valB_congr (f := f) (g := g) fun i hi => ho i (by omega)]; omega
theorem valB_zero {f : Nat → Bool} {n i : Nat} (h : valB f n = 0) (hi : i < n) : f i = false := by
  rw [← valB_bit f n i hi, h]; simp [bitN]
theorem bitN_all (n : Nat) (ms : List Mem) (h : n = ms.length) : bitN (2 ^ n - 1) = askF ms [] := by
  subst h
  funext i
  have : 1 ≤ 2 ^ ms.length := Nat.one_le_two_pow
  rw [bitN_test, Nat.testBit_two_pow_sub_one]
  simp [askF]
/-- What a round of sharing is told, by bits. -/
structure CallB (ms : List Mem) (f0 : Nat → Bool) (need0 : Int) (t : Nat) (o : Nat) (need : Int) (out : Nat → Int) : Prop where
  eq : callsF ms 6 f0 need0 (fun _ => 0) = callsF ms t (bitN o) need out
  cnt : cntB (bitN o) < t
  lt : o < 2 ^ ms.length
  nn : 0 ≤ need ∧ need ≤ 300000

set_option maxHeartbeats 16000000 in
set_option maxRecDepth 100000 in
theorem c50 (s : Soc) (o0 : Nat) (need0 : Int) (hm : ∀ m ∈ s.members, OkM m) (hl : s.members.length ≤ 5) (ho0 : o0 < 2 ^ s.members.length) (hn : 0 ≤ need0 ∧ need0 ≤ 300000) :
    PF Try.prog 50 [encSoc s, .int .i64 (o0 : Int), .int .i64 need0] (· = .tup [.sl 1 (ints (tab s.members.length (callsF s.members 6 (bitN o0) need0 fun _ => 0).1)), .int .i64 (callsF s.members 6 (bitN o0) need0 fun _ => 0).2]) := by
  have hz := encYs_len s.members
  have hp5 : 2 ^ s.members.length ≤ 32 := Nat.pow_le_pow_right (n := 2) (by omega) hl
  have hsub1 : ∀ {x n : Int}, x = IntKind.u64.wrap n → 0 ≤ n ∧ n ≤ 60 → x = n := fun h e => by rw [h, IntWalk.u64_in _ (by omega)]
  refine PF.of (TF.ev fn_50 (Ev.at ?_))
  (repeat' (first | (intro rx hrx; have hq := hsub1 hrx (by omega); subst hq; clear hrx) | (intro rx hrx; have hq := hsub2 hrx (by omega); subst hq; clear hrx) | (intro rx hrx; have hq := hsub3 hrx (by omega); subst hq; clear hrx) | (intro rx hrx; have hq := hsub4 hrx (by omega); subst hq; clear hrx) | (intro ex hex; have hq := hg1 (by omega) hex; subst hq; clear hex) | (intro ex hex; have hq := hg2 (by omega) hex; subst hq; clear hex) | (intro ex hex; have hq := hg3 (by omega) hex; subst hq; clear hex) | (refine Ev.go ?_; conv => whnf) | refine And.intro ?_ ?_ | exact True.intro | exact rfl | (intro rx hrx; rw [IntWalk.i64_in _ (by omega)] at hrx) | (intro hcx; exfalso; omega) | intro _))
  all_goals (first | (refine ⟨?_⟩; exact vc) | exact cl | skip)
  refine TWq.loop (fun p : Nat × Nat × Int × (Nat → Int) => [(1, .int .i64 (p.2.1 : Int)), (2, .int .i64 p.2.2.1)])
    (fun p => [(1, .arr 3 1 (ints (tab s.members.length p.2.2.2)))]) (fun p => CallB s.members (bitN o0) need0 p.1 p.2.1 p.2.2.1 p.2.2.2) (fun p => p.1) (6, o0, need0, fun _ => 0) [] [] ?_ ⟨rfl, ?_, ho0, hn⟩ ?_
  · (repeat' (first | (intro rx hrx; have hq := hsub1 hrx (by omega); subst hq; clear hrx) | (intro rx hrx; have hq := hsub2 hrx (by omega); subst hq; clear hrx) | (intro rx hrx; have hq := hsub3 hrx (by omega); subst hq; clear hrx) | (intro rx hrx; have hq := hsub4 hrx (by omega); subst hq; clear hrx) | (intro ex hex; have hq := hg1 (by omega) hex; subst hq; clear hex) | (intro ex hex; have hq := hg2 (by omega) hex; subst hq; clear hex) | (intro ex hex; have hq := hg3 (by omega) hex; subst hq; clear hex) | (refine Ev.go ?_; conv => whnf) | refine And.intro ?_ ?_ | exact True.intro | exact rfl | (intro rx hrx; rw [IntWalk.i64_in _ (by omega)] at hrx) | (intro hcx; exfalso; omega) | intro _))
    all_goals (first | (refine ⟨?_⟩; exact vc) | exact cl | skip)
    all_goals (refine ⟨?_⟩; rw [hz]; simp [tab, ints, List.map_const'])
  · have := cntB_le (bitN o0)
    dsimp only; omega
  · rintro ⟨t, o, need, out⟩ hI
    dsimp only at hI ⊢
    obtain ⟨t, rfl⟩ : ∃ t', t = t' + 1 := ⟨t - 1, by have := hI.cnt; omega⟩
    have hout : (ints (tab s.members.length out)).length = s.members.length := by rw [ints_len, tab_len]
    have ho := hI.lt
    have hnn := hI.nn
    have hhigh : ∀ i, s.members.length ≤ i → bitN o i = false := fun i hi => bitN_high ho hi
    have hlti : ∀ i, bitN o i = true → i < s.members.length := fun i hi => by
      rcases Nat.lt_or_ge i s.members.length with h | h
      · exact h
      · rw [hhigh i h] at hi; cases hi
    rcases Nat.eq_zero_or_pos o with hz0 | hpos
    · have ha : any5 (bitN o) = false := by rw [hz0]; rfl
      have he := hI.eq.trans (show callsF s.members (t + 1) (bitN o) need out = (out, need) by simp only [callsF, if_pos ha])
      rw [he]
      (repeat' (first | (intro rx hrx; have hq := hsub1 hrx (by omega); subst hq; clear hrx) | (intro rx hrx; have hq := hsub2 hrx (by omega); subst hq; clear hrx) | (intro rx hrx; have hq := hsub3 hrx (by omega); subst hq; clear hrx) | (intro rx hrx; have hq := hsub4 hrx (by omega); subst hq; clear hrx) | (intro ex hex; have hq := hg1 (by omega) hex; subst hq; clear hex) | (intro ex hex; have hq := hg2 (by omega) hex; subst hq; clear hex) | (intro ex hex; have hq := hg3 (by omega) hex; subst hq; clear hex) | (refine Ev.go ?_; conv => whnf) | refine And.intro ?_ ?_ | exact True.intro | exact rfl | (intro rx hrx; rw [IntWalk.i64_in _ (by omega)] at hrx) | (intro hcx; exfalso; omega) | intro _))
      all_goals (first | (refine ⟨?_⟩; exact vc) | exact cl | skip)
      all_goals (try rfl)
    · have ha : any5 (bitN o) = true := by
        cases h : any5 (bitN o)
        · obtain ⟨a0, a1, a2, a3, a4⟩ := any5_iff.1 h
          have : o = 0 := bits_ext ho (Nat.two_pow_pos _) fun i hi => by
            have : i = 0 ∨ i = 1 ∨ i = 2 ∨ i = 3 ∨ i = 4 := by omega
            rcases this with rfl | rfl | rfl | rfl | rfl <;> simp_all [bitN]
          omega
        · rfl
      have d74 := c74 s o need hm hl ho hpos hnn
      have hUpos : 0 < unitsF s.members (bitN o) s.members.length := by
        obtain ⟨i, hi⟩ : ∃ i, bitN o i = true := by
          simp only [any5, Bool.or_eq_true] at ha
          rcases ha with h | h | h | h | h <;> exact ⟨_, h⟩
        have := unitsF_pos hm (List.getElem?_eq_getElem (hlti i hi)) (hlti i hi) hi
        omega
      have hnb : ∀ k, k ≤ s.members.length → 0 ≤ needF s.members (capF s.members (bitN o) need) need k ∧ needF s.members (capF s.members (bitN o) need) need k ≤ 300000 := fun k hk => by
        have q1 := needF_ok (f := bitN o) (need := need) hm hnn.1 k hk
        have q2 := leftF_nn (ms := s.members) (f := bitN o) (need := need) hUpos
        have q3 := leftF_anti (f := bitN o) (need := need) hm hnn.1 (Int.le_of_lt hUpos) k (s.members.length - k)
        rw [show k + (s.members.length - k) = s.members.length by omega] at q3
        omega
      have hcf : ∀ i, capF s.members (bitN o) need i = true → bitN o i = true := fun i h => (cap_quo h).2.1
      have hN0 : valB (capU s.members (bitN o) need 0) s.members.length = o := by
        rw [valB_congr (g := bitN o) fun i _ => (capU_0 i).symm]; exact valB_bitN ho
      have hNb := fun k => valB_lt (capU s.members (bitN o) need k) s.members.length
      have hNn : o = valB (capU s.members (bitN o) need s.members.length) s.members.length + valB (capF s.members (bitN o) need) s.members.length := by
        rw [valB_congr (f := capU s.members (bitN o) need s.members.length) (g := fun i => bitN o i && !capF s.members (bitN o) need i) fun i _ => capU_n i, ← valB_split hcf]
        exact (valB_bitN ho).symm
      have hsh : (ints (tab s.members.length (shareF s.members (bitN o) need))).length = s.members.length := by rw [ints_len, tab_len]
      have hgs : ∀ k, k < s.members.length → ∀ {n : Nat} {e : SV}, n = k → (ints (tab s.members.length (shareF s.members (bitN o) need)))[n]? = some e → e = .int .i64 (shareF s.members (bitN o) need k) := by
        rintro k hk n e rfl he
        obtain ⟨x, hx, rfl⟩ := ints_at he
        simp only [tab, List.getElem?_map, List.getElem?_range hk, Option.map_some, Option.some.injEq] at hx
        rw [hx]
      (repeat' (first | (intro rx hrx; have hq := hsub1 hrx (by omega); subst hq; clear hrx) | (intro rx hrx; have hq := hsub2 hrx (by omega); subst hq; clear hrx) | (intro rx hrx; have hq := hsub3 hrx (by omega); subst hq; clear hrx) | (intro rx hrx; have hq := hsub4 hrx (by omega); subst hq; clear hrx) | (intro ex hex; have hq := hg1 (by omega) hex; subst hq; clear hex) | (intro ex hex; have hq := hg2 (by omega) hex; subst hq; clear hex) | (intro ex hex; have hq := hg3 (by omega) hex; subst hq; clear hex) | (refine Ev.go ?_; conv => whnf) | refine And.intro ?_ ?_ | exact True.intro | exact rfl | (intro rx hrx; rw [IntWalk.i64_in _ (by omega)] at hrx) | (intro hcx; exfalso; omega) | intro _))
      all_goals (first | (refine ⟨?_⟩; exact vc) | exact cl | skip)
      refine TSq.pureC d74 cl rfl (And.intro rfl rfl) ?_
      (repeat' (first | (intro rx hrx; have hq := hsub1 hrx (by omega); subst hq; clear hrx) | (intro rx hrx; have hq := hsub2 hrx (by omega); subst hq; clear hrx) | (intro rx hrx; have hq := hsub3 hrx (by omega); subst hq; clear hrx) | (intro rx hrx; have hq := hsub4 hrx (by omega); subst hq; clear hrx) | (intro ex hex; have hq := hg1 (by omega) hex; subst hq; clear hex) | (intro ex hex; have hq := hg2 (by omega) hex; subst hq; clear hex) | (intro ex hex; have hq := hg3 (by omega) hex; subst hq; clear hex) | (refine Ev.go ?_; conv => whnf) | refine And.intro ?_ ?_ | exact True.intro | exact rfl | (intro rx hrx; rw [IntWalk.i64_in _ (by omega)] at hrx) | (intro hcx; exfalso; omega) | intro _))
      all_goals (first | (refine ⟨?_⟩; exact vc) | exact cl | skip)
      refine TWq.loop (fun k : Nat => [(10, .int .i64 ((valB (capU s.members (bitN o) need k) s.members.length : Nat) : Int)), (11, .int .i64 k)])
        (fun k => [(1, .arr 3 1 (ints (tab s.members.length (outU s.members (bitN o) need out k))))]) (fun k => k ≤ s.members.length) (fun k => s.members.length - k) 0 [] [] ?_ (by omega) ?_
      · rw [hN0]
        (repeat' (first | (intro rx hrx; have hq := hsub1 hrx (by omega); subst hq; clear hrx) | (intro rx hrx; have hq := hsub2 hrx (by omega); subst hq; clear hrx) | (intro rx hrx; have hq := hsub3 hrx (by omega); subst hq; clear hrx) | (intro rx hrx; have hq := hsub4 hrx (by omega); subst hq; clear hrx) | (intro ex hex; have hq := hg1 (by omega) hex; subst hq; clear hex) | (intro ex hex; have hq := hg2 (by omega) hex; subst hq; clear hex) | (intro ex hex; have hq := hg3 (by omega) hex; subst hq; clear hex) | (refine Ev.go ?_; conv => whnf) | refine And.intro ?_ ?_ | exact True.intro | exact rfl | (intro rx hrx; rw [IntWalk.i64_in _ (by omega)] at hrx) | (intro hcx; exfalso; omega) | intro _))
        all_goals (first | (refine ⟨?_⟩; exact vc) | exact cl | skip)
        all_goals (exact ⟨congrArg ints (tab_congr fun i _ => outU_0 i)⟩)
      · intro k hk
        have hNk := hNb k
        rcases Nat.lt_or_ge k s.members.length with hkl | hkl
        · obtain ⟨m, hmk⟩ : ∃ m, s.members[k]? = some m := ⟨_, List.getElem?_eq_getElem hkl⟩
          have hNk1 := hNb (k + 1)
          have hg1 : ∀ {n : Nat} {e : SV}, n = k → (encYs s.members)[n]? = some e → e = encY m := by
            rintro n e rfl he
            obtain ⟨x, hx, rfl⟩ := encYs_at he
            rw [hmk] at hx; cases hx; rfl
          have hg2 := @hgs k hkl
          have hmst := mst_at hmk
          have hLk : (ints (tab s.members.length (outU s.members (bitN o) need out k))).length = s.members.length := by rw [ints_len, tab_len]
          have hg3 : ∀ {n : Nat} {e : SV}, n = k → (ints (tab s.members.length (outU s.members (bitN o) need out k)))[n]? = some e → e = .int .i64 (outU s.members (bitN o) need out k k) := by
            rintro n e rfl he
            obtain ⟨x, hx, rfl⟩ := ints_at he
            simp only [tab, List.getElem?_map, List.getElem?_range hkl, Option.map_some, Option.some.injEq] at hx
            rw [hx]
          have hsub2 : ∀ {x m : Int}, x = (o : Int).fdiv (2 ^ min m.toNat IntKind.i64.bits) → m = k ∧ k ≤ 60 → x = ((o >>> k : Nat) : Int) := fun h e => shr_n h e
          have hsub3 : ∀ {x : Int}, x = ((o >>> k : Nat) : Int).tmod 2 → (0 : Int) ≤ 0 → x = if bitN o k = true then 1 else 0 := fun h _ => bit_n h
          have hsub4 : ∀ {x m : Int}, x = IntKind.i64.wrap (1 * 2 ^ min m.toNat IntKind.i64.bits) → m = k ∧ k ≤ 10 → x = ((2 ^ k : Nat) : Int) := fun h e => shl_n h e
          have tset := fun (v : Int) (h : v = outU s.members (bitN o) need out (k + 1) k) => tab_set (n := s.members.length) (outU s.members (bitN o) need out k) (o' := outU s.members (bitN o) need out (k + 1)) h (fun i hi => outU_other hi)
          cases hb : bitN o k
          · have hc := capF_no (ms := s.members) (need := need) hb
            have hsame : valB (capU s.members (bitN o) need k) s.members.length = valB (capU s.members (bitN o) need (k + 1)) s.members.length := valB_congr fun i _ => capU_not hc i
            rw [hb] at hsub3
            simp only [Bool.false_eq_true, if_false] at hsub3
            (repeat' (first | (intro rx hrx; have hq := hsub1 hrx (by omega); subst hq; clear hrx) | (intro rx hrx; have hq := hsub2 hrx (by omega); subst hq; clear hrx) | (intro rx hrx; have hq := hsub3 hrx (by omega); subst hq; clear hrx) | (intro rx hrx; have hq := hsub4 hrx (by omega); subst hq; clear hrx) | (intro ex hex; have hq := hg1 (by omega) hex; subst hq; clear hex) | (intro ex hex; have hq := hg2 (by omega) hex; subst hq; clear hex) | (intro ex hex; have hq := hg3 (by omega) hex; subst hq; clear hex) | (refine Ev.go ?_; conv => whnf) | refine And.intro ?_ ?_ | exact True.intro | exact rfl | (intro rx hrx; rw [IntWalk.i64_in _ (by omega)] at hrx) | (intro hcx; exfalso; omega) | intro _))
            all_goals (first | (refine ⟨?_⟩; exact vk) | exact cl | skip)
            refine ⟨⟨k + 1, by omega, by omega, ?_⟩⟩
            (repeat' (first | (intro rx hrx; have hq := hsub1 hrx (by omega); subst hq; clear hrx) | (intro rx hrx; have hq := hsub2 hrx (by omega); subst hq; clear hrx) | (intro rx hrx; have hq := hsub3 hrx (by omega); subst hq; clear hrx) | (intro rx hrx; have hq := hsub4 hrx (by omega); subst hq; clear hrx) | (intro ex hex; have hq := hg1 (by omega) hex; subst hq; clear hex) | (intro ex hex; have hq := hg2 (by omega) hex; subst hq; clear hex) | (intro ex hex; have hq := hg3 (by omega) hex; subst hq; clear hex) | (refine Ev.go ?_; conv => whnf) | refine And.intro ?_ ?_ | exact True.intro | exact rfl | (intro rx hrx; rw [IntWalk.i64_in _ (by omega)] at hrx) | (intro hcx; exfalso; omega) | intro _))
            all_goals (first | (refine ⟨?_⟩; exact vc) | exact cl | skip)
            all_goals (first | (refine ⟨?_⟩; rw [hsame]; done) | exact ⟨congrArg ints (tab_congr fun i _ => outU_not hc i)⟩)
          · have hcd := capF_of (need := need) hkl hb
            rw [hb] at hsub3
            simp only [if_true] at hsub3
            rcases Int.lt_or_le (mst s.members k) (shareF s.members (bitN o) need k) with hlt | hge
            · have hc : capF s.members (bitN o) need k = true := by rw [hcd, decide_eq_true hlt]
              have hcu0 : capU s.members (bitN o) need k k = true := by simp [capU, hb]
              have hsame := valB_sub hcu0 (capU_at hc).symm (fun i hi => capU_other hi) s.members.length hkl
              have houtk := outU_at (o := out) hc
              rw [hmst] at hlt houtk
              have hp10 : 2 ^ k ≤ 32 := Nat.pow_le_pow_right (n := 2) (by omega) (show k ≤ 5 by omega)
              generalize hpk : (2 ^ k : Nat) = p2 at *
              (repeat' (first | (intro rx hrx; have hq := hsub1 hrx (by omega); subst hq; clear hrx) | (intro rx hrx; have hq := hsub2 hrx (by omega); subst hq; clear hrx) | (intro rx hrx; have hq := hsub3 hrx (by omega); subst hq; clear hrx) | (intro rx hrx; have hq := hsub4 hrx (by omega); subst hq; clear hrx) | (intro ex hex; have hq := hg1 (by omega) hex; subst hq; clear hex) | (intro ex hex; have hq := hg2 (by omega) hex; subst hq; clear hex) | (intro ex hex; have hq := hg3 (by omega) hex; subst hq; clear hex) | (refine Ev.go ?_; conv => whnf) | refine And.intro ?_ ?_ | exact True.intro | exact rfl | (intro rx hrx; rw [IntWalk.i64_in _ (by omega)] at hrx) | (intro hcx; exfalso; omega) | intro _))
              all_goals (first | (refine ⟨?_⟩; exact vk) | exact cl | skip)
              refine ⟨⟨k + 1, by omega, by omega, ?_⟩⟩
              (repeat' (first | (intro rx hrx; have hq := hsub1 hrx (by omega); subst hq; clear hrx) | (intro rx hrx; have hq := hsub2 hrx (by omega); subst hq; clear hrx) | (intro rx hrx; have hq := hsub3 hrx (by omega); subst hq; clear hrx) | (intro rx hrx; have hq := hsub4 hrx (by omega); subst hq; clear hrx) | (intro ex hex; have hq := hg1 (by omega) hex; subst hq; clear hex) | (intro ex hex; have hq := hg2 (by omega) hex; subst hq; clear hex) | (intro ex hex; have hq := hg3 (by omega) hex; subst hq; clear hex) | (refine Ev.go ?_; conv => whnf) | refine And.intro ?_ ?_ | exact True.intro | exact rfl | (intro rx hrx; rw [IntWalk.i64_in _ (by omega)] at hrx) | (intro hcx; exfalso; omega) | intro _))
              all_goals (first | (refine ⟨?_⟩; exact vc) | exact cl | skip)
              all_goals (first | (refine ⟨?_⟩; omega) | exact ⟨tset _ houtk⟩)
            · have hc : capF s.members (bitN o) need k = false := by rw [hcd, decide_eq_false (by omega)]
              have hsame : valB (capU s.members (bitN o) need k) s.members.length = valB (capU s.members (bitN o) need (k + 1)) s.members.length := valB_congr fun i _ => capU_not hc i
              rw [hmst] at hge
              (repeat' (first | (intro rx hrx; have hq := hsub1 hrx (by omega); subst hq; clear hrx) | (intro rx hrx; have hq := hsub2 hrx (by omega); subst hq; clear hrx) | (intro rx hrx; have hq := hsub3 hrx (by omega); subst hq; clear hrx) | (intro rx hrx; have hq := hsub4 hrx (by omega); subst hq; clear hrx) | (intro ex hex; have hq := hg1 (by omega) hex; subst hq; clear hex) | (intro ex hex; have hq := hg2 (by omega) hex; subst hq; clear hex) | (intro ex hex; have hq := hg3 (by omega) hex; subst hq; clear hex) | (refine Ev.go ?_; conv => whnf) | refine And.intro ?_ ?_ | exact True.intro | exact rfl | (intro rx hrx; rw [IntWalk.i64_in _ (by omega)] at hrx) | (intro hcx; exfalso; omega) | intro _))
              all_goals (first | (refine ⟨?_⟩; exact vk) | exact cl | skip)
              refine ⟨⟨k + 1, by omega, by omega, ?_⟩⟩
              (repeat' (first | (intro rx hrx; have hq := hsub1 hrx (by omega); subst hq; clear hrx) | (intro rx hrx; have hq := hsub2 hrx (by omega); subst hq; clear hrx) | (intro rx hrx; have hq := hsub3 hrx (by omega); subst hq; clear hrx) | (intro rx hrx; have hq := hsub4 hrx (by omega); subst hq; clear hrx) | (intro ex hex; have hq := hg1 (by omega) hex; subst hq; clear hex) | (intro ex hex; have hq := hg2 (by omega) hex; subst hq; clear hex) | (intro ex hex; have hq := hg3 (by omega) hex; subst hq; clear hex) | (refine Ev.go ?_; conv => whnf) | refine And.intro ?_ ?_ | exact True.intro | exact rfl | (intro rx hrx; rw [IntWalk.i64_in _ (by omega)] at hrx) | (intro hcx; exfalso; omega) | intro _))
              all_goals (first | (refine ⟨?_⟩; exact vc) | exact cl | skip)
              all_goals (first | (refine ⟨?_⟩; rw [hsame]; done) | exact ⟨congrArg ints (tab_congr fun i _ => outU_not hc i)⟩)
        · have hke : k = s.members.length := by omega
          subst hke
          have hcapn : capF s.members (bitN o) need = fun i => capF s.members (bitN o) need i := rfl
          have hLn : (ints (tab s.members.length (outU s.members (bitN o) need out s.members.length))).length = s.members.length := by rw [ints_len, tab_len]
          cases hcap : any5 (capF s.members (bitN o) need)
          · obtain ⟨c0, c1, c2, c3, c4⟩ := any5_iff.1 hcap
            have he := hI.eq.trans (show callsF s.members (t + 1) (bitN o) need out = (fun i => if bitN o i = true ∧ i < s.members.length then shareF s.members (bitN o) need i else out i, 0) by
              show (if any5 (bitN o) = false then _ else if any5 (capF s.members (bitN o) need) = false then _ else _) = _
              rw [if_neg (by rw [ha]; simp), if_pos hcap])
            have hcn : ∀ i, i < s.members.length → capF s.members (bitN o) need i = false := fun i hi => by
              have : i = 0 ∨ i = 1 ∨ i = 2 ∨ i = 3 ∨ i = 4 := by omega
              rcases this with rfl | rfl | rfl | rfl | rfl <;> assumption
            have hv0 : valB (capF s.members (bitN o) need) s.members.length = 0 := by
              rw [valB_congr (g := fun _ => false) hcn]
              have : ∀ n, valB (fun _ => false) n = 0 := fun n => by induction n with
                | zero => rfl
                | succ n ih => simp [valB, ih]
              exact this _
            rw [he]
            (repeat' (first | (intro rx hrx; have hq := hsub1 hrx (by omega); subst hq; clear hrx) | (intro rx hrx; have hq := hsub2 hrx (by omega); subst hq; clear hrx) | (intro rx hrx; have hq := hsub3 hrx (by omega); subst hq; clear hrx) | (intro rx hrx; have hq := hsub4 hrx (by omega); subst hq; clear hrx) | (intro ex hex; have hq := hg1 (by omega) hex; subst hq; clear hex) | (intro ex hex; have hq := hg2 (by omega) hex; subst hq; clear hex) | (intro ex hex; have hq := hg3 (by omega) hex; subst hq; clear hex) | (refine Ev.go ?_; conv => whnf) | refine And.intro ?_ ?_ | exact True.intro | exact rfl | (intro rx hrx; rw [IntWalk.i64_in _ (by omega)] at hrx) | (intro hcx; exfalso; omega) | intro _))
            all_goals (first | (refine ⟨?_⟩; exact vc) | exact cl | skip)
            all_goals (try (exfalso; omega))
            refine TWq.loop (fun k : Nat => [(12, .int .i64 k)]) (fun k => [(1, .arr 3 1 (ints (tab s.members.length (finU s.members (bitN o) need (outU s.members (bitN o) need out s.members.length) k))))]) (fun k => k ≤ s.members.length) (fun k => s.members.length - k) 0 [] [] ?_ (by omega) ?_
            · (repeat' (first | (intro rx hrx; have hq := hsub1 hrx (by omega); subst hq; clear hrx) | (intro rx hrx; have hq := hsub2 hrx (by omega); subst hq; clear hrx) | (intro rx hrx; have hq := hsub3 hrx (by omega); subst hq; clear hrx) | (intro rx hrx; have hq := hsub4 hrx (by omega); subst hq; clear hrx) | (intro ex hex; have hq := hg1 (by omega) hex; subst hq; clear hex) | (intro ex hex; have hq := hg2 (by omega) hex; subst hq; clear hex) | (intro ex hex; have hq := hg3 (by omega) hex; subst hq; clear hex) | (refine Ev.go ?_; conv => whnf) | refine And.intro ?_ ?_ | exact True.intro | exact rfl | (intro rx hrx; rw [IntWalk.i64_in _ (by omega)] at hrx) | (intro hcx; exfalso; omega) | intro _))
              all_goals (first | (refine ⟨?_⟩; exact vc) | exact cl | skip)
              all_goals (exact ⟨congrArg ints (tab_congr fun i _ => finU_0 i)⟩)
            · intro k hk
              rcases Nat.lt_or_ge k s.members.length with hkl | hkl
              · have hLk : (ints (tab s.members.length (finU s.members (bitN o) need (outU s.members (bitN o) need out s.members.length) k))).length = s.members.length := by rw [ints_len, tab_len]
                have hg1 := @hgs k hkl
                have hg2 : ∀ {n : Nat} {e : SV}, n = k → (ints (tab s.members.length (finU s.members (bitN o) need (outU s.members (bitN o) need out s.members.length) k)))[n]? = some e → e = .int .i64 (finU s.members (bitN o) need (outU s.members (bitN o) need out s.members.length) k k) := by
                  rintro n e rfl he
                  obtain ⟨x, hx, rfl⟩ := ints_at he
                  simp only [tab, List.getElem?_map, List.getElem?_range hkl, Option.map_some, Option.some.injEq] at hx
                  rw [hx]
                have hsub2 : ∀ {x m : Int}, x = (o : Int).fdiv (2 ^ min m.toNat IntKind.i64.bits) → m = k ∧ k ≤ 60 → x = ((o >>> k : Nat) : Int) := fun h e => shr_n h e
                have hsub3 : ∀ {x : Int}, x = ((o >>> k : Nat) : Int).tmod 2 → (0 : Int) ≤ 0 → x = if bitN o k = true then 1 else 0 := fun h _ => bit_n h
                cases hb : bitN o k
                all_goals
                  rw [hb] at hsub3
                  simp only [if_true, Bool.false_eq_true, if_false] at hsub3
                  (repeat' (first | (intro rx hrx; have hq := hsub1 hrx (by omega); subst hq; clear hrx) | (intro rx hrx; have hq := hsub2 hrx (by omega); subst hq; clear hrx) | (intro rx hrx; have hq := hsub3 hrx (by omega); subst hq; clear hrx) | (intro rx hrx; have hq := hsub4 hrx (by omega); subst hq; clear hrx) | (intro ex hex; have hq := hg1 (by omega) hex; subst hq; clear hex) | (intro ex hex; have hq := hg2 (by omega) hex; subst hq; clear hex) | (intro ex hex; have hq := hg3 (by omega) hex; subst hq; clear hex) | (refine Ev.go ?_; conv => whnf) | refine And.intro ?_ ?_ | exact True.intro | exact rfl | (intro rx hrx; rw [IntWalk.i64_in _ (by omega)] at hrx) | (intro hcx; exfalso; omega) | intro _))
                  all_goals (first | (refine ⟨?_⟩; exact vc) | exact cl | skip)
                  refine ⟨⟨k + 1, by omega, by omega, ?_⟩⟩
                  (repeat' (first | (intro rx hrx; have hq := hsub1 hrx (by omega); subst hq; clear hrx) | (intro rx hrx; have hq := hsub2 hrx (by omega); subst hq; clear hrx) | (intro rx hrx; have hq := hsub3 hrx (by omega); subst hq; clear hrx) | (intro rx hrx; have hq := hsub4 hrx (by omega); subst hq; clear hrx) | (intro ex hex; have hq := hg1 (by omega) hex; subst hq; clear hex) | (intro ex hex; have hq := hg2 (by omega) hex; subst hq; clear hex) | (intro ex hex; have hq := hg3 (by omega) hex; subst hq; clear hex) | (refine Ev.go ?_; conv => whnf) | refine And.intro ?_ ?_ | exact True.intro | exact rfl | (intro rx hrx; rw [IntWalk.i64_in _ (by omega)] at hrx) | (intro hcx; exfalso; omega) | intro _))
                  all_goals (first | (refine ⟨?_⟩; exact vc) | exact cl | skip)
                  all_goals (first | exact ⟨congrArg ints (tab_congr fun i _ => finU_not hb i)⟩ | exact ⟨tab_set _ (finU_at hb) (fun i hi => finU_other hi)⟩)
              · have hke : k = s.members.length := by omega
                subst hke
                have hfin : tab s.members.length (finU s.members (bitN o) need (outU s.members (bitN o) need out s.members.length) s.members.length) = tab s.members.length (fun i => if bitN o i = true ∧ i < s.members.length then shareF s.members (bitN o) need i else out i) :=
                  tab_congr fun i hi => by simp only [finU, outU, hi, hcn i hi, true_and, and_true, Bool.false_eq_true, and_false, if_false]
                (repeat' (first | (intro rx hrx; have hq := hsub1 hrx (by omega); subst hq; clear hrx) | (intro rx hrx; have hq := hsub2 hrx (by omega); subst hq; clear hrx) | (intro rx hrx; have hq := hsub3 hrx (by omega); subst hq; clear hrx) | (intro rx hrx; have hq := hsub4 hrx (by omega); subst hq; clear hrx) | (intro ex hex; have hq := hg1 (by omega) hex; subst hq; clear hex) | (intro ex hex; have hq := hg2 (by omega) hex; subst hq; clear hex) | (intro ex hex; have hq := hg3 (by omega) hex; subst hq; clear hex) | (refine Ev.go ?_; conv => whnf) | refine And.intro ?_ ?_ | exact True.intro | exact rfl | (intro rx hrx; rw [IntWalk.i64_in _ (by omega)] at hrx) | (intro hcx; exfalso; omega) | intro _))
                all_goals (first | (refine ⟨?_⟩; exact vc) | exact cl | skip)
                all_goals (rw [hfin])
          · have hv0 : valB (capF s.members (bitN o) need) s.members.length ≠ 0 := fun h => by
              have hz := fun i (hi : i < s.members.length) => valB_zero h hi
              have : any5 (capF s.members (bitN o) need) = false := any5_iff.2 (by
                have h' : ∀ i, capF s.members (bitN o) need i = false := fun i => by
                  rcases Nat.lt_or_ge i s.members.length with hi | hi
                  · exact hz i hi
                  · exact capF_no (hhigh i hi)
                exact ⟨h' 0, h' 1, h' 2, h' 3, h' 4⟩)
              rw [hcap] at this; cases this
            have hstep : callsF s.members (t + 1) (bitN o) need out = callsF s.members t (fun i => bitN o i && !capF s.members (bitN o) need i) (needF s.members (capF s.members (bitN o) need) need s.members.length) (fun i => if capF s.members (bitN o) need i = true then mst s.members i else out i) := by
              show (if any5 (bitN o) = false then _ else if any5 (capF s.members (bitN o) need) = false then _ else _) = _
              rw [if_neg (by rw [ha]; simp), if_neg (by rw [hcap]; simp)]
            have hbn : bitN (valB (capU s.members (bitN o) need s.members.length) s.members.length) = fun i => bitN o i && !capF s.members (bitN o) need i := by
              funext i
              rcases Nat.lt_or_ge i s.members.length with hi | hi
              · rw [valB_bit _ _ i hi, capU_n]
              · rw [bitN_high (valB_lt _ _) hi, hhigh i hi]; rfl
            have hcl := cntB_lt hcap hcf
            have hI' : CallB s.members (bitN o0) need0 t (valB (capU s.members (bitN o) need s.members.length) s.members.length) (needF s.members (capF s.members (bitN o) need) need s.members.length) (fun i => if capF s.members (bitN o) need i = true then mst s.members i else out i) :=
              ⟨by rw [hbn]; exact hI.eq.trans hstep, by rw [hbn]; have := hI.cnt; omega, valB_lt _ _, hnb _ (Nat.le_refl _)⟩
            have hcv := valB_lt (capF s.members (bitN o) need) s.members.length
            have hcb := fun i (hi : i < s.members.length) => valB_bit (capF s.members (bitN o) need) _ i hi
            have hCs : tab s.members.length (outU s.members (bitN o) need out s.members.length) = tab s.members.length (fun i => if capF s.members (bitN o) need i = true then mst s.members i else out i) :=
              tab_congr fun i hi => by simp only [outU, hi, true_and]
            rw [hCs]
            have hgo : ∀ k, k < s.members.length → ∀ {n : Nat} {e : SV}, n = k → (ints (tab s.members.length (fun i => if capF s.members (bitN o) need i = true then mst s.members i else out i)))[n]? = some e → e = .int .i64 (if capF s.members (bitN o) need k = true then mst s.members k else out k) := by
              rintro k hk n e rfl he
              obtain ⟨x, hx, rfl⟩ := ints_at he
              simp only [tab, List.getElem?_map, List.getElem?_range hk, Option.map_some, Option.some.injEq] at hx
              rw [hx]
            have hLc : (ints (tab s.members.length (fun i => if capF s.members (bitN o) need i = true then mst s.members i else out i))).length = s.members.length := by rw [ints_len, tab_len]
            generalize hC : valB (capF s.members (bitN o) need) s.members.length = C at *
            generalize hO : valB (capU s.members (bitN o) need s.members.length) s.members.length = O1 at *
            (repeat' (first | (intro rx hrx; have hq := hsub1 hrx (by omega); subst hq; clear hrx) | (intro rx hrx; have hq := hsub2 hrx (by omega); subst hq; clear hrx) | (intro rx hrx; have hq := hsub3 hrx (by omega); subst hq; clear hrx) | (intro rx hrx; have hq := hsub4 hrx (by omega); subst hq; clear hrx) | (intro ex hex; have hq := hg1 (by omega) hex; subst hq; clear hex) | (intro ex hex; have hq := hg2 (by omega) hex; subst hq; clear hex) | (intro ex hex; have hq := hg3 (by omega) hex; subst hq; clear hex) | (refine Ev.go ?_; conv => whnf) | refine And.intro ?_ ?_ | exact True.intro | exact rfl | (intro rx hrx; rw [IntWalk.i64_in _ (by omega)] at hrx) | (intro hcx; exfalso; omega) | intro _))
            all_goals (first | (refine ⟨?_⟩; exact vc) | exact cl | skip)
            all_goals (try (exfalso; omega))
            refine TWq.loop (fun k : Nat => [(2, .int .i64 (needF s.members (capF s.members (bitN o) need) need k)), (13, .int .i64 k)]) (fun _ => []) (fun k => k ≤ s.members.length) (fun k => s.members.length - k) 0 [] [] ?_ (by omega) ?_
            · (repeat' (first | (intro rx hrx; have hq := hsub1 hrx (by omega); subst hq; clear hrx) | (intro rx hrx; have hq := hsub2 hrx (by omega); subst hq; clear hrx) | (intro rx hrx; have hq := hsub3 hrx (by omega); subst hq; clear hrx) | (intro rx hrx; have hq := hsub4 hrx (by omega); subst hq; clear hrx) | (intro ex hex; have hq := hg1 (by omega) hex; subst hq; clear hex) | (intro ex hex; have hq := hg2 (by omega) hex; subst hq; clear hex) | (intro ex hex; have hq := hg3 (by omega) hex; subst hq; clear hex) | (refine Ev.go ?_; conv => whnf) | refine And.intro ?_ ?_ | exact True.intro | exact rfl | (intro rx hrx; rw [IntWalk.i64_in _ (by omega)] at hrx) | (intro hcx; exfalso; omega) | intro _))
              all_goals (first | (refine ⟨?_⟩; exact vc) | exact cl | skip)
            · intro k hk
              have hnk := hnb k hk
              rcases Nat.lt_or_ge k s.members.length with hkl | hkl
              · have hnk1 := hnb (k + 1) hkl
                have hns : needF s.members (capF s.members (bitN o) need) need (k + 1) = needF s.members (capF s.members (bitN o) need) need k - (if capF s.members (bitN o) need k = true then mst s.members k else 0) := rfl
                have hg1 := @hgo k hkl
                have hmb := mst_nn hm k
                have hbk := hcb k hkl
                have hsub2 : ∀ {x m y : Int}, x = y.fdiv (2 ^ min m.toNat IntKind.i64.bits) → (m = k ∧ k ≤ 60) ∧ y = (C : Int) → x = ((C >>> k : Nat) : Int) := fun h e => by rw [e.2] at h; exact shr_n h e.1
                have hsub3 : ∀ {x : Int}, x = ((C >>> k : Nat) : Int).tmod 2 → (0 : Int) ≤ 0 → x = if capF s.members (bitN o) need k = true then 1 else 0 := fun h _ => by rw [← hbk]; exact bit_n h
                cases hb : capF s.members (bitN o) need k
                all_goals
                  rw [hb] at hsub3 hns hg1
                  simp only [if_true, Bool.false_eq_true, if_false] at hsub3 hns hg1
                  (repeat' (first | (intro rx hrx; have hq := hsub1 hrx (by omega); subst hq; clear hrx) | (intro rx hrx; have hq := hsub2 hrx (by omega); subst hq; clear hrx) | (intro rx hrx; have hq := hsub3 hrx (by omega); subst hq; clear hrx) | (intro rx hrx; have hq := hsub4 hrx (by omega); subst hq; clear hrx) | (intro ex hex; have hq := hg1 (by omega) hex; subst hq; clear hex) | (intro ex hex; have hq := hg2 (by omega) hex; subst hq; clear hex) | (intro ex hex; have hq := hg3 (by omega) hex; subst hq; clear hex) | (refine Ev.go ?_; conv => whnf) | refine And.intro ?_ ?_ | exact True.intro | exact rfl | (intro rx hrx; rw [IntWalk.i64_in _ (by omega)] at hrx) | (intro hcx; exfalso; omega) | intro _))
                  all_goals (first | (refine ⟨?_⟩; exact vc) | exact cl | skip)
                  refine ⟨⟨k + 1, by omega, by omega, ?_⟩⟩
                  (repeat' (first | (intro rx hrx; have hq := hsub1 hrx (by omega); subst hq; clear hrx) | (intro rx hrx; have hq := hsub2 hrx (by omega); subst hq; clear hrx) | (intro rx hrx; have hq := hsub3 hrx (by omega); subst hq; clear hrx) | (intro rx hrx; have hq := hsub4 hrx (by omega); subst hq; clear hrx) | (intro ex hex; have hq := hg1 (by omega) hex; subst hq; clear hex) | (intro ex hex; have hq := hg2 (by omega) hex; subst hq; clear hex) | (intro ex hex; have hq := hg3 (by omega) hex; subst hq; clear hex) | (refine Ev.go ?_; conv => whnf) | refine And.intro ?_ ?_ | exact True.intro | exact rfl | (intro rx hrx; rw [IntWalk.i64_in _ (by omega)] at hrx) | (intro hcx; exfalso; omega) | intro _))
                  all_goals (first | (refine ⟨?_⟩; exact vc) | exact cl | skip)
                  all_goals (refine ⟨?_⟩; rw [hns]; omega)
              · have hke : k = s.members.length := by omega
                subst hke
                (repeat' (first | (intro rx hrx; have hq := hsub1 hrx (by omega); subst hq; clear hrx) | (intro rx hrx; have hq := hsub2 hrx (by omega); subst hq; clear hrx) | (intro rx hrx; have hq := hsub3 hrx (by omega); subst hq; clear hrx) | (intro rx hrx; have hq := hsub4 hrx (by omega); subst hq; clear hrx) | (intro ex hex; have hq := hg1 (by omega) hex; subst hq; clear hex) | (intro ex hex; have hq := hg2 (by omega) hex; subst hq; clear hex) | (intro ex hex; have hq := hg3 (by omega) hex; subst hq; clear hex) | (refine Ev.go ?_; conv => whnf) | refine And.intro ?_ ?_ | exact True.intro | exact rfl | (intro rx hrx; rw [IntWalk.i64_in _ (by omega)] at hrx) | (intro hcx; exfalso; omega) | intro _))
                all_goals (first | (refine ⟨?_⟩; exact vc) | exact cl | skip)
                refine ⟨⟨(t, O1, _, _), hI', by dsimp only; omega, ?_⟩⟩
                (repeat' (first | (intro rx hrx; have hq := hsub1 hrx (by omega); subst hq; clear hrx) | (intro rx hrx; have hq := hsub2 hrx (by omega); subst hq; clear hrx) | (intro rx hrx; have hq := hsub3 hrx (by omega); subst hq; clear hrx) | (intro rx hrx; have hq := hsub4 hrx (by omega); subst hq; clear hrx) | (intro ex hex; have hq := hg1 (by omega) hex; subst hq; clear hex) | (intro ex hex; have hq := hg2 (by omega) hex; subst hq; clear hex) | (intro ex hex; have hq := hg3 (by omega) hex; subst hq; clear hex) | (refine Ev.go ?_; conv => whnf) | refine And.intro ?_ ?_ | exact True.intro | exact rfl | (intro rx hrx; rw [IntWalk.i64_in _ (by omega)] at hrx) | (intro hcx; exfalso; omega) | intro _))
                all_goals (first | (refine ⟨?_⟩; exact vc) | exact cl | skip)
end Go.Proofs.Ythnaamkempmjkaa
