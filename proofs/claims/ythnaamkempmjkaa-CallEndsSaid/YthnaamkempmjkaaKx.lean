/- Bits, and the numbers of bits. -/
import Derived.Test.YthnaamkempmjkaaKy
import Derived.Test.YthnaamkempmjkaaKfT
set_option linter.unusedSimpArgs false
set_option linter.unusedVariables false
open Go Go.TV
namespace Go.Proofs.Ythnaamkempmjkaa

def bitN (o n : Nat) : Bool := decide (o >>> n % 2 = 1)
theorem wrp_u {k : Nat} {x n : Int} (h : x = IntKind.u64.wrap n) (hn : n = k ∧ k ≤ 60) : x = (k : Int) := by
  obtain ⟨rfl, hk⟩ := hn
  rw [h, IntWalk.u64_in _ (by omega)]
theorem shr_n {o k : Nat} {x m : Int} (h : x = (o : Int).fdiv (2 ^ min m.toNat IntKind.i64.bits)) (hm : m = k ∧ k ≤ 60) : x = ((o >>> k : Nat) : Int) := by
  obtain ⟨rfl, hk⟩ := hm
  rw [h, Nat.shiftRight_eq_div_pow]
  rw [show min ((k : Int).toNat) IntKind.i64.bits = k by rw [Int.toNat_natCast]; exact Nat.min_eq_left (by show k ≤ 64; omega)]
  rw [Int.fdiv_eq_ediv_of_nonneg _ (Int.le_of_lt (Int.pow_pos (by omega)))]
  norm_cast
theorem bit_n {o k : Nat} {x : Int} (h : x = ((o >>> k : Nat) : Int).tmod 2) : x = if bitN o k = true then 1 else 0 := by
  rw [h, Int.tmod_eq_emod_of_nonneg (Int.natCast_nonneg _)]
  simp only [bitN, decide_eq_true_eq]
  split <;> omega

theorem sorted_head {a : Int} {l : List Int} (h : (a :: l).Pairwise (· < ·)) {x : Int} (hx : x ∈ a :: l) : a ≤ x := by
  rcases List.mem_cons.1 hx with rfl | hx
  · omega
  · have := List.rel_of_pairwise_cons h hx
    omega
theorem filter_range_sorted (p : Nat → Bool) (n : Nat) : ((List.range n).filter p).Pairwise (· < ·) := List.Pairwise.filter _ List.pairwise_lt_range
theorem cast_sorted {l : List Nat} (h : l.Pairwise (· < ·)) : (l.map fun (c : Nat) => (c : Int)).Pairwise (· < ·) := List.Pairwise.map _ (fun a b h => Int.ofNat_lt.2 h) h
theorem sorted_ext : ∀ {L M : List Int}, L.Pairwise (· < ·) → M.Pairwise (· < ·) → (∀ x, x ∈ L ↔ x ∈ M) → L = M
  | [], [], _, _, _ => rfl
  | [], b :: M, _, _, h => by have := (h b).2 (by simp); simp at this
  | a :: L, [], _, _, h => by have := (h a).1 (by simp); simp at this
  | a :: L, b :: M, hL, hM, h => by
    have h1 := sorted_head hL ((h b).2 (by simp))
    have h2 := sorted_head hM ((h a).1 (by simp))
    have e : a = b := by omega
    subst e
    have hL' := List.pairwise_cons.1 hL
    have hM' := List.pairwise_cons.1 hM
    rw [sorted_ext hL'.2 hM'.2 fun x => ?_]
    constructor
    · intro hx
      rcases List.mem_cons.1 ((h x).1 (by simp [hx])) with rfl | h3
      · have := hL'.1 x hx; omega
      · exact h3
    · intro hx
      rcases List.mem_cons.1 ((h x).2 (by simp [hx])) with rfl | h3
      · have := hM'.1 x hx; omega
      · exact h3

def bitsN (o n : Nat) : List Int := ((List.range n).filter (bitN o)).map fun (i : Nat) => (i : Int)
theorem bitsN_sorted (o n : Nat) : (bitsN o n).Pairwise (· < ·) := cast_sorted (filter_range_sorted _ _)
theorem mem_bitsN {o n : Nat} {x : Int} : x ∈ bitsN o n ↔ ∃ i : Nat, i < n ∧ bitN o i = true ∧ x = i := by
  simp only [bitsN, List.mem_map, List.mem_filter, List.mem_range]
  constructor
  · rintro ⟨i, ⟨h1, h2⟩, rfl⟩; exact ⟨i, h1, h2, rfl⟩
  · rintro ⟨i, h1, h2, rfl⟩; exact ⟨i, ⟨h1, h2⟩, rfl⟩
theorem bitsN_succ (o n : Nat) : bitsN o (n + 1) = if bitN o n = true then bitsN o n ++ [(n : Int)] else bitsN o n := by
  simp only [bitsN, List.range_succ, List.filter_append, List.map_append]
  split <;> simp_all
theorem bitN_high {o n : Nat} (h : o < 2 ^ n) {i : Nat} (hi : n ≤ i) : bitN o i = false := by
  have : o < 2 ^ i := Nat.lt_of_lt_of_le h (Nat.pow_le_pow_right (by omega) hi)
  simp only [bitN, Nat.shiftRight_eq_div_pow, Nat.div_eq_of_lt this]
  simp
theorem bitsN_more {o n : Nat} (h : o < 2 ^ n) : ∀ d, bitsN o (n + d) = bitsN o n
  | 0 => rfl
  | d + 1 => by
    rw [show n + (d + 1) = (n + d) + 1 by omega, bitsN_succ, bitN_high h (by omega)]
    simp [bitsN_more h d]
theorem bitsN_contains {o n i : Nat} (h : i < n) : (bitsN o n).contains (i : Int) = bitN o i := by
  rw [Bool.eq_iff_iff, List.contains_iff_mem, mem_bitsN]
  constructor
  · rintro ⟨j, _, h2, h3⟩
    have : i = j := by omega
    subst this; exact h2
  · intro h2; exact ⟨i, h, h2, rfl⟩
theorem bits_exist : ∀ (n : Nat) (f : Nat → Bool), ∃ o, o < 2 ^ n ∧ ∀ i, i < n → bitN o i = f i
  | 0, _ => ⟨0, by simp, fun i hi => by omega⟩
  | n + 1, f => by
    obtain ⟨o, h1, h2⟩ := bits_exist n fun i => f (i + 1)
    refine ⟨2 * o + (if f 0 = true then 1 else 0), ?_, ?_⟩
    · rw [Nat.pow_succ]; split <;> omega
    · intro i hi
      cases i with
      | zero =>
        simp only [bitN, Nat.shiftRight_zero]
        split
        · rename_i h; rw [h]; simp
        · rename_i h; simp only [Bool.not_eq_true] at h; rw [h]; simp
      | succ i =>
        have e : (2 * o + (if f 0 = true then 1 else 0)) / 2 = o := by split <;> omega
        rw [← h2 i (by omega)]
        simp only [bitN, Nat.shiftRight_succ_inside, e]
theorem bits_of_list {n : Nat} {t : List Int} (h1 : t.Pairwise (· < ·)) (h2 : ∀ x ∈ t, 0 ≤ x ∧ x < n) : ∃ o, o < 2 ^ n ∧ bitsN o n = t := by
  obtain ⟨o, h3, h4⟩ := bits_exist n fun i => t.contains (i : Int)
  refine ⟨o, h3, sorted_ext (bitsN_sorted _ _) h1 fun x => ?_⟩
  rw [mem_bitsN]
  constructor
  · rintro ⟨i, h5, h6, rfl⟩
    rw [h4 i h5] at h6
    exact List.contains_iff_mem.1 h6
  · intro hx
    have := h2 x hx
    refine ⟨x.toNat, by omega, ?_, (Int.toNat_of_nonneg this.1).symm⟩
    rw [h4 _ (by omega), Int.toNat_of_nonneg this.1]
    exact List.contains_iff_mem.2 hx

theorem bitsN_len (o n : Nat) : (bitsN o n).length ≤ n := by
  simp only [bitsN, List.length_map]; exact Nat.le_trans (List.length_filter_le _ _) (by simp)
theorem shl_n {n : Nat} {x m : Int} (h : x = IntKind.i64.wrap (1 * 2 ^ min m.toNat IntKind.i64.bits)) (hm : m = n ∧ n ≤ 10) : x = ((2 ^ n : Nat) : Int) := by
  obtain ⟨rfl, hn⟩ := hm
  have hp : 2 ^ n ≤ 2 ^ 10 := Nat.pow_le_pow_right (by omega) hn
  rw [show min ((n : Int).toNat) IntKind.i64.bits = n by rw [Int.toNat_natCast]; exact Nat.min_eq_left (by show n ≤ 64; omega)] at h
  rw [h, Int.one_mul, show ((2 : Int) ^ n) = ((2 ^ n : Nat) : Int) by norm_cast]
  have hp : 2 ^ n ≤ 1024 := hp
  generalize (2 ^ n : Nat) = q at *
  exact IntWalk.i64_in _ (by omega)

theorem and_n {a b : Nat} {x : Int} (h : x = IntKind.i64.wrap ((BitVec.ofInt IntKind.i64.bits (a : Int) &&& BitVec.ofInt IntKind.i64.bits (b : Int)).toNat : Int)) (ha : a < 1000) (hb : b < 1000) : x = ((a &&& b : Nat) : Int) := by
  have e : (BitVec.ofInt IntKind.i64.bits (a : Int) &&& BitVec.ofInt IntKind.i64.bits (b : Int)).toNat = a &&& b := by
    show (BitVec.ofInt 64 (a : Int) &&& BitVec.ofInt 64 (b : Int)).toNat = a &&& b
    rw [BitVec.toNat_and, BitVec.ofInt_natCast, BitVec.ofInt_natCast, BitVec.toNat_ofNat, BitVec.toNat_ofNat, Nat.mod_eq_of_lt (by omega), Nat.mod_eq_of_lt (by omega)]
  have hl : a &&& b ≤ a := Nat.and_le_left
  rw [h, e, IntWalk.i64_in _ (by omega)]
theorem and_low (a n : Nat) : a &&& (2 ^ n - 1) = a % 2 ^ n := Nat.and_two_pow_sub_one_eq_mod a n
theorem bitN_mod {a n i : Nat} (h : i < n) : bitN (a % 2 ^ n) i = bitN a i := by
  have e : ∀ o j : Nat, bitN o j = o.testBit j := fun o j => by
    rw [Nat.testBit, bitN, Nat.and_comm, Nat.and_one_is_mod]
    rcases Nat.mod_two_eq_zero_or_one (o >>> j) with h | h <;> simp [h]
  rw [e, e, Nat.testBit_mod_two_pow]; simp [h]
theorem SlN.pf {f : FuncId} {args : List SV} {l : List Int} (h : PF Try.prog f args (SlN l)) : PF Try.prog f args (· = .sl 1 (ints l)) := by
  refine PF.res h fun s hs _ => ?_
  refine ⟨_, rfl, by simp [clo, ints_clo], ?_⟩
  rcases hs with rfl | ⟨rfl, rfl⟩
  · (repeat' (first | (refine Ev.go ?_; conv => whnf) | refine And.intro ?_ ?_ | exact True.intro | exact rfl | (intro rx hrx; rw [IntWalk.i64_in _ (by omega)] at hrx) | (intro hcx; exfalso; omega) | (intro hcx; exfalso; simp only [lz] at hcx; omega) | intro _))
    all_goals (first | (refine ⟨?_⟩; exact vc) | exact cl | skip)
  · (repeat' (first | (refine Ev.go ?_; conv => whnf) | refine And.intro ?_ ?_ | exact True.intro | exact rfl | (intro rx hrx; rw [IntWalk.i64_in _ (by omega)] at hrx) | (intro hcx; exfalso; omega) | (intro hcx; exfalso; simp only [lz] at hcx; omega) | intro _))
    all_goals (first | (refine ⟨?_⟩; exact vc) | exact cl | skip)
set_option maxHeartbeats 4000000 in
set_option maxRecDepth 100000 in
theorem c31 (o : Nat) (ho : o < 1000) : PF Try.prog 31 [.int .i64 (o : Int)] (· = .sl 1 (ints (bitsN o 10))) := by
  refine SlN.pf (PF.of (TF.ev fn_31 (Ev.at ?_)))
  (repeat' (first | (refine Ev.go ?_; conv => whnf) | refine And.intro ?_ ?_ | exact True.intro | exact rfl | (intro rx hrx; rw [IntWalk.i64_in _ (by omega)] at hrx) | (intro hcx; exfalso; omega) | (intro hcx; exfalso; simp only [lz] at hcx; omega) | (intro ex hex; (first | obtain ⟨xx, hxx, rfl⟩ := ints_at hex | obtain ⟨xx, hxx, rfl⟩ := encYs_at hex | obtain ⟨xx, hxx, rfl⟩ := encRs_at hex); clear hex; try simp only [Int.toNat_natCast] at hxx) | intro _))
  refine TWq.loopP (fun p : Nat × List Int => [(4, .int .i64 p.1), (3, match p.2 with | [] => .nils | _ :: _ => .own 0)])
    (fun p => [(0, match p.2 with | [] => .dead | _ :: _ => .arr 3 1 (ints p.2))])
    (fun p => p.1 ≤ 10 ∧ p.2 = bitsN o p.1) (fun p => 10 - p.1) (0, []) [] ?_ ⟨by omega, by simp [bitsN]⟩ ?_
  · (repeat' (first | (refine Ev.go ?_; conv => whnf) | refine And.intro ?_ ?_ | exact True.intro | exact rfl | (intro rx hrx; rw [IntWalk.i64_in _ (by omega)] at hrx) | (intro hcx; exfalso; omega) | (intro hcx; exfalso; simp only [lz] at hcx; omega) | (intro ex hex; (first | obtain ⟨xx, hxx, rfl⟩ := ints_at hex | obtain ⟨xx, hxx, rfl⟩ := encYs_at hex | obtain ⟨xx, hxx, rfl⟩ := encRs_at hex); clear hex; try simp only [Int.toNat_natCast] at hxx) | intro _))
    all_goals (first | (refine ⟨?_⟩; exact vc) | exact cl | skip)
  · rintro ⟨k, out⟩ ⟨hk, hout⟩
    dsimp only at hk hout ⊢
    have hol : out.length ≤ 10 := by rw [hout]; simp only [bitsN, List.length_map]; exact Nat.le_trans (List.length_filter_le _ _) (by simp; omega)
    have hwrp : ∀ {x n : Int}, x = IntKind.u64.wrap n → n = k ∧ k ≤ 60 → x = (k : Int) := wrp_u
    have hshr : ∀ {x m : Int}, x = (o : Int).fdiv (2 ^ min m.toNat IntKind.i64.bits) → m = k ∧ k ≤ 60 → x = ((o >>> k : Nat) : Int) := shr_n
    have hbit0 : ∀ {x : Int}, x = ((o >>> k : Nat) : Int).tmod 2 → x = if bitN o k = true then 1 else 0 := bit_n
    have hsu := bitsN_succ o k
    have hz : o >>> k = 0 → bitsN o 10 = bitsN o k := fun h => by
      rw [Nat.shiftRight_eq_div_pow] at h
      have : o < 2 ^ k := by
        rcases Nat.lt_or_ge o (2 ^ k) with h1 | h1
        · exact h1
        · have := Nat.div_pos h1 (Nat.two_pow_pos k); omega
      rw [show 10 = k + (10 - k) by omega]; exact bitsN_more this _
    have hz10 : k = 10 → o >>> k = 0 := fun h => by
      subst h
      rw [Nat.shiftRight_eq_div_pow]; exact Nat.div_eq_of_lt (by omega)
    generalize hq : o >>> k = q at *
    cases hb : bitN o k
    all_goals
      have hbit := @hbit0
      rw [hb] at hbit hsu
      simp only [if_true, Bool.false_eq_true, if_false] at hbit hsu
      rcases out with _ | ⟨a, out⟩
      all_goals
        (try simp only [List.length_cons] at hol)
        (repeat' (first | (intro rx hrx; obtain rfl := hwrp hrx (by omega); clear hrx) | (intro rx hrx; obtain rfl := hshr hrx (by omega); clear hrx) | (intro rx hrx; obtain rfl := hbit hrx; clear hrx) | (refine Ev.go ?_; conv => whnf) | refine And.intro ?_ ?_ | exact True.intro | exact rfl | (intro rx hrx; rw [IntWalk.i64_in _ (by omega)] at hrx) | (intro hcx; exfalso; omega) | (intro hcx; exfalso; simp only [lz] at hcx; omega) | (intro ex hex; (first | obtain ⟨xx, hxx, rfl⟩ := ints_at hex | obtain ⟨xx, hxx, rfl⟩ := encYs_at hex | obtain ⟨xx, hxx, rfl⟩ := encRs_at hex); clear hex; try simp only [Int.toNat_natCast] at hxx) | intro _))
        all_goals (first | (refine ⟨?_⟩; exact vc) | exact cl | skip)
        · have hk10 : k ≠ 10 := fun h => by have := hz10 h; omega
          first
            | (have hc : _ = bitsN o (k + 1) := hout.trans hsu.symm
               refine ⟨⟨[], (k + 1, _), ⟨by dsimp only; omega, hc⟩, by dsimp only; omega, ?_⟩⟩)
            | (have hc : _ ++ [(k : Int)] = bitsN o (k + 1) := (congrArg (· ++ [(k : Int)]) hout).trans hsu.symm
               refine ⟨⟨[(0, 2)], (k + 1, _), ⟨by dsimp only; omega, hc⟩, by dsimp only; omega, ?_⟩⟩)
          (repeat' (first | (refine Ev.go ?_; conv => whnf) | refine And.intro ?_ ?_ | exact True.intro | exact rfl | (intro rx hrx; rw [IntWalk.i64_in _ (by omega)] at hrx) | (intro hcx; exfalso; omega) | (intro hcx; exfalso; simp only [lz] at hcx; omega) | (intro ex hex; (first | obtain ⟨xx, hxx, rfl⟩ := ints_at hex | obtain ⟨xx, hxx, rfl⟩ := encYs_at hex | obtain ⟨xx, hxx, rfl⟩ := encRs_at hex); clear hex; try simp only [Int.toNat_natCast] at hxx) | intro _))
          all_goals (first | (refine ⟨?_⟩; exact vc) | exact cl | skip)
          all_goals (try (refine ⟨?_⟩; simp [ints, catS, repl]; done))
        · have hq0 : q = 0 := by omega
          rw [← hz hq0] at hout
          first | exact .inr ⟨hout.symm, rfl⟩ | exact .inl (by rw [← hout]; first | done | rfl)

theorem c32 (s : Soc) (h : s.members.length ≤ 8) : PF Try.prog 32 [encSoc s] (· = .int .i64 ((2 ^ s.members.length - 1 : Nat) : Int)) := by
  have hz := encYs_len s.members
  have hwrp : ∀ {x n : Int}, x = IntKind.u64.wrap n → n = s.members.length ∧ s.members.length ≤ 60 → x = (s.members.length : Int) := wrp_u
  have hp : 2 ^ s.members.length ≤ 2 ^ 8 := Nat.pow_le_pow_right (by omega) h
  have hp1 : 1 ≤ 2 ^ s.members.length := Nat.one_le_two_pow
  have hsub1 : ∀ {x n : Int}, x = IntKind.u64.wrap n → n = s.members.length → x = (s.members.length : Int) := fun h e => wrp_u h ⟨e, by omega⟩
  have hsub2 : ∀ {x m : Int}, x = IntKind.i64.wrap (1 * 2 ^ min m.toNat IntKind.i64.bits) → m = s.members.length → x = ((2 ^ s.members.length : Nat) : Int) := fun h e => shl_n h ⟨e, by omega⟩
  rw [show (((2 ^ s.members.length - 1 : Nat)) : Int) = ((2 ^ s.members.length : Nat) : Int) - 1 by omega]
  have hp2 : (2 : Nat) ^ s.members.length ≤ 256 := hp
  refine PF.of (TF.ev fn_32 (Ev.at ?_))
  generalize (2 ^ s.members.length : Nat) = q at *
  (repeat' (first | (intro rx hrx; have hq := hsub1 hrx (by omega); subst hq; clear hrx) | (intro rx hrx; have hq := hsub2 hrx (by omega); subst hq; clear hrx) | (refine Ev.go ?_; conv => whnf) | refine And.intro ?_ ?_ | exact True.intro | exact rfl | (intro rx hrx; rw [IntWalk.i64_in _ (by omega)] at hrx) | (intro hcx; exfalso; omega) | intro _))
  all_goals (first | (refine ⟨?_⟩; exact vc) | exact cl | skip)
  all_goals (try (subst_vars; rfl))
end Go.Proofs.Ythnaamkempmjkaa
