/- CallDefault, the walk of the statement. -/
import Derived.Test.YthnaamkempmjkaaKv
import Derived.Test.YthnaamkempmjkaaKx
import Derived.Test.YthnaamkempmjkaaKfL10
set_option linter.unusedSimpArgs false
set_option linter.unusedVariables false
open Go Go.TV
namespace Go.Proofs.Ythnaamkempmjkaa

/-- A society in which nobody is capped, and whose need is one number. -/
def defS (s : Soc) (n : Int) : Soc := ⟨s.members.map (frM n), [⟨n, n⟩], ⟨0, 0⟩, 0⟩
theorem defS_fault {s : Soc} {n : Int} (h : fault s = 0) (hn : 0 ≤ n ∧ n ≤ 100000) : fault (defS s n) = 0 := by
  have h1 := fault_valid (freeS_fault h hn)
  have h2 := fault_len h
  refine fault_0 (by simp only [defS, List.length_map, List.length_singleton]; omega) ?_
  simp only [Soc.valid, Bool.and_eq_true] at h1 ⊢
  refine ⟨h1.1, ⟨h1.2.1, ⟨?_, ⟨?_, ?_⟩⟩⟩⟩
  · simp only [defS, List.all_cons, List.all_nil, Bool.and_true, Rng.pence, decide_eq_true_eq]; omega
  · simp [defS, Rng.pence]
  · simp [defS, within]
theorem defS_needs {s : Soc} {n : Int} (hn : 0 ≤ n) : needsOf (defS s n) = ⟨n, n⟩ := by
  have : max 0 n = n := by omega
  simp [needsOf, defS, needOf, sumL, los, his, this]
theorem every_one (n : Int) : every ⟨n, n⟩ = [n] := by
  have : (n - n + 1).toNat = 1 := by omega
  simp [every, this]
theorem def_bounds {s : Soc} {n : Int} (h : fault s = 0) (hn : 0 ≤ n ∧ n ≤ 100000) (out : List Int) : boundsOf (defS s n) out = (callsOf (defS s n) out n).1.map fun x => ⟨x, x⟩ := by
  rw [boundsOf_eq (defS_fault h hn), defS_needs hn.1, every_one]
  simp only [callsOf, tab, List.map_map]
  rfl
theorem ask_bits {ms : List Mem} {o i : Nat} (hl : ms.length ≤ 5) (hi : i < ms.length) : askF ms (bitsN o 10) i = !bitN o i := by
  simp only [askF, hi, decide_true, Bool.true_and]
  rw [bitsN_contains (by omega)]
theorem bits_all {o n : Nat} (ho : o < 2 ^ n) (hn : n ≤ 5) (h : ∀ i, i < n → bitN o i = true) : (bitsN o 10).length = n := by
  rw [show 10 = n + (10 - n) by omega, bitsN_more ho]
  simp only [bitsN, List.length_map]
  rw [List.filter_eq_self.2 fun i hi => h i (List.mem_range.1 hi)]
  simp

set_option maxHeartbeats 8000000 in
set_option maxRecDepth 100000 in
theorem c10 (s : Soc) (bits need : Int) (hb : 0 ≤ bits ∧ bits ≤ 255) (hn : 0 ≤ need ∧ need ≤ 65535) : PF Try.prog 10 [encSoc s, .int .u8 bits, .int .u16 need] (· = .bool true) := by
  obtain ⟨b, rfl⟩ := Int.eq_ofNat_of_zero_le hb.1
  refine PF.of (TF.ev fn_10 (Ev.at ?_))
  (repeat' (first | (refine Ev.go ?_; conv => whnf) | refine And.intro ?_ ?_ | exact True.intro | exact rfl | (intro rx hrx; rw [IntWalk.i64_in _ (by omega)] at hrx) | (intro hcx; exfalso; omega) | (intro hcx; exfalso; simp only [lz] at hcx; omega) | (intro ex hex; (first | obtain ⟨xx, hxx, rfl⟩ := ints_at hex | obtain ⟨xx, hxx, rfl⟩ := encYs_at hex | obtain ⟨xx, hxx, rfl⟩ := encRs_at hex); clear hex; try simp only [Int.toNat_natCast] at hxx) | intro _))
  refine TSq.pureBC (c27 s) (by simp [cloL, clo, encR, encY, encSoc, encT, encS, cz]) rfl (And.intro rfl rfl) ?_ ?_
  · intro hr
    have h0 : fault s = 0 := by simpa [ready] using hr
    have hl := fault_len h0
    have hpos := (fault_ok h0).2.2.2.2
    have b0 := c37 s need (by omega)
    have bE := c32 s (by omega)
    have hsub1 : ∀ {x : Int}, x = IntKind.i64.wrap need → (0 : Int) ≤ 0 → need = x := fun h _ => by rw [h, IntWalk.i64_in _ (by omega)]
    have hsub2 : ∀ {x : Int}, x = IntKind.i64.wrap (b : Int) → (0 : Int) ≤ 0 → x = b := fun h _ => by rw [h, IntWalk.i64_in _ (by omega)]
    have hp2 : 2 ^ s.members.length ≤ 2 ^ 5 := Nat.pow_le_pow_right (by omega) hl.1
    have hp2' : (2 : Nat) ^ s.members.length ≤ 32 := hp2
    have hp1 : 1 ≤ 2 ^ s.members.length := Nat.one_le_two_pow
    have hsub3 : ∀ {x : Int}, x = IntKind.i64.wrap ((BitVec.ofInt IntKind.i64.bits (b : Int) &&& BitVec.ofInt IntKind.i64.bits ((2 ^ s.members.length - 1 : Nat) : Int)).toNat : Int) → (0 : Int) ≤ 0 → x = ((b % 2 ^ s.members.length : Nat) : Int) := fun h _ => by
      rw [and_n h (by omega) (by omega), and_low]
    have hom : b % 2 ^ s.members.length < 2 ^ s.members.length := Nat.mod_lt _ hp1
    have hbm : ∀ i, i < s.members.length → bitN (b % 2 ^ s.members.length) i = bitN b i := fun i hi => bitN_mod hi
    have dB := c31 (b % 2 ^ s.members.length) (by omega)
    have hfl : (freeS s need).members = s.members.map (frM need) := rfl
    have b2 := c21 (defS s need) (by simp [defS]; omega) (by simp [defS])
    have hX0 := defS_fault (n := need) h0 (by omega)
    have hXf : FreeMs (defS s need).members need := freeS_free s need
    have hXl : (defS s need).members.length = s.members.length := by simp [defS]
    have d1 := c35 (defS s need) need (by omega) (by simp [defS])
    have hsh0 : (callsOf (defS s need) [] need).2 = 0 := free_short (fault_ms hX0) hn.1 hXf (by omega)
    rw [callsR_good hX0 (by omega), hsh0] at d1
    have hbl : (bitsN (b % 2 ^ s.members.length) 10).length ≤ 10 := bitsN_len _ _
    have bL := c41 (bitsN (b % 2 ^ s.members.length) 10) (by omega)
    have d2 := c30 (defS s need) (bitsN (b % 2 ^ s.members.length) 10) (by omega) (by simp [defS]) (by omega)
    have hli : (defS s need).listed (bitsN (b % 2 ^ s.members.length) 10) = true := by
      simp only [Soc.listed, Bool.and_eq_true, decide_eq_true_eq, List.all_eq_true, within]
      refine ⟨fun x hx => ?_, bitsN_sorted _ _⟩
      obtain ⟨i, _, h2, rfl⟩ := mem_bitsN.1 hx
      rcases Nat.lt_or_ge i s.members.length with h | h
      · rw [hXl]; omega
      · rw [bitN_high hom h] at h2; cases h2
    rw [show withoutR (defS s need) (bitsN (b % 2 ^ s.members.length) 10) = (boundsOf (defS s need) (bitsN (b % 2 ^ s.members.length) 10), 0) by
      simp only [withoutR, if_neg (show ¬ fault (defS s need) ≠ 0 by simpa using hX0), if_pos hli], def_bounds h0 (by omega)] at d2
    have hlA := callsOf_len (defS s need) [] need
    have hlW := callsOf_len (defS s need) (bitsN (b % 2 ^ s.members.length) 10) need
    have hAat := fun i (hi : i < (defS s need).members.length) => calls_at (s := defS s need) (out := []) (n := need) hi
    have hWat := fun i (hi : i < (defS s need).members.length) => calls_at (s := defS s need) (out := bitsN (b % 2 ^ s.members.length) 10) (n := need) hi
    have hnear := fun i (hi : i < (defS s need).members.length) => default_near (fault_ms hX0) hn.1 hXf (bitsN (b % 2 ^ s.members.length) 10) hi
    have hask := fun i (hi : i < (defS s need).members.length) => ask_bits (ms := (defS s need).members) (o := b % 2 ^ s.members.length) (fault_len hX0).1 hi
    have hother := (calls_paid hX0 (bitsN (b % 2 ^ s.members.length) 10) hn.1).other
    have hsum := calls_sum hX0 (bitsN (b % 2 ^ s.members.length) 10) hn.1
    have hAb := calls_bd hX0 [] (n := need) hn.1
    have hWb := calls_bd hX0 (bitsN (b % 2 ^ s.members.length) 10) (n := need) hn.1
    have hall : (callsOf (defS s need) (bitsN (b % 2 ^ s.members.length) 10) need).2 = 0 ∨ ((bitsN (b % 2 ^ s.members.length) 10).length = s.members.length ∧ (callsOf (defS s need) (bitsN (b % 2 ^ s.members.length) 10) need).2 = need) := by
      have h2 := (free_calls (fault_ms hX0) hn.1 hXf (bitsN (b % 2 ^ s.members.length) 10)).2
      change (callsOf (defS s need) (bitsN (b % 2 ^ s.members.length) 10) need).2 = _ at h2
      by_cases ha : any5 (askF (defS s need).members (bitsN (b % 2 ^ s.members.length) 10)) = false
      · rw [if_pos ha] at h2
        refine .inr ⟨bits_all hom hl.1 fun i hi => ?_, h2⟩
        have h3 := any5_false ha i (by omega)
        rw [hask i (by omega)] at h3
        simpa using h3
      · rw [if_neg ha] at h2; exact .inl h2
    rw [hXl] at hlA hlW hAat hWat hnear hask
    have hsb := sumL_bd (l := (callsOf (defS s need) (bitsN (b % 2 ^ s.members.length) 10) need).1) fun x hx => by have := hWb x hx; omega
    dsimp only at d1 d2
    generalize hq : (2 ^ s.members.length - 1 : Nat) = q at *
    generalize ho : b % 2 ^ s.members.length = o at *
    generalize hO : bitsN o 10 = O at *
    have hiO := ints_len O
    have hz2 : (encYs (freeS s need).members).length = s.members.length := by rw [encYs_len, hfl]; simp
    have hiA := ints_len (callsOf (defS s need) [] need).1
    have hiW : (encRs ((callsOf (defS s need) O need).1.map fun x => (⟨x, x⟩ : Rng))).length = (callsOf (defS s need) O need).1.length := by rw [encRs_len, List.length_map]
    generalize (callsOf (defS s need) [] need).1 = A at *
    generalize (callsOf (defS s need) O need).1 = W at *
    generalize (callsOf (defS s need) O need).2 = pW at *
    (repeat' (first | (intro rx hrx; have hq := hsub1 hrx (by omega); subst hq; clear hrx) | (intro rx hrx; have hq := hsub2 hrx (by omega); subst hq; clear hrx) | (intro rx hrx; have hq := hsub3 hrx (by omega); subst hq; clear hrx) | (intro rx hrx; have hq := hsub4 hrx (by omega); subst hq; clear hrx) | (intro rx hrx; have hq := hsub5 hrx (by omega); subst hq; clear hrx) | (intro rx hrx; have hq := hsub6 hrx (by omega); subst hq; clear hrx) | (intro ex hex; have hq := hg1 (by omega) hex; subst hq; clear hex) | (intro ex hex; have hq := hg2 (by omega) hex; subst hq; clear hex) | (refine Ev.go ?_; conv => whnf) | refine And.intro ?_ ?_ | exact True.intro | exact rfl | (intro rx hrx; rw [IntWalk.i64_in _ (by omega)] at hrx) | (intro hcx; exfalso; omega) | intro _))
    all_goals (first | (refine ⟨?_⟩; first | rfl | exact List.cons_ne_nil _ _ | (show (_ : Nat) * _ ≤ _; simp [catS, repl, chunks, lz] <;> omega) | exact shS _ _ | exact shM _ | exact shN | exact encM_clo _ | exact ⟨rfl, rfl⟩ | exact ⟨rfl, rfl, rfl⟩ | omega | (simp only [lz]; omega) | (simp; omega) | (simp [cloL, clo, catS, repl, cz, encR, encY, encS]; done) | (show chkGo _ _ _ _ _ = true; kernel_rfl)) | (simp [cloL, clo, catS, repl, cz, encR, encY, encS]; done) | skip)
    refine TSq.pureC b0 (by simp [cloL, clo, encR, encY, encSoc, encT, encS, cz]) rfl (And.intro rfl rfl) ?_
    (repeat' (first | (intro rx hrx; have hq := hsub1 hrx (by omega); subst hq; clear hrx) | (intro rx hrx; have hq := hsub2 hrx (by omega); subst hq; clear hrx) | (intro rx hrx; have hq := hsub3 hrx (by omega); subst hq; clear hrx) | (intro rx hrx; have hq := hsub4 hrx (by omega); subst hq; clear hrx) | (intro rx hrx; have hq := hsub5 hrx (by omega); subst hq; clear hrx) | (intro rx hrx; have hq := hsub6 hrx (by omega); subst hq; clear hrx) | (intro ex hex; have hq := hg1 (by omega) hex; subst hq; clear hex) | (intro ex hex; have hq := hg2 (by omega) hex; subst hq; clear hex) | (refine Ev.go ?_; conv => whnf) | refine And.intro ?_ ?_ | exact True.intro | exact rfl | (intro rx hrx; rw [IntWalk.i64_in _ (by omega)] at hrx) | (intro hcx; exfalso; omega) | intro _))
    all_goals (first | (refine ⟨?_⟩; first | rfl | exact List.cons_ne_nil _ _ | (show (_ : Nat) * _ ≤ _; simp [catS, repl, chunks, lz] <;> omega) | exact shS _ _ | exact shM _ | exact shN | exact encM_clo _ | exact ⟨rfl, rfl⟩ | exact ⟨rfl, rfl, rfl⟩ | omega | (simp only [lz]; omega) | (simp; omega) | (simp [cloL, clo, catS, repl, cz, encR, encY, encS]; done) | (show chkGo _ _ _ _ _ = true; kernel_rfl)) | (simp [cloL, clo, catS, repl, cz, encR, encY, encS]; done) | skip)
    refine TSq.pureC bE (by simp [cloL, clo, encR, encY, encSoc, encT, encS, cz]) rfl (And.intro rfl rfl) ?_
    (repeat' (first | (intro rx hrx; have hq := hsub1 hrx (by omega); subst hq; clear hrx) | (intro rx hrx; have hq := hsub2 hrx (by omega); subst hq; clear hrx) | (intro rx hrx; have hq := hsub3 hrx (by omega); subst hq; clear hrx) | (intro rx hrx; have hq := hsub4 hrx (by omega); subst hq; clear hrx) | (intro rx hrx; have hq := hsub5 hrx (by omega); subst hq; clear hrx) | (intro rx hrx; have hq := hsub6 hrx (by omega); subst hq; clear hrx) | (intro ex hex; have hq := hg1 (by omega) hex; subst hq; clear hex) | (intro ex hex; have hq := hg2 (by omega) hex; subst hq; clear hex) | (refine Ev.go ?_; conv => whnf) | refine And.intro ?_ ?_ | exact True.intro | exact rfl | (intro rx hrx; rw [IntWalk.i64_in _ (by omega)] at hrx) | (intro hcx; exfalso; omega) | intro _))
    all_goals (first | (refine ⟨?_⟩; first | rfl | exact List.cons_ne_nil _ _ | (show (_ : Nat) * _ ≤ _; simp [catS, repl, chunks, lz] <;> omega) | exact shS _ _ | exact shM _ | exact shN | exact encM_clo _ | exact ⟨rfl, rfl⟩ | exact ⟨rfl, rfl, rfl⟩ | omega | (simp only [lz]; omega) | (simp; omega) | (simp [cloL, clo, catS, repl, cz, encR, encY, encS]; done) | (show chkGo _ _ _ _ _ = true; kernel_rfl)) | (simp [cloL, clo, catS, repl, cz, encR, encY, encS]; done) | skip)
    refine TSq.pureC dB (by simp [cloL, clo, encR, encY, encSoc, encT, encS, cz]) rfl (And.intro rfl rfl) ?_
    (repeat' (first | (intro rx hrx; have hq := hsub1 hrx (by omega); subst hq; clear hrx) | (intro rx hrx; have hq := hsub2 hrx (by omega); subst hq; clear hrx) | (intro rx hrx; have hq := hsub3 hrx (by omega); subst hq; clear hrx) | (intro rx hrx; have hq := hsub4 hrx (by omega); subst hq; clear hrx) | (intro rx hrx; have hq := hsub5 hrx (by omega); subst hq; clear hrx) | (intro rx hrx; have hq := hsub6 hrx (by omega); subst hq; clear hrx) | (intro ex hex; have hq := hg1 (by omega) hex; subst hq; clear hex) | (intro ex hex; have hq := hg2 (by omega) hex; subst hq; clear hex) | (refine Ev.go ?_; conv => whnf) | refine And.intro ?_ ?_ | exact True.intro | exact rfl | (intro rx hrx; rw [IntWalk.i64_in _ (by omega)] at hrx) | (intro hcx; exfalso; omega) | intro _))
    all_goals (first | (refine ⟨?_⟩; first | rfl | exact List.cons_ne_nil _ _ | (show (_ : Nat) * _ ≤ _; simp [catS, repl, chunks, lz] <;> omega) | exact shS _ _ | exact shM _ | exact shN | exact encM_clo _ | exact ⟨rfl, rfl⟩ | exact ⟨rfl, rfl, rfl⟩ | omega | (simp only [lz]; omega) | (simp; omega) | (simp [cloL, clo, catS, repl, cz, encR, encY, encS]; done) | (show chkGo _ _ _ _ _ = true; kernel_rfl)) | (simp [cloL, clo, catS, repl, cz, encR, encY, encS]; done) | skip)
    refine TSq.pubS 2 ?_
    (repeat' (first | (intro rx hrx; have hq := hsub1 hrx (by omega); subst hq; clear hrx) | (intro rx hrx; have hq := hsub2 hrx (by omega); subst hq; clear hrx) | (intro rx hrx; have hq := hsub3 hrx (by omega); subst hq; clear hrx) | (intro rx hrx; have hq := hsub4 hrx (by omega); subst hq; clear hrx) | (intro rx hrx; have hq := hsub5 hrx (by omega); subst hq; clear hrx) | (intro rx hrx; have hq := hsub6 hrx (by omega); subst hq; clear hrx) | (intro ex hex; have hq := hg1 (by omega) hex; subst hq; clear hex) | (intro ex hex; have hq := hg2 (by omega) hex; subst hq; clear hex) | (refine Ev.go ?_; conv => whnf) | refine And.intro ?_ ?_ | exact True.intro | exact rfl | (intro rx hrx; rw [IntWalk.i64_in _ (by omega)] at hrx) | (intro hcx; exfalso; omega) | intro _))
    all_goals (first | (refine ⟨?_⟩; first | rfl | exact List.cons_ne_nil _ _ | (show (_ : Nat) * _ ≤ _; simp [catS, repl, chunks, lz] <;> omega) | exact shS _ _ | exact shM _ | exact shN | exact encM_clo _ | exact ⟨rfl, rfl⟩ | exact ⟨rfl, rfl, rfl⟩ | omega | (simp only [lz]; omega) | (simp; omega) | (simp [cloL, clo, catS, repl, cz, encR, encY, encS]; done) | (show chkGo _ _ _ _ _ = true; kernel_rfl)) | (simp [cloL, clo, catS, repl, cz, encR, encY, encS]; done) | skip)
    all_goals (try (refine ⟨?_⟩; simp [chunks, catS, repl, cloL, clo]; done))
    refine TSq.pureC b2 (by simp [cloL, clo, encSoc, encYs_clo, encRs_clo]) rfl (And.intro rfl rfl) ?_
    (repeat' (first | (intro rx hrx; have hq := hsub1 hrx (by omega); subst hq; clear hrx) | (intro rx hrx; have hq := hsub2 hrx (by omega); subst hq; clear hrx) | (intro rx hrx; have hq := hsub3 hrx (by omega); subst hq; clear hrx) | (intro rx hrx; have hq := hsub4 hrx (by omega); subst hq; clear hrx) | (intro rx hrx; have hq := hsub5 hrx (by omega); subst hq; clear hrx) | (intro rx hrx; have hq := hsub6 hrx (by omega); subst hq; clear hrx) | (intro ex hex; have hq := hg1 (by omega) hex; subst hq; clear hex) | (intro ex hex; have hq := hg2 (by omega) hex; subst hq; clear hex) | (refine Ev.go ?_; conv => whnf) | refine And.intro ?_ ?_ | exact True.intro | exact rfl | (intro rx hrx; rw [IntWalk.i64_in _ (by omega)] at hrx) | (intro hcx; exfalso; omega) | intro _))
    refine TSq.pureC d1 (by simp [cloL, clo, encSoc, encYs_clo, encRs_clo]) rfl (And.intro rfl rfl) ?_
    (repeat' (first | (intro rx hrx; have hq := hsub1 hrx (by omega); subst hq; clear hrx) | (intro rx hrx; have hq := hsub2 hrx (by omega); subst hq; clear hrx) | (intro rx hrx; have hq := hsub3 hrx (by omega); subst hq; clear hrx) | (intro rx hrx; have hq := hsub4 hrx (by omega); subst hq; clear hrx) | (intro rx hrx; have hq := hsub5 hrx (by omega); subst hq; clear hrx) | (intro rx hrx; have hq := hsub6 hrx (by omega); subst hq; clear hrx) | (intro ex hex; have hq := hg1 (by omega) hex; subst hq; clear hex) | (intro ex hex; have hq := hg2 (by omega) hex; subst hq; clear hex) | (refine Ev.go ?_; conv => whnf) | refine And.intro ?_ ?_ | exact True.intro | exact rfl | (intro rx hrx; rw [IntWalk.i64_in _ (by omega)] at hrx) | (intro hcx; exfalso; omega) | intro _))
    refine TSq.pureC b2 (by simp [cloL, clo, encSoc, encYs_clo, encRs_clo]) rfl (And.intro rfl rfl) ?_
    (repeat' (first | (intro rx hrx; have hq := hsub1 hrx (by omega); subst hq; clear hrx) | (intro rx hrx; have hq := hsub2 hrx (by omega); subst hq; clear hrx) | (intro rx hrx; have hq := hsub3 hrx (by omega); subst hq; clear hrx) | (intro rx hrx; have hq := hsub4 hrx (by omega); subst hq; clear hrx) | (intro rx hrx; have hq := hsub5 hrx (by omega); subst hq; clear hrx) | (intro rx hrx; have hq := hsub6 hrx (by omega); subst hq; clear hrx) | (intro ex hex; have hq := hg1 (by omega) hex; subst hq; clear hex) | (intro ex hex; have hq := hg2 (by omega) hex; subst hq; clear hex) | (refine Ev.go ?_; conv => whnf) | refine And.intro ?_ ?_ | exact True.intro | exact rfl | (intro rx hrx; rw [IntWalk.i64_in _ (by omega)] at hrx) | (intro hcx; exfalso; omega) | intro _))
    refine TSq.pureC bL (by simp [cloL, clo, encR, encY, encSoc, encT, encS, cz]) rfl (And.intro rfl rfl) ?_
    (repeat' (first | (intro rx hrx; have hq := hsub1 hrx (by omega); subst hq; clear hrx) | (intro rx hrx; have hq := hsub2 hrx (by omega); subst hq; clear hrx) | (intro rx hrx; have hq := hsub3 hrx (by omega); subst hq; clear hrx) | (intro rx hrx; have hq := hsub4 hrx (by omega); subst hq; clear hrx) | (intro rx hrx; have hq := hsub5 hrx (by omega); subst hq; clear hrx) | (intro rx hrx; have hq := hsub6 hrx (by omega); subst hq; clear hrx) | (intro ex hex; have hq := hg1 (by omega) hex; subst hq; clear hex) | (intro ex hex; have hq := hg2 (by omega) hex; subst hq; clear hex) | (refine Ev.go ?_; conv => whnf) | refine And.intro ?_ ?_ | exact True.intro | exact rfl | (intro rx hrx; rw [IntWalk.i64_in _ (by omega)] at hrx) | (intro hcx; exfalso; omega) | intro _))
    refine TSq.pureC d2 (by simp [cloL, clo, encSoc, encYs_clo, encRs_clo, ints_clo]) rfl (And.intro rfl rfl) ?_
    (repeat' (first | (intro rx hrx; have hq := hsub1 hrx (by omega); subst hq; clear hrx) | (intro rx hrx; have hq := hsub2 hrx (by omega); subst hq; clear hrx) | (intro rx hrx; have hq := hsub3 hrx (by omega); subst hq; clear hrx) | (intro rx hrx; have hq := hsub4 hrx (by omega); subst hq; clear hrx) | (intro rx hrx; have hq := hsub5 hrx (by omega); subst hq; clear hrx) | (intro rx hrx; have hq := hsub6 hrx (by omega); subst hq; clear hrx) | (intro ex hex; have hq := hg1 (by omega) hex; subst hq; clear hex) | (intro ex hex; have hq := hg2 (by omega) hex; subst hq; clear hex) | (refine Ev.go ?_; conv => whnf) | refine And.intro ?_ ?_ | exact True.intro | exact rfl | (intro rx hrx; rw [IntWalk.i64_in _ (by omega)] at hrx) | (intro hcx; exfalso; omega) | intro _))
    all_goals (first | (refine ⟨?_⟩; first | rfl | exact List.cons_ne_nil _ _ | (show (_ : Nat) * _ ≤ _; simp [catS, repl, chunks, lz] <;> omega) | exact shS _ _ | exact shM _ | exact shN | exact encM_clo _ | exact ⟨rfl, rfl⟩ | exact ⟨rfl, rfl, rfl⟩ | omega | (simp only [lz]; omega) | (simp; omega) | (simp [cloL, clo, catS, repl, cz, encR, encY, encS]; done) | (show chkGo _ _ _ _ _ = true; kernel_rfl)) | (simp [cloL, clo, catS, repl, cz, encR, encY, encS]; done) | skip)
    all_goals (try (exfalso; omega))
    refine TWq.loop (fun k : Nat => [(15, .int .i64 (sumL (W.take k))), (16, .int .i64 k), (17, .junk)]) (fun k => []) (fun k => k ≤ s.members.length) (fun k => s.members.length - k) 0 [] [] ?_ (by omega) ?_
    · (repeat' (first | (intro rx hrx; have hq := hsub1 hrx (by omega); subst hq; clear hrx) | (intro rx hrx; have hq := hsub2 hrx (by omega); subst hq; clear hrx) | (intro rx hrx; have hq := hsub3 hrx (by omega); subst hq; clear hrx) | (intro rx hrx; have hq := hsub4 hrx (by omega); subst hq; clear hrx) | (intro rx hrx; have hq := hsub5 hrx (by omega); subst hq; clear hrx) | (intro rx hrx; have hq := hsub6 hrx (by omega); subst hq; clear hrx) | (intro ex hex; have hq := hg1 (by omega) hex; subst hq; clear hex) | (intro ex hex; have hq := hg2 (by omega) hex; subst hq; clear hex) | (refine Ev.go ?_; conv => whnf) | refine And.intro ?_ ?_ | exact True.intro | exact rfl | (intro rx hrx; rw [IntWalk.i64_in _ (by omega)] at hrx) | (intro hcx; exfalso; omega) | intro _))
      all_goals (first | (refine ⟨?_⟩; first | rfl | exact List.cons_ne_nil _ _ | (show (_ : Nat) * _ ≤ _; simp [catS, repl, chunks, lz] <;> omega) | exact shS _ _ | exact shM _ | exact shN | exact encM_clo _ | exact ⟨rfl, rfl⟩ | exact ⟨rfl, rfl, rfl⟩ | omega | (simp only [lz]; omega) | (simp; omega) | (simp [cloL, clo, catS, repl, cz, encR, encY, encS]; done) | (show chkGo _ _ _ _ _ = true; kernel_rfl)) | (simp [cloL, clo, catS, repl, cz, encR, encY, encS]; done) | skip)
    · intro k hk
      have hsb1 := hsb k
      rcases Nat.lt_or_ge k s.members.length with hkl | hkl
      · have hsb2 := hsb (k + 1)
        have hA1 := hAat k hkl
        have hW1 := hWat k hkl
        have hnr := hnear k hkl
        have hak := hask k hkl
        have hot := hother k
        have hA2 := hAb _ (List.mem_of_getElem? hA1)
        have hW2 := hWb _ (List.mem_of_getElem? hW1)
        have hst := sumL_take hW1
        rw [hbm k hkl] at hak
        generalize (callsF (defS s need).members 6 (askF (defS s need).members O) need fun _ => 0).1 k = w at *
        generalize (callsF (defS s need).members 6 (askF (defS s need).members []) need fun _ => 0).1 k = a at *
        generalize askF (defS s need).members O k = ak at *
        have hg1 : ∀ {n : Nat} {e : SV}, n = k → (ints A)[n]? = some e → e = .int .i64 a := by
          rintro n e rfl he
          obtain ⟨x, hx, rfl⟩ := ints_at he
          rw [hA1] at hx; cases hx; rfl
        have hg2 : ∀ {n : Nat} {e : SV}, n = k → (encRs (W.map fun x => ⟨x, x⟩))[n]? = some e → e = .agg [.int .i64 w, .int .i64 w] := by
          rintro n e rfl he
          obtain ⟨x, hx, rfl⟩ := encRs_at he
          rw [List.getElem?_map, hW1] at hx; cases hx; rfl
        have hsub4 : ∀ {x n : Int}, x = IntKind.u64.wrap n → n = k → x = (k : Int) := fun h e => wrp_u h ⟨e, by omega⟩
        have hsub5 : ∀ {x m : Int}, x = (b : Int).fdiv (2 ^ min m.toNat IntKind.i64.bits) → m = k → x = ((b >>> k : Nat) : Int) := fun h e => shr_n h ⟨e, by omega⟩
        have hbit0 : ∀ {x : Int}, x = ((b >>> k : Nat) : Int).tmod 2 → x = if bitN b k = true then 1 else 0 := bit_n
        generalize b >>> k = bk at *
        cases hbk : bitN b k
        all_goals
          rw [hbk] at hbit0 hak
          have hsub6 : ∀ {x : Int}, x = (bk : Int).tmod 2 → (0 : Int) ≤ 0 → x = _ := fun h _ => hbit0 h
          simp only [if_true, Bool.false_eq_true, if_false, Bool.not_true, Bool.not_false] at hsub6 hak
          subst hak
          (try have hnr := hnr rfl)
          (try have hot := hot rfl)
          (repeat' (first | (intro rx hrx; have hq := hsub1 hrx (by omega); subst hq; clear hrx) | (intro rx hrx; have hq := hsub2 hrx (by omega); subst hq; clear hrx) | (intro rx hrx; have hq := hsub3 hrx (by omega); subst hq; clear hrx) | (intro rx hrx; have hq := hsub4 hrx (by omega); subst hq; clear hrx) | (intro rx hrx; have hq := hsub5 hrx (by omega); subst hq; clear hrx) | (intro rx hrx; have hq := hsub6 hrx (by omega); subst hq; clear hrx) | (intro ex hex; have hq := hg1 (by omega) hex; subst hq; clear hex) | (intro ex hex; have hq := hg2 (by omega) hex; subst hq; clear hex) | (refine Ev.go ?_; conv => whnf) | refine And.intro ?_ ?_ | exact True.intro | exact rfl | (intro rx hrx; rw [IntWalk.i64_in _ (by omega)] at hrx) | (intro hcx; exfalso; omega) | intro _))
          all_goals (first | (refine ⟨?_⟩; show chkGo _ _ _ _ _ = true; kernel_rfl) | (refine ⟨?_⟩; first | rfl | exact List.cons_ne_nil _ _ | (show (_ : Nat) * _ ≤ _; simp [catS, repl, chunks, lz] <;> omega) | exact shS _ _ | exact shM _ | exact shN | exact encM_clo _ | exact ⟨rfl, rfl⟩ | exact ⟨rfl, rfl, rfl⟩ | omega | (simp only [lz]; omega) | (simp; omega) | (simp [cloL, clo, catS, repl, cz, encR, encY, encS]; done) | (show chkGo _ _ _ _ _ = true; kernel_rfl)) | (simp [cloL, clo, catS, repl, cz, encR, encY, encS]; done) | skip)
          all_goals (try (exfalso; omega))
          refine ⟨⟨k + 1, by omega, by omega, ?_⟩⟩
          (repeat' (first | (intro rx hrx; have hq := hsub1 hrx (by omega); subst hq; clear hrx) | (intro rx hrx; have hq := hsub2 hrx (by omega); subst hq; clear hrx) | (intro rx hrx; have hq := hsub3 hrx (by omega); subst hq; clear hrx) | (intro rx hrx; have hq := hsub4 hrx (by omega); subst hq; clear hrx) | (intro rx hrx; have hq := hsub5 hrx (by omega); subst hq; clear hrx) | (intro rx hrx; have hq := hsub6 hrx (by omega); subst hq; clear hrx) | (intro ex hex; have hq := hg1 (by omega) hex; subst hq; clear hex) | (intro ex hex; have hq := hg2 (by omega) hex; subst hq; clear hex) | (refine Ev.go ?_; conv => whnf) | refine And.intro ?_ ?_ | exact True.intro | exact rfl | (intro rx hrx; rw [IntWalk.i64_in _ (by omega)] at hrx) | (intro hcx; exfalso; omega) | intro _))
          all_goals (first | (refine ⟨?_⟩; first | rfl | exact List.cons_ne_nil _ _ | (show (_ : Nat) * _ ≤ _; simp [catS, repl, chunks, lz] <;> omega) | exact shS _ _ | exact shM _ | exact shN | exact encM_clo _ | exact ⟨rfl, rfl⟩ | exact ⟨rfl, rfl, rfl⟩ | omega | (simp only [lz]; omega) | (simp; omega) | (simp [cloL, clo, catS, repl, cz, encR, encY, encS]; done) | (show chkGo _ _ _ _ _ = true; kernel_rfl)) | (simp [cloL, clo, catS, repl, cz, encR, encY, encS]; done) | skip)
          all_goals (try (refine ⟨?_⟩; rw [hst]; omega))
      · have hke : k = s.members.length := by omega
        subst hke
        rw [List.take_of_length_le (by omega)]
        rw [List.take_of_length_le (by omega)] at hsb1
        (repeat' (first | (intro rx hrx; have hq := hsub1 hrx (by omega); subst hq; clear hrx) | (intro rx hrx; have hq := hsub2 hrx (by omega); subst hq; clear hrx) | (intro rx hrx; have hq := hsub3 hrx (by omega); subst hq; clear hrx) | (intro rx hrx; have hq := hsub4 hrx (by omega); subst hq; clear hrx) | (intro rx hrx; have hq := hsub5 hrx (by omega); subst hq; clear hrx) | (intro rx hrx; have hq := hsub6 hrx (by omega); subst hq; clear hrx) | (intro ex hex; have hq := hg1 (by omega) hex; subst hq; clear hex) | (intro ex hex; have hq := hg2 (by omega) hex; subst hq; clear hex) | (refine Ev.go ?_; conv => whnf) | refine And.intro ?_ ?_ | exact True.intro | exact rfl | (intro rx hrx; rw [IntWalk.i64_in _ (by omega)] at hrx) | (intro hcx; exfalso; omega) | intro _))
        all_goals (first | (refine ⟨?_⟩; first | rfl | exact List.cons_ne_nil _ _ | (show (_ : Nat) * _ ≤ _; simp [catS, repl, chunks, lz] <;> omega) | exact shS _ _ | exact shM _ | exact shN | exact encM_clo _ | exact ⟨rfl, rfl⟩ | exact ⟨rfl, rfl, rfl⟩ | omega | (simp only [lz]; omega) | (simp; omega) | (simp [cloL, clo, catS, repl, cz, encR, encY, encS]; done) | (show chkGo _ _ _ _ _ = true; kernel_rfl)) | (simp [cloL, clo, catS, repl, cz, encR, encY, encS]; done) | skip)
        all_goals (try (exfalso; omega))
        all_goals
          refine TSq.pureC c19 (by simp [cloL, clo, encR, encY, encSoc, encT, encS, cz]) rfl (And.intro rfl rfl) ?_
          (repeat' (first | (intro rx hrx; have hq := hsub1 hrx (by omega); subst hq; clear hrx) | (intro rx hrx; have hq := hsub2 hrx (by omega); subst hq; clear hrx) | (intro rx hrx; have hq := hsub3 hrx (by omega); subst hq; clear hrx) | (intro rx hrx; have hq := hsub4 hrx (by omega); subst hq; clear hrx) | (intro rx hrx; have hq := hsub5 hrx (by omega); subst hq; clear hrx) | (intro rx hrx; have hq := hsub6 hrx (by omega); subst hq; clear hrx) | (intro ex hex; have hq := hg1 (by omega) hex; subst hq; clear hex) | (intro ex hex; have hq := hg2 (by omega) hex; subst hq; clear hex) | (refine Ev.go ?_; conv => whnf) | refine And.intro ?_ ?_ | exact True.intro | exact rfl | (intro rx hrx; rw [IntWalk.i64_in _ (by omega)] at hrx) | (intro hcx; exfalso; omega) | intro _))
          try rfl
  · intro hr
    (repeat' (first | (refine Ev.go ?_; conv => whnf) | refine And.intro ?_ ?_ | exact True.intro | exact rfl | (intro rx hrx; rw [IntWalk.i64_in _ (by omega)] at hrx) | (intro hcx; exfalso; omega) | (intro hcx; exfalso; simp only [lz] at hcx; omega) | (intro ex hex; (first | obtain ⟨xx, hxx, rfl⟩ := ints_at hex | obtain ⟨xx, hxx, rfl⟩ := encYs_at hex | obtain ⟨xx, hxx, rfl⟩ := encRs_at hex); clear hex; try simp only [Int.toNat_natCast] at hxx) | intro _))
    refine TSq.pureC c19 (by simp [cloL, clo, encR, encY, encSoc, encT, encS, cz]) rfl (And.intro rfl rfl) ?_
    (repeat' (first | (refine Ev.go ?_; conv => whnf) | refine And.intro ?_ ?_ | exact True.intro | exact rfl | (intro rx hrx; rw [IntWalk.i64_in _ (by omega)] at hrx) | (intro hcx; exfalso; omega) | (intro hcx; exfalso; simp only [lz] at hcx; omega) | (intro ex hex; (first | obtain ⟨xx, hxx, rfl⟩ := ints_at hex | obtain ⟨xx, hxx, rfl⟩ := encYs_at hex | obtain ⟨xx, hxx, rfl⟩ := encRs_at hex); clear hex; try simp only [Int.toNat_natCast] at hxx) | intro _))
    try rfl
end Go.Proofs.Ythnaamkempmjkaa
