/- CallEnds, the walk of the statement. -/
import Derived.Test.YthnaamkempmjkaaOf
import Derived.Test.YthnaamkempmjkaaKt
import Derived.Test.YthnaamkempmjkaaKfL4
set_option linter.unusedSimpArgs false
set_option linter.unusedVariables false
open Go Go.TV
namespace Go.Proofs.Ythnaamkempmjkaa

def fl5 (g : Nat → Bool) : List SV := [.bool (g 0), .bool (g 1), .bool (g 2), .bool (g 3), .bool (g 4)]
theorem splice5 {g g' : Nat → Bool} {n m : Nat} {v : Bool} {k : List SV → Prop} (hm : m = n) (hn : n < 5) (hv : v = g' n) (ho : ∀ i, i ≠ n → g i = g' i) (hk : Ev (k (fl5 g'))) : spliceK (fl5 g) m [.bool v] k := by
  subst hm
  have h := hk.at
  have : m = 0 ∨ m = 1 ∨ m = 2 ∨ m = 3 ∨ m = 4 := by omega
  unfold fl5 at h ⊢
  rcases this with rfl | rfl | rfl | rfl | rfl
  · rw [← hv, ← ho 1 (by decide), ← ho 2 (by decide), ← ho 3 (by decide), ← ho 4 (by decide)] at h; exact h
  · rw [← hv, ← ho 0 (by decide), ← ho 2 (by decide), ← ho 3 (by decide), ← ho 4 (by decide)] at h; exact h
  · rw [← hv, ← ho 0 (by decide), ← ho 1 (by decide), ← ho 3 (by decide), ← ho 4 (by decide)] at h; exact h
  · rw [← hv, ← ho 0 (by decide), ← ho 1 (by decide), ← ho 2 (by decide), ← ho 4 (by decide)] at h; exact h
  · rw [← hv, ← ho 0 (by decide), ← ho 1 (by decide), ← ho 2 (by decide), ← ho 3 (by decide)] at h; exact h
/-- Whether an end was reached so far. -/
def reachE (n : Nat) (g : Nat → Int → Int) (e : Nat → Int) (lo : Int) : Nat → Nat → Bool
  | 0, _ => false
  | j + 1, i => reachE n g e lo j i || (decide (i < n) && decide (g i (lo + j) = e i))
theorem reachE_of {n : Nat} {g : Nat → Int → Int} {e : Nat → Int} {lo : Int} {i m : Nat} (hi : i < n) (he : g i (lo + m) = e i) : ∀ {j : Nat}, m < j → reachE n g e lo j i = true
  | j + 1, h => by
    simp only [reachE]
    rcases Nat.lt_or_ge m j with h' | h'
    · rw [reachE_of hi he h']; rfl
    · have : m = j := by omega
      subst this; simp [hi, he]
def mixE (A B : Nat → Bool) (k i : Nat) : Bool := if i < k then B i else A i
theorem mixE_cur {A B : Nat → Bool} (k : Nat) : mixE A B k k = A k := by simp [mixE]
theorem mixE_at {A B : Nat → Bool} (k : Nat) : B k = mixE A B (k + 1) k := by simp [mixE]
theorem mixE_other {A B : Nat → Bool} {k i : Nat} (h : i ≠ k) : mixE A B k i = mixE A B (k + 1) i := by
  unfold mixE
  have : i < k ↔ i < k + 1 := by omega
  simp only [this]
theorem mixE_n {n : Nat} {g : Nat → Int → Int} {e : Nat → Int} {lo : Int} {j : Nat} : mixE (reachE n g e lo j) (reachE n g e lo (j + 1)) n = reachE n g e lo (j + 1) := by
  funext i
  unfold mixE
  split
  · rfl
  · rename_i h; simp [reachE, h]
theorem fl5_get {g : Nat → Bool} {k : Nat} (h : k < 5) : (fl5 g)[0 + (k : Int).toNat * 1]? = some (.bool (g k)) := fl5_at h
theorem fault_lo {s : Soc} {i : Nat} {o : Nat} (h : fault s = 0) (hi : i < s.members.length) (hb : bitN o i = true) : (boundsOf s (bitsN o s.members.length))[i]? = some ⟨0, 0⟩ := by
  rw [boundsOf_eq h]
  simp only [List.getElem?_map, List.getElem?_range hi, Option.map_some, Option.some.injEq]
  have hn := needs_le h
  have hz : ∀ n ∈ every (needsOf s), (callsF s.members 6 (askF s.members (bitsN o s.members.length)) n fun _ => 0).1 i = 0 := fun n hn' => by
    have hm := every_mem.1 hn'
    exact (calls_paid h (bitsN o s.members.length) (n := n) (by omega)).other i (by simp only [askF, bitsN_contains hi, hb]; simp)
  refine (bnd_unique (g := fun n => (callsF s.members 6 (askF s.members (bitsN o s.members.length)) n fun _ => 0).1 i) (r := ⟨0, 0⟩) ⟨(needsOf s).lo, every_mem.2 ⟨Int.le_refl _, hn.1.2⟩, hz _ (every_mem.2 ⟨Int.le_refl _, hn.1.2⟩)⟩ ⟨(needsOf s).lo, every_mem.2 ⟨Int.le_refl _, hn.1.2⟩, hz _ (every_mem.2 ⟨Int.le_refl _, hn.1.2⟩)⟩ fun n hn' => ?_).symm
  rw [hz n hn']; simp

set_option maxHeartbeats 16000000 in
set_option maxRecDepth 100000 in
theorem c4 (s : Soc) (bits : Int) (hbt : 0 ≤ bits ∧ bits ≤ 255) : PF Try.prog 4 [encSoc s, .int .u8 bits] (· = .bool true) := by
  obtain ⟨b, rfl⟩ := Int.eq_ofNat_of_zero_le hbt.1
  refine PF.of (TF.ev fn_4 (Ev.at ?_))
  (repeat' (first | (refine Ev.go ?_; conv => whnf) | refine And.intro ?_ ?_ | exact True.intro | exact rfl | (intro rx hrx; rw [IntWalk.i64_in _ (by omega)] at hrx) | (intro hcx; exfalso; omega) | (intro hcx; exfalso; simp only [lz] at hcx; omega) | intro _))
  refine TSq.pureBC (c27 s) cl rfl (And.intro rfl rfl) ?_ ?_
  · intro hr
    have h0 : fault s = 0 := by simpa [ready] using hr
    have hl := fault_len h0
    have hz := encYs_len s.members
    have hpos := (fault_ok h0).2.2.2.2
    have hnn := needs_le h0
    have b1 := c21 s (by omega) (by omega)
    have d28 := c28 s (by omega) (by omega)
    simp only [needsR, if_neg (show ¬ fault s ≠ 0 by simpa using h0)] at d28
    have d29 := c29 s (by omega) (by omega)
    simp only [withoutR, if_neg (show ¬ fault s ≠ 0 by simpa using h0), if_pos (listed_nil s)] at d29
    have bE := c32 s (by omega)
    have hp2' : 2 ^ s.members.length ≤ 32 := Nat.pow_le_pow_right (n := 2) (by omega) hl.1
    have hp1 : 1 ≤ 2 ^ s.members.length := Nat.one_le_two_pow
    have hom : b % 2 ^ s.members.length < 2 ^ s.members.length := Nat.mod_lt _ hp1
    have d31 := c31 (b % 2 ^ s.members.length) (by omega)
    have hbl := bitsN_more hom (10 - s.members.length)
    rw [show s.members.length + (10 - s.members.length) = 10 by omega] at hbl
    rw [hbl] at d31
    have hbn := bitsN_len (b % 2 ^ s.members.length) s.members.length
    have hli : s.listed (bitsN (b % 2 ^ s.members.length) s.members.length) = true := by
      simp only [Soc.listed, Bool.and_eq_true, decide_eq_true_eq, List.all_eq_true, within]
      refine ⟨fun x hx => ?_, bitsN_sorted _ _⟩
      obtain ⟨i, h1, _, rfl⟩ := mem_bitsN.1 hx; omega
    have d30 := c30 s (bitsN (b % 2 ^ s.members.length) s.members.length) (by omega) (by omega) (by omega)
    simp only [withoutR, if_neg (show ¬ fault s ≠ 0 by simpa using h0), if_pos hli] at d30
    have d34 := c34 s h0
    have d33 := c33 (needsOf s)
    have hbl1 := boundsOf_len (out := []) h0
    have hbl2 := boundsOf_len (out := bitsN (b % 2 ^ s.members.length) s.members.length) h0
    have hr1 := encRs_len (boundsOf s [])
    have hr2 := encRs_len (boundsOf s (bitsN (b % 2 ^ s.members.length) s.members.length))
    have hw0 := fun i (hi : i < s.members.length) (hb : bitN b i = true) => fault_lo (o := b % 2 ^ s.members.length) h0 hi (by rw [bitN_mod hi]; exact hb)
    obtain ⟨L, hL⟩ : ∃ L : Nat, (needsOf s).lo + L = (needsOf s).hi + 1 := ⟨((needsOf s).hi + 1 - (needsOf s).lo).toNat, by omega⟩
    have d35 := fun n (hn : 0 ≤ n ∧ n ≤ 300000) => c35 s n (by omega) (by omega)
    have hpay : ∀ n, (callsOf s [] n).1 = tab s.members.length fun i => payF s (askF s.members []) n i := fun n => rfl
    -- both ends are reached
    have hend : ∀ i, i < s.members.length → ∃ r : Rng, (boundsOf s [])[i]? = some r ∧ (∃ m : Nat, m < L ∧ payF s (askF s.members []) ((needsOf s).lo + m) i = r.lo) ∧ ∃ m : Nat, m < L ∧ payF s (askF s.members []) ((needsOf s).lo + m) i = r.hi := fun i hi => by
      obtain ⟨⟨x, hx, ex⟩, ⟨y, hy, ey⟩, _⟩ := bndF_is (fun n => payF s (askF s.members []) n i) (every (needsOf s)) (every_ne hnn.1.2)
      rw [every_mem] at hx hy
      refine ⟨_, by rw [boundsOf_eq h0]; simp only [List.getElem?_map, List.getElem?_range hi]; rfl, ⟨(x - (needsOf s).lo).toNat, by omega, ?_⟩, ⟨(y - (needsOf s).lo).toNat, by omega, ?_⟩⟩
      · rw [show (needsOf s).lo + ((x - (needsOf s).lo).toNat : Int) = x by omega]; exact ex
      · rw [show (needsOf s).lo + ((y - (needsOf s).lo).toNat : Int) = y by omega]; exact ey
    have hcall : ∀ n, 0 ≤ n ∧ n ≤ 300000 → ∃ q, PF Try.prog 35 [encSoc s, .int .i64 n] (· = .tup [.sl 1 (ints (tab s.members.length fun i => payF s (askF s.members []) n i)), .int .i64 q, .int .i64 0]) := fun n hn => by
      have d := d35 n hn
      rw [callsR_good h0 hn, hpay] at d
      exact ⟨_, d⟩
    clear hpay d35
    have hG : ∃ G : Nat → Int → Int, G = fun i n => payF s (askF s.members []) n i := ⟨_, rfl⟩
    obtain ⟨G, hG⟩ := hG
    have hGp : ∀ n i, payF s (askF s.members []) n i = G i n := fun n i => by rw [hG]
    simp only [hGp] at hend hcall
    clear hG hGp
    obtain ⟨E, hE⟩ : ∃ E : Nat → Rng, ∀ i, i < s.members.length → (boundsOf s [])[i]? = some (E i) := ⟨fun i => (boundsOf s []).getD i ⟨0, 0⟩, fun i hi => by obtain ⟨r, h1, _⟩ := hend i hi; simp [List.getD_eq_getElem?_getD, h1]⟩
    have hend' : ∀ i, i < s.members.length → (∃ m : Nat, m < L ∧ G i ((needsOf s).lo + m) = (E i).lo) ∧ ∃ m : Nat, m < L ∧ G i ((needsOf s).lo + m) = (E i).hi := fun i hi => by
      obtain ⟨r, h1, h2⟩ := hend i hi
      rw [hE i hi] at h1; cases h1; exact h2
    have hgB : ∀ k, k < s.members.length → ∀ {n : Nat} {e : SV}, n = k → (encRs (boundsOf s []))[n]? = some e → e = encR (E k) := by
      rintro k hk n e rfl he
      obtain ⟨x, hx, rfl⟩ := encRs_at he
      rw [hE n hk] at hx; cases hx; rfl
    have hgW : ∀ k, k < s.members.length → bitN b k = true → ∀ {n : Nat} {e : SV}, n = k → (encRs (boundsOf s (bitsN (b % 2 ^ s.members.length) s.members.length)))[n]? = some e → e = encR ⟨0, 0⟩ := by
      rintro k hk hb n e rfl he
      obtain ⟨x, hx, rfl⟩ := encRs_at he
      rw [hw0 n hk hb] at hx; cases hx; rfl
    have hres1 : True := trivial
    have hsub2 : ∀ {x : Int}, x = IntKind.i64.wrap (b : Int) → (0 : Int) ≤ 0 → x = b := fun h _ => by rw [h, IntWalk.i64_in _ (by omega)]
    have hsub3 : ∀ {x : Int}, x = IntKind.i64.wrap ((BitVec.ofInt IntKind.i64.bits (b : Int) &&& BitVec.ofInt IntKind.i64.bits ((2 ^ s.members.length - 1 : Nat) : Int)).toNat : Int) → (0 : Int) ≤ 0 → x = ((b % 2 ^ s.members.length : Nat) : Int) := fun h _ => by
      rw [and_n h (by omega) (by omega), and_low]
    clear hend hE hw0 hres1
    generalize hq : (2 ^ s.members.length - 1 : Nat) = q at *
    generalize ho : b % 2 ^ s.members.length = o at *
    generalize bitsN o s.members.length = O at *
    generalize boundsOf s O = W at *
    generalize boundsOf s [] = B at *
    generalize needsOf s = N at *
    (repeat' (first | (intro rx hrx; have hq := hres1 hrx (by omega); clear hrx) | (intro rx hrx; have hq := hsub1 hrx (by omega); subst hq; clear hrx) | (intro rx hrx; have hq := hsub2 hrx (by omega); subst hq; clear hrx) | (intro rx hrx; have hq := hsub3 hrx (by omega); subst hq; clear hrx) | (intro rx hrx; have hq := hsub4 hrx (by omega); subst hq; clear hrx) | (intro rx hrx; have hq := hsub5 hrx (by omega); subst hq; clear hrx) | (intro ex hex; have hq := hg1 (by omega) hex; subst hq; clear hex) | (intro ex hex; have hq := hg2 (by omega) hex; subst hq; clear hex) | (refine Ev.go ?_; conv => whnf) | refine And.intro ?_ ?_ | exact True.intro | exact rfl | (intro rx hrx; rw [IntWalk.i64_in _ (by omega)] at hrx) | (intro hcx; exfalso; omega) | intro _))
    refine TSq.pureC b1 cl rfl (And.intro rfl rfl) ?_
    (repeat' (first | (intro rx hrx; have hq := hres1 hrx (by omega); clear hrx) | (intro rx hrx; have hq := hsub1 hrx (by omega); subst hq; clear hrx) | (intro rx hrx; have hq := hsub2 hrx (by omega); subst hq; clear hrx) | (intro rx hrx; have hq := hsub3 hrx (by omega); subst hq; clear hrx) | (intro rx hrx; have hq := hsub4 hrx (by omega); subst hq; clear hrx) | (intro rx hrx; have hq := hsub5 hrx (by omega); subst hq; clear hrx) | (intro ex hex; have hq := hg1 (by omega) hex; subst hq; clear hex) | (intro ex hex; have hq := hg2 (by omega) hex; subst hq; clear hex) | (refine Ev.go ?_; conv => whnf) | refine And.intro ?_ ?_ | exact True.intro | exact rfl | (intro rx hrx; rw [IntWalk.i64_in _ (by omega)] at hrx) | (intro hcx; exfalso; omega) | intro _))
    refine TSq.pureC d28 cl rfl (And.intro rfl rfl) ?_
    (repeat' (first | (intro rx hrx; have hq := hres1 hrx (by omega); clear hrx) | (intro rx hrx; have hq := hsub1 hrx (by omega); subst hq; clear hrx) | (intro rx hrx; have hq := hsub2 hrx (by omega); subst hq; clear hrx) | (intro rx hrx; have hq := hsub3 hrx (by omega); subst hq; clear hrx) | (intro rx hrx; have hq := hsub4 hrx (by omega); subst hq; clear hrx) | (intro rx hrx; have hq := hsub5 hrx (by omega); subst hq; clear hrx) | (intro ex hex; have hq := hg1 (by omega) hex; subst hq; clear hex) | (intro ex hex; have hq := hg2 (by omega) hex; subst hq; clear hex) | (refine Ev.go ?_; conv => whnf) | refine And.intro ?_ ?_ | exact True.intro | exact rfl | (intro rx hrx; rw [IntWalk.i64_in _ (by omega)] at hrx) | (intro hcx; exfalso; omega) | intro _))
    all_goals (first | (refine ⟨?_⟩; exact vc) | exact cl | skip)
    refine TSq.pureC b1 cl rfl (And.intro rfl rfl) ?_
    (repeat' (first | (intro rx hrx; have hq := hres1 hrx (by omega); clear hrx) | (intro rx hrx; have hq := hsub1 hrx (by omega); subst hq; clear hrx) | (intro rx hrx; have hq := hsub2 hrx (by omega); subst hq; clear hrx) | (intro rx hrx; have hq := hsub3 hrx (by omega); subst hq; clear hrx) | (intro rx hrx; have hq := hsub4 hrx (by omega); subst hq; clear hrx) | (intro rx hrx; have hq := hsub5 hrx (by omega); subst hq; clear hrx) | (intro ex hex; have hq := hg1 (by omega) hex; subst hq; clear hex) | (intro ex hex; have hq := hg2 (by omega) hex; subst hq; clear hex) | (refine Ev.go ?_; conv => whnf) | refine And.intro ?_ ?_ | exact True.intro | exact rfl | (intro rx hrx; rw [IntWalk.i64_in _ (by omega)] at hrx) | (intro hcx; exfalso; omega) | intro _))
    refine TSq.pureC d29 cl rfl (And.intro rfl rfl) ?_
    (repeat' (first | (intro rx hrx; have hq := hres1 hrx (by omega); clear hrx) | (intro rx hrx; have hq := hsub1 hrx (by omega); subst hq; clear hrx) | (intro rx hrx; have hq := hsub2 hrx (by omega); subst hq; clear hrx) | (intro rx hrx; have hq := hsub3 hrx (by omega); subst hq; clear hrx) | (intro rx hrx; have hq := hsub4 hrx (by omega); subst hq; clear hrx) | (intro rx hrx; have hq := hsub5 hrx (by omega); subst hq; clear hrx) | (intro ex hex; have hq := hg1 (by omega) hex; subst hq; clear hex) | (intro ex hex; have hq := hg2 (by omega) hex; subst hq; clear hex) | (refine Ev.go ?_; conv => whnf) | refine And.intro ?_ ?_ | exact True.intro | exact rfl | (intro rx hrx; rw [IntWalk.i64_in _ (by omega)] at hrx) | (intro hcx; exfalso; omega) | intro _))
    all_goals (first | (refine ⟨?_⟩; exact vc) | exact cl | skip)
    refine TDq.pureC b1 cl rfl (And.intro rfl rfl) ?_
    (repeat' (first | (intro rx hrx; have hq := hres1 hrx (by omega); clear hrx) | (intro rx hrx; have hq := hsub1 hrx (by omega); subst hq; clear hrx) | (intro rx hrx; have hq := hsub2 hrx (by omega); subst hq; clear hrx) | (intro rx hrx; have hq := hsub3 hrx (by omega); subst hq; clear hrx) | (intro rx hrx; have hq := hsub4 hrx (by omega); subst hq; clear hrx) | (intro rx hrx; have hq := hsub5 hrx (by omega); subst hq; clear hrx) | (intro ex hex; have hq := hg1 (by omega) hex; subst hq; clear hex) | (intro ex hex; have hq := hg2 (by omega) hex; subst hq; clear hex) | (refine Ev.go ?_; conv => whnf) | refine And.intro ?_ ?_ | exact True.intro | exact rfl | (intro rx hrx; rw [IntWalk.i64_in _ (by omega)] at hrx) | (intro hcx; exfalso; omega) | intro _))
    refine TDq.pureC bE cl rfl (And.intro rfl rfl) ?_
    (repeat' (first | (intro rx hrx; have hq := hres1 hrx (by omega); clear hrx) | (intro rx hrx; have hq := hsub1 hrx (by omega); subst hq; clear hrx) | (intro rx hrx; have hq := hsub2 hrx (by omega); subst hq; clear hrx) | (intro rx hrx; have hq := hsub3 hrx (by omega); subst hq; clear hrx) | (intro rx hrx; have hq := hsub4 hrx (by omega); subst hq; clear hrx) | (intro rx hrx; have hq := hsub5 hrx (by omega); subst hq; clear hrx) | (intro ex hex; have hq := hg1 (by omega) hex; subst hq; clear hex) | (intro ex hex; have hq := hg2 (by omega) hex; subst hq; clear hex) | (refine Ev.go ?_; conv => whnf) | refine And.intro ?_ ?_ | exact True.intro | exact rfl | (intro rx hrx; rw [IntWalk.i64_in _ (by omega)] at hrx) | (intro hcx; exfalso; omega) | intro _))
    refine TDq.pureC d31 cl rfl (And.intro rfl rfl) ?_
    (repeat' (first | (intro rx hrx; have hq := hres1 hrx (by omega); clear hrx) | (intro rx hrx; have hq := hsub1 hrx (by omega); subst hq; clear hrx) | (intro rx hrx; have hq := hsub2 hrx (by omega); subst hq; clear hrx) | (intro rx hrx; have hq := hsub3 hrx (by omega); subst hq; clear hrx) | (intro rx hrx; have hq := hsub4 hrx (by omega); subst hq; clear hrx) | (intro rx hrx; have hq := hsub5 hrx (by omega); subst hq; clear hrx) | (intro ex hex; have hq := hg1 (by omega) hex; subst hq; clear hex) | (intro ex hex; have hq := hg2 (by omega) hex; subst hq; clear hex) | (refine Ev.go ?_; conv => whnf) | refine And.intro ?_ ?_ | exact True.intro | exact rfl | (intro rx hrx; rw [IntWalk.i64_in _ (by omega)] at hrx) | (intro hcx; exfalso; omega) | intro _))
    refine TDq.pureC d30 cl rfl (And.intro rfl rfl) ?_
    (repeat' (first | (intro rx hrx; have hq := hres1 hrx (by omega); clear hrx) | (intro rx hrx; have hq := hsub1 hrx (by omega); subst hq; clear hrx) | (intro rx hrx; have hq := hsub2 hrx (by omega); subst hq; clear hrx) | (intro rx hrx; have hq := hsub3 hrx (by omega); subst hq; clear hrx) | (intro rx hrx; have hq := hsub4 hrx (by omega); subst hq; clear hrx) | (intro rx hrx; have hq := hsub5 hrx (by omega); subst hq; clear hrx) | (intro ex hex; have hq := hg1 (by omega) hex; subst hq; clear hex) | (intro ex hex; have hq := hg2 (by omega) hex; subst hq; clear hex) | (refine Ev.go ?_; conv => whnf) | refine And.intro ?_ ?_ | exact True.intro | exact rfl | (intro rx hrx; rw [IntWalk.i64_in _ (by omega)] at hrx) | (intro hcx; exfalso; omega) | intro _))
    all_goals (first | (refine ⟨?_⟩; exact vk) | exact cl | skip)
    refine TDq.pureC d34 cl rfl (And.intro rfl rfl) ?_
    (repeat' (first | (intro rx hrx; have hq := hres1 hrx (by omega); clear hrx) | (intro rx hrx; have hq := hsub1 hrx (by omega); subst hq; clear hrx) | (intro rx hrx; have hq := hsub2 hrx (by omega); subst hq; clear hrx) | (intro rx hrx; have hq := hsub3 hrx (by omega); subst hq; clear hrx) | (intro rx hrx; have hq := hsub4 hrx (by omega); subst hq; clear hrx) | (intro rx hrx; have hq := hsub5 hrx (by omega); subst hq; clear hrx) | (intro ex hex; have hq := hg1 (by omega) hex; subst hq; clear hex) | (intro ex hex; have hq := hg2 (by omega) hex; subst hq; clear hex) | (refine Ev.go ?_; conv => whnf) | refine And.intro ?_ ?_ | exact True.intro | exact rfl | (intro rx hrx; rw [IntWalk.i64_in _ (by omega)] at hrx) | (intro hcx; exfalso; omega) | intro _))
    refine TDq.pureC d33 cl rfl (And.intro rfl rfl) ?_
    (repeat' (first | (intro rx hrx; have hq := hres1 hrx (by omega); clear hrx) | (intro rx hrx; have hq := hsub1 hrx (by omega); subst hq; clear hrx) | (intro rx hrx; have hq := hsub2 hrx (by omega); subst hq; clear hrx) | (intro rx hrx; have hq := hsub3 hrx (by omega); subst hq; clear hrx) | (intro rx hrx; have hq := hsub4 hrx (by omega); subst hq; clear hrx) | (intro rx hrx; have hq := hsub5 hrx (by omega); subst hq; clear hrx) | (intro ex hex; have hq := hg1 (by omega) hex; subst hq; clear hex) | (intro ex hex; have hq := hg2 (by omega) hex; subst hq; clear hex) | (refine Ev.go ?_; conv => whnf) | refine And.intro ?_ ?_ | exact True.intro | exact rfl | (intro rx hrx; rw [IntWalk.i64_in _ (by omega)] at hrx) | (intro hcx; exfalso; omega) | intro _))
    all_goals (first | (refine ⟨?_⟩; exact vk) | exact cl | skip)
    all_goals (try (rename_i h; exact absurd rfl h))
    all_goals (try (exfalso; omega))
    have hlen : ∀ j : Nat, (ints (tab s.members.length fun i => G i (N.lo + j))).length = s.members.length := fun j => by rw [ints_len, tab_len]
    refine TWq.loop (fun j : Nat => [(13, .int .i64 (N.lo + j))]) (fun j => [(2, .cells (fl5 (reachE s.members.length G (fun i => (E i).lo) N.lo j))), (3, .cells (fl5 (reachE s.members.length G (fun i => (E i).hi) N.lo j)))]) (fun j => j ≤ L) (fun j => L - j) 0 [] [] ?_ (by omega) ?_
    · (repeat' (first | (intro rx hrx; have hq := hres1 hrx (by omega); clear hrx) | (intro rx hrx; have hq := hsub1 hrx (by omega); subst hq; clear hrx) | (intro rx hrx; have hq := hsub2 hrx (by omega); subst hq; clear hrx) | (intro rx hrx; have hq := hsub3 hrx (by omega); subst hq; clear hrx) | (intro rx hrx; have hq := hsub4 hrx (by omega); subst hq; clear hrx) | (intro rx hrx; have hq := hsub5 hrx (by omega); subst hq; clear hrx) | (intro ex hex; have hq := hg1 (by omega) hex; subst hq; clear hex) | (intro ex hex; have hq := hg2 (by omega) hex; subst hq; clear hex) | (refine Ev.go ?_; conv => whnf) | refine And.intro ?_ ?_ | exact True.intro | exact rfl | (intro rx hrx; rw [IntWalk.i64_in _ (by omega)] at hrx) | (intro hcx; exfalso; omega) | intro _))
      all_goals (first | (refine ⟨?_⟩; exact vc) | exact cl | skip)
    · intro j hj
      rcases Nat.lt_or_ge j L with hjl | hjl
      · obtain ⟨q', d⟩ := hcall (N.lo + j) (by omega)
        have hlj := hlen j
        (repeat' (first | (intro rx hrx; have hq := hres1 hrx (by omega); clear hrx) | (intro rx hrx; have hq := hsub1 hrx (by omega); subst hq; clear hrx) | (intro rx hrx; have hq := hsub2 hrx (by omega); subst hq; clear hrx) | (intro rx hrx; have hq := hsub3 hrx (by omega); subst hq; clear hrx) | (intro rx hrx; have hq := hsub4 hrx (by omega); subst hq; clear hrx) | (intro rx hrx; have hq := hsub5 hrx (by omega); subst hq; clear hrx) | (intro ex hex; have hq := hg1 (by omega) hex; subst hq; clear hex) | (intro ex hex; have hq := hg2 (by omega) hex; subst hq; clear hex) | (refine Ev.go ?_; conv => whnf) | refine And.intro ?_ ?_ | exact True.intro | exact rfl | (intro rx hrx; rw [IntWalk.i64_in _ (by omega)] at hrx) | (intro hcx; exfalso; omega) | intro _))
        all_goals (try (exfalso; omega))
        all_goals (first | (refine ⟨?_⟩; exact vc) | exact cl | skip)
        refine TSq.pureC b1 cl rfl (And.intro rfl rfl) ?_
        (repeat' (first | (intro rx hrx; have hq := hres1 hrx (by omega); clear hrx) | (intro rx hrx; have hq := hsub1 hrx (by omega); subst hq; clear hrx) | (intro rx hrx; have hq := hsub2 hrx (by omega); subst hq; clear hrx) | (intro rx hrx; have hq := hsub3 hrx (by omega); subst hq; clear hrx) | (intro rx hrx; have hq := hsub4 hrx (by omega); subst hq; clear hrx) | (intro rx hrx; have hq := hsub5 hrx (by omega); subst hq; clear hrx) | (intro ex hex; have hq := hg1 (by omega) hex; subst hq; clear hex) | (intro ex hex; have hq := hg2 (by omega) hex; subst hq; clear hex) | (refine Ev.go ?_; conv => whnf) | refine And.intro ?_ ?_ | exact True.intro | exact rfl | (intro rx hrx; rw [IntWalk.i64_in _ (by omega)] at hrx) | (intro hcx; exfalso; omega) | intro _))
        refine TSq.pureC d cl rfl (And.intro rfl rfl) ?_
        (repeat' (first | (intro rx hrx; have hq := hres1 hrx (by omega); clear hrx) | (intro rx hrx; have hq := hsub1 hrx (by omega); subst hq; clear hrx) | (intro rx hrx; have hq := hsub2 hrx (by omega); subst hq; clear hrx) | (intro rx hrx; have hq := hsub3 hrx (by omega); subst hq; clear hrx) | (intro rx hrx; have hq := hsub4 hrx (by omega); subst hq; clear hrx) | (intro rx hrx; have hq := hsub5 hrx (by omega); subst hq; clear hrx) | (intro ex hex; have hq := hg1 (by omega) hex; subst hq; clear hex) | (intro ex hex; have hq := hg2 (by omega) hex; subst hq; clear hex) | (refine Ev.go ?_; conv => whnf) | refine And.intro ?_ ?_ | exact True.intro | exact rfl | (intro rx hrx; rw [IntWalk.i64_in _ (by omega)] at hrx) | (intro hcx; exfalso; omega) | intro _))
        all_goals (try (exfalso; omega))
        all_goals (first | (refine ⟨?_⟩; exact vc) | exact cl | skip)
        refine TWq.loop (fun k : Nat => [(17, .int .i64 k)]) (fun k => [(2, .cells (fl5 (mixE (reachE s.members.length G (fun i => (E i).lo) N.lo j) (reachE s.members.length G (fun i => (E i).lo) N.lo (j + 1)) k))), (3, .cells (fl5 (mixE (reachE s.members.length G (fun i => (E i).hi) N.lo j) (reachE s.members.length G (fun i => (E i).hi) N.lo (j + 1)) k)))]) (fun k => k ≤ s.members.length) (fun k => s.members.length - k) 0 [] [] ?_ (by omega) ?_
        · (repeat' (first | (intro rx hrx; have hq := hres1 hrx (by omega); clear hrx) | (intro rx hrx; have hq := hsub1 hrx (by omega); subst hq; clear hrx) | (intro rx hrx; have hq := hsub2 hrx (by omega); subst hq; clear hrx) | (intro rx hrx; have hq := hsub3 hrx (by omega); subst hq; clear hrx) | (intro rx hrx; have hq := hsub4 hrx (by omega); subst hq; clear hrx) | (intro rx hrx; have hq := hsub5 hrx (by omega); subst hq; clear hrx) | (intro ex hex; have hq := hg1 (by omega) hex; subst hq; clear hex) | (intro ex hex; have hq := hg2 (by omega) hex; subst hq; clear hex) | (refine Ev.go ?_; conv => whnf) | refine And.intro ?_ ?_ | exact True.intro | exact rfl | (intro rx hrx; rw [IntWalk.i64_in _ (by omega)] at hrx) | (intro hcx; exfalso; omega) | intro _))
          all_goals (first | (refine ⟨?_⟩; exact vc) | exact cl | skip)
        · intro k hk
          rcases Nat.lt_or_ge k s.members.length with hkl | hkl
          · have hg1 := @hgB k hkl
            have hg2 := @tab_at s.members.length k (fun i => G i (N.lo + j)) hkl
            have hatA := fl5_get (g := mixE (reachE s.members.length G (fun i => (E i).lo) N.lo j) (reachE s.members.length G (fun i => (E i).lo) N.lo (j + 1)) k) (k := k) (by omega)
            have hatB := fl5_get (g := mixE (reachE s.members.length G (fun i => (E i).hi) N.lo j) (reachE s.members.length G (fun i => (E i).hi) N.lo (j + 1)) k) (k := k) (by omega)
            rw [mixE_cur] at hatA hatB
            cases hA : reachE s.members.length G (fun i => (E i).lo) N.lo j k
            all_goals cases hB : reachE s.members.length G (fun i => (E i).hi) N.lo j k
            all_goals
              rw [hA] at hatA
              rw [hB] at hatB
              (repeat' (first | (intro rx hrx; have hq := hres1 hrx (by omega); clear hrx) | (intro rx hrx; have hq := hsub1 hrx (by omega); subst hq; clear hrx) | (intro rx hrx; have hq := hsub2 hrx (by omega); subst hq; clear hrx) | (intro rx hrx; have hq := hsub3 hrx (by omega); subst hq; clear hrx) | (intro rx hrx; have hq := hsub4 hrx (by omega); subst hq; clear hrx) | (intro rx hrx; have hq := hsub5 hrx (by omega); subst hq; clear hrx) | (intro ex hex; have hq := hg1 (by omega) hex; subst hq; clear hex) | (intro ex hex; have hq := hg2 (by omega) hex; subst hq; clear hex) | (refine Ev.go ?_; conv => whnf) | refine And.intro ?_ ?_ | exact True.intro | exact rfl | (intro rx hrx; rw [IntWalk.i64_in _ (by omega)] at hrx) | (intro hcx; exfalso; omega) | intro _))
              all_goals (first | (refine ⟨?_⟩; exact vc) | exact cl | skip)
              refine getK_of hatA ?_
              (repeat' (first | (intro rx hrx; have hq := hres1 hrx (by omega); clear hrx) | (intro rx hrx; have hq := hsub1 hrx (by omega); subst hq; clear hrx) | (intro rx hrx; have hq := hsub2 hrx (by omega); subst hq; clear hrx) | (intro rx hrx; have hq := hsub3 hrx (by omega); subst hq; clear hrx) | (intro rx hrx; have hq := hsub4 hrx (by omega); subst hq; clear hrx) | (intro rx hrx; have hq := hsub5 hrx (by omega); subst hq; clear hrx) | (intro ex hex; have hq := hg1 (by omega) hex; subst hq; clear hex) | (intro ex hex; have hq := hg2 (by omega) hex; subst hq; clear hex) | (refine Ev.go ?_; conv => whnf) | refine And.intro ?_ ?_ | exact True.intro | exact rfl | (intro rx hrx; rw [IntWalk.i64_in _ (by omega)] at hrx) | (intro hcx; exfalso; omega) | intro _))
              all_goals (first | (refine ⟨?_⟩; exact vc) | exact cl | skip)
              all_goals
                refine getK_of hatB ?_
                (repeat' (first | (intro rx hrx; have hq := hres1 hrx (by omega); clear hrx) | (intro rx hrx; have hq := hsub1 hrx (by omega); subst hq; clear hrx) | (intro rx hrx; have hq := hsub2 hrx (by omega); subst hq; clear hrx) | (intro rx hrx; have hq := hsub3 hrx (by omega); subst hq; clear hrx) | (intro rx hrx; have hq := hsub4 hrx (by omega); subst hq; clear hrx) | (intro rx hrx; have hq := hsub5 hrx (by omega); subst hq; clear hrx) | (intro ex hex; have hq := hg1 (by omega) hex; subst hq; clear hex) | (intro ex hex; have hq := hg2 (by omega) hex; subst hq; clear hex) | (refine Ev.go ?_; conv => whnf) | refine And.intro ?_ ?_ | exact True.intro | exact rfl | (intro rx hrx; rw [IntWalk.i64_in _ (by omega)] at hrx) | (intro hcx; exfalso; omega) | intro _))
                all_goals (first | (refine ⟨?_⟩; exact vc) | exact cl | skip)
                all_goals
                  refine splice5 (g := mixE (reachE s.members.length G (fun i => (E i).lo) N.lo j) (reachE s.members.length G (fun i => (E i).lo) N.lo (j + 1)) k) (g' := mixE (reachE s.members.length G (fun i => (E i).lo) N.lo j) (reachE s.members.length G (fun i => (E i).lo) N.lo (j + 1)) (k + 1)) (n := k) (by simp) (by omega) (by rw [← mixE_at]; simp [reachE, hA, hkl]; try assumption) (fun i hi => mixE_other hi) ?_
                  (repeat' (first | (intro rx hrx; have hq := hres1 hrx (by omega); clear hrx) | (intro rx hrx; have hq := hsub1 hrx (by omega); subst hq; clear hrx) | (intro rx hrx; have hq := hsub2 hrx (by omega); subst hq; clear hrx) | (intro rx hrx; have hq := hsub3 hrx (by omega); subst hq; clear hrx) | (intro rx hrx; have hq := hsub4 hrx (by omega); subst hq; clear hrx) | (intro rx hrx; have hq := hsub5 hrx (by omega); subst hq; clear hrx) | (intro ex hex; have hq := hg1 (by omega) hex; subst hq; clear hex) | (intro ex hex; have hq := hg2 (by omega) hex; subst hq; clear hex) | (refine Ev.go ?_; conv => whnf) | refine And.intro ?_ ?_ | exact True.intro | exact rfl | (intro rx hrx; rw [IntWalk.i64_in _ (by omega)] at hrx) | (intro hcx; exfalso; omega) | intro _))
                  all_goals (first | (refine ⟨?_⟩; exact vc) | exact cl | skip)
                  refine splice5 (g := mixE (reachE s.members.length G (fun i => (E i).hi) N.lo j) (reachE s.members.length G (fun i => (E i).hi) N.lo (j + 1)) k) (g' := mixE (reachE s.members.length G (fun i => (E i).hi) N.lo j) (reachE s.members.length G (fun i => (E i).hi) N.lo (j + 1)) (k + 1)) (n := k) (by simp) (by omega) (by rw [← mixE_at]; simp [reachE, hB, hkl]; try assumption) (fun i hi => mixE_other hi) ?_
                  (repeat' (first | (intro rx hrx; have hq := hres1 hrx (by omega); clear hrx) | (intro rx hrx; have hq := hsub1 hrx (by omega); subst hq; clear hrx) | (intro rx hrx; have hq := hsub2 hrx (by omega); subst hq; clear hrx) | (intro rx hrx; have hq := hsub3 hrx (by omega); subst hq; clear hrx) | (intro rx hrx; have hq := hsub4 hrx (by omega); subst hq; clear hrx) | (intro rx hrx; have hq := hsub5 hrx (by omega); subst hq; clear hrx) | (intro ex hex; have hq := hg1 (by omega) hex; subst hq; clear hex) | (intro ex hex; have hq := hg2 (by omega) hex; subst hq; clear hex) | (refine Ev.go ?_; conv => whnf) | refine And.intro ?_ ?_ | exact True.intro | exact rfl | (intro rx hrx; rw [IntWalk.i64_in _ (by omega)] at hrx) | (intro hcx; exfalso; omega) | intro _))
                  all_goals (first | (refine ⟨?_⟩; exact vk) | exact cl | skip)
                  refine ⟨⟨k + 1, by omega, by omega, ?_⟩⟩
                  (repeat' (first | (intro rx hrx; have hq := hres1 hrx (by omega); clear hrx) | (intro rx hrx; have hq := hsub1 hrx (by omega); subst hq; clear hrx) | (intro rx hrx; have hq := hsub2 hrx (by omega); subst hq; clear hrx) | (intro rx hrx; have hq := hsub3 hrx (by omega); subst hq; clear hrx) | (intro rx hrx; have hq := hsub4 hrx (by omega); subst hq; clear hrx) | (intro rx hrx; have hq := hsub5 hrx (by omega); subst hq; clear hrx) | (intro ex hex; have hq := hg1 (by omega) hex; subst hq; clear hex) | (intro ex hex; have hq := hg2 (by omega) hex; subst hq; clear hex) | (refine Ev.go ?_; conv => whnf) | refine And.intro ?_ ?_ | exact True.intro | exact rfl | (intro rx hrx; rw [IntWalk.i64_in _ (by omega)] at hrx) | (intro hcx; exfalso; omega) | intro _))
                  all_goals (first | (refine ⟨?_⟩; exact vc) | exact cl | skip)
          · have hke : k = s.members.length := by omega
            subst hke
            rw [mixE_n, mixE_n]
            (repeat' (first | (intro rx hrx; have hq := hres1 hrx (by omega); clear hrx) | (intro rx hrx; have hq := hsub1 hrx (by omega); subst hq; clear hrx) | (intro rx hrx; have hq := hsub2 hrx (by omega); subst hq; clear hrx) | (intro rx hrx; have hq := hsub3 hrx (by omega); subst hq; clear hrx) | (intro rx hrx; have hq := hsub4 hrx (by omega); subst hq; clear hrx) | (intro rx hrx; have hq := hsub5 hrx (by omega); subst hq; clear hrx) | (intro ex hex; have hq := hg1 (by omega) hex; subst hq; clear hex) | (intro ex hex; have hq := hg2 (by omega) hex; subst hq; clear hex) | (refine Ev.go ?_; conv => whnf) | refine And.intro ?_ ?_ | exact True.intro | exact rfl | (intro rx hrx; rw [IntWalk.i64_in _ (by omega)] at hrx) | (intro hcx; exfalso; omega) | intro _))
            all_goals (first | (refine ⟨?_⟩; exact vc) | exact cl | skip)
            refine ⟨⟨j + 1, by omega, by omega, ?_⟩⟩
            (repeat' (first | (intro rx hrx; have hq := hres1 hrx (by omega); clear hrx) | (intro rx hrx; have hq := hsub1 hrx (by omega); subst hq; clear hrx) | (intro rx hrx; have hq := hsub2 hrx (by omega); subst hq; clear hrx) | (intro rx hrx; have hq := hsub3 hrx (by omega); subst hq; clear hrx) | (intro rx hrx; have hq := hsub4 hrx (by omega); subst hq; clear hrx) | (intro rx hrx; have hq := hsub5 hrx (by omega); subst hq; clear hrx) | (intro ex hex; have hq := hg1 (by omega) hex; subst hq; clear hex) | (intro ex hex; have hq := hg2 (by omega) hex; subst hq; clear hex) | (refine Ev.go ?_; conv => whnf) | refine And.intro ?_ ?_ | exact True.intro | exact rfl | (intro rx hrx; rw [IntWalk.i64_in _ (by omega)] at hrx) | (intro hcx; exfalso; omega) | intro _))
            all_goals (first | (refine ⟨?_⟩; exact vc) | exact cl | skip)
            all_goals (try (refine ⟨?_⟩; omega))
      · have hje : j = L := by omega
        subst hje
        (repeat' (first | (intro rx hrx; have hq := hres1 hrx (by omega); clear hrx) | (intro rx hrx; have hq := hsub1 hrx (by omega); subst hq; clear hrx) | (intro rx hrx; have hq := hsub2 hrx (by omega); subst hq; clear hrx) | (intro rx hrx; have hq := hsub3 hrx (by omega); subst hq; clear hrx) | (intro rx hrx; have hq := hsub4 hrx (by omega); subst hq; clear hrx) | (intro rx hrx; have hq := hsub5 hrx (by omega); subst hq; clear hrx) | (intro ex hex; have hq := hg1 (by omega) hex; subst hq; clear hex) | (intro ex hex; have hq := hg2 (by omega) hex; subst hq; clear hex) | (refine Ev.go ?_; conv => whnf) | refine And.intro ?_ ?_ | exact True.intro | exact rfl | (intro rx hrx; rw [IntWalk.i64_in _ (by omega)] at hrx) | (intro hcx; exfalso; omega) | intro _))
        all_goals (try (exfalso; omega))
        all_goals (first | (refine ⟨?_⟩; exact vc) | exact cl | skip)
        refine TWq.loop (fun k : Nat => [(18, .int .i64 k)]) (fun _ => []) (fun k => k ≤ s.members.length) (fun k => s.members.length - k) 0 [] [] ?_ (by omega) ?_
        · (repeat' (first | (intro rx hrx; have hq := hres1 hrx (by omega); clear hrx) | (intro rx hrx; have hq := hsub1 hrx (by omega); subst hq; clear hrx) | (intro rx hrx; have hq := hsub2 hrx (by omega); subst hq; clear hrx) | (intro rx hrx; have hq := hsub3 hrx (by omega); subst hq; clear hrx) | (intro rx hrx; have hq := hsub4 hrx (by omega); subst hq; clear hrx) | (intro rx hrx; have hq := hsub5 hrx (by omega); subst hq; clear hrx) | (intro ex hex; have hq := hg1 (by omega) hex; subst hq; clear hex) | (intro ex hex; have hq := hg2 (by omega) hex; subst hq; clear hex) | (refine Ev.go ?_; conv => whnf) | refine And.intro ?_ ?_ | exact True.intro | exact rfl | (intro rx hrx; rw [IntWalk.i64_in _ (by omega)] at hrx) | (intro hcx; exfalso; omega) | intro _))
          all_goals (first | (refine ⟨?_⟩; exact vc) | exact cl | skip)
        · intro k hk
          rcases Nat.lt_or_ge k s.members.length with hkl | hkl
          · obtain ⟨⟨m1, hm1, e1⟩, ⟨m2, hm2, e2⟩⟩ := hend' k hkl
            have hatA := fl5_get (g := reachE s.members.length G (fun i => (E i).lo) N.lo j) (k := k) (by omega)
            have hatB := fl5_get (g := reachE s.members.length G (fun i => (E i).hi) N.lo j) (k := k) (by omega)
            rw [reachE_of hkl e1 hm1] at hatA
            rw [reachE_of hkl e2 hm2] at hatB
            have hsub1 : ∀ {x n : Int}, x = IntKind.u64.wrap n → 0 ≤ n ∧ n ≤ 60 → x = n := fun h e => by rw [h, IntWalk.u64_in _ (by omega)]
            have hsub4 : ∀ {x m : Int}, x = (b : Int).fdiv (2 ^ min m.toNat IntKind.i64.bits) → m = k ∧ k ≤ 60 → x = ((b >>> k : Nat) : Int) := fun h e => shr_n h e
            have hsub5 : ∀ {x : Int}, x = ((b >>> k : Nat) : Int).tmod 2 → (0 : Int) ≤ 0 → x = if bitN b k = true then 1 else 0 := fun h _ => bit_n h
            cases hb : bitN b k
            · rw [hb] at hsub5
              simp only [Bool.false_eq_true, if_false] at hsub5
              (repeat' (first | (intro rx hrx; have hq := hres1 hrx (by omega); clear hrx) | (intro rx hrx; have hq := hsub1 hrx (by omega); subst hq; clear hrx) | (intro rx hrx; have hq := hsub2 hrx (by omega); subst hq; clear hrx) | (intro rx hrx; have hq := hsub3 hrx (by omega); subst hq; clear hrx) | (intro rx hrx; have hq := hsub4 hrx (by omega); subst hq; clear hrx) | (intro rx hrx; have hq := hsub5 hrx (by omega); subst hq; clear hrx) | (intro ex hex; have hq := hg1 (by omega) hex; subst hq; clear hex) | (intro ex hex; have hq := hg2 (by omega) hex; subst hq; clear hex) | (refine Ev.go ?_; conv => whnf) | refine And.intro ?_ ?_ | exact True.intro | exact rfl | (intro rx hrx; rw [IntWalk.i64_in _ (by omega)] at hrx) | (intro hcx; exfalso; omega) | intro _))
              all_goals (first | (refine ⟨?_⟩; exact vc) | exact cl | skip)
              refine getK_of hatA ?_
              (repeat' (first | (intro rx hrx; have hq := hres1 hrx (by omega); clear hrx) | (intro rx hrx; have hq := hsub1 hrx (by omega); subst hq; clear hrx) | (intro rx hrx; have hq := hsub2 hrx (by omega); subst hq; clear hrx) | (intro rx hrx; have hq := hsub3 hrx (by omega); subst hq; clear hrx) | (intro rx hrx; have hq := hsub4 hrx (by omega); subst hq; clear hrx) | (intro rx hrx; have hq := hsub5 hrx (by omega); subst hq; clear hrx) | (intro ex hex; have hq := hg1 (by omega) hex; subst hq; clear hex) | (intro ex hex; have hq := hg2 (by omega) hex; subst hq; clear hex) | (refine Ev.go ?_; conv => whnf) | refine And.intro ?_ ?_ | exact True.intro | exact rfl | (intro rx hrx; rw [IntWalk.i64_in _ (by omega)] at hrx) | (intro hcx; exfalso; omega) | intro _))
              all_goals (first | (refine ⟨?_⟩; exact vc) | exact cl | skip)
              refine getK_of hatB ?_
              (repeat' (first | (intro rx hrx; have hq := hres1 hrx (by omega); clear hrx) | (intro rx hrx; have hq := hsub1 hrx (by omega); subst hq; clear hrx) | (intro rx hrx; have hq := hsub2 hrx (by omega); subst hq; clear hrx) | (intro rx hrx; have hq := hsub3 hrx (by omega); subst hq; clear hrx) | (intro rx hrx; have hq := hsub4 hrx (by omega); subst hq; clear hrx) | (intro rx hrx; have hq := hsub5 hrx (by omega); subst hq; clear hrx) | (intro ex hex; have hq := hg1 (by omega) hex; subst hq; clear hex) | (intro ex hex; have hq := hg2 (by omega) hex; subst hq; clear hex) | (refine Ev.go ?_; conv => whnf) | refine And.intro ?_ ?_ | exact True.intro | exact rfl | (intro rx hrx; rw [IntWalk.i64_in _ (by omega)] at hrx) | (intro hcx; exfalso; omega) | intro _))
              all_goals (try (exfalso; omega))
              all_goals (first | (refine ⟨?_⟩; exact vc) | exact cl | skip)
              refine ⟨⟨k + 1, by omega, by omega, ?_⟩⟩
              (repeat' (first | (intro rx hrx; have hq := hres1 hrx (by omega); clear hrx) | (intro rx hrx; have hq := hsub1 hrx (by omega); subst hq; clear hrx) | (intro rx hrx; have hq := hsub2 hrx (by omega); subst hq; clear hrx) | (intro rx hrx; have hq := hsub3 hrx (by omega); subst hq; clear hrx) | (intro rx hrx; have hq := hsub4 hrx (by omega); subst hq; clear hrx) | (intro rx hrx; have hq := hsub5 hrx (by omega); subst hq; clear hrx) | (intro ex hex; have hq := hg1 (by omega) hex; subst hq; clear hex) | (intro ex hex; have hq := hg2 (by omega) hex; subst hq; clear hex) | (refine Ev.go ?_; conv => whnf) | refine And.intro ?_ ?_ | exact True.intro | exact rfl | (intro rx hrx; rw [IntWalk.i64_in _ (by omega)] at hrx) | (intro hcx; exfalso; omega) | intro _))
              all_goals (first | (refine ⟨?_⟩; exact vc) | exact cl | skip)
            · rw [hb] at hsub5
              simp only [if_true] at hsub5
              have hg1 := @hgW k hkl hb
              (repeat' (first | (intro rx hrx; have hq := hres1 hrx (by omega); clear hrx) | (intro rx hrx; have hq := hsub1 hrx (by omega); subst hq; clear hrx) | (intro rx hrx; have hq := hsub2 hrx (by omega); subst hq; clear hrx) | (intro rx hrx; have hq := hsub3 hrx (by omega); subst hq; clear hrx) | (intro rx hrx; have hq := hsub4 hrx (by omega); subst hq; clear hrx) | (intro rx hrx; have hq := hsub5 hrx (by omega); subst hq; clear hrx) | (intro ex hex; have hq := hg1 (by omega) hex; subst hq; clear hex) | (intro ex hex; have hq := hg2 (by omega) hex; subst hq; clear hex) | (refine Ev.go ?_; conv => whnf) | refine And.intro ?_ ?_ | exact True.intro | exact rfl | (intro rx hrx; rw [IntWalk.i64_in _ (by omega)] at hrx) | (intro hcx; exfalso; omega) | intro _))
              all_goals (first | (refine ⟨?_⟩; exact vc) | exact cl | skip)
              refine getK_of hatA ?_
              (repeat' (first | (intro rx hrx; have hq := hres1 hrx (by omega); clear hrx) | (intro rx hrx; have hq := hsub1 hrx (by omega); subst hq; clear hrx) | (intro rx hrx; have hq := hsub2 hrx (by omega); subst hq; clear hrx) | (intro rx hrx; have hq := hsub3 hrx (by omega); subst hq; clear hrx) | (intro rx hrx; have hq := hsub4 hrx (by omega); subst hq; clear hrx) | (intro rx hrx; have hq := hsub5 hrx (by omega); subst hq; clear hrx) | (intro ex hex; have hq := hg1 (by omega) hex; subst hq; clear hex) | (intro ex hex; have hq := hg2 (by omega) hex; subst hq; clear hex) | (refine Ev.go ?_; conv => whnf) | refine And.intro ?_ ?_ | exact True.intro | exact rfl | (intro rx hrx; rw [IntWalk.i64_in _ (by omega)] at hrx) | (intro hcx; exfalso; omega) | intro _))
              all_goals (first | (refine ⟨?_⟩; exact vc) | exact cl | skip)
              refine getK_of hatB ?_
              (repeat' (first | (intro rx hrx; have hq := hres1 hrx (by omega); clear hrx) | (intro rx hrx; have hq := hsub1 hrx (by omega); subst hq; clear hrx) | (intro rx hrx; have hq := hsub2 hrx (by omega); subst hq; clear hrx) | (intro rx hrx; have hq := hsub3 hrx (by omega); subst hq; clear hrx) | (intro rx hrx; have hq := hsub4 hrx (by omega); subst hq; clear hrx) | (intro rx hrx; have hq := hsub5 hrx (by omega); subst hq; clear hrx) | (intro ex hex; have hq := hg1 (by omega) hex; subst hq; clear hex) | (intro ex hex; have hq := hg2 (by omega) hex; subst hq; clear hex) | (refine Ev.go ?_; conv => whnf) | refine And.intro ?_ ?_ | exact True.intro | exact rfl | (intro rx hrx; rw [IntWalk.i64_in _ (by omega)] at hrx) | (intro hcx; exfalso; omega) | intro _))
              all_goals (try (exfalso; omega))
              all_goals (first | (refine ⟨?_⟩; exact vc) | exact cl | skip)
              all_goals (try (rename_i h; exact absurd rfl h))
              refine ⟨⟨k + 1, by omega, by omega, ?_⟩⟩
              (repeat' (first | (intro rx hrx; have hq := hres1 hrx (by omega); clear hrx) | (intro rx hrx; have hq := hsub1 hrx (by omega); subst hq; clear hrx) | (intro rx hrx; have hq := hsub2 hrx (by omega); subst hq; clear hrx) | (intro rx hrx; have hq := hsub3 hrx (by omega); subst hq; clear hrx) | (intro rx hrx; have hq := hsub4 hrx (by omega); subst hq; clear hrx) | (intro rx hrx; have hq := hsub5 hrx (by omega); subst hq; clear hrx) | (intro ex hex; have hq := hg1 (by omega) hex; subst hq; clear hex) | (intro ex hex; have hq := hg2 (by omega) hex; subst hq; clear hex) | (refine Ev.go ?_; conv => whnf) | refine And.intro ?_ ?_ | exact True.intro | exact rfl | (intro rx hrx; rw [IntWalk.i64_in _ (by omega)] at hrx) | (intro hcx; exfalso; omega) | intro _))
              all_goals (first | (refine ⟨?_⟩; exact vc) | exact cl | skip)
          · have hke : k = s.members.length := by omega
            subst hke
            (repeat' (first | (intro rx hrx; have hq := hres1 hrx (by omega); clear hrx) | (intro rx hrx; have hq := hsub1 hrx (by omega); subst hq; clear hrx) | (intro rx hrx; have hq := hsub2 hrx (by omega); subst hq; clear hrx) | (intro rx hrx; have hq := hsub3 hrx (by omega); subst hq; clear hrx) | (intro rx hrx; have hq := hsub4 hrx (by omega); subst hq; clear hrx) | (intro rx hrx; have hq := hsub5 hrx (by omega); subst hq; clear hrx) | (intro ex hex; have hq := hg1 (by omega) hex; subst hq; clear hex) | (intro ex hex; have hq := hg2 (by omega) hex; subst hq; clear hex) | (refine Ev.go ?_; conv => whnf) | refine And.intro ?_ ?_ | exact True.intro | exact rfl | (intro rx hrx; rw [IntWalk.i64_in _ (by omega)] at hrx) | (intro hcx; exfalso; omega) | intro _))
            all_goals (first | (refine ⟨?_⟩; exact vc) | exact cl | skip)
            refine TSq.pureC c19 cl rfl (And.intro rfl rfl) ?_
            (repeat' (first | (intro rx hrx; have hq := hres1 hrx (by omega); clear hrx) | (intro rx hrx; have hq := hsub1 hrx (by omega); subst hq; clear hrx) | (intro rx hrx; have hq := hsub2 hrx (by omega); subst hq; clear hrx) | (intro rx hrx; have hq := hsub3 hrx (by omega); subst hq; clear hrx) | (intro rx hrx; have hq := hsub4 hrx (by omega); subst hq; clear hrx) | (intro rx hrx; have hq := hsub5 hrx (by omega); subst hq; clear hrx) | (intro ex hex; have hq := hg1 (by omega) hex; subst hq; clear hex) | (intro ex hex; have hq := hg2 (by omega) hex; subst hq; clear hex) | (refine Ev.go ?_; conv => whnf) | refine And.intro ?_ ?_ | exact True.intro | exact rfl | (intro rx hrx; rw [IntWalk.i64_in _ (by omega)] at hrx) | (intro hcx; exfalso; omega) | intro _))
            try rfl
  · intro hr
    (repeat' (first | (refine Ev.go ?_; conv => whnf) | refine And.intro ?_ ?_ | exact True.intro | exact rfl | (intro rx hrx; rw [IntWalk.i64_in _ (by omega)] at hrx) | (intro hcx; exfalso; omega) | (intro hcx; exfalso; simp only [lz] at hcx; omega) | intro _))
    refine TSq.pureC c19 cl rfl (And.intro rfl rfl) ?_
    (repeat' (first | (refine Ev.go ?_; conv => whnf) | refine And.intro ?_ ?_ | exact True.intro | exact rfl | (intro rx hrx; rw [IntWalk.i64_in _ (by omega)] at hrx) | (intro hcx; exfalso; omega) | (intro hcx; exfalso; simp only [lz] at hcx; omega) | intro _))
    try rfl
end Go.Proofs.Ythnaamkempmjkaa
