/- The statements' arguments, as societies, and how a statement comes of a contract. -/
import Derived.Test.YthnaamkempmjkaaKe
import Derived.Test.YthnaamkempmjkaaMe3
import Derived.Test.YthnaamkempmjkaaRows
set_option linter.unusedSimpArgs false
set_option linter.unusedVariables false
open Go Go.TV Go.RowKit
namespace Go.Proofs.Ythnaamkempmjkaa

def shI : Sh := .int .i64
def shMem : List Sh := [shI, shI, shI]
def shRng : List Sh := [shI, shI]
def shSoc : List Sh := [.sl 3 true shMem, .sl 2 true shRng, shI, shI, shI]
def shTruth : List Sh := [.sl 1 false [shI], shI]

theorem fits_ints {k : IntKind} {l : List SV} (h : ∀ e ∈ l, ∃ cs, Sh.fitsL [.int k] cs ∧ e = (if false = true then .agg cs else cs.headD .junk)) : ∃ m : List Int, l = m.map (SV.int k) ∧ ∀ n ∈ m, k.min ≤ n ∧ n ≤ k.max := by
  induction l with
  | nil => exact ⟨[], rfl, by simp⟩
  | cons e l ih =>
    obtain ⟨m, rfl, hm⟩ := ih fun e he => h e (by simp [he])
    obtain ⟨cs, h1, h2⟩ := h e (by simp)
    simp only [Sh.fitsL, Sh.fits] at h1
    obtain ⟨s, ss, rfl, ⟨n, rfl, h3⟩, rfl⟩ := h1
    simp at h2
    subst h2
    exact ⟨n :: m, rfl, by intro x hx; rcases List.mem_cons.1 hx with rfl | hx; exact h3; exact hm x hx⟩
theorem fits_mems {l : List SV} (h : ∀ e ∈ l, ∃ cs, Sh.fitsL shMem cs ∧ e = (if true = true then .agg cs else cs.headD .junk)) : ∃ m : List Mem, l = encYs m := by
  induction l with
  | nil => exact ⟨[], rfl⟩
  | cons e l ih =>
    obtain ⟨m, rfl⟩ := ih fun e he => h e (by simp [he])
    obtain ⟨cs, h1, h2⟩ := h e (by simp)
    simp only [shMem, shI, Sh.fitsL, Sh.fits] at h1
    obtain ⟨_, _, rfl, ⟨a, rfl, _⟩, _, _, rfl, ⟨b, rfl, _⟩, _, _, rfl, ⟨c, rfl, _⟩, rfl⟩ := h1
    simp at h2
    subst h2
    exact ⟨⟨a, b, c⟩ :: m, rfl⟩
theorem fits_rngs {l : List SV} (h : ∀ e ∈ l, ∃ cs, Sh.fitsL shRng cs ∧ e = (if true = true then .agg cs else cs.headD .junk)) : ∃ m : List Rng, l = encRs m := by
  induction l with
  | nil => exact ⟨[], rfl⟩
  | cons e l ih =>
    obtain ⟨m, rfl⟩ := ih fun e he => h e (by simp [he])
    obtain ⟨cs, h1, h2⟩ := h e (by simp)
    simp only [shRng, shI, Sh.fitsL, Sh.fits] at h1
    obtain ⟨_, _, rfl, ⟨a, rfl, _⟩, _, _, rfl, ⟨b, rfl, _⟩, rfl⟩ := h1
    simp at h2
    subst h2
    exact ⟨⟨a, b⟩ :: m, rfl⟩
theorem fits_soc {s : SV} (h : fitsA (true, shSoc) s) : ∃ r : Soc, s = encSoc r := by
  obtain ⟨cs, h1, rfl⟩ := h
  simp only [shSoc, shI, Sh.fitsL, Sh.fits] at h1
  obtain ⟨_, _, rfl, ⟨l, rfl, _, hl⟩, _, _, rfl, ⟨l', rfl, _, hl'⟩, _, _, rfl, ⟨c, rfl, _⟩, _, _, rfl, ⟨d, rfl, _⟩, _, _, rfl, ⟨e, rfl, _⟩, rfl⟩ := h1
  obtain ⟨m, rfl⟩ := fits_mems hl
  obtain ⟨m', rfl⟩ := fits_rngs hl'
  exact ⟨⟨m, m', ⟨c, d⟩, e⟩, by simp [encSoc]⟩
theorem fits_truth {s : SV} (h : fitsA (true, shTruth) s) : ∃ t : Truth, s = encT t := by
  obtain ⟨cs, h1, rfl⟩ := h
  simp only [shTruth, shI, Sh.fitsL, Sh.fits] at h1
  obtain ⟨_, _, rfl, ⟨l, rfl, _, hl⟩, _, _, rfl, ⟨c, rfl, _⟩, rfl⟩ := h1
  obtain ⟨m, rfl, _⟩ := fits_ints hl
  exact ⟨⟨m, c⟩, by simp [encT, ints]⟩
theorem fits_list {s : SV} (h : fitsA (false, [.sl 1 false [.int .i64]]) s) : ∃ l : List Int, s = .sl 1 (ints l) ∧ (∀ n ∈ l, IntKind.i64.min ≤ n ∧ n ≤ IntKind.i64.max) ∧ l.length ≤ maxLen := by
  obtain ⟨cs, h1, rfl⟩ := h
  simp only [Sh.fitsL, Sh.fits] at h1
  obtain ⟨_, _, rfl, ⟨l, rfl, hn, hl⟩, rfl⟩ := h1
  obtain ⟨m, rfl, h2⟩ := fits_ints hl
  exact ⟨m, by simp [ints], h2, by simpa using hn⟩
theorem fits_int {k : IntKind} {s : SV} (h : fitsA (false, [.int k]) s) : ∃ n : Int, s = .int k n ∧ k.min ≤ n ∧ n ≤ k.max := by
  obtain ⟨cs, h1, rfl⟩ := h
  simp only [Sh.fitsL, Sh.fits] at h1
  obtain ⟨_, _, rfl, ⟨a, rfl, h2⟩, rfl⟩ := h1
  exact ⟨a, by simp, h2⟩
theorem fits_words {s : SV} (h : fitsA (false, [.sl 1 false [.int .u8]]) s) : ∃ l : List Int, s = .sl 1 (l.map (SV.int .u8)) ∧ (∀ n ∈ l, 0 ≤ n ∧ n ≤ 255) ∧ l.length ≤ maxLen := by
  obtain ⟨cs, h1, rfl⟩ := h
  simp only [Sh.fitsL, Sh.fits] at h1
  obtain ⟨_, _, rfl, ⟨l, rfl, hn, hl⟩, rfl⟩ := h1
  obtain ⟨m, rfl, h2⟩ := fits_ints hl
  exact ⟨m, by simp, h2, by simpa using hn⟩

theorem own : ownKnob Try.prog.godebug = none := by kernel_rfl
theorem laidOut : laidOutB Try.prog = true := by kernel_rfl
theorem mixed : Try.prog.follows .mixedOrders = true := by kernel_rfl

def tSoc : Value := .agg #[.slice none 0 0, .slice none 0 0, .int .i64 0, .int .i64 0, .int .i64 0]
def tTruth : Value := .agg #[.slice none 0 0, .int .i64 0]

/-- What is asked of a statement's program text, as one look. -/
def tsOK (P : Program) (f : Func) : Bool := f.params.toList.all fun t => P.readableRec t && decide (t < P.types.size)
theorem ts_ok {P : Program} {f : Func} (h : tsOK P f = true) : ∀ t ∈ f.params.toList, P.readableRec t = true ∧ t < P.types.size := by
  intro t ht
  have := List.all_eq_true.1 h t ht
  simpa using this
end Go.Proofs.Ythnaamkempmjkaa
