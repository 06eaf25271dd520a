/- The statements' arguments, as zones, and how a statement comes of a contract. -/
import Derived.Test.YtelnonfenpjjcaaZe
import Derived.Test.YtelnonfenpjjcaaMe3
import Derived.Test.YtelnonfenpjjcaaRows
set_option linter.unusedSimpArgs false
set_option linter.unusedVariables false
open Go Go.TV Go.RowKit
namespace Go.Proofs.Ytelnonfenpjjcaa

def shI : Sh := .int .i64
def shRule : List Sh := [shI, shI, shI, shI, shI, .sl 1 false [shI]]
def shYear : List Sh := [shI, shI, shI, shI, shI, .bool]
def shZone : List Sh := [shI, .sl 6 true shYear]
def shTruth : List Sh := [.sl 1 false [shI], .sl 1 false [shI]]

theorem fits_ints {k : IntKind} {l : List SV} (h : ∀ e ∈ l, ∃ cs, Sh.fitsL [.int k] cs ∧ e = (if false = true then .agg cs else cs.headD .junk)) : ∃ m : List Int, l = m.map (SV.int k) ∧ ∀ n ∈ m, k.min ≤ n ∧ n ≤ k.max := by
  induction l with
  | nil => exact ⟨[], rfl, by simp⟩
  | cons e l ih =>
    obtain ⟨m, rfl, hm⟩ := ih fun e he => h e (by simp [he])
    obtain ⟨cs, h1, h2⟩ := h e (by simp)
    simp only [Sh.fitsL, Sh.fits] at h1
    obtain ⟨s, ss, rfl, ⟨n, rfl, h3⟩, rfl⟩ := h1
    simp at h2
    subst h2
    exact ⟨n :: m, rfl, by intro x hx; rcases List.mem_cons.1 hx with rfl | hx; exact h3; exact hm x hx⟩
theorem fits_years {l : List SV} (h : ∀ e ∈ l, ∃ cs, Sh.fitsL shYear cs ∧ e = (if true = true then .agg cs else cs.headD .junk)) : ∃ m : List Year, l = encYs m := by
  induction l with
  | nil => exact ⟨[], rfl⟩
  | cons e l ih =>
    obtain ⟨m, rfl⟩ := ih fun e he => h e (by simp [he])
    obtain ⟨cs, h1, h2⟩ := h e (by simp)
    simp only [shYear, shI, Sh.fitsL, Sh.fits] at h1
    obtain ⟨_, _, rfl, ⟨a, rfl, _⟩, _, _, rfl, ⟨b, rfl, _⟩, _, _, rfl, ⟨c, rfl, _⟩, _, _, rfl, ⟨d, rfl, _⟩, _, _, rfl, ⟨e, rfl, _⟩, _, _, rfl, ⟨f, rfl⟩, rfl⟩ := h1
    simp at h2
    subst h2
    exact ⟨⟨⟨a, b⟩, ⟨c, d⟩, e, f⟩ :: m, rfl⟩
theorem fits_rule {s : SV} (h : fitsA (true, shRule) s) : ∃ r : Rule, s = encRule r := by
  obtain ⟨cs, h1, rfl⟩ := h
  simp only [shRule, shI, Sh.fitsL, Sh.fits] at h1
  obtain ⟨_, _, rfl, ⟨a, rfl, _⟩, _, _, rfl, ⟨b, rfl, _⟩, _, _, rfl, ⟨c, rfl, _⟩, _, _, rfl, ⟨d, rfl, _⟩, _, _, rfl, ⟨e, rfl, _⟩, _, _, rfl, ⟨l, rfl, _, hl⟩, rfl⟩ := h1
  obtain ⟨m, rfl, _⟩ := fits_ints hl
  exact ⟨⟨a, b, c, d, e, m⟩, by simp [encRule, ints]⟩
theorem fits_zone {s : SV} (h : fitsA (true, shZone) s) : ∃ z : Zone, s = encZ z := by
  obtain ⟨cs, h1, rfl⟩ := h
  simp only [shZone, shI, Sh.fitsL, Sh.fits] at h1
  obtain ⟨_, _, rfl, ⟨a, rfl, _⟩, _, _, rfl, ⟨l, rfl, _, hl⟩, rfl⟩ := h1
  obtain ⟨m, rfl⟩ := fits_years hl
  exact ⟨⟨a, m⟩, by simp [encZ]⟩
theorem fits_truth {s : SV} (h : fitsA (true, shTruth) s) : ∃ t : Truth, s = .agg [.sl 1 (ints t.losses), .sl 1 (ints t.premiums)] := by
  obtain ⟨cs, h1, rfl⟩ := h
  simp only [shTruth, shI, Sh.fitsL, Sh.fits] at h1
  obtain ⟨_, _, rfl, ⟨l, rfl, _, hl⟩, _, _, rfl, ⟨l', rfl, _, hl'⟩, rfl⟩ := h1
  obtain ⟨m, rfl, _⟩ := fits_ints hl
  obtain ⟨m', rfl, _⟩ := fits_ints hl'
  exact ⟨⟨m, m'⟩, by simp [ints]⟩
theorem fits_int {k : IntKind} {s : SV} (h : fitsA (false, [.int k]) s) : ∃ n : Int, s = .int k n ∧ k.min ≤ n ∧ n ≤ k.max := by
  obtain ⟨cs, h1, rfl⟩ := h
  simp only [Sh.fitsL, Sh.fits] at h1
  obtain ⟨_, _, rfl, ⟨a, rfl, h2⟩, rfl⟩ := h1
  exact ⟨a, by simp, h2⟩
theorem fits_words {s : SV} (h : fitsA (false, [.sl 1 false [.int .u8]]) s) : ∃ l : List Int, s = .sl 1 (l.map (SV.int .u8)) ∧ (∀ n ∈ l, 0 ≤ n ∧ n ≤ 255) ∧ l.length ≤ maxLen := by
  obtain ⟨cs, h1, rfl⟩ := h
  simp only [Sh.fitsL, Sh.fits] at h1
  obtain ⟨_, _, rfl, ⟨l, rfl, hn, hl⟩, rfl⟩ := h1
  obtain ⟨m, rfl, h2⟩ := fits_ints hl
  exact ⟨m, by simp, h2, by simpa using hn⟩

theorem own : ownKnob Try.prog.godebug = none := by kernel_rfl
theorem laidOut : laidOutB Try.prog = true := by kernel_rfl
theorem mixed : Try.prog.follows .mixedOrders = true := by kernel_rfl

def tRule : Value := .agg #[.int .i64 0, .int .i64 0, .int .i64 0, .int .i64 0, .int .i64 0, .slice none 0 0]
def tZone : Value := .agg #[.int .i64 0, .slice none 0 0]
def tTruth : Value := .agg #[.slice none 0 0, .slice none 0 0]

/-- What is asked of a statement's program text, as one look. -/
def tsOK (P : Program) (f : Func) : Bool := f.params.toList.all fun t => P.readableRec t && decide (t < P.types.size)
theorem ts_ok {P : Program} {f : Func} (h : tsOK P f = true) : ∀ t ∈ f.params.toList, P.readableRec t = true ∧ t < P.types.size := by
  intro t ht
  have := List.all_eq_true.1 h t ht
  simpa using this
end Go.Proofs.Ytelnonfenpjjcaa
