/- Code told step by step. -/
import Derived.Test.YtelnonfenpjjcaaMe4
set_option linter.unusedSimpArgs false
set_option linter.unusedVariables false
open Go Go.TV
namespace Go.Proofs.Ytelnonfenpjjcaa

theorem TWq.seq {P : Program} {r : Fr} {x y : TCode} {S : St} {Q : Option Jump → St → Prop} (h : TWq P r x S fun j S' => match j with | none => TWq P r y S' Q | some j => Q (some j) S') : TWq P r (.seq x y) S Q := by
  rw [TWq_iff] at h ⊢
  intro hm k g a w ro Q' hk hs hr hh
  cases k <;> first | (cases hk; done) | skip
  rename_i kx ky
  simp only [comp, TCode.seq.injEq] at hk
  refine wpIn_seq (h hm kx g a w ro _ hk.1 hs hr fun j S' g' a' w' q1 q2 q3 => ?_)
  cases j with
  | none => exact (TWq_iff.1 q1) hm ky g' a' w' ro Q' hk.2 q2 (q3.ro hr) fun j S'' g'' a'' w'' r1 r2 r3 => hh j S'' g'' a'' w'' r1 r2 (q3.trans r3)
  | some j =>
    have := hh (some j) S' g' a' w' q1 q2 q3
    cases j <;> exact this
theorem TWq.go {P : Program} {r : Fr} {c : TCode} {S : St} {Q : Option Jump → St → Prop} (h : Ev (evC P r c S Q)) : TWq P r c S Q := TWq_iff.2 (evC_sound h.at)
theorem TWq.pubW {P : Program} {r : Fr} {c : TCode} {S : St} {Q : Option Jump → St → Prop} (b : Nat) (h : Ev (pubB b S fun S' => TWq P r c S' Q)) : TWq P r c S Q := by
  obtain ⟨S', h1, h2⟩ := pubB_spec h.at
  exact TWq.wk h2 h1
end Go.Proofs.Ytelnonfenpjjcaa
