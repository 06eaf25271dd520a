/- An own slice published, with all aggregates of the state written out. -/
import Derived.Test.YthnaamkempmjkaaMe4
set_option linter.unusedSimpArgs false
set_option linter.unusedVariables false
namespace Go.TV
open Go.RowKit

def subALK (b sz : Nat) (es : List SV) : List SV → (List SV → Prop) → Prop
  | [], k => k []
  | s :: ss, k => forceK (subA b sz es s) fun s' => subALK b sz es ss fun l => k (s' :: l)
theorem subALK_eq {b sz : Nat} {es : List SV} : ∀ {xs : List SV} {k : List SV → Prop}, subALK b sz es xs k → k (subAL b sz es xs)
  | [], _, h => h
  | s :: ss, k, h => subALK_eq (xs := ss) (k := fun l => k (subA b sz es s :: l)) (forceK_iff.1 h)
def deepG (b sz : Nat) (es : List SV) (s : SV) (k : SV → Prop) : Prop :=
  match s with
  | .agg cs => subALK b sz es cs fun l => k (.agg l)
  | .tup cs => subALK b sz es cs fun l => k (.tup l)
  | s => forceK (subT b sz es s) k
theorem deepG_eq {b sz : Nat} {es : List SV} {s : SV} {k : SV → Prop} (h : deepG b sz es s k) : k (subT b sz es s) := by
  unfold deepG at h
  split at h
  · exact subALK_eq (k := fun l => k (.agg l)) h
  · exact subALK_eq (k := fun l => k (.tup l)) h
  · exact forceK_iff.1 h
def subTKD (b sz : Nat) (es : List SV) : List SV → (List SV → Prop) → Prop
  | [], k => k []
  | s :: ss, k => forceK s fun s0 => deepG b sz es s0 fun s' => subTKD b sz es ss fun l => k (s' :: l)
theorem subTKD_eq {b sz : Nat} {es : List SV} : ∀ {σ : List SV} {k : List SV → Prop}, subTKD b sz es σ k → k (σ.map (subT b sz es))
  | [], _, h => h
  | s :: ss, k, h => subTKD_eq (σ := ss) (k := fun l => k (subT b sz es s :: l)) (deepG_eq (forceK_iff.1 h))
def subHG (b sz : Nat) (es : List SV) (x : LB) (k : LB → Prop) : Prop :=
  match x with
  | .cells cs => subALK b sz es cs fun l => k (.cells l)
  | x => k x
theorem subHG_eq {b sz : Nat} {es : List SV} {x : LB} {k : LB → Prop} (h : subHG b sz es x k) : k (subH b sz es x) := by
  unfold subHG at h
  split at h
  · exact subALK_eq (k := fun l => k (.cells l)) h
  · rename_i hx
    cases x
    case cells cs => exact absurd rfl (hx cs)
    all_goals exact h
def subHKD (b sz : Nat) (es : List SV) : List LB → (List LB → Prop) → Prop
  | [], k => k []
  | x :: xs, k => subHG b sz es x fun x' => subHKD b sz es xs fun l => k (x' :: l)
theorem subHKD_eq {b sz : Nat} {es : List SV} : ∀ {xs : List LB} {k : List LB → Prop}, subHKD b sz es xs k → k (xs.map (subH b sz es))
  | [], _, h => h
  | x :: xs, k, h => subHKD_eq (xs := xs) (k := fun l => k (subH b sz es x :: l)) (subHG_eq h)
theorem subTK_of {b sz : Nat} {es : List SV} : ∀ {σ : List SV} {k : List SV → Prop}, k (σ.map (subT b sz es)) → subTK b sz es σ k
  | [], _, h => h
  | s :: ss, k, h => forceK_iff.2 (subTK_of (σ := ss) (k := fun l => k (subT b sz es s :: l)) h)
theorem subHK_of {b sz : Nat} {es : List SV} : ∀ {xs : List LB} {k : List LB → Prop}, k (xs.map (subH b sz es)) → subHK b sz es xs k
  | [], _, h => h
  | x :: xs, k, h => subHK_of (xs := xs) (k := fun l => k (subH b sz es x :: l)) h
def pubBD (b : Nat) (S : St) (k : St → Prop) : Prop :=
  match hget S.h b with
  | .arr _ sz es => Vc (cloL es) ∧ Ev (subTKD b sz es S.σ fun σ' => subHKD b sz es S.h fun h1 => updGo h1 b .dead fun h' => k ⟨σ', h', S.mks⟩)
  | _ => False
theorem pubBD_eq {b : Nat} {S : St} {k : St → Prop} (h : pubBD b S k) : pubB b S k := by
  unfold pubBD at h
  unfold pubB
  split at h
  · rename_i he
    rw [he]
    obtain ⟨h1, h2⟩ := h
    exact ⟨h1, ⟨subTK_of (subHK_of (subHKD_eq (subTKD_eq h2.at)))⟩⟩
  · exact h.elim
section
variable {P : Program} {r : Fr}
theorem TSq.pubD (b : Nat) {ts : List TOper} {S : St} {K : St → Prop} (h : Ev (pubBD b S fun S' => evR P r ts S' K)) : TSq P r ts S K :=
  TSq.pubS b ⟨pubBD_eq h.at⟩
end
end Go.TV
