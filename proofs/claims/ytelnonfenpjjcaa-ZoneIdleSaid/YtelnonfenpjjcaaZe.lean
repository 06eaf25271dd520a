/- Zones as trees of Go values. -/
import Derived.Test.YtelnonfenpjjcaaZs
import Derived.Test.YtelnonfenpjjcaaZfB
import Derived.Test.YtelnonfenpjjcaaMe3
import Derived.IntWalk
set_option linter.unusedSimpArgs false
set_option linter.unusedVariables false
open Go Go.TV
namespace Go.Proofs.Ytelnonfenpjjcaa

def ints (l : List Int) : List SV := l.map (SV.int .i64)
def encR (r : Rng) : SV := .agg [.int .i64 r.lo, .int .i64 r.hi]
def encY (y : Year) : SV := .agg [.int .i64 y.l.lo, .int .i64 y.l.hi, .int .i64 y.p.lo, .int .i64 y.p.hi, .int .i64 y.parcels, .bool y.exempt]
def encYs (l : List Year) : List SV := l.map encY
def encRule (r : Rule) : SV := .agg [.int .i64 r.classes, .int .i64 r.good, .int .i64 r.bad, .int .i64 r.rest, .int .i64 r.fewest, .sl 1 (ints r.price)]
def encZ (z : Zone) : SV := .agg [.int .i64 z.first, .sl 6 (encYs z.years)]
def encS (x : Spot) : SV := .agg [.int .i64 x.class_, .int .i64 x.since]
theorem ints_len (l : List Int) : (ints l).length = l.length := List.length_map _
theorem encYs_len (l : List Year) : (encYs l).length = l.length := List.length_map _
theorem ints_at {l : List Int} {n : Nat} {e : SV} (h : (ints l)[n]? = some e) : ∃ x, l[n]? = some x ∧ e = .int .i64 x := by
  simp only [ints, List.getElem?_map, Option.map_eq_some_iff] at h
  obtain ⟨x, h1, h2⟩ := h
  exact ⟨x, h1, h2.symm⟩
theorem encYs_at {l : List Year} {n : Nat} {e : SV} (h : (encYs l)[n]? = some e) : ∃ x, l[n]? = some x ∧ e = encY x := by
  simp only [encYs, List.getElem?_map, Option.map_eq_some_iff] at h
  obtain ⟨x, h1, h2⟩ := h
  exact ⟨x, h1, h2.symm⟩
theorem encYs_cut {l : List Year} {a n : Nat} {e : SV} (h : (List.take a (List.drop 0 (encYs l)))[n]? = some e) : ∃ x, l[n]? = some x ∧ e = encY x := by
  rw [List.drop_zero, List.getElem?_take] at h
  split at h
  · exact encYs_at h
  · cases h
theorem ints_clo (l : List Int) : cloL (ints l) := by
  rw [cloL_iff]; intro s hs; obtain ⟨x, _, rfl⟩ := List.mem_map.1 hs; simp only [clo]
theorem encYs_clo (l : List Year) : cloL (encYs l) := by
  rw [cloL_iff]; intro s hs; obtain ⟨x, _, rfl⟩ := List.mem_map.1 hs; simp [encY, clo, cloL]

def encM (ks : List Spot) : List (SV × SV) := ks.map fun x => (encS x, .bool true)
theorem shS (a b : Int) : shOK (.st [(0, 1, false, .int .i64), (1, 1, false, .int .i64)]) (.agg [.int .i64 a, .int .i64 b]) := by simp [shOK, shF, partK, getK, lenIs]
theorem shM (ks : List Spot) : ∀ e ∈ encM ks, shOK (.st [(0, 1, false, .int .i64), (1, 1, false, .int .i64)]) e.1 := by
  intro e he
  obtain ⟨x, _, rfl⟩ := List.mem_map.1 he
  exact shS _ _
theorem shN : ∀ e ∈ ([] : List (SV × SV)), shOK (.st [(0, 1, false, .int .i64), (1, 1, false, .int .i64)]) e.1 := by simp
theorem encM_clo (ks : List Spot) : cloM (encM ks) := by
  intro e he
  obtain ⟨x, _, rfl⟩ := List.mem_map.1 he
  simp [encS, clo, cloL]
theorem encS_inj {x y : Spot} (h : encS x = encS y) : x = y := by
  simp only [encS, SV.agg.injEq, List.cons.injEq, SV.int.injEq, true_and, and_true] at h
  obtain ⟨a, b⟩ := x; obtain ⟨c, d⟩ := y
  simp_all
theorem encM_nodup {ks : List Spot} (h : ks.Nodup) : ((encM ks).map (·.1)).Nodup := by
  unfold encM
  rw [List.map_map]
  exact List.Pairwise.map _ (fun a b hab e => hab (encS_inj e)) h
theorem encM_split {ks : List Spot} {pre post : List (SV × SV)} {k v : SV} (h : encM ks = pre ++ (k, v) :: post) : ∃ a x b, ks = a ++ x :: b ∧ pre = encM a ∧ k = encS x ∧ v = .bool true ∧ post = encM b := by
  obtain ⟨a, c, rfl, rfl, h2⟩ := List.map_eq_append_iff.1 h
  obtain ⟨x, b, rfl, h3, rfl⟩ := List.map_eq_cons_iff.1 h2
  cases h3
  exact ⟨a, x, b, rfl, rfl, rfl, rfl, rfl⟩

theorem SV.bool_iff {a b : Bool} : (SV.bool a = SV.bool b) ↔ (a = true ↔ b = true) := by cases a <;> cases b <;> simp
end Go.Proofs.Ytelnonfenpjjcaa
