/- Societies as trees of Go values. -/
import Derived.Test.YthnaamkempmjkaaKs
import Derived.Test.YthnaamkempmjkaaKfB
import Derived.Test.YthnaamkempmjkaaMe4
import Derived.IntWalk
set_option linter.unusedSimpArgs false
set_option linter.unusedVariables false
open Go Go.TV
namespace Go.Proofs.Ythnaamkempmjkaa

def ints (l : List Int) : List SV := l.map (SV.int .i64)
def encR (r : Rng) : SV := .agg [.int .i64 r.lo, .int .i64 r.hi]
def encRs (l : List Rng) : List SV := l.map encR
def encY (m : Mem) : SV := .agg [.int .i64 m.sum, .int .i64 m.cls, .int .i64 m.most]
def encYs (l : List Mem) : List SV := l.map encY
def encSoc (s : Soc) : SV := .agg [.sl 3 (encYs s.members), .sl 2 (encRs s.losses), .int .i64 s.treaty.lo, .int .i64 s.treaty.hi, .int .i64 s.reserve]
def encT (t : Truth) : SV := .agg [.sl 1 (ints t.losses), .int .i64 t.treaty]
def encS (p : Int × Int) : SV := .agg [.int .i64 p.1, .int .i64 p.2]
theorem ints_len (l : List Int) : (ints l).length = l.length := List.length_map _
theorem encYs_len (l : List Mem) : (encYs l).length = l.length := List.length_map _
theorem encRs_len (l : List Rng) : (encRs l).length = l.length := List.length_map _
theorem ints_at {l : List Int} {n : Nat} {e : SV} (h : (ints l)[n]? = some e) : ∃ x, l[n]? = some x ∧ e = .int .i64 x := by
  simp only [ints, List.getElem?_map, Option.map_eq_some_iff] at h
  obtain ⟨x, h1, h2⟩ := h
  exact ⟨x, h1, h2.symm⟩
theorem encYs_at {l : List Mem} {n : Nat} {e : SV} (h : (encYs l)[n]? = some e) : ∃ x, l[n]? = some x ∧ e = encY x := by
  simp only [encYs, List.getElem?_map, Option.map_eq_some_iff] at h
  obtain ⟨x, h1, h2⟩ := h
  exact ⟨x, h1, h2.symm⟩
theorem encRs_at {l : List Rng} {n : Nat} {e : SV} (h : (encRs l)[n]? = some e) : ∃ x, l[n]? = some x ∧ e = encR x := by
  simp only [encRs, List.getElem?_map, Option.map_eq_some_iff] at h
  obtain ⟨x, h1, h2⟩ := h
  exact ⟨x, h1, h2.symm⟩
theorem ints_clo (l : List Int) : cloL (ints l) := by
  rw [cloL_iff]; intro s hs; obtain ⟨x, _, rfl⟩ := List.mem_map.1 hs; simp only [clo]
theorem encYs_clo (l : List Mem) : cloL (encYs l) := by
  rw [cloL_iff]; intro s hs; obtain ⟨x, _, rfl⟩ := List.mem_map.1 hs; simp [encY, clo, cloL]
theorem encRs_clo (l : List Rng) : cloL (encRs l) := by
  rw [cloL_iff]; intro s hs; obtain ⟨x, _, rfl⟩ := List.mem_map.1 hs; simp [encR, clo, cloL]
theorem lz : (∀ l, (ints l).length = l.length) ∧ (∀ l, (encYs l).length = l.length) ∧ ∀ l, (encRs l).length = l.length := ⟨ints_len, encYs_len, encRs_len⟩
theorem cz : (∀ l, cloL (ints l)) ∧ (∀ l, cloL (encYs l)) ∧ ∀ l, cloL (encRs l) := ⟨ints_clo, encYs_clo, encRs_clo⟩
theorem ints_scal (l : List Int) : ∀ s ∈ ints l, scal s := by
  intro s hs
  simp only [ints, List.mem_map] at hs
  obtain ⟨_, _, rfl⟩ := hs
  trivial

/-- The parts that are counted. -/
def encM (ks : List ((Int × Int) × Int)) : List (SV × SV) := ks.map fun x => (encS x.1, .int .i64 x.2)
theorem shS (a b : Int) : shOK (.st [(0, 1, false, .int .i64), (1, 1, false, .int .i64)]) (.agg [.int .i64 a, .int .i64 b]) := by simp [shOK, shF, partK, getK, lenIs]
theorem shM (ks : List ((Int × Int) × Int)) : ∀ e ∈ encM ks, shOK (.st [(0, 1, false, .int .i64), (1, 1, false, .int .i64)]) e.1 := by
  intro e he
  obtain ⟨x, _, rfl⟩ := List.mem_map.1 he
  exact shS _ _
theorem shN : ∀ e ∈ ([] : List (SV × SV)), shOK (.st [(0, 1, false, .int .i64), (1, 1, false, .int .i64)]) e.1 := by simp
theorem encM_clo (ks : List ((Int × Int) × Int)) : cloM (encM ks) := by
  intro e he
  obtain ⟨x, _, rfl⟩ := List.mem_map.1 he
  simp [encS, clo, cloL]
theorem encS_inj {x y : Int × Int} (h : encS x = encS y) : x = y := by
  simp only [encS, SV.agg.injEq, List.cons.injEq, SV.int.injEq, true_and, and_true] at h
  obtain ⟨a, b⟩ := x; obtain ⟨c, d⟩ := y
  simp_all
theorem encM_nodup {ks : List ((Int × Int) × Int)} (h : (ks.map (·.1)).Nodup) : ((encM ks).map (·.1)).Nodup := by
  have e : (encM ks).map (·.1) = (ks.map (·.1)).map encS := by simp [encM]
  rw [e]
  exact List.Pairwise.map _ (fun a b hab e => hab (encS_inj e)) h
theorem encM_split {ks : List ((Int × Int) × Int)} {pre post : List (SV × SV)} {k v : SV} (h : encM ks = pre ++ (k, v) :: post) : ∃ a x b, ks = a ++ x :: b ∧ pre = encM a ∧ k = encS x.1 ∧ v = .int .i64 x.2 ∧ post = encM b := by
  obtain ⟨a, c, rfl, rfl, h2⟩ := List.map_eq_append_iff.1 h
  obtain ⟨x, b, rfl, h3, rfl⟩ := List.map_eq_cons_iff.1 h2
  cases h3
  exact ⟨a, x, b, rfl, rfl, rfl, rfl, rfl⟩
theorem SV.bool_iff {a b : Bool} : (SV.bool a = SV.bool b) ↔ (a = true ↔ b = true) := by cases a <;> cases b <;> simp

/-! What is shown alike everywhere: the missing argument is found by these tactics. -/
theorem cl {p : Prop} (h : p := by simp [cloL, clo, catS, repl, cz, encR, encY, encS, encSoc, encT] <;> fail) : p := h
theorem vc {p : Prop} (h : p := by first | rfl | exact List.cons_ne_nil _ _ | (show (_ : Nat) * _ ≤ _; simp [catS, repl, chunks, lz] <;> omega) | exact shS _ _ | exact shM _ | exact shN | exact encM_clo _ | exact ⟨rfl, rfl⟩ | exact ⟨rfl, rfl, rfl⟩ | omega | (simp only [lz]; omega) | (simp; omega) | (simp [cloL, clo, catS, repl, cz, encR, encY, encS, encSoc, encT] <;> fail) | (show chkGo _ _ _ _ _ = true; kernel_rfl)) : p := h
theorem vk {p : Prop} (h : p := by first | (show chkGo _ _ _ _ _ = true; kernel_rfl) | rfl | exact List.cons_ne_nil _ _ | (show (_ : Nat) * _ ≤ _; simp [catS, repl, chunks, lz] <;> omega) | exact shS _ _ | exact shM _ | exact shN | exact encM_clo _ | exact ⟨rfl, rfl⟩ | exact ⟨rfl, rfl, rfl⟩ | omega | (simp only [lz]; omega) | (simp; omega) | (simp [cloL, clo, catS, repl, cz, encR, encY, encS, encSoc, encT] <;> fail)) : p := h
end Go.Proofs.Ythnaamkempmjkaa
