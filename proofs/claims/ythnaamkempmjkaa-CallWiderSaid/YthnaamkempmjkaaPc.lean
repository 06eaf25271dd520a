/- Bounds in plain Lean. -/
import Derived.Test.YthnaamkempmjkaaPb
set_option linter.unusedSimpArgs false
set_option linter.unusedVariables false
namespace Go.Proofs.Ythnaamkempmjkaa

def putB (bs : List Rng) (k : Nat) (n : Int) : List Rng := match bs[k]? with
  | none => bs ++ [⟨n, n⟩]
  | some r => bs.set k ⟨min r.lo n, max r.hi n⟩
def stepB : List Rng → Nat → List Int → List Rng
  | bs, _, [] => bs
  | bs, k, n :: l => stepB (putB bs k n) (k + 1) l
def foldB (F : Int → List Int) (ns : List Int) : List Rng := ns.foldl (fun bs n => stepB bs 0 (F n)) []
theorem putB_len {bs : List Rng} {k : Nat} {n : Int} (h : k ≤ bs.length) : k + 1 ≤ (putB bs k n).length ∧ bs.length ≤ (putB bs k n).length ∧ (putB bs k n).length ≤ max bs.length (k + 1) := by
  unfold putB
  split
  · rename_i e; rw [List.getElem?_eq_none_iff] at e; simp; omega
  · rename_i e; have := (List.getElem?_eq_some_iff.1 e).1; simp; omega
theorem stepB_len : ∀ {bs : List Rng} {k : Nat} {l : List Int}, k ≤ bs.length → (stepB bs k l).length ≤ max bs.length (k + l.length)
  | bs, k, [], h => by simp [stepB]; omega
  | bs, k, n :: l, h => by
    have h1 := putB_len (n := n) h
    have h2 := stepB_len (bs := putB bs k n) (k := k + 1) (l := l) h1.1
    simp only [stepB, List.length_cons]; omega
theorem putB_app {bs : List Rng} {n : Int} : putB bs bs.length n = bs ++ [⟨n, n⟩] := by
  unfold putB; rw [List.getElem?_eq_none (Nat.le_refl _)]
theorem stepB_app : ∀ {bs : List Rng} {l : List Int}, stepB bs bs.length l = bs ++ l.map fun n => ⟨n, n⟩
  | bs, [] => by simp [stepB]
  | bs, n :: l => by
    rw [stepB, putB_app]
    have := stepB_app (bs := bs ++ [⟨n, n⟩]) (l := l)
    rw [List.length_append] at this
    simp only [List.length_singleton] at this
    rw [this]; simp
def uB (r : Rng) (n : Int) : Rng := ⟨min r.lo n, max r.hi n⟩
theorem stepB_upd : ∀ {a b : List Rng} {l : List Int}, b.length = l.length → stepB (a ++ b) a.length l = a ++ List.zipWith uB b l
  | a, [], [], _ => by simp [stepB]
  | a, r :: b, n :: l, h => by
    have e : putB (a ++ r :: b) a.length n = (a ++ [uB r n]) ++ b := by
      unfold putB
      rw [List.getElem?_append_right (Nat.le_refl _)]
      simp [uB]
    rw [stepB, e]
    have := stepB_upd (a := a ++ [uB r n]) (b := b) (l := l) (by simpa using h)
    rw [List.length_append] at this
    simp only [List.length_singleton] at this
    rw [this]; simp
def bndF (g : Int → Int) : List Int → Rng
  | [] => ⟨0, 0⟩
  | n :: l => l.foldl (fun r n => uB r (g n)) ⟨g n, g n⟩
theorem zip_range (m : Nat) (h : Nat → Rng) (g : Nat → Int) : List.zipWith uB ((List.range m).map h) (tab m g) = (List.range m).map fun k => uB (h k) (g k) := by
  rw [tab]
  induction List.range m with
  | nil => rfl
  | cons a l ih => simp [ih]
theorem foldB_eq (m : Nat) (g : Int → Nat → Int) : ∀ (ns : List Int), ns ≠ [] → foldB (fun n => tab m (g n)) ns = (List.range m).map fun k => bndF (fun n => g n k) ns
  | [], h => absurd rfl h
  | n :: l, _ => by
    have h : ∀ (l : List Int) (h : Nat → Rng), l.foldl (fun bs n => stepB bs 0 (tab m (g n))) ((List.range m).map h) = (List.range m).map fun k => l.foldl (fun r n => uB r (g n k)) (h k) := by
      intro l
      induction l with
      | nil => intro h; rfl
      | cons a l ih =>
        intro h
        simp only [List.foldl_cons]
        have := stepB_upd (a := []) (b := (List.range m).map h) (l := tab m (g a)) (by simp [tab])
        simp only [List.nil_append, List.length_nil] at this
        rw [this, zip_range, ih]
    have h0 : stepB [] 0 (tab m (g n)) = (List.range m).map fun k => ⟨g n k, g n k⟩ := by
      have := stepB_app (bs := []) (l := tab m (g n))
      simp only [List.nil_append, List.length_nil] at this
      rw [this, tab, List.map_map]; rfl
    rw [foldB, List.foldl_cons, h0, h]; rfl
theorem bndF_is (g : Int → Int) : ∀ (ns : List Int), ns ≠ [] → (∃ n ∈ ns, g n = (bndF g ns).lo) ∧ (∃ n ∈ ns, g n = (bndF g ns).hi) ∧ ∀ n ∈ ns, (bndF g ns).lo ≤ g n ∧ g n ≤ (bndF g ns).hi
  | [], h => absurd rfl h
  | n :: l, _ => by
    have h : ∀ (l : List Int) (r : Rng), (((l.foldl (fun r n => uB r (g n)) r).lo = r.lo ∨ ∃ n ∈ l, g n = (l.foldl (fun r n => uB r (g n)) r).lo) ∧ ((l.foldl (fun r n => uB r (g n)) r).hi = r.hi ∨ ∃ n ∈ l, g n = (l.foldl (fun r n => uB r (g n)) r).hi)) ∧
        ((l.foldl (fun r n => uB r (g n)) r).lo ≤ r.lo ∧ r.hi ≤ (l.foldl (fun r n => uB r (g n)) r).hi) ∧ ∀ n ∈ l, (l.foldl (fun r n => uB r (g n)) r).lo ≤ g n ∧ g n ≤ (l.foldl (fun r n => uB r (g n)) r).hi := by
      intro l
      induction l with
      | nil => intro r; simp
      | cons a l ih =>
        intro r
        obtain ⟨⟨h1, h2⟩, ⟨h3, h4⟩, h5⟩ := ih (uB r (g a))
        simp only [List.foldl_cons, List.mem_cons, forall_eq_or_imp, exists_eq_or_imp]
        generalize List.foldl (fun r n => uB r (g n)) (uB r (g a)) l = R at *
        simp only [uB] at h1 h2 h3 h4
        refine ⟨⟨?_, ?_⟩, by omega, by omega, h5⟩
        · rcases h1 with h1 | h1
          · by_cases h : r.lo ≤ g a
            · exact .inl (by omega)
            · exact .inr (.inl (by omega))
          · exact .inr (.inr h1)
        · rcases h2 with h2 | h2
          · by_cases h : g a ≤ r.hi
            · exact .inl (by omega)
            · exact .inr (.inl (by omega))
          · exact .inr (.inr h2)
    obtain ⟨⟨h1, h2⟩, ⟨h3, h4⟩, h5⟩ := h l ⟨g n, g n⟩
    simp only [bndF, List.mem_cons, forall_eq_or_imp, exists_eq_or_imp]
    generalize List.foldl (fun r n => uB r (g n)) ⟨g n, g n⟩ l = R at *
    dsimp only at h1 h2 h3 h4
    exact ⟨h1.imp_left Eq.symm, h2.imp_left Eq.symm, ⟨h3, h4⟩, h5⟩
/-- Bounds are what they are. -/
theorem bnd_unique {g : Int → Int} {ns : List Int} {r : Rng} (h1 : ∃ n ∈ ns, g n = r.lo) (h2 : ∃ n ∈ ns, g n = r.hi) (h3 : ∀ n ∈ ns, r.lo ≤ g n ∧ g n ≤ r.hi) : r = bndF g ns := by
  obtain ⟨a, ha, ea⟩ := h1
  obtain ⟨b, hb, eb⟩ := h2
  have hne : ns ≠ [] := fun e => by rw [e] at ha; cases ha
  obtain ⟨⟨c, hc, ec⟩, ⟨d, hd, ed⟩, h6⟩ := bndF_is g ns hne
  have := h3 c hc; have := h3 d hd; have := h6 a ha; have := h6 b hb
  cases r; generalize bndF g ns = R at *; cases R
  simp only [Rng.mk.injEq]; dsimp only at *; omega
/-- All numbers of a range. -/
def every (r : Rng) : List Int := (List.range (r.hi - r.lo + 1).toNat).map fun (i : Nat) => r.lo + i
theorem every_mem {r : Rng} {n : Int} : n ∈ every r ↔ r.lo ≤ n ∧ n ≤ r.hi := by
  simp only [every, List.mem_map, List.mem_range]
  constructor
  · rintro ⟨i, h1, rfl⟩; omega
  · rintro ⟨h1, h2⟩; exact ⟨(n - r.lo).toNat, by omega, by omega⟩
theorem every_ne {r : Rng} (h : r.lo ≤ r.hi) : every r ≠ [] := fun e => by
  have := (every_mem (r := r) (n := r.lo)).2 ⟨Int.le_refl _, h⟩
  rw [e] at this; cases this
theorem needsOf_ok {s : Soc} (h1 : ∀ r ∈ s.losses, r.lo ≤ r.hi) (h2 : s.treaty.lo ≤ s.treaty.hi) : 0 ≤ (needsOf s).lo ∧ (needsOf s).lo ≤ (needsOf s).hi := by
  have hs : ∀ (l : List Rng) (a b : Int), (∀ r ∈ l, r.lo ≤ r.hi) → a ≤ b → (los l).foldl (· + ·) a ≤ (his l).foldl (· + ·) b := by
    intro l
    induction l with
    | nil => intro a b _ h; exact h
    | cons r l ih =>
      intro a b h hab
      have := h r List.mem_cons_self
      have h' : a + r.lo ≤ b + r.hi := by omega
      exact ih _ _ (fun x hx => h x (List.mem_cons_of_mem _ hx)) h'
  have := hs s.losses 0 0 h1 (Int.le_refl _)
  simp only [needsOf, needOf, sumL]; omega
end Go.Proofs.Ythnaamkempmjkaa
