/- Zones in plain Lean: what the program's functions compute. -/
set_option linter.unusedSimpArgs false
set_option linter.unusedVariables false
namespace Go.Proofs.Ytelnonfenpjjcaa

structure Rng where
  lo : Int
  hi : Int
structure Year where
  l : Rng
  p : Rng
  parcels : Int
  exempt : Bool
structure Rule where
  classes : Int
  good : Int
  bad : Int
  rest : Int
  fewest : Int
  price : List Int
structure Zone where
  first : Int
  years : List Year
structure Truth where
  losses : List Int
  premiums : List Int
structure Spot where
  class_ : Int
  since : Int
  deriving DecidableEq

def within (n lo hi : Int) : Bool := decide (lo ≤ n ∧ n ≤ hi)
def Rng.pence (r : Rng) : Bool := decide (0 ≤ r.lo ∧ r.lo ≤ r.hi ∧ r.hi ≤ 10000 ∧ r.hi - r.lo ≤ 5)
def Rng.has (r : Rng) (n : Int) : Bool := within n r.lo r.hi
def Year.valid (y : Year) : Bool := y.l.pence && (y.p.pence && within y.parcels 0 100)
/-- Prices rise, from a last one on. -/
def upTo : Int → List Int → Bool
  | _, [] => true
  | last, n :: ns => within n last 10000 && upTo n ns
def Rule.valid (r : Rule) : Bool :=
  decide (0 < r.classes) && ((decide ((r.price.length : Int) = r.classes) && upTo 1 r.price) && (decide (0 ≤ r.good) && (decide (r.good ≤ r.bad) && (decide (r.bad ≤ 300) && (within r.rest 0 4 && within r.fewest 0 100)))))
def fault (r : Rule) (z : Zone) : Int :=
  if 6 < r.classes ∨ 6 < z.years.length then 3
  else if r.valid = true ∧ within z.first 0 (r.classes - 1) = true ∧ z.years.all Year.valid = true then 0 else 1

def minL : List Int → Int
  | [] => 0
  | x :: xs => xs.foldl min x

/-- 0: does not count; 1: good; 2: neither; 3: bad. -/
def kind (r : Rule) (y : Year) (l p : Int) : Nat :=
  if y.exempt = true ∨ y.parcels < r.fewest then 0
  else if l * 100 < p * r.good then 1
  else if p * r.bad < l * 100 then 3 else 2

def move (r : Rule) (k : Nat) (x : Spot) : Spot :=
  match k with
  | 0 => x
  | 1 => ⟨if r.rest ≤ x.since then max (x.class_ - 1) 0 else x.class_, min (x.since + 1) r.rest⟩
  | 2 => ⟨x.class_, min (x.since + 1) r.rest⟩
  | _ => ⟨min (x.class_ + 1) (r.classes - 1), 0⟩

def every (r : Rng) : List Int := (List.range (r.hi - r.lo + 1).toNat).map fun (i : Nat) => r.lo + i

/-- The kinds that a year can be. -/
def seen (r : Rule) (y : Year) (wrong : Bool) (k : Nat) : Bool :=
  if wrong = true ∧ kind r y 0 0 ≠ 0 then decide (1 ≤ k ∧ k ≤ 3)
  else (every y.l).any fun l => (every y.p).any fun p => kind r y l p == k
def can (r : Rule) (y : Year) (wrong : Bool) : List Nat := [0, 1, 2, 3].filter (seen r y wrong)

theorem minL_take {l : List Int} {k : Nat} {x : Int} (h1 : 1 ≤ k) (h : l[k]? = some x) : minL (l.take (k + 1)) = min (minL (l.take k)) x := by
  cases l with
  | nil => simp at h
  | cons a l =>
    obtain ⟨k, rfl⟩ : ∃ k', k = k' + 1 := ⟨k - 1, by omega⟩
    simp only [List.getElem?_cons_succ] at h
    have : l.take (k + 1) = l.take k ++ [x] := by
      rw [List.take_add_one, h]; rfl
    simp [minL, this]

/-! ### Spots -/
def steps (r : Rule) (y : Year) (wrong : Bool) (xs : List Spot) : List Spot := xs.flatMap fun x => (can r y wrong).map fun k => move r k x
/-- All spots after some years, some of which (out) are false. -/
def reach (r : Rule) (first : Int) (out : List Int) : List Year → Nat → List Spot
  | ys, 0 => [⟨first, r.rest⟩]
  | ys, n + 1 => match ys[n]? with
    | some y => steps r y (out.contains (n : Int)) (reach r first out ys n)
    | none => []
/-- Whether a year can move (b), or can stay. -/
def moves (r : Rule) (y : Year) (wrong : Bool) (xs : List Spot) (b : Bool) : Bool := xs.any fun x => (can r y wrong).any fun k => decide ((move r k x).class_ ≠ x.class_) == b
def movesAt (r : Rule) (first : Int) (out : List Int) (ys : List Year) (n : Nat) (b : Bool) : Bool :=
  match n with
  | 0 => false
  | n + 1 => match ys[n]? with
    | some y => moves r y (out.contains (n : Int)) (reach r first out ys n) b
    | none => false

structure OkR (r : Rule) : Prop where
  c1 : 1 ≤ r.classes
  c2 : r.classes ≤ 6
  r1 : 0 ≤ r.rest
  r2 : r.rest ≤ 4
structure OkS (r : Rule) (x : Spot) : Prop where
  a1 : 0 ≤ x.class_
  a2 : x.class_ < r.classes
  b1 : 0 ≤ x.since
  b2 : x.since ≤ r.rest

theorem move_ok {r : Rule} {x : Spot} (hr : OkR r) (h : OkS r x) (k : Nat) : OkS r (move r k x) := by
  obtain ⟨c1, c2, r1, r2⟩ := hr
  obtain ⟨a1, a2, b1, b2⟩ := h
  unfold move
  split
  · exact ⟨a1, a2, b1, b2⟩
  · constructor <;> simp only <;> try split
    all_goals omega
  · constructor <;> simp only <;> omega
  · constructor <;> simp only <;> omega
theorem reach_ok {r : Rule} {first : Int} (hr : OkR r) (h1 : 0 ≤ first) (h2 : first < r.classes) (out : List Int) (ys : List Year) : ∀ n, ∀ x ∈ reach r first out ys n, OkS r x
  | 0, x, hx => by
    simp only [reach, List.mem_singleton] at hx
    subst hx
    exact ⟨h1, h2, hr.r1, Int.le_refl _⟩
  | n + 1, x, hx => by
    simp only [reach] at hx
    split at hx
    · simp only [steps, List.mem_flatMap, List.mem_map] at hx
      obtain ⟨x0, h3, k, _, rfl⟩ := hx
      exact move_ok hr (reach_ok hr h1 h2 out ys n x0 h3) k
    · cases hx

theorem steps_congr {r : Rule} {y : Year} {w : Bool} {a b : List Spot} (h : ∀ x, x ∈ a ↔ x ∈ b) (x : Spot) : x ∈ steps r y w a ↔ x ∈ steps r y w b := by
  simp only [steps, List.mem_flatMap, h]
theorem any_congr {α : Type} {p : α → Bool} {a b : List α} (h : ∀ x, x ∈ a ↔ x ∈ b) : a.any p = b.any p := by
  rw [Bool.eq_iff_iff, List.any_eq_true, List.any_eq_true]
  simp only [h]
theorem moves_congr {r : Rule} {y : Year} {w : Bool} {a b : List Spot} (h : ∀ x, x ∈ a ↔ x ∈ b) (c : Bool) : moves r y w a c = moves r y w b c := any_congr h
theorem reach_succ {r : Rule} {first : Int} {out : List Int} {ys : List Year} {k : Nat} {y : Year} (h : ys[k]? = some y) : reach r first out ys (k + 1) = steps r y (out.contains (k : Int)) (reach r first out ys k) := by
  simp only [reach, h]
theorem movesAt_succ {r : Rule} {first : Int} {out : List Int} {ys : List Year} {k : Nat} {y : Year} (h : ys[k]? = some y) (b : Bool) : movesAt r first out ys (k + 1) b = moves r y (out.contains (k : Int)) (reach r first out ys k) b := by
  simp only [movesAt, h]

def lastOf : Int → List Int → Int
  | a, [] => a
  | _, n :: ns => lastOf n ns
theorem upTo_append : ∀ (a : Int) (l m : List Int), upTo a (l ++ m) = (upTo a l && upTo (lastOf a l) m)
  | a, [], m => by simp [upTo, lastOf]
  | a, n :: l, m => by simp [upTo, lastOf, upTo_append n l m, Bool.and_assoc]
theorem lastOf_append : ∀ (a : Int) (l : List Int) (x : Int), lastOf a (l ++ [x]) = x
  | a, [], x => rfl
  | a, n :: l, x => lastOf_append n l x
theorem take_snoc {α : Type} {l : List α} {k : Nat} {x : α} (h : l[k]? = some x) : l.take (k + 1) = l.take k ++ [x] := by
  rw [List.take_add_one, h]; rfl
theorem any_of_get {α : Type} {l : List α} {p : α → Bool} {k : Nat} {x : α} (h : l[k]? = some x) (hp : p x = true) : l.any p = true := List.any_eq_true.2 ⟨x, List.mem_of_getElem? h, hp⟩
theorem upTo_false {a : Int} {l : List Int} {k : Nat} {x : Int} (h : l[k]? = some x) (hf : within x (lastOf a (l.take k)) 10000 = false) : upTo a l = false := by
  have e : l = l.take k ++ x :: l.drop (k + 1) := by
    obtain ⟨h1, h2⟩ := List.getElem?_eq_some_iff.1 h
    rw [← h2]; simp
  rw [e, upTo_append]
  simp [upTo, hf]
end Go.Proofs.Ytelnonfenpjjcaa
