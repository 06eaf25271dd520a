/- Societies in plain Lean: what the program's functions compute. -/
set_option linter.unusedSimpArgs false
set_option linter.unusedVariables false
set_option linter.unusedSimpArgs false
set_option linter.unusedVariables false
namespace Go.Proofs.YtjadiajfbflghaaGreat
structure Rng where
  lo : Int
  hi : Int
  deriving DecidableEq
structure Mem where
  sum : Int
  cls : Int
  most : Int
structure Soc where
  members : List Mem
  losses : List Rng
  treaty : Rng
  reserve : Int
structure Truth where
  losses : List Int
  treaty : Int
def within (n lo hi : Int) : Bool := decide (lo ≤ n ∧ n ≤ hi)
def Rng.pence (r : Rng) : Bool := decide (0 ≤ r.lo ∧ r.lo ≤ r.hi ∧ r.hi ≤ 100000 ∧ r.hi - r.lo ≤ 30)
def Rng.has (r : Rng) (n : Int) : Bool := within n r.lo r.hi
def Mem.valid (m : Mem) : Bool := within m.sum 1 1000 && (within m.cls 1 10 && within m.most 0 100000)
def Mem.units (m : Mem) : Int := m.sum * m.cls
def Soc.valid (s : Soc) : Bool := decide (s.members.length ≠ 0) && (s.members.all Mem.valid && (s.losses.all Rng.pence && (s.treaty.pence && within s.reserve 0 100000)))
def fault (s : Soc) : Int := if 5 < s.members.length ∨ 3 < s.losses.length then 3 else if s.valid = true then 0 else 1
def needOf (s : Soc) (l t : Int) : Int := max 0 (l - s.reserve - t)
def sumL (l : List Int) : Int := l.foldl (· + ·) 0
def los (l : List Rng) : List Int := l.map (·.lo)
def his (l : List Rng) : List Int := l.map (·.hi)
def needsOf (s : Soc) : Rng := ⟨needOf s (sumL (los s.losses)) s.treaty.hi, needOf s (sumL (his s.losses)) s.treaty.lo⟩
def isTruth (s : Soc) (t : Truth) : Bool := decide (t.losses.length = s.losses.length) && (s.treaty.has t.treaty && (List.range t.losses.length).all fun i => match s.losses[i]? with
  | some r => r.has (t.losses.getD i 0)
  | none => true)
def minL : List Int → Int
  | [] => 0
  | x :: xs => xs.foldl min x
theorem minL_take {l : List Int} {k : Nat} {x : Int} (h1 : 1 ≤ k) (h : l[k]? = some x) : minL (l.take (k + 1)) = min (minL (l.take k)) x := by
  cases l with
  | nil => simp at h
  | cons a l =>
    obtain ⟨k, rfl⟩ : ∃ k', k = k' + 1 := ⟨k - 1, by omega⟩
    simp only [List.getElem?_cons_succ] at h
    have : l.take (k + 1) = l.take k ++ [x] := by
      rw [List.take_add_one, h]; rfl
    simp [minL, this]
theorem take_snoc {α : Type} {l : List α} {k : Nat} {x : α} (h : l[k]? = some x) : l.take (k + 1) = l.take k ++ [x] := by
  rw [List.take_add_one, h]; rfl
theorem any_of_get {α : Type} {l : List α} {p : α → Bool} {k : Nat} {x : α} (h : l[k]? = some x) (hp : p x = true) : l.any p = true := List.any_eq_true.2 ⟨x, List.mem_of_getElem? h, hp⟩
theorem sumL_take {l : List Int} {k : Nat} {x : Int} (h : l[k]? = some x) : sumL (l.take (k + 1)) = sumL (l.take k) + x := by
  rw [take_snoc h]; simp [sumL]
def un (ms : List Mem) (i : Nat) : Int := match ms[i]? with
  | some m => m.units
  | none => 0
def mst (ms : List Mem) (i : Nat) : Int := match ms[i]? with
  | some m => m.most
  | none => 0
def unitsF (ms : List Mem) (f : Nat → Bool) : Nat → Int
  | 0 => 0
  | k + 1 => unitsF ms f k + (if f k = true then un ms k else 0)
def quo (ms : List Mem) (need U : Int) (i : Nat) : Int := need * un ms i / U
def rst (ms : List Mem) (need U : Int) (i : Nat) : Int := need * un ms i % U
def leftF (ms : List Mem) (f : Nat → Bool) (need U : Int) : Nat → Int
  | 0 => need
  | k + 1 => leftF ms f need U k - (if f k = true then quo ms need U k else 0)
def cntF (p : Nat → Bool) : Nat → Int
  | 0 => 0
  | k + 1 => cntF p k + (if p k = true then 1 else 0)
def beforeF (ms : List Mem) (f : Nat → Bool) (need U : Int) (i : Nat) : Int :=
  cntF (fun k => f k && decide (rst ms need U i < rst ms need U k)) ms.length + cntF (fun k => f k && decide (rst ms need U k = rst ms need U i)) i
def shareF (ms : List Mem) (f : Nat → Bool) (need : Int) (i : Nat) : Int :=
  if i < ms.length ∧ f i = true then quo ms need (unitsF ms f ms.length) i + (if beforeF ms f need (unitsF ms f ms.length) i < leftF ms f need (unitsF ms f ms.length) ms.length then 1 else 0) else 0
def capF (ms : List Mem) (f : Nat → Bool) (need : Int) (i : Nat) : Bool := decide (i < ms.length) && (f i && decide (mst ms i < shareF ms f need i))
def needF (ms : List Mem) (c : Nat → Bool) (need : Int) : Nat → Int
  | 0 => need
  | k + 1 => needF ms c need k - (if c k = true then mst ms k else 0)
def upd {α : Type} (f : Nat → α) (k : Nat) (v : α) (i : Nat) : α := if i = k then v else f i
def any5 (f : Nat → Bool) : Bool := f 0 || (f 1 || (f 2 || (f 3 || f 4)))
def callsF (ms : List Mem) : Nat → (Nat → Bool) → Int → (Nat → Int) → (Nat → Int) × Int
  | 0, _, need, o => (o, need)
  | t + 1, f, need, o => if any5 f = false then (o, need) else
    if any5 (capF ms f need) = false then (fun i => if f i = true ∧ i < ms.length then shareF ms f need i else o i, 0)
    else callsF ms t (fun i => f i && !capF ms f need i) (needF ms (capF ms f need) need ms.length) (fun i => if capF ms f need i = true then mst ms i else o i)
def tab (n : Nat) (o : Nat → Int) : List Int := (List.range n).map o
def askF (ms : List Mem) (out : List Int) (i : Nat) : Bool := decide (i < ms.length) && !out.contains (i : Int)
def callsOf (s : Soc) (out : List Int) (need : Int) : List Int × Int := (tab s.members.length (callsF s.members 6 (askF s.members out) need fun _ => 0).1, (callsF s.members 6 (askF s.members out) need fun _ => 0).2)
def Soc.listed (s : Soc) (l : List Int) : Bool := l.all (fun n => within n 0 (s.members.length - 1)) && decide (l.Pairwise (· < ·))
end Go.Proofs.YtjadiajfbflghaaGreat
