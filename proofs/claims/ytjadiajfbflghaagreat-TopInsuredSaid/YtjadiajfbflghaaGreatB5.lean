/- Societies in plain Lean: what the program's functions compute. Functions of the program in the calculus' compact form: the form is found by reduction, and shown to be the program's. Functions of the program in the calculus' compact form: the form is found by reduction, and shown to be the program's. Societies as trees of Go values. The statements' arguments, as societies, and how a statement comes of a contract. Tariffs: as data, as trees, and what is valid. Functions of the program in the calculus' compact form: the form is found by reduction, and shown to be the program's. Tariffs: all over lists of tariffs, crops, rates (printed by a program). Contracts of the smallest functions. Shares and calls in plain Lean: what they sum up to. -/
import Derived.Test.YtjadiajfbflghaaGreatProg
import Derived.Test.YtjadiajfbflghaaGreatB3
import Derived.Test.YtjadiajfbflghaaGreatB4
import Derived.IntWalk
import Derived.Test.YtjadiajfbflghaaGreatRows
set_option maxHeartbeats 32000000
set_option maxRecDepth 100000
set_option linter.unusedSimpArgs false
set_option linter.unusedVariables false
set_option linter.defProp false
namespace Go.Proofs.YtjadiajfbflghaaGreat
structure Rng where
 lo : Int
 hi : Int
 deriving DecidableEq
structure Mem where
 sum : Int
 cls : Int
 most : Int
structure Soc where
 members : List Mem
 losses : List Rng
 treaty : Rng
 reserve : Int
structure Truth where
 losses : List Int
 treaty : Int
def within (n lo hi : Int) : Bool := decide (lo ≤ n ∧ n ≤ hi)
def Rng.pence (r : Rng) : Bool := decide (0 ≤ r.lo ∧ r.lo ≤ r.hi ∧ r.hi ≤ 100000 ∧ r.hi - r.lo ≤ 30)
def Rng.has (r : Rng) (n : Int) : Bool := within n r.lo r.hi
def Mem.valid (m : Mem) : Bool := within m.sum 1 1000 && (within m.cls 1 10 && within m.most 0 100000)
def Mem.units (m : Mem) : Int := m.sum * m.cls
def Soc.valid (s : Soc) : Bool := decide (s.members.length ≠ 0) && (s.members.all Mem.valid && (s.losses.all Rng.pence && (s.treaty.pence && within s.reserve 0 100000)))
def fault (s : Soc) : Int := if 5 < s.members.length ∨ 3 < s.losses.length then 3 else if s.valid = true then 0 else 1
def sumL (l : List Int) : Int := l.foldl (· + ·) 0
def minL : List Int → Int
 | [] => 0
 | x :: xs => xs.foldl min x
theorem minL_take {l : List Int} {k : Nat} {x : Int} (h1 : 1 ≤ k) (h : l[k]? = some x) : minL (l.take (k + 1)) = min (minL (l.take k)) x := by
 cases l with
 | nil => simp at h
 | cons a l =>
  obtain ⟨k, rfl⟩ : ∃ k', k = k' + 1 := ⟨k - 1, by omega⟩
  simp only [List.getElem?_cons_succ] at h
  have : l.take (k + 1) = l.take k ++ [x] := by
   rw [List.take_add_one, h]; rfl
  simp [minL, this]
theorem take_snoc {α : Type} {l : List α} {k : Nat} {x : α} (h : l[k]? = some x) : l.take (k + 1) = l.take k ++ [x] := by
 rw [List.take_add_one, h]; rfl
theorem any_of_get {α : Type} {l : List α} {p : α → Bool} {k : Nat} {x : α} (h : l[k]? = some x) (hp : p x = true) : l.any p = true := List.any_eq_true.2 ⟨x, List.mem_of_getElem? h, hp⟩
def un (ms : List Mem) (i : Nat) : Int := match ms[i]? with
 | some m => m.units
 | none => 0
def mst (ms : List Mem) (i : Nat) : Int := match ms[i]? with
 | some m => m.most
 | none => 0
def unitsF (ms : List Mem) (f : Nat → Bool) : Nat → Int
 | 0 => 0
 | k + 1 => unitsF ms f k + (if f k = true then un ms k else 0)
def quo (ms : List Mem) (need U : Int) (i : Nat) : Int := need * un ms i / U
def rst (ms : List Mem) (need U : Int) (i : Nat) : Int := need * un ms i % U
def leftF (ms : List Mem) (f : Nat → Bool) (need U : Int) : Nat → Int
 | 0 => need
 | k + 1 => leftF ms f need U k - (if f k = true then quo ms need U k else 0)
def cntF (p : Nat → Bool) : Nat → Int
 | 0 => 0
 | k + 1 => cntF p k + (if p k = true then 1 else 0)
def beforeF (ms : List Mem) (f : Nat → Bool) (need U : Int) (i : Nat) : Int :=
 cntF (fun k => f k && decide (rst ms need U i < rst ms need U k)) ms.length + cntF (fun k => f k && decide (rst ms need U k = rst ms need U i)) i
def shareF (ms : List Mem) (f : Nat → Bool) (need : Int) (i : Nat) : Int :=
 if i < ms.length ∧ f i = true then quo ms need (unitsF ms f ms.length) i + (if beforeF ms f need (unitsF ms f ms.length) i < leftF ms f need (unitsF ms f ms.length) ms.length then 1 else 0) else 0
def capF (ms : List Mem) (f : Nat → Bool) (need : Int) (i : Nat) : Bool := decide (i < ms.length) && (f i && decide (mst ms i < shareF ms f need i))
def needF (ms : List Mem) (c : Nat → Bool) (need : Int) : Nat → Int
 | 0 => need
 | k + 1 => needF ms c need k - (if c k = true then mst ms k else 0)
def upd {α : Type} (f : Nat → α) (k : Nat) (v : α) (i : Nat) : α := if i = k then v else f i
def any5 (f : Nat → Bool) : Bool := f 0 || (f 1 || (f 2 || (f 3 || f 4)))
def callsF (ms : List Mem) : Nat → (Nat → Bool) → Int → (Nat → Int) → (Nat → Int) × Int
 | 0, _, need, o => (o, need)
 | t + 1, f, need, o => if any5 f = false then (o, need) else
  if any5 (capF ms f need) = false then (fun i => if f i = true ∧ i < ms.length then shareF ms f need i else o i, 0)
  else callsF ms t (fun i => f i && !capF ms f need i) (needF ms (capF ms f need) need ms.length) (fun i => if capF ms f need i = true then mst ms i else o i)
def tab (n : Nat) (o : Nat → Int) : List Int := (List.range n).map o
def askF (ms : List Mem) (out : List Int) (i : Nat) : Bool := decide (i < ms.length) && !out.contains (i : Int)
def callsOf (s : Soc) (out : List Int) (need : Int) : List Int × Int := (tab s.members.length (callsF s.members 6 (askF s.members out) need fun _ => 0).1, (callsF s.members 6 (askF s.members out) need fun _ => 0).2)
def Soc.listed (s : Soc) (l : List Int) : Bool := l.all (fun n => within n 0 (s.members.length - 1)) && decide (l.Pairwise (· < ·))
end Go.Proofs.YtjadiajfbflghaaGreat
open Go Go.TV
namespace Go.Proofs.YtjadiajfbflghaaGreat
theorem fo (n : Nat) {t : TFn} (h : fnOf Tryz.prog n = some t := by conv => lhs; reduce; (try dsimp only [Int.ofNat_eq_natCast, Int.cast_ofNat_Int])) : fnOf Tryz.prog n = some t := h
def fn_133 := fo 133
def fn_185 := fo 185
def fn_196 := fo 196
def fn_209 := fo 209
def fn_237 := fo 237
def fn_243 := fo 243
def fn_244 := fo 244
def fn_257 := fo 257
def fn_260 := fo 260
def fn_261 := fo 261
def fn_262 := fo 262
end Go.Proofs.YtjadiajfbflghaaGreat
open Go Go.TV
namespace Go.Proofs.YtjadiajfbflghaaGreat
def fn_8 := fo 8
def fn_9 := fo 9
def fn_19 := fo 19
def fn_52 := fo 52
def fn_53 := fo 53
def fn_63 := fo 63
def fn_68 := fo 68
def fn_69 := fo 69
def fn_70 := fo 70
def fn_126 := fo 126
def fn_127 := fo 127
def fn_128 := fo 128
def fn_129 := fo 129
def tf134 : TFn := ⟨108, [(.cell 4 true 5)], (.seq (.region false [⟨(some 4), (.alloc [(.int .i64 0), (.int .i64 0), (.int .i64 0), (.int .i64 0), (.int .i64 0)]), none, [], []⟩]) (.seq (.region false [⟨(some 12), (.mv (.t 1)), none, [], []⟩, ⟨(some 5), (.mv (.c (.int .i64 0))), none, [], []⟩, ⟨(some 6), (.mv (.t 12)), none, [], []⟩]) (.seq (.seq (.region false [⟨(some 13), (.mv (.t 0)), none, [], []⟩, ⟨(some 14), (.nilck (.t 13)), none, [], []⟩, ⟨(some 15), (.faddr 0 (.t 14)), none, [], []⟩, ⟨(some 16), (.faddr 0 (.t 15)), none, [], []⟩, ⟨(some 17), (.load false 1 (.t 16)), none, [], []⟩, ⟨(some 18), (.lenS (.t 17)), none, [], []⟩, ⟨(some 19), (.mv (.c (.int .i64 0))), none, [], []⟩]) (.block 0 (.loop (.seq (.region false [⟨(some 20), (.cmp .lss (.t 19) (.t 18)), none, [], []⟩]) (.seq (.cond (.t 20) .skip (.exit 0)) (.seq (.block 1 (.seq (.region false [⟨(some 21), (.mv (.t 19)), none, [], []⟩, ⟨(some 22), (.idxS 3 (.t 17) (.t 19)), none, [], []⟩, ⟨(some 23), (.load true 3 (.t 22)), none, [], []⟩, ⟨(some 8), (.alloc [(.int .i64 0), (.int .i64 0), (.int .i64 0)]), none, [], []⟩, ⟨(some 7), (.mv (.t 21)), none, [], []⟩, ⟨none, (.store 3 (.t 8) (.t 23)), none, [], []⟩]) (.seq (.region false [⟨(some 24), (.mv (.t 0)), none, [], []⟩, ⟨(some 25), (.mv (.t 7)), none, [], []⟩, ⟨(some 26), (.nilck (.t 24)), none, [], []⟩, ⟨(some 27), (.faddr 5 (.t 26)), none, [], []⟩, ⟨(some 28), (.idxA 5 1 (.t 27) (.t 25)), none, [], []⟩, ⟨(some 29), (.load false 1 (.t 28)), none, [], []⟩]) (.cond (.t 29) (.region false [⟨(some 30), (.mv (.t 5)), none, [], []⟩, ⟨(some 31), (.load true 3 (.t 8)), none, [], []⟩, ⟨(some 32), (.call 197 [(.t 31)]), none, [], []⟩, ⟨(some 33), (.arith .add (.t 30) (.t 32)), none, [], []⟩, ⟨(some 5), (.mv (.t 33)), none, [], []⟩]) .skip)))) (.region false [⟨(some 34), (.arith .add (.t 19) (.c (.int .i64 1))), none, [], []⟩, ⟨(some 19), (.mv (.t 34)), none, [], []⟩]))))))) (.seq (.region false [⟨(some 35), (.mv (.t 0)), none, [], []⟩, ⟨(some 36), .mkmap, none, [], []⟩, ⟨(some 37), (.nilck (.t 35)), none, [], []⟩, ⟨(some 38), (.faddr 10 (.t 37)), none, [], []⟩, ⟨none, (.store 1 (.t 38) (.t 36)), none, [], []⟩]) (.seq (.seq (.region false [⟨(some 39), (.mv (.t 0)), none, [], []⟩, ⟨(some 40), (.nilck (.t 39)), none, [], []⟩, ⟨(some 41), (.faddr 0 (.t 40)), none, [], []⟩, ⟨(some 42), (.faddr 0 (.t 41)), none, [], []⟩, ⟨(some 43), (.load false 1 (.t 42)), none, [], []⟩, ⟨(some 44), (.lenS (.t 43)), none, [], []⟩, ⟨(some 45), (.mv (.c (.int .i64 0))), none, [], []⟩]) (.block 2 (.loop (.seq (.region false [⟨(some 46), (.cmp .lss (.t 45) (.t 44)), none, [], []⟩]) (.seq (.cond (.t 46) .skip (.exit 2)) (.seq (.block 3 (.seq (.region false [⟨(some 47), (.mv (.t 45)), none, [], []⟩, ⟨(some 9), (.mv (.t 47)), none, [], []⟩]) (.seq (.region false [⟨(some 48), (.mv (.t 0)), none, [], []⟩, ⟨(some 49), (.mv (.t 9)), none, [], []⟩, ⟨(some 50), (.nilck (.t 48)), none, [], []⟩, ⟨(some 51), (.faddr 5 (.t 50)), none, [], []⟩, ⟨(some 52), (.idxA 5 1 (.t 51) (.t 49)), none, [], []⟩, ⟨(some 53), (.load false 1 (.t 52)), none, [], []⟩]) (.cond (.t 53) (.seq (.region false [⟨(some 54), (.mv (.t 0)), none, [], []⟩, ⟨(some 55), (.mv (.t 9)), none, [], []⟩, ⟨(some 56), (.mv (.t 1)), none, [], []⟩, ⟨(some 57), (.mv (.t 5)), none, [], []⟩, ⟨(some 58), (.call 198 [(.t 54), (.t 55), (.t 56), (.t 57)]), none, [], []⟩, ⟨(some 10), (.alloc [(.int .i64 0), (.int .i64 0)]), none, [], []⟩, ⟨none, (.store 2 (.t 10) (.t 58)), none, [], []⟩]) (.seq (.region false [⟨(some 59), (.mv (.t 9)), none, [], []⟩, ⟨(some 60), (.faddr 0 (.t 10)), none, [], []⟩, ⟨(some 61), (.load false 1 (.t 60)), none, [], []⟩, ⟨(some 62), (.idxA 5 1 (.t 4) (.t 59)), none, [], []⟩, ⟨none, (.store 1 (.t 62) (.t 61)), none, [], []⟩]) (.seq (.region false [⟨(some 63), (.mv (.t 6)), none, [], []⟩, ⟨(some 64), (.faddr 0 (.t 10)), none, [], []⟩, ⟨(some 65), (.load false 1 (.t 64)), none, [], []⟩, ⟨(some 66), (.arith .sub (.t 63) (.t 65)), none, [], []⟩, ⟨(some 6), (.mv (.t 66)), none, [], []⟩]) (.region true [⟨(some 67), (.mv (.t 0)), none, [], [0]⟩, ⟨(some 68), (.nilck (.t 67)), none, [0], [67]⟩, ⟨(some 69), (.faddr 10 (.t 68)), none, [1], [68]⟩, ⟨(some 70), (.load false 1 (.t 69)), none, [2], [69]⟩, ⟨(some 71), (.load true 2 (.t 10)), none, [], [10]⟩, ⟨(some 72), (.lookup (.st [(0, (1, (false, (.int .i64)))), (1, (1, (false, (.int .i64))))]) (.int .i64 0) false (.t 70) (.t 71)), none, [3, 4], [70, 71]⟩, ⟨(some 73), (.arith .add (.t 72) (.c (.int .i64 1))), none, [5], [72]⟩, ⟨(some 74), (.mapEnt (.st [(0, (1, (false, (.int .i64)))), (1, (1, (false, (.int .i64))))]) (.int .i64 0) (.t 70) (.t 71)), none, [3, 4, 0, 1, 2, 3, 4], [70, 71]⟩, ⟨(some 75), (.extract (.t 74) 1), none, [7], [74]⟩, ⟨none, (.entSt (.t 70) (.t 75) (.t 73)), none, [3, 8, 6, 7, 0, 1, 2, 3, 4, 5, 6, 7, 8], [70, 75, 73]⟩])))) .skip)))) (.region false [⟨(some 76), (.arith .add (.t 45) (.c (.int .i64 1))), none, [], []⟩, ⟨(some 45), (.mv (.t 76)), none, [], []⟩]))))))) (.seq (.seq (.region false [⟨(some 77), (.mv (.t 0)), none, [], []⟩, ⟨(some 78), (.nilck (.t 77)), none, [], []⟩, ⟨(some 79), (.faddr 0 (.t 78)), none, [], []⟩, ⟨(some 80), (.faddr 0 (.t 79)), none, [], []⟩, ⟨(some 81), (.load false 1 (.t 80)), none, [], []⟩, ⟨(some 82), (.lenS (.t 81)), none, [], []⟩, ⟨(some 83), (.mv (.c (.int .i64 0))), none, [], []⟩]) (.block 4 (.loop (.seq (.region false [⟨(some 84), (.cmp .lss (.t 83) (.t 82)), none, [], []⟩]) (.seq (.cond (.t 84) .skip (.exit 4)) (.seq (.block 5 (.seq (.region false [⟨(some 85), (.mv (.t 83)), none, [], []⟩, ⟨(some 11), (.mv (.t 85)), none, [], []⟩]) (.seq (.region false [⟨(some 86), (.mv (.t 0)), none, [], []⟩, ⟨(some 87), (.mv (.t 11)), none, [], []⟩, ⟨(some 88), (.nilck (.t 86)), none, [], []⟩, ⟨(some 89), (.faddr 5 (.t 88)), none, [], []⟩, ⟨(some 90), (.idxA 5 1 (.t 89) (.t 87)), none, [], []⟩, ⟨(some 91), (.load false 1 (.t 90)), none, [], []⟩, ⟨(some 92), (.mv (.t 91)), none, [], []⟩, ⟨(some 93), (.mv (.t 0)), (some (92, true)), [], []⟩, ⟨(some 94), (.mv (.t 11)), (some (92, true)), [], []⟩, ⟨(some 95), (.mv (.t 1)), (some (92, true)), [], []⟩, ⟨(some 96), (.mv (.t 5)), (some (92, true)), [], []⟩, ⟨(some 97), (.call 199 [(.t 93), (.t 94), (.t 95), (.t 96)]), (some (92, true)), [], []⟩, ⟨(some 98), (.mv (.t 6)), (some (92, true)), [], []⟩, ⟨(some 99), (.cmp .lss (.t 97) (.t 98)), (some (92, true)), [], []⟩, ⟨(some 100), (.pick (.t 92) (.t 99) (.c (.bool false))), none, [], []⟩]) (.cond (.t 100) (.region false [⟨(some 101), (.mv (.t 11)), none, [], []⟩, ⟨(some 102), (.idxA 5 1 (.t 4) (.t 101)), none, [], []⟩, ⟨(some 103), (.load false 1 (.t 102)), none, [], []⟩, ⟨(some 104), (.arith .add (.t 103) (.c (.int .i64 1))), none, [], []⟩, ⟨(some 105), (.idxA 5 1 (.t 4) (.t 101)), none, [], []⟩, ⟨none, (.store 1 (.t 105) (.t 104)), none, [], []⟩]) .skip)))) (.region false [⟨(some 106), (.arith .add (.t 83) (.c (.int .i64 1))), none, [], []⟩, ⟨(some 83), (.mv (.t 106)), none, [], []⟩]))))))) (.seq (.region false [⟨(some 107), (.load true 5 (.t 4)), none, [], []⟩, ⟨none, (.store 5 (.t 4) (.t 107)), none, [], []⟩]) .ret)))))))⟩
theorem fn_134 : fnOf Tryz.prog 134 = some tf134 := by kernel_rfl
def fn_186 := fo 186
def fn_187 := fo 187
def fn_188 := fo 188
def fn_189 := fo 189
def fn_197 := fo 197
def fn_198 := fo 198
def fn_199 := fo 199
def fn_235 := fo 235
def fn_236 := fo 236
end Go.Proofs.YtjadiajfbflghaaGreat
open Go Go.TV
namespace Go.Proofs.YtjadiajfbflghaaGreat
theorem ij (x : Int) (h : -9223372036854775808 ≤ x ∧ x ≤ 9223372036854775807) : IntKind.i64.wrap x = x := IntWalk.i64_in x h
def ints (l : List Int) : List SV := l.map (SV.int .i64)
def encR (r : Rng) : SV := .agg [.int .i64 r.lo, .int .i64 r.hi]
def encRs (l : List Rng) : List SV := l.map encR
def encY (m : Mem) : SV := .agg [.int .i64 m.sum, .int .i64 m.cls, .int .i64 m.most]
def encYs (l : List Mem) : List SV := l.map encY
def encSoc (s : Soc) : SV := .agg [.sl 3 (encYs s.members), .sl 2 (encRs s.losses), .int .i64 s.treaty.lo, .int .i64 s.treaty.hi, .int .i64 s.reserve]
def encT (t : Truth) : SV := .agg [.sl 1 (ints t.losses), .int .i64 t.treaty]
def encS (p : Int × Int) : SV := .agg [.int .i64 p.1, .int .i64 p.2]
theorem ints_len (l : List Int) : (ints l).length = l.length := List.length_map _
theorem encYs_len (l : List Mem) : (encYs l).length = l.length := List.length_map _
theorem encRs_len (l : List Rng) : (encRs l).length = l.length := List.length_map _
theorem ints_at {l : List Int} {n : Nat} {e : SV} (h : (ints l)[n]? = some e) : ∃ x, l[n]? = some x ∧ e = .int .i64 x := by
 simp only [ints, List.getElem?_map, Option.map_eq_some_iff] at h
 obtain ⟨x, h1, h2⟩ := h
 exact ⟨x, h1, h2.symm⟩
theorem encYs_at {l : List Mem} {n : Nat} {e : SV} (h : (encYs l)[n]? = some e) : ∃ x, l[n]? = some x ∧ e = encY x := by
 simp only [encYs, List.getElem?_map, Option.map_eq_some_iff] at h
 obtain ⟨x, h1, h2⟩ := h
 exact ⟨x, h1, h2.symm⟩
theorem encRs_at {l : List Rng} {n : Nat} {e : SV} (h : (encRs l)[n]? = some e) : ∃ x, l[n]? = some x ∧ e = encR x := by
 simp only [encRs, List.getElem?_map, Option.map_eq_some_iff] at h
 obtain ⟨x, h1, h2⟩ := h
 exact ⟨x, h1, h2.symm⟩
theorem ints_clo (l : List Int) : cloL (ints l) := by
 rw [cloL_iff]; intro s hs; obtain ⟨x, _, rfl⟩ := List.mem_map.1 hs; simp only [clo]
theorem encYs_clo (l : List Mem) : cloL (encYs l) := by
 rw [cloL_iff]; intro s hs; obtain ⟨x, _, rfl⟩ := List.mem_map.1 hs; simp [encY, clo, cloL]
theorem encRs_clo (l : List Rng) : cloL (encRs l) := by
 rw [cloL_iff]; intro s hs; obtain ⟨x, _, rfl⟩ := List.mem_map.1 hs; simp [encR, clo, cloL]
theorem lz : (∀ l, (ints l).length = l.length) ∧ (∀ l, (encYs l).length = l.length) ∧ ∀ l, (encRs l).length = l.length := ⟨ints_len, encYs_len, encRs_len⟩
theorem cz : (∀ l, cloL (ints l)) ∧ (∀ l, cloL (encYs l)) ∧ ∀ l, cloL (encRs l) := ⟨ints_clo, encYs_clo, encRs_clo⟩
def encM (ks : List ((Int × Int) × Int)) : List (SV × SV) := ks.map fun x => (encS x.1, .int .i64 x.2)
theorem shS (a b : Int) : shOK (.st [(0, 1, false, .int .i64), (1, 1, false, .int .i64)]) (.agg [.int .i64 a, .int .i64 b]) := by simp [shOK, shF, partK, getK, lenIs]
theorem shM (ks : List ((Int × Int) × Int)) : ∀ e ∈ encM ks, shOK (.st [(0, 1, false, .int .i64), (1, 1, false, .int .i64)]) e.1 := by
 intro e he
 obtain ⟨x, _, rfl⟩ := List.mem_map.1 he
 exact shS _ _
theorem shN : ∀ e ∈ ([] : List (SV × SV)), shOK (.st [(0, 1, false, .int .i64), (1, 1, false, .int .i64)]) e.1 := by simp
theorem encM_clo (ks : List ((Int × Int) × Int)) : cloM (encM ks) := by
 intro e he
 obtain ⟨x, _, rfl⟩ := List.mem_map.1 he
 simp [encS, clo, cloL]
theorem encS_inj {x y : Int × Int} (h : encS x = encS y) : x = y := by
 simp only [encS, SV.agg.injEq, List.cons.injEq, SV.int.injEq, true_and, and_true] at h
 obtain ⟨a, b⟩ := x; obtain ⟨c, d⟩ := y
 simp_all
theorem encM_nodup {ks : List ((Int × Int) × Int)} (h : (ks.map (·.1)).Nodup) : ((encM ks).map (·.1)).Nodup := by
 have e : (encM ks).map (·.1) = (ks.map (·.1)).map encS := by simp [encM]
 rw [e]
 exact List.Pairwise.map _ (fun a b hab e => hab (encS_inj e)) h
theorem encM_split {ks : List ((Int × Int) × Int)} {pre post : List (SV × SV)} {k v : SV} (h : encM ks = pre ++ (k, v) :: post) : ∃ a x b, ks = a ++ x :: b ∧ pre = encM a ∧ k = encS x.1 ∧ v = .int .i64 x.2 ∧ post = encM b := by
 obtain ⟨a, c, rfl, rfl, h2⟩ := List.map_eq_append_iff.1 h
 obtain ⟨x, b, rfl, h3, rfl⟩ := List.map_eq_cons_iff.1 h2
 cases h3
 exact ⟨a, x, b, rfl, rfl, rfl, rfl, rfl⟩
theorem SV.bool_iff {a b : Bool} : (SV.bool a = SV.bool b) ↔ (a = true ↔ b = true) := by cases a <;> cases b <;> simp
theorem cl {p : Prop} (h : p := by simp [cloL, clo, catS, repl, cz, encR, encY, encS, encSoc, encT] <;> fail) : p := h
theorem vc {p : Prop} (h : p := by first | rfl | exact List.cons_ne_nil _ _ | (show (_ : Nat) * _ ≤ _; simp [catS, repl, chunks, lz] <;> omega) | exact shS _ _ | exact shM _ | exact shN | exact encM_clo _ | exact ⟨rfl, rfl⟩ | exact ⟨rfl, rfl, rfl⟩ | omega | (simp only [lz]; omega) | (simp; omega) | (simp [cloL, clo, catS, repl, cz, encR, encY, encS, encSoc, encT] <;> fail) | (show chkGo _ _ _ _ _ = true; kernel_rfl)) : p := h
theorem vk {p : Prop} (h : p := by first | (show chkGo _ _ _ _ _ = true; kernel_rfl) | rfl | exact List.cons_ne_nil _ _ | (show (_ : Nat) * _ ≤ _; simp [catS, repl, chunks, lz] <;> omega) | exact shS _ _ | exact shM _ | exact shN | exact encM_clo _ | exact ⟨rfl, rfl⟩ | exact ⟨rfl, rfl, rfl⟩ | omega | (simp only [lz]; omega) | (simp; omega) | (simp [cloL, clo, catS, repl, cz, encR, encY, encS, encSoc, encT] <;> fail)) : p := h
theorem eg {p : Prop} (h : p) : Ev p := Ev.go h
theorem an {p q : Prop} (h : p) (k : q) : p ∧ q := ⟨h, k⟩
theorem iw {x : Int} {G : Int → Prop} (h : ∀ r, r = x → G r) (b : -9223372036854775808 ≤ x ∧ x ≤ 9223372036854775807 := by omega) : ∀ r, r = IntKind.i64.wrap x → G r := fun r e => h r (by rw [ij _ b] at e; exact e)
theorem lf {p : Prop} (h : p := by first | exact True.intro | exact rfl | (intro hcx; exfalso; omega)) : p := h
theorem gx {k n : Nat} {l : List SV} {v : SV} {G : SV → Prop} (hg : ∀ {n : Nat} {e : SV}, n = k → l[n]? = some e → e = v) (h : G v) (hn : n = k := by omega) : ∀ e, l[n]? = some e → G e := fun e he => by rw [hg hn he]; exact h
theorem gf {n : Nat} {l : List SV} {v : SV} {G : SV → Prop} (hg : ∀ {n : Nat} {e : SV}, l[n]? = some e → e = v) (h : G v) : ∀ e, l[n]? = some e → G e := fun e he => by rw [hg he]; exact h
theorem vy {p : Prop} (h : p := by first | (refine ⟨?_⟩; exact vc) | exact cl) : p := h
theorem vz {p : Prop} (h : p := by first | (refine ⟨?_⟩; exact vk) | exact cl) : p := h
end Go.Proofs.YtjadiajfbflghaaGreat
open Go Go.TV Go.RowKit
namespace Go.Proofs.YtjadiajfbflghaaGreat
def shI : Sh := .int .i64
theorem fits_int {k : IntKind} {s : SV} (h : fitsA (false, [.int k]) s) : ∃ n : Int, s = .int k n ∧ k.min ≤ n ∧ n ≤ k.max := by
 obtain ⟨cs, h1, rfl⟩ := h
 simp only [Sh.fitsL, Sh.fits] at h1
 obtain ⟨_, _, rfl, ⟨a, rfl, h2⟩, rfl⟩ := h1
 exact ⟨a, by simp, h2⟩
theorem own : ownKnob Tryz.prog.godebug = none := by kernel_rfl
theorem laidOut : laidOutB Tryz.prog = true := by kernel_rfl
theorem mixed : Tryz.prog.follows .mixedOrders = true := by kernel_rfl
def tsOK (P : Program) (f : Func) : Bool := f.params.toList.all fun t => P.readableRec t && decide (t < P.types.size)
theorem ts_ok {P : Program} {f : Func} (h : tsOK P f = true) : ∀ t ∈ f.params.toList, P.readableRec t = true ∧ t < P.types.size := by
 intro t ht
 have := List.all_eq_true.1 h t ht
 simpa using this
end Go.Proofs.YtjadiajfbflghaaGreat
open Go Go.TV
namespace Go.Proofs.YtjadiajfbflghaaGreat
structure Tf where
 frm : Int
 whole : Bool
 least : Int
 weeks : List Int
 counts : List Int
 rates : List (List (List Int))
def encI (n : Int) : SV := .int .i64 n
def encIs (l : List Int) : SV := .sl 1 (ints l)
def encIss (l : List (List Int)) : List SV := l.map encIs
def encCr (c : List (List Int)) : SV := .sl 1 (encIss c)
def encCrs (l : List (List (List Int))) : List SV := l.map encCr
def encTf (t : Tf) : SV := .agg [.int .i64 t.frm, .bool t.whole, .int .i64 t.least, .sl 1 (ints t.weeks), .sl 1 (ints t.counts), .sl 1 (encCrs t.rates)]
def encTfs (l : List Tf) : List SV := l.map encTf
theorem encIss_len (l : List (List Int)) : (encIss l).length = l.length := List.length_map _
theorem encCrs_len (l : List (List (List Int))) : (encCrs l).length = l.length := List.length_map _
theorem encTfs_len (l : List Tf) : (encTfs l).length = l.length := List.length_map _
theorem map_at {α : Type} {f : α → SV} {l : List α} {n : Nat} {e : SV} (h : (l.map f)[n]? = some e) : ∃ x, l[n]? = some x ∧ e = f x := by
 simp only [List.getElem?_map, Option.map_eq_some_iff] at h
 obtain ⟨x, h1, h2⟩ := h
 exact ⟨x, h1, h2.symm⟩
theorem encI_at {l : List Int} {n : Nat} {e : SV} (h : (ints l)[n]? = some e) : ∃ x, l[n]? = some x ∧ e = encI x := map_at h
theorem encIss_at {l : List (List Int)} {n : Nat} {e : SV} (h : (encIss l)[n]? = some e) : ∃ x, l[n]? = some x ∧ e = encIs x := map_at h
theorem encCrs_at {l : List (List (List Int))} {n : Nat} {e : SV} (h : (encCrs l)[n]? = some e) : ∃ x, l[n]? = some x ∧ e = encCr x := map_at h
theorem encTfs_at {l : List Tf} {n : Nat} {e : SV} (h : (encTfs l)[n]? = some e) : ∃ x, l[n]? = some x ∧ e = encTf x := map_at h
theorem encIss_clo (l : List (List Int)) : cloL (encIss l) := by
 rw [cloL_iff]; intro s hs; obtain ⟨x, _, rfl⟩ := List.mem_map.1 hs; simp [encIs, clo]
theorem encCrs_clo (l : List (List (List Int))) : cloL (encCrs l) := by
 rw [cloL_iff]; intro s hs; obtain ⟨x, _, rfl⟩ := List.mem_map.1 hs; simp [encCr, clo]
theorem encTfs_clo (l : List Tf) : cloL (encTfs l) := by
 rw [cloL_iff]; intro s hs; obtain ⟨x, _, rfl⟩ := List.mem_map.1 hs; simp [encTf, clo, cloL]
def goR : Int → Int → List Int → Bool
 | _, _, [] => true
 | a, most, x :: l => within x (a + 1) most && goR x most l
def risingB (l : List Int) (most : Int) : Bool := decide (0 < l.length) && (decide (l.head? = some 0) && goR (-1) most l)
def Tf.weekB (t : Tf) (x : List Int) : Bool := decide (x.length = t.counts.length) && x.all fun n => within n 0 100
def Tf.cropB (t : Tf) (c : List (List Int)) : Bool := decide (c.length = t.weeks.length) && c.all t.weekB
def Tf.few (t : Tf) : Bool := decide (t.weeks.length ≤ 4) && (decide (t.counts.length ≤ 5) && decide (t.rates.length ≤ 3))
def Tf.valid (t : Tf) : Bool := within t.frm 0 120 && (within t.least 0 100 && (risingB t.weeks 120 && (decide (1 < t.counts.length) && (risingB t.counts 100 && (decide (t.counts.getLast? = some 100) && (decide (0 < t.rates.length) && t.rates.all t.cropB))))))
structure ValidTs (l : List Tf) : Prop where
 len : l.length ≤ 3
 few : ∀ t ∈ l, t.few = true
 ne : 0 < l.length
 first : ∀ t, l[0]? = some t → t.frm = 0
 valid : ∀ t ∈ l, t.valid = true
 next : ∀ (i : Nat) (a b : Tf), l[i]? = some a → l[i + 1]? = some b → a.frm < b.frm
 crops : ∀ (i : Nat) (a b : Tf), l[0]? = some a → l[i]? = some b → b.rates.length = a.rates.length
end Go.Proofs.YtjadiajfbflghaaGreat
open Go Go.TV
namespace Go.Proofs.YtjadiajfbflghaaGreat
def fn_76 := fo 76
def fn_84 := fo 84
def fn_87 := fo 87
def fn_89 := fo 89
def fn_115 := fo 115
def fn_137 := fo 137
def fn_138 := fo 138
def fn_148 := fo 148
def fn_149 := fo 149
def fn_150 := fo 150
def fn_152 := fo 152
def fn_153 := fo 153
def fn_154 := fo 154
def fn_155 := fo 155
def fn_177 := fo 177
def fn_178 := fo 178
def fn_179 := fo 179
def fn_204 := fo 204
def fn_205 := fo 205
def fn_206 := fo 206
def fn_208 := fo 208
def fn_210 := fo 210
def fn_211 := fo 211
def fn_227 := fo 227
def fn_228 := fo 228
def fn_229 := fo 229
def fn_230 := fo 230
def fn_231 := fo 231
def fn_242 := fo 242
def fn_251 := fo 251
def fn_252 := fo 252
def fn_253 := fo 253
def fn_254 := fo 254
def fn_255 := fo 255
def fn_256 := fo 256
def fn_258 := fo 258
def fn_263 := fo 263
def fn_264 := fo 264
def fn_265 := fo 265
def fn_266 := fo 266
end Go.Proofs.YtjadiajfbflghaaGreat
open Go Go.TV
namespace Go.Proofs.YtjadiajfbflghaaGreat
theorem noFew (y : Tf) (b : Bool) (h : PF Tryz.prog 178 [encTf y] (· = .bool b)) : PF Tryz.prog 228 [encTf y, .iptr (.agg [.fn 178 [] []]) 0] (· = .bool !b) := by
 refine PF.of (TF.ev fn_228 (Ev.at ?_))
 (repeat' first | (refine eg ?_; conv => whnf) | refine an ?_ ?_ | (refine iw ?_; intro rx hrx) | exact lf | intro _)
 all_goals try exact vy
 refine TSq.pureBC h (by simp [cloL, clo, encTf, encCr, encIs, encI, encTfs_clo, encCrs_clo, encIss_clo, ints_clo]) rfl (And.intro rfl rfl) ?_ ?_ <;> intro hb
 all_goals
  subst hb
  (repeat' first | (refine eg ?_; conv => whnf) | refine an ?_ ?_ | (refine iw ?_; intro rx hrx) | exact lf | intro _)
  try rfl
theorem ixFew (l : List (Tf)) (p : Tf → Bool) (hp : ∀ y ∈ l, PF Tryz.prog 178 [encTf y] (· = .bool (p y))) (hlen : l.length ≤ 1000000) :
  PF Tryz.prog 251 [.sl 6 (encTfs l), .fn 228 [] [.iptr (.agg [.fn 178 [] []]) 0]] fun s => ∃ i : Int, s = .int .i64 i ∧ (0 ≤ i ↔ l.any (fun y => !p y) = true) := by
 have hz := encTfs_len l
 refine PF.of (TF.ev fn_251 (Ev.at ?_))
 (repeat' first | refine gx hg1 ?_ | (refine eg ?_; conv => whnf) | refine an ?_ ?_ | (refine iw ?_; intro rx hrx) | exact lf | intro _)
 refine TWq.loop (fun k : Nat => [(8, .int .i64 k)]) (fun _ => []) (fun k => k ≤ l.length ∧ (l.take k).any (fun y => !p y) = false) (fun k => l.length - k) 0 [] [] ?_ ⟨by omega, by simp⟩ ?_
 ·(repeat' first | refine gx hg1 ?_ | (refine eg ?_; conv => whnf) | refine an ?_ ?_ | (refine iw ?_; intro rx hrx) | exact lf | intro _)
  all_goals try exact vy
 ·rintro k ⟨hk, hno⟩
  rcases Nat.lt_or_ge k l.length with hkl | hkl
  ·obtain ⟨v, hv⟩ : ∃ v, l[k]? = some v := ⟨_, List.getElem?_eq_getElem hkl⟩
   have hm := List.mem_of_getElem? hv
   have hg1 : ∀ {n : Nat} {e : SV}, n = k → (encTfs l)[n]? = some e → e = encTf v := by
    rintro n e rfl he
    obtain ⟨x, hx, rfl⟩ := encTfs_at he
    rw [hv] at hx; cases hx; rfl
   have hno1 := noFew v _ (hp v hm)
   (repeat' first | refine gx hg1 ?_ | (refine eg ?_; conv => whnf) | refine an ?_ ?_ | (refine iw ?_; intro rx hrx) | exact lf | intro _)
   all_goals try exact vy
   refine TSq.pureBC hno1 (by simp [cloL, clo, encTf, encCr, encIs, encI, encTfs_clo, encCrs_clo, encIss_clo, ints_clo]) rfl (And.intro rfl rfl) ?_ ?_ <;> intro hb
   ·(repeat' first | refine gx hg1 ?_ | (refine eg ?_; conv => whnf) | refine an ?_ ?_ | (refine iw ?_; intro rx hrx) | exact lf | intro _)
    all_goals try exact vy
    exact ⟨k, rfl, ⟨fun _ => List.any_eq_true.2 ⟨v, hm, hb⟩, fun _ => by omega⟩⟩
   ·(repeat' first | refine gx hg1 ?_ | (refine eg ?_; conv => whnf) | refine an ?_ ?_ | (refine iw ?_; intro rx hrx) | exact lf | intro _)
    all_goals try exact vy
    refine ⟨⟨k + 1, ⟨by omega, by rw [take_snoc hv, List.any_append, hno]; simp_all⟩, by omega, ?_⟩⟩
    (repeat' first | refine gx hg1 ?_ | (refine eg ?_; conv => whnf) | refine an ?_ ?_ | (refine iw ?_; intro rx hrx) | exact lf | intro _)
    all_goals try exact vy
  ·have hke : k = l.length := by omega
   subst hke
   rw [List.take_length] at hno
   (repeat' first | refine gx hg1 ?_ | (refine eg ?_; conv => whnf) | refine an ?_ ?_ | (refine iw ?_; intro rx hrx) | exact lf | intro _)
   all_goals try exact vy
   exact ⟨-1, rfl, by rw [hno]; simp⟩
theorem coFew (l : List (Tf)) (p : Tf → Bool) (hp : ∀ y ∈ l, PF Tryz.prog 178 [encTf y] (· = .bool (p y))) (hlen : l.length ≤ 1000000) :
  PF Tryz.prog 227 [.sl 6 (encTfs l), .fn 228 [] [.iptr (.agg [.fn 178 [] []]) 0]] (· = .bool (l.any fun y => !p y)) := by
 refine PF.of (TF.ev fn_227 (Ev.at ?_))
 (repeat' first | (refine eg ?_; conv => whnf) | refine an ?_ ?_ | (refine iw ?_; intro rx hrx) | exact lf | intro _)
 refine TSq.pureQ rfl (ixFew l p hp hlen) (by simp [cloL, clo, encTf, encCr, encIs, encI, encTfs_clo, encCrs_clo, encIss_clo, ints_clo]) rfl (And.intro rfl rfl) ?_
 rintro s ⟨i, rfl, hi⟩ _
 (repeat' first | (refine eg ?_; conv => whnf) | refine an ?_ ?_ | (refine iw ?_; intro rx hrx) | exact lf | intro _)
 all_goals (rw [SV.bool_iff]; rw [← hi]; simp; omega)
theorem alFew (l : List (Tf)) (p : Tf → Bool) (hp : ∀ y ∈ l, PF Tryz.prog 178 [encTf y] (· = .bool (p y))) (hlen : l.length ≤ 1000000) :
  PF Tryz.prog 177 [.sl 6 (encTfs l), .fn 178 [] []] (· = .bool (l.all p)) := by
 refine PF.of (TF.ev fn_177 (Ev.at ?_))
 (repeat' first | (refine eg ?_; conv => whnf) | refine an ?_ ?_ | (refine iw ?_; intro rx hrx) | exact lf | intro _)
 refine TSq.lendBC (coFew l p hp hlen) rfl (And.intro rfl ?_) ?_ ?_
 ·(repeat' first | (refine eg ?_; conv => whnf) | refine an ?_ ?_ | (refine iw ?_; intro rx hrx) | exact lf | intro _)
  all_goals try exact vy
 all_goals
  intro hb
  (repeat' first | (refine eg ?_; conv => whnf) | refine an ?_ ?_ | (refine iw ?_; intro rx hrx) | exact lf | intro _)
  all_goals try exact vy
  all_goals (rw [SV.bool_iff]; simp_all [List.all_eq_not_any_not])
theorem noVal (y : Tf) (b : Bool) (h : PF Tryz.prog 179 [encTf y] (· = .bool b)) : PF Tryz.prog 228 [encTf y, .iptr (.agg [.fn 179 [] []]) 0] (· = .bool !b) := by
 refine PF.of (TF.ev fn_228 (Ev.at ?_))
 (repeat' first | (refine eg ?_; conv => whnf) | refine an ?_ ?_ | (refine iw ?_; intro rx hrx) | exact lf | intro _)
 all_goals try exact vy
 refine TSq.pureBC h (by simp [cloL, clo, encTf, encCr, encIs, encI, encTfs_clo, encCrs_clo, encIss_clo, ints_clo]) rfl (And.intro rfl rfl) ?_ ?_ <;> intro hb
 all_goals
  subst hb
  (repeat' first | (refine eg ?_; conv => whnf) | refine an ?_ ?_ | (refine iw ?_; intro rx hrx) | exact lf | intro _)
  try rfl
theorem ixVal (l : List (Tf)) (p : Tf → Bool) (hp : ∀ y ∈ l, PF Tryz.prog 179 [encTf y] (· = .bool (p y))) (hlen : l.length ≤ 1000000) :
  PF Tryz.prog 251 [.sl 6 (encTfs l), .fn 228 [] [.iptr (.agg [.fn 179 [] []]) 0]] fun s => ∃ i : Int, s = .int .i64 i ∧ (0 ≤ i ↔ l.any (fun y => !p y) = true) := by
 have hz := encTfs_len l
 refine PF.of (TF.ev fn_251 (Ev.at ?_))
 (repeat' first | refine gx hg1 ?_ | (refine eg ?_; conv => whnf) | refine an ?_ ?_ | (refine iw ?_; intro rx hrx) | exact lf | intro _)
 refine TWq.loop (fun k : Nat => [(8, .int .i64 k)]) (fun _ => []) (fun k => k ≤ l.length ∧ (l.take k).any (fun y => !p y) = false) (fun k => l.length - k) 0 [] [] ?_ ⟨by omega, by simp⟩ ?_
 ·(repeat' first | refine gx hg1 ?_ | (refine eg ?_; conv => whnf) | refine an ?_ ?_ | (refine iw ?_; intro rx hrx) | exact lf | intro _)
  all_goals try exact vy
 ·rintro k ⟨hk, hno⟩
  rcases Nat.lt_or_ge k l.length with hkl | hkl
  ·obtain ⟨v, hv⟩ : ∃ v, l[k]? = some v := ⟨_, List.getElem?_eq_getElem hkl⟩
   have hm := List.mem_of_getElem? hv
   have hg1 : ∀ {n : Nat} {e : SV}, n = k → (encTfs l)[n]? = some e → e = encTf v := by
    rintro n e rfl he
    obtain ⟨x, hx, rfl⟩ := encTfs_at he
    rw [hv] at hx; cases hx; rfl
   have hno1 := noVal v _ (hp v hm)
   (repeat' first | refine gx hg1 ?_ | (refine eg ?_; conv => whnf) | refine an ?_ ?_ | (refine iw ?_; intro rx hrx) | exact lf | intro _)
   all_goals try exact vy
   refine TSq.pureBC hno1 (by simp [cloL, clo, encTf, encCr, encIs, encI, encTfs_clo, encCrs_clo, encIss_clo, ints_clo]) rfl (And.intro rfl rfl) ?_ ?_ <;> intro hb
   ·(repeat' first | refine gx hg1 ?_ | (refine eg ?_; conv => whnf) | refine an ?_ ?_ | (refine iw ?_; intro rx hrx) | exact lf | intro _)
    all_goals try exact vy
    exact ⟨k, rfl, ⟨fun _ => List.any_eq_true.2 ⟨v, hm, hb⟩, fun _ => by omega⟩⟩
   ·(repeat' first | refine gx hg1 ?_ | (refine eg ?_; conv => whnf) | refine an ?_ ?_ | (refine iw ?_; intro rx hrx) | exact lf | intro _)
    all_goals try exact vy
    refine ⟨⟨k + 1, ⟨by omega, by rw [take_snoc hv, List.any_append, hno]; simp_all⟩, by omega, ?_⟩⟩
    (repeat' first | refine gx hg1 ?_ | (refine eg ?_; conv => whnf) | refine an ?_ ?_ | (refine iw ?_; intro rx hrx) | exact lf | intro _)
    all_goals try exact vy
  ·have hke : k = l.length := by omega
   subst hke
   rw [List.take_length] at hno
   (repeat' first | refine gx hg1 ?_ | (refine eg ?_; conv => whnf) | refine an ?_ ?_ | (refine iw ?_; intro rx hrx) | exact lf | intro _)
   all_goals try exact vy
   exact ⟨-1, rfl, by rw [hno]; simp⟩
theorem coVal (l : List (Tf)) (p : Tf → Bool) (hp : ∀ y ∈ l, PF Tryz.prog 179 [encTf y] (· = .bool (p y))) (hlen : l.length ≤ 1000000) :
  PF Tryz.prog 227 [.sl 6 (encTfs l), .fn 228 [] [.iptr (.agg [.fn 179 [] []]) 0]] (· = .bool (l.any fun y => !p y)) := by
 refine PF.of (TF.ev fn_227 (Ev.at ?_))
 (repeat' first | (refine eg ?_; conv => whnf) | refine an ?_ ?_ | (refine iw ?_; intro rx hrx) | exact lf | intro _)
 refine TSq.pureQ rfl (ixVal l p hp hlen) (by simp [cloL, clo, encTf, encCr, encIs, encI, encTfs_clo, encCrs_clo, encIss_clo, ints_clo]) rfl (And.intro rfl rfl) ?_
 rintro s ⟨i, rfl, hi⟩ _
 (repeat' first | (refine eg ?_; conv => whnf) | refine an ?_ ?_ | (refine iw ?_; intro rx hrx) | exact lf | intro _)
 all_goals (rw [SV.bool_iff]; rw [← hi]; simp; omega)
theorem alVal (l : List (Tf)) (p : Tf → Bool) (hp : ∀ y ∈ l, PF Tryz.prog 179 [encTf y] (· = .bool (p y))) (hlen : l.length ≤ 1000000) :
  PF Tryz.prog 177 [.sl 6 (encTfs l), .fn 179 [] []] (· = .bool (l.all p)) := by
 refine PF.of (TF.ev fn_177 (Ev.at ?_))
 (repeat' first | (refine eg ?_; conv => whnf) | refine an ?_ ?_ | (refine iw ?_; intro rx hrx) | exact lf | intro _)
 refine TSq.lendBC (coVal l p hp hlen) rfl (And.intro rfl ?_) ?_ ?_
 ·(repeat' first | (refine eg ?_; conv => whnf) | refine an ?_ ?_ | (refine iw ?_; intro rx hrx) | exact lf | intro _)
  all_goals try exact vy
 all_goals
  intro hb
  (repeat' first | (refine eg ?_; conv => whnf) | refine an ?_ ?_ | (refine iw ?_; intro rx hrx) | exact lf | intro _)
  all_goals try exact vy
  all_goals (rw [SV.bool_iff]; simp_all [List.all_eq_not_any_not])
theorem noCrop (t : Tf) (y : List (List Int)) (b : Bool) (h : PF Tryz.prog 229 [encTf t, encCr y] (· = .bool b)) : PF Tryz.prog 258 [encCr y, .iptr (.agg [.fn 229 [encTf t] []]) 0] (· = .bool !b) := by
 refine PF.of (TF.ev fn_258 (Ev.at ?_))
 (repeat' first | (refine eg ?_; conv => whnf) | refine an ?_ ?_ | (refine iw ?_; intro rx hrx) | exact lf | intro _)
 all_goals try exact vy
 refine TSq.pureBC h (by simp [cloL, clo, encTf, encCr, encIs, encI, encTfs_clo, encCrs_clo, encIss_clo, ints_clo]) rfl (And.intro rfl rfl) ?_ ?_ <;> intro hb
 all_goals
  subst hb
  (repeat' first | (refine eg ?_; conv => whnf) | refine an ?_ ?_ | (refine iw ?_; intro rx hrx) | exact lf | intro _)
  try rfl
theorem ixCrop (t : Tf) (l : List (List (List Int))) (p : List (List Int) → Bool) (hp : ∀ y ∈ l, PF Tryz.prog 229 [encTf t, encCr y] (· = .bool (p y))) (hlen : l.length ≤ 1000000) :
  PF Tryz.prog 265 [.sl 1 (encCrs l), .fn 258 [] [.iptr (.agg [.fn 229 [encTf t] []]) 0]] fun s => ∃ i : Int, s = .int .i64 i ∧ (0 ≤ i ↔ l.any (fun y => !p y) = true) := by
 have hz := encCrs_len l
 refine PF.of (TF.ev fn_265 (Ev.at ?_))
 (repeat' first | refine gx hg1 ?_ | (refine eg ?_; conv => whnf) | refine an ?_ ?_ | (refine iw ?_; intro rx hrx) | exact lf | intro _)
 refine TWq.loop (fun k : Nat => [(8, .int .i64 k)]) (fun _ => []) (fun k => k ≤ l.length ∧ (l.take k).any (fun y => !p y) = false) (fun k => l.length - k) 0 [] [] ?_ ⟨by omega, by simp⟩ ?_
 ·(repeat' first | refine gx hg1 ?_ | (refine eg ?_; conv => whnf) | refine an ?_ ?_ | (refine iw ?_; intro rx hrx) | exact lf | intro _)
  all_goals try exact vy
 ·rintro k ⟨hk, hno⟩
  rcases Nat.lt_or_ge k l.length with hkl | hkl
  ·obtain ⟨v, hv⟩ : ∃ v, l[k]? = some v := ⟨_, List.getElem?_eq_getElem hkl⟩
   have hm := List.mem_of_getElem? hv
   have hg1 : ∀ {n : Nat} {e : SV}, n = k → (encCrs l)[n]? = some e → e = encCr v := by
    rintro n e rfl he
    obtain ⟨x, hx, rfl⟩ := encCrs_at he
    rw [hv] at hx; cases hx; rfl
   have hno1 := noCrop t v _ (hp v hm)
   (repeat' first | refine gx hg1 ?_ | (refine eg ?_; conv => whnf) | refine an ?_ ?_ | (refine iw ?_; intro rx hrx) | exact lf | intro _)
   all_goals try exact vy
   refine TSq.pureBC hno1 (by simp [cloL, clo, encTf, encCr, encIs, encI, encTfs_clo, encCrs_clo, encIss_clo, ints_clo]) rfl (And.intro rfl rfl) ?_ ?_ <;> intro hb
   ·(repeat' first | refine gx hg1 ?_ | (refine eg ?_; conv => whnf) | refine an ?_ ?_ | (refine iw ?_; intro rx hrx) | exact lf | intro _)
    all_goals try exact vy
    exact ⟨k, rfl, ⟨fun _ => List.any_eq_true.2 ⟨v, hm, hb⟩, fun _ => by omega⟩⟩
   ·(repeat' first | refine gx hg1 ?_ | (refine eg ?_; conv => whnf) | refine an ?_ ?_ | (refine iw ?_; intro rx hrx) | exact lf | intro _)
    all_goals try exact vy
    refine ⟨⟨k + 1, ⟨by omega, by rw [take_snoc hv, List.any_append, hno]; simp_all⟩, by omega, ?_⟩⟩
    (repeat' first | refine gx hg1 ?_ | (refine eg ?_; conv => whnf) | refine an ?_ ?_ | (refine iw ?_; intro rx hrx) | exact lf | intro _)
    all_goals try exact vy
  ·have hke : k = l.length := by omega
   subst hke
   rw [List.take_length] at hno
   (repeat' first | refine gx hg1 ?_ | (refine eg ?_; conv => whnf) | refine an ?_ ?_ | (refine iw ?_; intro rx hrx) | exact lf | intro _)
   all_goals try exact vy
   exact ⟨-1, rfl, by rw [hno]; simp⟩
theorem coCrop (t : Tf) (l : List (List (List Int))) (p : List (List Int) → Bool) (hp : ∀ y ∈ l, PF Tryz.prog 229 [encTf t, encCr y] (· = .bool (p y))) (hlen : l.length ≤ 1000000) :
  PF Tryz.prog 257 [.sl 1 (encCrs l), .fn 258 [] [.iptr (.agg [.fn 229 [encTf t] []]) 0]] (· = .bool (l.any fun y => !p y)) := by
 refine PF.of (TF.ev fn_257 (Ev.at ?_))
 (repeat' first | (refine eg ?_; conv => whnf) | refine an ?_ ?_ | (refine iw ?_; intro rx hrx) | exact lf | intro _)
 refine TSq.pureQ rfl (ixCrop t l p hp hlen) (by simp [cloL, clo, encTf, encCr, encIs, encI, encTfs_clo, encCrs_clo, encIss_clo, ints_clo]) rfl (And.intro rfl rfl) ?_
 rintro s ⟨i, rfl, hi⟩ _
 (repeat' first | (refine eg ?_; conv => whnf) | refine an ?_ ?_ | (refine iw ?_; intro rx hrx) | exact lf | intro _)
 all_goals (rw [SV.bool_iff]; rw [← hi]; simp; omega)
theorem alCrop (t : Tf) (l : List (List (List Int))) (p : List (List Int) → Bool) (hp : ∀ y ∈ l, PF Tryz.prog 229 [encTf t, encCr y] (· = .bool (p y))) (hlen : l.length ≤ 1000000) :
  PF Tryz.prog 231 [.sl 1 (encCrs l), .fn 229 [encTf t] []] (· = .bool (l.all p)) := by
 refine PF.of (TF.ev fn_231 (Ev.at ?_))
 (repeat' first | (refine eg ?_; conv => whnf) | refine an ?_ ?_ | (refine iw ?_; intro rx hrx) | exact lf | intro _)
 refine TSq.lendBC (coCrop t l p hp hlen) rfl (And.intro rfl ?_) ?_ ?_
 ·(repeat' first | (refine eg ?_; conv => whnf) | refine an ?_ ?_ | (refine iw ?_; intro rx hrx) | exact lf | intro _)
  all_goals try exact vy
 all_goals
  intro hb
  (repeat' first | (refine eg ?_; conv => whnf) | refine an ?_ ?_ | (refine iw ?_; intro rx hrx) | exact lf | intro _)
  all_goals try exact vy
  all_goals (rw [SV.bool_iff]; simp_all [List.all_eq_not_any_not])
theorem noWeek (t : Tf) (y : List Int) (b : Bool) (h : PF Tryz.prog 253 [encIs y, .iptr (encTf t) 0] (· = .bool b)) : PF Tryz.prog 263 [encIs y, .iptr (.agg [.fn 253 [] [.iptr (encTf t) 0]]) 0] (· = .bool !b) := by
 refine PF.of (TF.ev fn_263 (Ev.at ?_))
 (repeat' first | (refine eg ?_; conv => whnf) | refine an ?_ ?_ | (refine iw ?_; intro rx hrx) | exact lf | intro _)
 all_goals try exact vy
 refine TSq.pureBC h (by simp [cloL, clo, encTf, encCr, encIs, encI, encTfs_clo, encCrs_clo, encIss_clo, ints_clo]) rfl (And.intro rfl rfl) ?_ ?_ <;> intro hb
 all_goals
  subst hb
  (repeat' first | (refine eg ?_; conv => whnf) | refine an ?_ ?_ | (refine iw ?_; intro rx hrx) | exact lf | intro _)
  try rfl
theorem ixWeek (t : Tf) (l : List (List Int)) (p : List Int → Bool) (hp : ∀ y ∈ l, PF Tryz.prog 253 [encIs y, .iptr (encTf t) 0] (· = .bool (p y))) (hlen : l.length ≤ 1000000) :
  PF Tryz.prog 266 [.sl 1 (encIss l), .fn 263 [] [.iptr (.agg [.fn 253 [] [.iptr (encTf t) 0]]) 0]] fun s => ∃ i : Int, s = .int .i64 i ∧ (0 ≤ i ↔ l.any (fun y => !p y) = true) := by
 have hz := encIss_len l
 refine PF.of (TF.ev fn_266 (Ev.at ?_))
 (repeat' first | refine gx hg1 ?_ | (refine eg ?_; conv => whnf) | refine an ?_ ?_ | (refine iw ?_; intro rx hrx) | exact lf | intro _)
 refine TWq.loop (fun k : Nat => [(8, .int .i64 k)]) (fun _ => []) (fun k => k ≤ l.length ∧ (l.take k).any (fun y => !p y) = false) (fun k => l.length - k) 0 [] [] ?_ ⟨by omega, by simp⟩ ?_
 ·(repeat' first | refine gx hg1 ?_ | (refine eg ?_; conv => whnf) | refine an ?_ ?_ | (refine iw ?_; intro rx hrx) | exact lf | intro _)
  all_goals try exact vy
 ·rintro k ⟨hk, hno⟩
  rcases Nat.lt_or_ge k l.length with hkl | hkl
  ·obtain ⟨v, hv⟩ : ∃ v, l[k]? = some v := ⟨_, List.getElem?_eq_getElem hkl⟩
   have hm := List.mem_of_getElem? hv
   have hg1 : ∀ {n : Nat} {e : SV}, n = k → (encIss l)[n]? = some e → e = encIs v := by
    rintro n e rfl he
    obtain ⟨x, hx, rfl⟩ := encIss_at he
    rw [hv] at hx; cases hx; rfl
   have hno1 := noWeek t v _ (hp v hm)
   (repeat' first | refine gx hg1 ?_ | (refine eg ?_; conv => whnf) | refine an ?_ ?_ | (refine iw ?_; intro rx hrx) | exact lf | intro _)
   all_goals try exact vy
   refine TSq.pureBC hno1 (by simp [cloL, clo, encTf, encCr, encIs, encI, encTfs_clo, encCrs_clo, encIss_clo, ints_clo]) rfl (And.intro rfl rfl) ?_ ?_ <;> intro hb
   ·(repeat' first | refine gx hg1 ?_ | (refine eg ?_; conv => whnf) | refine an ?_ ?_ | (refine iw ?_; intro rx hrx) | exact lf | intro _)
    all_goals try exact vy
    exact ⟨k, rfl, ⟨fun _ => List.any_eq_true.2 ⟨v, hm, hb⟩, fun _ => by omega⟩⟩
   ·(repeat' first | refine gx hg1 ?_ | (refine eg ?_; conv => whnf) | refine an ?_ ?_ | (refine iw ?_; intro rx hrx) | exact lf | intro _)
    all_goals try exact vy
    refine ⟨⟨k + 1, ⟨by omega, by rw [take_snoc hv, List.any_append, hno]; simp_all⟩, by omega, ?_⟩⟩
    (repeat' first | refine gx hg1 ?_ | (refine eg ?_; conv => whnf) | refine an ?_ ?_ | (refine iw ?_; intro rx hrx) | exact lf | intro _)
    all_goals try exact vy
  ·have hke : k = l.length := by omega
   subst hke
   rw [List.take_length] at hno
   (repeat' first | refine gx hg1 ?_ | (refine eg ?_; conv => whnf) | refine an ?_ ?_ | (refine iw ?_; intro rx hrx) | exact lf | intro _)
   all_goals try exact vy
   exact ⟨-1, rfl, by rw [hno]; simp⟩
theorem coWeek (t : Tf) (l : List (List Int)) (p : List Int → Bool) (hp : ∀ y ∈ l, PF Tryz.prog 253 [encIs y, .iptr (encTf t) 0] (· = .bool (p y))) (hlen : l.length ≤ 1000000) :
  PF Tryz.prog 262 [.sl 1 (encIss l), .fn 263 [] [.iptr (.agg [.fn 253 [] [.iptr (encTf t) 0]]) 0]] (· = .bool (l.any fun y => !p y)) := by
 refine PF.of (TF.ev fn_262 (Ev.at ?_))
 (repeat' first | (refine eg ?_; conv => whnf) | refine an ?_ ?_ | (refine iw ?_; intro rx hrx) | exact lf | intro _)
 refine TSq.pureQ rfl (ixWeek t l p hp hlen) (by simp [cloL, clo, encTf, encCr, encIs, encI, encTfs_clo, encCrs_clo, encIss_clo, ints_clo]) rfl (And.intro rfl rfl) ?_
 rintro s ⟨i, rfl, hi⟩ _
 (repeat' first | (refine eg ?_; conv => whnf) | refine an ?_ ?_ | (refine iw ?_; intro rx hrx) | exact lf | intro _)
 all_goals (rw [SV.bool_iff]; rw [← hi]; simp; omega)
theorem alWeek (t : Tf) (l : List (List Int)) (p : List Int → Bool) (hp : ∀ y ∈ l, PF Tryz.prog 253 [encIs y, .iptr (encTf t) 0] (· = .bool (p y))) (hlen : l.length ≤ 1000000) :
  PF Tryz.prog 252 [.sl 1 (encIss l), .fn 253 [] [.iptr (encTf t) 0]] (· = .bool (l.all p)) := by
 refine PF.of (TF.ev fn_252 (Ev.at ?_))
 (repeat' first | (refine eg ?_; conv => whnf) | refine an ?_ ?_ | (refine iw ?_; intro rx hrx) | exact lf | intro _)
 refine TSq.lendBC (coWeek t l p hp hlen) rfl (And.intro rfl ?_) ?_ ?_
 ·(repeat' first | (refine eg ?_; conv => whnf) | refine an ?_ ?_ | (refine iw ?_; intro rx hrx) | exact lf | intro _)
  all_goals try exact vy
 all_goals
  intro hb
  (repeat' first | (refine eg ?_; conv => whnf) | refine an ?_ ?_ | (refine iw ?_; intro rx hrx) | exact lf | intro _)
  all_goals try exact vy
  all_goals (rw [SV.bool_iff]; simp_all [List.all_eq_not_any_not])
theorem noRate (y : Int) (b : Bool) (h : PF Tryz.prog 255 [encI y] (· = .bool b)) : PF Tryz.prog 264 [encI y, .iptr (.agg [.fn 255 [] []]) 0] (· = .bool !b) := by
 refine PF.of (TF.ev fn_264 (Ev.at ?_))
 (repeat' first | (refine eg ?_; conv => whnf) | refine an ?_ ?_ | (refine iw ?_; intro rx hrx) | exact lf | intro _)
 all_goals try exact vy
 refine TSq.pureBC h (by simp [cloL, clo, encTf, encCr, encIs, encI, encTfs_clo, encCrs_clo, encIss_clo, ints_clo]) rfl (And.intro rfl rfl) ?_ ?_ <;> intro hb
 all_goals
  subst hb
  (repeat' first | (refine eg ?_; conv => whnf) | refine an ?_ ?_ | (refine iw ?_; intro rx hrx) | exact lf | intro _)
  try rfl
theorem ixRate (l : List (Int)) (p : Int → Bool) (hp : ∀ y ∈ l, PF Tryz.prog 255 [encI y] (· = .bool (p y))) (hlen : l.length ≤ 1000000) :
  PF Tryz.prog 260 [.sl 1 (ints l), .fn 264 [] [.iptr (.agg [.fn 255 [] []]) 0]] fun s => ∃ i : Int, s = .int .i64 i ∧ (0 ≤ i ↔ l.any (fun y => !p y) = true) := by
 have hz := ints_len l
 refine PF.of (TF.ev fn_260 (Ev.at ?_))
 (repeat' first | refine gx hg1 ?_ | (refine eg ?_; conv => whnf) | refine an ?_ ?_ | (refine iw ?_; intro rx hrx) | exact lf | intro _)
 refine TWq.loop (fun k : Nat => [(8, .int .i64 k)]) (fun _ => []) (fun k => k ≤ l.length ∧ (l.take k).any (fun y => !p y) = false) (fun k => l.length - k) 0 [] [] ?_ ⟨by omega, by simp⟩ ?_
 ·(repeat' first | refine gx hg1 ?_ | (refine eg ?_; conv => whnf) | refine an ?_ ?_ | (refine iw ?_; intro rx hrx) | exact lf | intro _)
  all_goals try exact vy
 ·rintro k ⟨hk, hno⟩
  rcases Nat.lt_or_ge k l.length with hkl | hkl
  ·obtain ⟨v, hv⟩ : ∃ v, l[k]? = some v := ⟨_, List.getElem?_eq_getElem hkl⟩
   have hm := List.mem_of_getElem? hv
   have hg1 : ∀ {n : Nat} {e : SV}, n = k → (ints l)[n]? = some e → e = encI v := by
    rintro n e rfl he
    obtain ⟨x, hx, rfl⟩ := encI_at he
    rw [hv] at hx; cases hx; rfl
   have hno1 := noRate v _ (hp v hm)
   (repeat' first | refine gx hg1 ?_ | (refine eg ?_; conv => whnf) | refine an ?_ ?_ | (refine iw ?_; intro rx hrx) | exact lf | intro _)
   all_goals try exact vy
   refine TSq.pureBC hno1 (by simp [cloL, clo, encTf, encCr, encIs, encI, encTfs_clo, encCrs_clo, encIss_clo, ints_clo]) rfl (And.intro rfl rfl) ?_ ?_ <;> intro hb
   ·(repeat' first | refine gx hg1 ?_ | (refine eg ?_; conv => whnf) | refine an ?_ ?_ | (refine iw ?_; intro rx hrx) | exact lf | intro _)
    all_goals try exact vy
    exact ⟨k, rfl, ⟨fun _ => List.any_eq_true.2 ⟨v, hm, hb⟩, fun _ => by omega⟩⟩
   ·(repeat' first | refine gx hg1 ?_ | (refine eg ?_; conv => whnf) | refine an ?_ ?_ | (refine iw ?_; intro rx hrx) | exact lf | intro _)
    all_goals try exact vy
    refine ⟨⟨k + 1, ⟨by omega, by rw [take_snoc hv, List.any_append, hno]; simp_all⟩, by omega, ?_⟩⟩
    (repeat' first | refine gx hg1 ?_ | (refine eg ?_; conv => whnf) | refine an ?_ ?_ | (refine iw ?_; intro rx hrx) | exact lf | intro _)
    all_goals try exact vy
  ·have hke : k = l.length := by omega
   subst hke
   rw [List.take_length] at hno
   (repeat' first | refine gx hg1 ?_ | (refine eg ?_; conv => whnf) | refine an ?_ ?_ | (refine iw ?_; intro rx hrx) | exact lf | intro _)
   all_goals try exact vy
   exact ⟨-1, rfl, by rw [hno]; simp⟩
theorem coRate (l : List (Int)) (p : Int → Bool) (hp : ∀ y ∈ l, PF Tryz.prog 255 [encI y] (· = .bool (p y))) (hlen : l.length ≤ 1000000) :
  PF Tryz.prog 237 [.sl 1 (ints l), .fn 264 [] [.iptr (.agg [.fn 255 [] []]) 0]] (· = .bool (l.any fun y => !p y)) := by
 refine PF.of (TF.ev fn_237 (Ev.at ?_))
 (repeat' first | (refine eg ?_; conv => whnf) | refine an ?_ ?_ | (refine iw ?_; intro rx hrx) | exact lf | intro _)
 refine TSq.pureQ rfl (ixRate l p hp hlen) (by simp [cloL, clo, encTf, encCr, encIs, encI, encTfs_clo, encCrs_clo, encIss_clo, ints_clo]) rfl (And.intro rfl rfl) ?_
 rintro s ⟨i, rfl, hi⟩ _
 (repeat' first | (refine eg ?_; conv => whnf) | refine an ?_ ?_ | (refine iw ?_; intro rx hrx) | exact lf | intro _)
 all_goals (rw [SV.bool_iff]; rw [← hi]; simp; omega)
theorem alRate (l : List (Int)) (p : Int → Bool) (hp : ∀ y ∈ l, PF Tryz.prog 255 [encI y] (· = .bool (p y))) (hlen : l.length ≤ 1000000) :
  PF Tryz.prog 254 [.sl 1 (ints l), .fn 255 [] []] (· = .bool (l.all p)) := by
 refine PF.of (TF.ev fn_254 (Ev.at ?_))
 (repeat' first | (refine eg ?_; conv => whnf) | refine an ?_ ?_ | (refine iw ?_; intro rx hrx) | exact lf | intro _)
 refine TSq.lendBC (coRate l p hp hlen) rfl (And.intro rfl ?_) ?_ ?_
 ·(repeat' first | (refine eg ?_; conv => whnf) | refine an ?_ ?_ | (refine iw ?_; intro rx hrx) | exact lf | intro _)
  all_goals try exact vy
 all_goals
  intro hb
  (repeat' first | (refine eg ?_; conv => whnf) | refine an ?_ ?_ | (refine iw ?_; intro rx hrx) | exact lf | intro _)
  all_goals try exact vy
  all_goals (rw [SV.bool_iff]; simp_all [List.all_eq_not_any_not])
end Go.Proofs.YtjadiajfbflghaaGreat
open Go Go.TV
namespace Go.Proofs.YtjadiajfbflghaaGreat
theorem c185 (l : List Int) (h : l ≠ []) (hlen : l.length ≤ 1000000) : PF Tryz.prog 185 [.sl 1 (ints l)] (· = .int .i64 (minL l)) := by
 have h0 : 1 ≤ l.length := by cases l with | nil => exact absurd rfl h | cons => simp
 have hz := ints_len l
 refine PF.of (TF.ev fn_185 (Ev.at ?_))
 (repeat' first | (refine eg ?_; conv => whnf) | refine an ?_ ?_ | (refine iw ?_; intro rx hrx) | exact lf | (intro hcx; exfalso; simp only [lz] at hcx; omega) | (intro ex hex; (first | obtain ⟨xx, hxx, rfl⟩ := ints_at hex | obtain ⟨xx, hxx, rfl⟩ := encYs_at hex | obtain ⟨xx, hxx, rfl⟩ := encRs_at hex); clear hex; try simp only [Int.toNat_natCast] at hxx) | intro _)
 all_goals try exact vy
 refine TWq.loop (fun k : Nat => [(3, .int .i64 (minL (l.take k))), (4, .int .i64 k)]) (fun _ => []) (fun k => 1 ≤ k ∧ k ≤ l.length) (fun k => l.length - k) 1 [] [] ?_ ⟨by omega, by omega⟩ ?_
 ·(repeat' first | (refine eg ?_; conv => whnf) | refine an ?_ ?_ | (refine iw ?_; intro rx hrx) | exact lf | (intro hcx; exfalso; simp only [lz] at hcx; omega) | (intro ex hex; (first | obtain ⟨xx, hxx, rfl⟩ := ints_at hex | obtain ⟨xx, hxx, rfl⟩ := encYs_at hex | obtain ⟨xx, hxx, rfl⟩ := encRs_at hex); clear hex; try simp only [Int.toNat_natCast] at hxx) | intro _)
  all_goals try exact vy
  all_goals
   refine ⟨?_⟩
   cases l with
   | nil => exact absurd rfl h
   | cons a l => simp at hxx; simp [minL, hxx]
 ·rintro k ⟨hk1, hk2⟩
  (repeat' first | (refine eg ?_; conv => whnf) | refine an ?_ ?_ | (refine iw ?_; intro rx hrx) | exact lf | (intro hcx; exfalso; simp only [lz] at hcx; omega) | (intro ex hex; (first | obtain ⟨xx, hxx, rfl⟩ := ints_at hex | obtain ⟨xx, hxx, rfl⟩ := encYs_at hex | obtain ⟨xx, hxx, rfl⟩ := encRs_at hex); clear hex; try simp only [Int.toNat_natCast] at hxx) | intro _)
  all_goals try exact vy
  ·refine ⟨k + 1, by omega, by omega, ?_⟩
   (repeat' first | (refine eg ?_; conv => whnf) | refine an ?_ ?_ | (refine iw ?_; intro rx hrx) | exact lf | (intro hcx; exfalso; simp only [lz] at hcx; omega) | (intro ex hex; (first | obtain ⟨xx, hxx, rfl⟩ := ints_at hex | obtain ⟨xx, hxx, rfl⟩ := encYs_at hex | obtain ⟨xx, hxx, rfl⟩ := encRs_at hex); clear hex; try simp only [Int.toNat_natCast] at hxx) | intro _)
   all_goals try exact vy
   all_goals
    refine ⟨?_⟩
    rw [minL_take hk1 hxx]; assumption
  ·have : k = l.length := by omega
   rw [this, List.take_length]
theorem c68 (n lo hi : Int) : PF Tryz.prog 68 [.int .i64 n, .int .i64 lo, .int .i64 hi] (· = .bool (within n lo hi)) := by
 refine PF.of (TF.ev fn_68 (Ev.at ?_))
 (repeat' first | (refine eg ?_; conv => whnf) | refine an ?_ ?_ | (refine iw ?_; intro rx hrx) | exact lf | (intro hcx; exfalso; simp only [lz] at hcx; omega) | intro _)
 all_goals (rw [SV.bool_iff]; simp [within]; omega)
theorem c53 (n lo hi : Int) : PF Tryz.prog 53 [.int .i64 n, .int .i64 lo, .int .i64 hi] (· = .bool (within n lo hi)) := by
 refine PF.of (TF.ev fn_53 (Ev.at ?_))
 (repeat' first | (refine eg ?_; conv => whnf) | refine an ?_ ?_ | (refine iw ?_; intro rx hrx) | exact lf | (intro hcx; exfalso; simp only [lz] at hcx; omega) | intro _)
 all_goals (rw [SV.bool_iff]; simp [within]; omega)
theorem c129 (r : Rng) : PF Tryz.prog 129 [encR r] (· = .bool r.pence) := by
 refine PF.of (TF.ev fn_129 (Ev.at ?_))
 (repeat' first | (refine eg ?_; conv => whnf) | refine an ?_ ?_ | (refine iw ?_; intro rx hrx) | exact lf | (intro hcx; exfalso; simp only [lz] at hcx; omega) | intro _)
 all_goals (rw [SV.bool_iff]; simp [Rng.pence]; omega)
theorem c52 (r : Rng) : PF Tryz.prog 52 [encR r] (· = .bool r.pence) := by
 refine PF.of (TF.ev fn_52 (Ev.at ?_))
 (repeat' first | (refine eg ?_; conv => whnf) | refine an ?_ ?_ | (refine iw ?_; intro rx hrx) | exact lf | (intro hcx; exfalso; simp only [lz] at hcx; omega) | intro _)
 all_goals (rw [SV.bool_iff]; simp [Rng.pence]; omega)
theorem c197 (m : Mem) (h1 : 0 ≤ m.sum ∧ m.sum ≤ 10000) (h2 : 0 ≤ m.cls ∧ m.cls ≤ 10000) : PF Tryz.prog 197 [encY m] (· = .int .i64 m.units) := by
 have hm : 0 ≤ m.sum * m.cls ∧ m.sum * m.cls ≤ 100000000 := ⟨Int.mul_nonneg h1.1 h2.1, by have := Int.mul_le_mul h1.2 h2.2 h2.1 (by omega); omega⟩
 refine PF.of (TF.ev fn_197 (Ev.at ?_))
 (repeat' first | (refine eg ?_; conv => whnf) | refine an ?_ ?_ | (refine iw ?_; intro rx hrx) | exact lf | (intro hcx; exfalso; simp only [lz] at hcx; omega) | intro _)
 subst hrx
 rfl
theorem c127 (m : Mem) : PF Tryz.prog 127 [encY m] (· = .bool m.valid) := by
 refine PF.of (TF.ev fn_127 (Ev.at ?_))
 (repeat' first | (refine eg ?_; conv => whnf) | refine an ?_ ?_ | (refine iw ?_; intro rx hrx) | exact lf | (intro hcx; exfalso; simp only [lz] at hcx; omega) | intro _)
 refine TSq.pureBC (c68 _ _ _) cl rfl (And.intro rfl rfl) ?_ ?_
 ·(repeat' first | (refine eg ?_; conv => whnf) | refine an ?_ ?_ | (refine iw ?_; intro rx hrx) | exact lf | (intro hcx; exfalso; simp only [lz] at hcx; omega) | intro _)
  refine TSq.pureBC (c68 _ _ _) cl rfl (And.intro rfl rfl) ?_ ?_
  ·(repeat' first | (refine eg ?_; conv => whnf) | refine an ?_ ?_ | (refine iw ?_; intro rx hrx) | exact lf | (intro hcx; exfalso; simp only [lz] at hcx; omega) | intro _)
   refine TSq.pureBC (c68 _ _ _) cl rfl (And.intro rfl rfl) ?_ ?_
   all_goals ((repeat' first | (refine eg ?_; conv => whnf) | refine an ?_ ?_ | (refine iw ?_; intro rx hrx) | exact lf | (intro hcx; exfalso; simp only [lz] at hcx; omega) | intro _); rw [SV.bool_iff]; simp_all [Mem.valid])
  ·(repeat' first | (refine eg ?_; conv => whnf) | refine an ?_ ?_ | (refine iw ?_; intro rx hrx) | exact lf | (intro hcx; exfalso; simp only [lz] at hcx; omega) | intro _)
   rw [SV.bool_iff]; simp_all [Mem.valid]
 ·(repeat' first | (refine eg ?_; conv => whnf) | refine an ?_ ?_ | (refine iw ?_; intro rx hrx) | exact lf | (intro hcx; exfalso; simp only [lz] at hcx; omega) | intro _)
  rw [SV.bool_iff]; simp_all [Mem.valid]
def notV : SV := .fn 187 [] [.iptr (.agg [.fn 127 [] []]) 0]
theorem c187 (y : Mem) : PF Tryz.prog 187 [encY y, .iptr (.agg [.fn 127 [] []]) 0] (· = .bool (!y.valid)) := by
 refine PF.of (TF.ev fn_187 (Ev.at ?_))
 (repeat' first | (refine eg ?_; conv => whnf) | refine an ?_ ?_ | (refine iw ?_; intro rx hrx) | exact lf | (intro hcx; exfalso; simp only [lz] at hcx; omega) | intro _)
 refine TSq.pureBC (c127 y) cl rfl (And.intro rfl rfl) ?_ ?_
 all_goals ((repeat' first | (refine eg ?_; conv => whnf) | refine an ?_ ?_ | (refine iw ?_; intro rx hrx) | exact lf | (intro hcx; exfalso; simp only [lz] at hcx; omega) | intro _); rw [SV.bool_iff]; simp_all)
theorem c235 (l : List Mem) (hlen : l.length ≤ 1000000) : PF Tryz.prog 235 [.sl 3 (encYs l), notV] fun s => ∃ i : Int, s = .int .i64 i ∧ (0 ≤ i ↔ l.any (fun y => !y.valid) = true) := by
 have hz := encYs_len l
 refine PF.of (TF.ev fn_235 (Ev.at ?_))
 (repeat' first | (refine eg ?_; conv => whnf) | refine an ?_ ?_ | (refine iw ?_; intro rx hrx) | exact lf | (intro hcx; exfalso; simp only [lz] at hcx; omega) | (intro ex hex; (first | obtain ⟨xx, hxx, rfl⟩ := ints_at hex | obtain ⟨xx, hxx, rfl⟩ := encYs_at hex | obtain ⟨xx, hxx, rfl⟩ := encRs_at hex); clear hex; try simp only [Int.toNat_natCast] at hxx) | intro _)
 refine TWq.loop (fun k : Nat => [(8, .int .i64 k)]) (fun _ => []) (fun k => k ≤ l.length ∧ (l.take k).any (fun y => !y.valid) = false) (fun k => l.length - k) 0 [] [] ?_ ⟨by omega, by simp⟩ ?_
 ·(repeat' first | (refine eg ?_; conv => whnf) | refine an ?_ ?_ | (refine iw ?_; intro rx hrx) | exact lf | (intro hcx; exfalso; simp only [lz] at hcx; omega) | (intro ex hex; (first | obtain ⟨xx, hxx, rfl⟩ := ints_at hex | obtain ⟨xx, hxx, rfl⟩ := encYs_at hex | obtain ⟨xx, hxx, rfl⟩ := encRs_at hex); clear hex; try simp only [Int.toNat_natCast] at hxx) | intro _)
  all_goals try exact vy
 ·rintro k ⟨hk1, hk2⟩
  (repeat' first | (refine eg ?_; conv => whnf) | refine an ?_ ?_ | (refine iw ?_; intro rx hrx) | exact lf | (intro hcx; exfalso; simp only [lz] at hcx; omega) | (intro ex hex; (first | obtain ⟨xx, hxx, rfl⟩ := ints_at hex | obtain ⟨xx, hxx, rfl⟩ := encYs_at hex | obtain ⟨xx, hxx, rfl⟩ := encRs_at hex); clear hex; try simp only [Int.toNat_natCast] at hxx) | intro _)
  all_goals (try (refine ⟨?_⟩; first | omega | exact List.cons_ne_nil _ _ | (show (_ : Nat) * _ ≤ _; simp [catS, repl, chunks, ints_len, encYs_len] <;> omega)))
  ·refine TSq.pureBC (c187 _) cl rfl (And.intro rfl rfl) ?_ ?_
   ·(repeat' first | (refine eg ?_; conv => whnf) | refine an ?_ ?_ | (refine iw ?_; intro rx hrx) | exact lf | (intro hcx; exfalso; simp only [lz] at hcx; omega) | (intro ex hex; (first | obtain ⟨xx, hxx, rfl⟩ := ints_at hex | obtain ⟨xx, hxx, rfl⟩ := encYs_at hex | obtain ⟨xx, hxx, rfl⟩ := encRs_at hex); clear hex; try simp only [Int.toNat_natCast] at hxx) | intro _)
    exact ⟨k, rfl, by have := any_of_get hxx (p := fun y => !y.valid) (by assumption); simp only [this, iff_true]; omega⟩
   ·(repeat' first | (refine eg ?_; conv => whnf) | refine an ?_ ?_ | (refine iw ?_; intro rx hrx) | exact lf | (intro hcx; exfalso; simp only [lz] at hcx; omega) | (intro ex hex; (first | obtain ⟨xx, hxx, rfl⟩ := ints_at hex | obtain ⟨xx, hxx, rfl⟩ := encYs_at hex | obtain ⟨xx, hxx, rfl⟩ := encRs_at hex); clear hex; try simp only [Int.toNat_natCast] at hxx) | intro _)
    all_goals (try (refine ⟨?_⟩; first | omega | exact List.cons_ne_nil _ _ | (show (_ : Nat) * _ ≤ _; simp [catS, repl, chunks, ints_len, encYs_len] <;> omega)))
    refine ⟨k + 1, ⟨by omega, ?_⟩, by omega, ?_⟩
    ·rw [take_snoc hxx]; simp_all
    ·(repeat' first | (refine eg ?_; conv => whnf) | refine an ?_ ?_ | (refine iw ?_; intro rx hrx) | exact lf | (intro hcx; exfalso; simp only [lz] at hcx; omega) | (intro ex hex; (first | obtain ⟨xx, hxx, rfl⟩ := ints_at hex | obtain ⟨xx, hxx, rfl⟩ := encYs_at hex | obtain ⟨xx, hxx, rfl⟩ := encRs_at hex); clear hex; try simp only [Int.toNat_natCast] at hxx) | intro _)
     all_goals try exact vy
  ·have : k = l.length := by omega
   subst this
   rw [List.take_length] at hk2
   exact ⟨-1, rfl, by simp only [hk2]; simp⟩
theorem c186 (l : List Mem) (hlen : l.length ≤ 1000000) : PF Tryz.prog 186 [.sl 3 (encYs l), notV] (· = .bool (l.any fun y => !y.valid)) := by
 refine PF.of (TF.ev fn_186 (Ev.at ?_))
 (repeat' first | (refine eg ?_; conv => whnf) | refine an ?_ ?_ | (refine iw ?_; intro rx hrx) | exact lf | (intro hcx; exfalso; simp only [lz] at hcx; omega) | intro _)
 refine TSq.pureQ rfl (c235 l hlen) (by simp [cloL, clo, notV]) rfl (And.intro rfl rfl) ?_
 rintro s ⟨i, rfl, hi⟩ _
 (repeat' first | (refine eg ?_; conv => whnf) | refine an ?_ ?_ | (refine iw ?_; intro rx hrx) | exact lf | (intro hcx; exfalso; simp only [lz] at hcx; omega) | intro _)
 all_goals (rw [SV.bool_iff]; rw [← hi]; simp; omega)
theorem c126 (l : List Mem) (hlen : l.length ≤ 1000000) : PF Tryz.prog 126 [.sl 3 (encYs l), .fn 127 [] []] (· = .bool (l.all Mem.valid)) := by
 refine PF.of (TF.ev fn_126 (Ev.at ?_))
 (repeat' first | (refine eg ?_; conv => whnf) | refine an ?_ ?_ | (refine iw ?_; intro rx hrx) | exact lf | (intro hcx; exfalso; simp only [lz] at hcx; omega) | intro _)
 refine TSq.lendBC (c186 l hlen) rfl (And.intro rfl ?_) ?_ ?_
 ·(repeat' first | (refine eg ?_; conv => whnf) | refine an ?_ ?_ | (refine iw ?_; intro rx hrx) | exact lf | (intro hcx; exfalso; simp only [lz] at hcx; omega) | intro _)
 all_goals ((repeat' first | (refine eg ?_; conv => whnf) | refine an ?_ ?_ | (refine iw ?_; intro rx hrx) | exact lf | (intro hcx; exfalso; simp only [lz] at hcx; omega) | intro _); rw [SV.bool_iff]; simp_all [List.all_eq_not_any_not])
def notR : SV := .fn 189 [] [.iptr (.agg [.fn 129 [] []]) 0]
theorem c189 (y : Rng) : PF Tryz.prog 189 [encR y, .iptr (.agg [.fn 129 [] []]) 0] (· = .bool (!y.pence)) := by
 refine PF.of (TF.ev fn_189 (Ev.at ?_))
 (repeat' first | (refine eg ?_; conv => whnf) | refine an ?_ ?_ | (refine iw ?_; intro rx hrx) | exact lf | (intro hcx; exfalso; simp only [lz] at hcx; omega) | intro _)
 refine TSq.pureBC (c129 y) cl rfl (And.intro rfl rfl) ?_ ?_
 all_goals ((repeat' first | (refine eg ?_; conv => whnf) | refine an ?_ ?_ | (refine iw ?_; intro rx hrx) | exact lf | (intro hcx; exfalso; simp only [lz] at hcx; omega) | intro _); rw [SV.bool_iff]; simp_all)
theorem c236 (l : List Rng) (hlen : l.length ≤ 1000000) : PF Tryz.prog 236 [.sl 2 (encRs l), notR] fun s => ∃ i : Int, s = .int .i64 i ∧ (0 ≤ i ↔ l.any (fun y => !y.pence) = true) := by
 have hz := encRs_len l
 refine PF.of (TF.ev fn_236 (Ev.at ?_))
 (repeat' first | (refine eg ?_; conv => whnf) | refine an ?_ ?_ | (refine iw ?_; intro rx hrx) | exact lf | (intro hcx; exfalso; simp only [lz] at hcx; omega) | (intro ex hex; (first | obtain ⟨xx, hxx, rfl⟩ := ints_at hex | obtain ⟨xx, hxx, rfl⟩ := encYs_at hex | obtain ⟨xx, hxx, rfl⟩ := encRs_at hex); clear hex; try simp only [Int.toNat_natCast] at hxx) | intro _)
 refine TWq.loop (fun k : Nat => [(8, .int .i64 k)]) (fun _ => []) (fun k => k ≤ l.length ∧ (l.take k).any (fun y => !y.pence) = false) (fun k => l.length - k) 0 [] [] ?_ ⟨by omega, by simp⟩ ?_
 ·(repeat' first | (refine eg ?_; conv => whnf) | refine an ?_ ?_ | (refine iw ?_; intro rx hrx) | exact lf | (intro hcx; exfalso; simp only [lz] at hcx; omega) | (intro ex hex; (first | obtain ⟨xx, hxx, rfl⟩ := ints_at hex | obtain ⟨xx, hxx, rfl⟩ := encYs_at hex | obtain ⟨xx, hxx, rfl⟩ := encRs_at hex); clear hex; try simp only [Int.toNat_natCast] at hxx) | intro _)
  all_goals try exact vy
 ·rintro k ⟨hk1, hk2⟩
  (repeat' first | (refine eg ?_; conv => whnf) | refine an ?_ ?_ | (refine iw ?_; intro rx hrx) | exact lf | (intro hcx; exfalso; simp only [lz] at hcx; omega) | (intro ex hex; (first | obtain ⟨xx, hxx, rfl⟩ := ints_at hex | obtain ⟨xx, hxx, rfl⟩ := encYs_at hex | obtain ⟨xx, hxx, rfl⟩ := encRs_at hex); clear hex; try simp only [Int.toNat_natCast] at hxx) | intro _)
  all_goals (try (refine ⟨?_⟩; first | omega | exact List.cons_ne_nil _ _ | (show (_ : Nat) * _ ≤ _; simp [catS, repl, chunks, ints_len, encYs_len] <;> omega)))
  ·refine TSq.pureBC (c189 _) cl rfl (And.intro rfl rfl) ?_ ?_
   ·(repeat' first | (refine eg ?_; conv => whnf) | refine an ?_ ?_ | (refine iw ?_; intro rx hrx) | exact lf | (intro hcx; exfalso; simp only [lz] at hcx; omega) | (intro ex hex; (first | obtain ⟨xx, hxx, rfl⟩ := ints_at hex | obtain ⟨xx, hxx, rfl⟩ := encYs_at hex | obtain ⟨xx, hxx, rfl⟩ := encRs_at hex); clear hex; try simp only [Int.toNat_natCast] at hxx) | intro _)
    exact ⟨k, rfl, by have := any_of_get hxx (p := fun y => !y.pence) (by assumption); simp only [this, iff_true]; omega⟩
   ·(repeat' first | (refine eg ?_; conv => whnf) | refine an ?_ ?_ | (refine iw ?_; intro rx hrx) | exact lf | (intro hcx; exfalso; simp only [lz] at hcx; omega) | (intro ex hex; (first | obtain ⟨xx, hxx, rfl⟩ := ints_at hex | obtain ⟨xx, hxx, rfl⟩ := encYs_at hex | obtain ⟨xx, hxx, rfl⟩ := encRs_at hex); clear hex; try simp only [Int.toNat_natCast] at hxx) | intro _)
    all_goals (try (refine ⟨?_⟩; first | omega | exact List.cons_ne_nil _ _ | (show (_ : Nat) * _ ≤ _; simp [catS, repl, chunks, ints_len, encYs_len] <;> omega)))
    refine ⟨k + 1, ⟨by omega, ?_⟩, by omega, ?_⟩
    ·rw [take_snoc hxx]; simp_all
    ·(repeat' first | (refine eg ?_; conv => whnf) | refine an ?_ ?_ | (refine iw ?_; intro rx hrx) | exact lf | (intro hcx; exfalso; simp only [lz] at hcx; omega) | (intro ex hex; (first | obtain ⟨xx, hxx, rfl⟩ := ints_at hex | obtain ⟨xx, hxx, rfl⟩ := encYs_at hex | obtain ⟨xx, hxx, rfl⟩ := encRs_at hex); clear hex; try simp only [Int.toNat_natCast] at hxx) | intro _)
     all_goals try exact vy
  ·have : k = l.length := by omega
   subst this
   rw [List.take_length] at hk2
   exact ⟨-1, rfl, by simp only [hk2]; simp⟩
theorem c188 (l : List Rng) (hlen : l.length ≤ 1000000) : PF Tryz.prog 188 [.sl 2 (encRs l), notR] (· = .bool (l.any fun y => !y.pence)) := by
 refine PF.of (TF.ev fn_188 (Ev.at ?_))
 (repeat' first | (refine eg ?_; conv => whnf) | refine an ?_ ?_ | (refine iw ?_; intro rx hrx) | exact lf | (intro hcx; exfalso; simp only [lz] at hcx; omega) | intro _)
 refine TSq.pureQ rfl (c236 l hlen) (by simp [cloL, clo, notR]) rfl (And.intro rfl rfl) ?_
 rintro s ⟨i, rfl, hi⟩ _
 (repeat' first | (refine eg ?_; conv => whnf) | refine an ?_ ?_ | (refine iw ?_; intro rx hrx) | exact lf | (intro hcx; exfalso; simp only [lz] at hcx; omega) | intro _)
 all_goals (rw [SV.bool_iff]; rw [← hi]; simp; omega)
theorem c128 (l : List Rng) (hlen : l.length ≤ 1000000) : PF Tryz.prog 128 [.sl 2 (encRs l), .fn 129 [] []] (· = .bool (l.all Rng.pence)) := by
 refine PF.of (TF.ev fn_128 (Ev.at ?_))
 (repeat' first | (refine eg ?_; conv => whnf) | refine an ?_ ?_ | (refine iw ?_; intro rx hrx) | exact lf | (intro hcx; exfalso; simp only [lz] at hcx; omega) | intro _)
 refine TSq.lendBC (c188 l hlen) rfl (And.intro rfl ?_) ?_ ?_
 ·(repeat' first | (refine eg ?_; conv => whnf) | refine an ?_ ?_ | (refine iw ?_; intro rx hrx) | exact lf | (intro hcx; exfalso; simp only [lz] at hcx; omega) | intro _)
 all_goals ((repeat' first | (refine eg ?_; conv => whnf) | refine an ?_ ?_ | (refine iw ?_; intro rx hrx) | exact lf | (intro hcx; exfalso; simp only [lz] at hcx; omega) | intro _); rw [SV.bool_iff]; simp_all [List.all_eq_not_any_not])
theorem c63 (s : Soc) (h1 : s.members.length ≤ 1000000) (h2 : s.losses.length ≤ 1000000) : PF Tryz.prog 63 [encSoc s] (· = .int .i64 (fault s)) := by
 have hz := encYs_len s.members
 have hw := encRs_len s.losses
 refine PF.of (TF.ev fn_63 (Ev.at ?_))
 (repeat' first | (refine eg ?_; conv => whnf) | refine an ?_ ?_ | (refine iw ?_; intro rx hrx) | exact lf | (intro hcx; exfalso; simp only [lz] at hcx; omega) | intro _)
 all_goals (try (rw [fault, if_pos (by omega)]; done))
 ·have h0 : s.members.length = 0 := by omega
  rw [fault, if_neg (by omega), if_neg (by simp [Soc.valid, List.length_eq_zero_iff.1 h0])]
 refine TSq.pureBC (c126 s.members h1) cl rfl (And.intro rfl rfl) ?_ ?_ <;> intro q1
 ·(repeat' first | (refine eg ?_; conv => whnf) | refine an ?_ ?_ | (refine iw ?_; intro rx hrx) | exact lf | (intro hcx; exfalso; simp only [lz] at hcx; omega) | intro _)
  refine TSq.pureBC (c128 s.losses h2) cl rfl (And.intro rfl rfl) ?_ ?_ <;> intro q2
  ·(repeat' first | (refine eg ?_; conv => whnf) | refine an ?_ ?_ | (refine iw ?_; intro rx hrx) | exact lf | (intro hcx; exfalso; simp only [lz] at hcx; omega) | intro _)
   refine TSq.pureBC (c129 s.treaty) cl rfl (And.intro rfl rfl) ?_ ?_ <;> intro q3
   ·(repeat' first | (refine eg ?_; conv => whnf) | refine an ?_ ?_ | (refine iw ?_; intro rx hrx) | exact lf | (intro hcx; exfalso; simp only [lz] at hcx; omega) | intro _)
    refine TSq.pureBC (c68 _ _ _) cl rfl (And.intro rfl rfl) ?_ ?_ <;> intro q4
    ·(repeat' first | (refine eg ?_; conv => whnf) | refine an ?_ ?_ | (refine iw ?_; intro rx hrx) | exact lf | (intro hcx; exfalso; simp only [lz] at hcx; omega) | intro _)
     rw [fault, if_neg (by omega), if_pos]
     have h0 : s.members.length ≠ 0 := by omega
     simp [Soc.valid, q1, q2, q3, q4]; intro h; simp [h] at h0
    ·(repeat' first | (refine eg ?_; conv => whnf) | refine an ?_ ?_ | (refine iw ?_; intro rx hrx) | exact lf | (intro hcx; exfalso; simp only [lz] at hcx; omega) | intro _)
     rw [fault, if_neg (by omega), if_neg (by simp only [Soc.valid, q4]; simp)]
   ·(repeat' first | (refine eg ?_; conv => whnf) | refine an ?_ ?_ | (refine iw ?_; intro rx hrx) | exact lf | (intro hcx; exfalso; simp only [lz] at hcx; omega) | intro _)
    rw [fault, if_neg (by omega), if_neg (by simp only [Soc.valid, q3]; simp)]
  ·(repeat' first | (refine eg ?_; conv => whnf) | refine an ?_ ?_ | (refine iw ?_; intro rx hrx) | exact lf | (intro hcx; exfalso; simp only [lz] at hcx; omega) | intro _)
   rw [fault, if_neg (by omega), if_neg (by simp only [Soc.valid, q2]; simp)]
 ·(repeat' first | (refine eg ?_; conv => whnf) | refine an ?_ ?_ | (refine iw ?_; intro rx hrx) | exact lf | (intro hcx; exfalso; simp only [lz] at hcx; omega) | intro _)
  rw [fault, if_neg (by omega), if_neg (by simp only [Soc.valid, q1]; simp)]
end Go.Proofs.YtjadiajfbflghaaGreat
namespace Go.Proofs.YtjadiajfbflghaaGreat
def cnt {α : Type} (p : α → Bool) : List α → Nat
 | [] => 0
 | x :: l => (if p x = true then 1 else 0) + cnt p l
theorem cnt_le {α : Type} (p : α → Bool) : ∀ l : List α, cnt p l ≤ l.length
 | [] => Nat.le_refl _
 | x :: l => by have := cnt_le p l; simp only [cnt, List.length_cons]; split <;> omega
theorem cnt_mono {α : Type} {p q : α → Bool} : ∀ {l : List α}, (∀ x ∈ l, p x = true → q x = true) → cnt p l ≤ cnt q l
 | [], _ => Nat.le_refl _
 | x :: l, h => by
  have ih := cnt_mono (l := l) (p := p) (q := q) fun y hy => h y (List.mem_cons_of_mem _ hy)
  have hx := h x List.mem_cons_self
  simp only [cnt]
  split
  ·rw [if_pos (hx (by assumption))]; omega
  ·split <;> omega
theorem cnt_congr {α : Type} {p q : α → Bool} {l : List α} (h : ∀ x ∈ l, p x = q x) : cnt p l = cnt q l :=
 Nat.le_antisymm (cnt_mono fun x hx hp => by rw [← h x hx]; exact hp) (cnt_mono fun x hx hp => by rw [h x hx]; exact hp)
theorem cnt_add {α : Type} {p q r : α → Bool} : ∀ {l : List α}, (∀ x ∈ l, r x = (p x || q x)) → (∀ x ∈ l, ¬ (p x = true ∧ q x = true)) → cnt r l = cnt p l + cnt q l
 | [], _, _ => rfl
 | x :: l, h, h' => by
  have ih := cnt_add (l := l) (p := p) (q := q) (r := r) (fun y hy => h y (List.mem_cons_of_mem _ hy)) fun y hy => h' y (List.mem_cons_of_mem _ hy)
  have hx := h x List.mem_cons_self
  have hx' := h' x List.mem_cons_self
  simp only [cnt, ih, hx]
  revert hx'
  cases p x <;> cases q x <;> simp <;> omega
theorem cnt_true {α : Type} {p : α → Bool} {l : List α} (h : ∀ x ∈ l, p x = true) : cnt p l = l.length := by
 induction l with
 | nil => rfl
 | cons x l ih => simp only [cnt, h x List.mem_cons_self, if_true, ih fun y hy => h y (List.mem_cons_of_mem _ hy), List.length_cons]; omega
theorem cnt_pos {α : Type} {p : α → Bool} : ∀ {l : List α} {x : α}, x ∈ l → p x = true → 1 ≤ cnt p l
 | y :: l, x, hx, hp => by
  rcases List.mem_cons.1 hx with rfl | hx
  ·simp only [cnt, hp, if_true]; omega
  ·have := cnt_pos hx hp; simp only [cnt]; omega
theorem cnt_append {α : Type} {p : α → Bool} : ∀ {l m : List α}, cnt p (l ++ m) = cnt p l + cnt p m
 | [], m => by simp [cnt]
 | x :: l, m => by simp only [List.cons_append, cnt, cnt_append (l := l)]; omega
theorem cnt_filter {α : Type} {p f : α → Bool} : ∀ {l : List α}, cnt p (l.filter f) = cnt (fun x => f x && p x) l
 | [] => rfl
 | x :: l => by
  have ih := cnt_filter (l := l) (p := p) (f := f)
  simp only [List.filter_cons]
  split
  ·rename_i h; simp only [cnt, ih, h, Bool.true_and]
  ·rename_i h; simp [cnt, ih, h]
theorem cnt_rank (R : Nat → Nat → Bool) (hir : ∀ a, R a a = false) (htr : ∀ a b c, R a b = true → R b c = true → R a c = true) (hto : ∀ a b, a ≠ b → R a b = true ∨ R b a = true) :
  ∀ (l : List Nat), l.Nodup → ∀ t : Nat, cnt (fun i => decide (cnt (fun k => R k i) l < t)) l = min t l.length
 | [], _, t => by simp [cnt]
 | x :: l, hnd, t => by
  rw [List.nodup_cons] at hnd
  have ih := cnt_rank R hir htr hto l hnd.2
  have hxl := cnt_le (fun k => R k x) l
  have hne : ∀ i ∈ l, i ≠ x := fun i hi e => hnd.1 (e ▸ hi)
  have hlo : ∀ i ∈ l, R x i = true → cnt (fun k => R k x) l ≤ cnt (fun k => R k i) l := fun i _ h => cnt_mono fun k _ hk => htr k x i hk h
  have hhi : ∀ i ∈ l, R x i = false → cnt (fun k => R k i) l + 1 ≤ cnt (fun k => R k x) l := fun i hi h => by
   have hix : R i x = true := by
    rcases hto i x (hne i hi) with h' | h'
    ·exact h'
    ·rw [h] at h'; exact absurd h' (by simp)
   have e : cnt (fun k => R k i || decide (k = i)) l = cnt (fun k => R k i) l + cnt (fun k => decide (k = i)) l := cnt_add (fun _ _ => rfl) fun k _ hk => by
    have : k = i := by simpa using hk.2
    subst this; rw [hir] at hk; exact absurd hk.1 (by simp)
   have h1 : 1 ≤ cnt (fun k => decide (k = i)) l := cnt_pos hi (by simp)
   have h2 : cnt (fun k => R k i || decide (k = i)) l ≤ cnt (fun k => R k x) l := cnt_mono fun k _ hk => by
    rcases Bool.or_eq_true _ _ ▸ hk with hk | hk
    ·exact htr k i x hk hix
    ·have : k = i := by simpa using hk
     subst this; exact hix
   omega
  have hc : ∀ i, cnt (fun k => R k i) (x :: l) = (if R x i = true then 1 else 0) + cnt (fun k => R k i) l := fun _ => rfl
  have hcx : cnt (fun k => R k x) (x :: l) = cnt (fun k => R k x) l := by rw [hc, hir]; simp
  show (if decide (cnt (fun k => R k x) (x :: l) < t) = true then 1 else 0) + cnt (fun i => decide (cnt (fun k => R k i) (x :: l) < t)) l = min t (l.length + 1)
  by_cases ht : t ≤ cnt (fun k => R k x) l
  ·have e : cnt (fun i => decide (cnt (fun k => R k i) (x :: l) < t)) l = cnt (fun i => decide (cnt (fun k => R k i) l < t)) l := cnt_congr fun i hi => by
    have h1 := hc i
    cases h : R x i
    ·rw [h] at h1; rw [decide_eq_decide]; simp only [Bool.false_eq_true, if_false] at h1; omega
    ·have := hlo i hi h
     rw [h] at h1; rw [decide_eq_decide]; simp only [if_true] at h1; omega
   rw [e, ih t, if_neg (by simp; omega)]
   omega
  ·have e : cnt (fun i => decide (cnt (fun k => R k i) (x :: l) < t)) l = cnt (fun i => decide (cnt (fun k => R k i) l < t - 1)) l := cnt_congr fun i hi => by
    have h1 := hc i
    cases h : R x i
    ·have := hhi i hi h
     rw [h] at h1; rw [decide_eq_decide]; simp only [Bool.false_eq_true, if_false] at h1; omega
    ·rw [h] at h1; rw [decide_eq_decide]; simp only [if_true] at h1; omega
   rw [e, ih (t - 1), if_pos (by simp; omega)]
   omega
theorem cntF_eq (p : Nat → Bool) : ∀ n, cntF p n = (cnt p (List.range n) : Int)
 | 0 => rfl
 | n + 1 => by rw [List.range_succ, cnt_append, cntF, cntF_eq p n]; simp only [cnt]; split <;> simp
def sumF (g : Nat → Int) : Nat → Int
 | 0 => 0
 | k + 1 => sumF g k + g k
theorem sumL_append (l : List Int) (x : Int) : sumL (l ++ [x]) = sumL l + x := by simp [sumL]
theorem sumL_tab (n : Nat) (o : Nat → Int) : sumL (tab n o) = sumF o n := by
 induction n with
 | zero => rfl
 | succ n ih => rw [tab, List.range_succ, List.map_append]; simp only [List.map_cons, List.map_nil]; rw [sumL_append]; rw [tab] at ih; rw [ih]; rfl
theorem sumF_congr {g h : Nat → Int} : ∀ {n : Nat}, (∀ i, i < n → g i = h i) → sumF g n = sumF h n
 | 0, _ => rfl
 | n + 1, e => by simp only [sumF]; rw [sumF_congr (fun i hi => e i (by omega)), e n (by omega)]
theorem sumF_add {g h k : Nat → Int} : ∀ {n : Nat}, (∀ i, i < n → k i = g i + h i) → sumF k n = sumF g n + sumF h n
 | 0, _ => rfl
 | n + 1, e => by simp only [sumF]; rw [sumF_add (fun i hi => e i (by omega)), e n (by omega)]; omega
theorem sumF_le {g h : Nat → Int} : ∀ {n : Nat}, (∀ i, i < n → g i ≤ h i) → sumF g n ≤ sumF h n
 | 0, _ => Int.le_refl _
 | n + 1, e => by simp only [sumF]; have := sumF_le (g := g) (h := h) (n := n) (fun i hi => e i (by omega)); have := e n (by omega); omega
theorem sumF_mul {g : Nat → Int} (c : Int) : ∀ {n : Nat}, sumF (fun i => c * g i) n = c * sumF g n
 | 0 => by simp [sumF]
 | n + 1 => by simp only [sumF]; rw [sumF_mul c, Int.mul_add]
theorem sumF_zero : ∀ {n : Nat} {g : Nat → Int}, (∀ i, i < n → g i = 0) → sumF g n = 0
 | 0, _, _ => rfl
 | n + 1, g, e => by simp only [sumF]; rw [sumF_zero (fun i hi => e i (by omega)), e n (by omega)]; rfl
theorem sumF_cnt (p : Nat → Bool) : ∀ n, sumF (fun i => if p i = true then 1 else 0) n = cntF p n
 | 0 => rfl
 | n + 1 => by simp only [sumF, cntF, sumF_cnt p n]
theorem unitsF_sum (ms : List Mem) (f : Nat → Bool) : ∀ n, unitsF ms f n = sumF (fun i => if f i = true then un ms i else 0) n
 | 0 => rfl
 | n + 1 => by simp only [unitsF, sumF, unitsF_sum ms f n]
theorem leftF_sum (ms : List Mem) (f : Nat → Bool) (need U : Int) : ∀ n, leftF ms f need U n = need - sumF (fun i => if f i = true then quo ms need U i else 0) n
 | 0 => by simp [leftF, sumF]
 | n + 1 => by simp only [leftF, sumF, leftF_sum ms f need U n]; omega
theorem needF_sum (ms : List Mem) (c : Nat → Bool) (need : Int) : ∀ n, needF ms c need n = need - sumF (fun i => if c i = true then mst ms i else 0) n
 | 0 => by simp [needF, sumF]
 | n + 1 => by simp only [needF, sumF, needF_sum ms c need n]; omega
def befR (ms : List Mem) (need U : Int) (k i : Nat) : Bool := decide (rst ms need U i < rst ms need U k) || (decide (rst ms need U k = rst ms need U i) && decide (k < i))
theorem befR_irr (ms : List Mem) (need U : Int) (a : Nat) : befR ms need U a a = false := by simp [befR]
theorem befR_tr (ms : List Mem) (need U : Int) (a b c : Nat) (h1 : befR ms need U a b = true) (h2 : befR ms need U b c = true) : befR ms need U a c = true := by
 simp only [befR, Bool.or_eq_true, Bool.and_eq_true, decide_eq_true_eq] at *; omega
theorem befR_to (ms : List Mem) (need U : Int) (a b : Nat) (h : a ≠ b) : befR ms need U a b = true ∨ befR ms need U b a = true := by
 simp only [befR, Bool.or_eq_true, Bool.and_eq_true, decide_eq_true_eq]; omega
def whoL (f : Nat → Bool) (n : Nat) : List Nat := (List.range n).filter f
theorem whoL_nodup (f : Nat → Bool) (n : Nat) : (whoL f n).Nodup := List.nodup_range.filter _
theorem whoL_mem {f : Nat → Bool} {n i : Nat} : i ∈ whoL f n ↔ i < n ∧ f i = true := by simp [whoL]
theorem cntF_prefix {p : Nat → Bool} {i : Nat} : ∀ {n : Nat}, i ≤ n → cntF p i = cntF (fun k => p k && decide (k < i)) n
 | 0, h => by
   have : i = 0 := by omega
   subst this; rfl
 | n + 1, h => by
  rcases Nat.lt_or_ge i (n + 1) with h' | h'
  ·simp only [cntF]; rw [cntF_prefix (n := n) (by omega)]
   have : ¬ (p n && decide (n < i)) = true := by simp; omega
   rw [if_neg this]; omega
  ·have : i = n + 1 := by omega
   subst this
   rw [cntF_eq, cntF_eq]; congr 1
   exact cnt_congr fun k hk => by simp only [List.mem_range] at hk; simp [hk]
theorem beforeF_rank (ms : List Mem) (f : Nat → Bool) (need U : Int) {i : Nat} (hi : i < ms.length) : beforeF ms f need U i = (cnt (fun k => befR ms need U k i) (whoL f ms.length) : Int) := by
 rw [beforeF, cntF_prefix (i := i) (n := ms.length) (by omega), cntF_eq, cntF_eq, whoL, cnt_filter]
 rw [cnt_add (r := fun k => f k && befR ms need U k i) (p := fun k => f k && decide (rst ms need U i < rst ms need U k)) (q := fun k => (f k && decide (rst ms need U k = rst ms need U i)) && decide (k < i))]
 ·simp
 ·intro k _; simp only [befR]; cases f k <;> simp
 ·intro k _ h
  simp only [Bool.and_eq_true, decide_eq_true_eq] at h; omega
theorem cnt_before (ms : List Mem) (f : Nat → Bool) (need U t : Int) (h0 : 0 ≤ t) (h1 : t ≤ cntF f ms.length) : cntF (fun i => f i && decide (beforeF ms f need U i < t)) ms.length = t := by
 have h := cnt_rank (befR ms need U) (befR_irr ms need U) (befR_tr ms need U) (befR_to ms need U) _ (whoL_nodup f ms.length) t.toNat
 have hl : cntF f ms.length = ((whoL f ms.length).length : Int) := by
  rw [cntF_eq, ← cnt_true (p := f) (l := whoL f ms.length) fun i hi => (whoL_mem.1 hi).2, whoL, cnt_filter]
  congr 1; exact cnt_congr fun x _ => by simp
 rw [whoL, cnt_filter] at h
 rw [cntF_eq, cnt_congr (q := fun x => f x && decide (cnt (fun k => befR ms need U k x) (List.filter f (List.range ms.length)) < t.toNat)), h]
 ·rw [whoL] at hl; omega
 ·intro i hi
  simp only [List.mem_range] at hi
  rw [beforeF_rank ms f need U hi, whoL]
  congr 1
  rw [decide_eq_decide]; omega
theorem sumF_share (ms : List Mem) (f : Nat → Bool) (need : Int) (hU : 1 ≤ unitsF ms f ms.length) :
  (0 ≤ leftF ms f need (unitsF ms f ms.length) ms.length ∧ leftF ms f need (unitsF ms f ms.length) ms.length < cntF f ms.length) ∧ sumF (shareF ms f need) ms.length = need := by
 generalize hUe : unitsF ms f ms.length = U at *
 have hr : ∀ i, 0 ≤ rst ms need U i ∧ rst ms need U i < U := fun i => ⟨Int.emod_nonneg _ (by omega), Int.emod_lt_of_pos _ (by omega)⟩
 have hq : ∀ i, need * un ms i = U * quo ms need U i + rst ms need U i := fun i => by have := Int.mul_ediv_add_emod (need * un ms i) U; simp only [quo, rst]; omega
 have hs : need * U = U * sumF (fun i => if f i = true then quo ms need U i else 0) ms.length + sumF (fun i => if f i = true then rst ms need U i else 0) ms.length := by
  conv => lhs; rw [← hUe, unitsF_sum]
  rw [← sumF_mul, ← sumF_mul]
  refine sumF_add fun i _ => ?_
  split
  ·exact hq i
  ·simp
 have hl := leftF_sum ms f need U ms.length
 have hR : U * leftF ms f need U ms.length = sumF (fun i => if f i = true then rst ms need U i else 0) ms.length := by
  rw [hl, Int.mul_sub]; rw [Int.mul_comm] at hs; omega
 have h0 : 0 ≤ sumF (fun i => if f i = true then rst ms need U i else 0) ms.length := by
  have := sumF_le (g := fun _ => 0) (h := fun i => if f i = true then rst ms need U i else 0) (n := ms.length) fun i _ => by have := hr i; split <;> omega
  rw [sumF_zero fun _ _ => rfl] at this; exact this
 have h1 : sumF (fun i => if f i = true then rst ms need U i else 0) ms.length ≤ (U - 1) * cntF f ms.length := by
  rw [← sumF_cnt, ← sumF_mul]
  exact sumF_le fun i _ => by have := hr i; split <;> omega
 rw [← hR] at h0 h1
 have hc : 0 < cntF f ms.length := by
  have h := cntF_eq f ms.length
  rcases Int.lt_or_le 0 (cntF f ms.length) with h' | h'
  ·exact h'
  ·exfalso
   have h2 : cnt f (List.range ms.length) = 0 := by omega
   have : unitsF ms f ms.length = 0 := by
    rw [unitsF_sum]; refine sumF_zero fun i hi => ?_
    split
    ·rename_i hf; have := cnt_pos (l := List.range ms.length) (List.mem_range.2 hi) hf; omega
    ·rfl
   omega
 have hA : 0 ≤ leftF ms f need U ms.length := by
  rcases Int.lt_or_le (leftF ms f need U ms.length) 0 with h | h
  ·have := Int.mul_neg_of_pos_of_neg (show 0 < U by omega) h; omega
  ·exact h
 have hB : leftF ms f need U ms.length < cntF f ms.length := by
  rcases Int.lt_or_le (leftF ms f need U ms.length) (cntF f ms.length) with h | h
  ·exact h
  ·have h2 := Int.mul_le_mul_of_nonneg_left h (show 0 ≤ U by omega)
   rw [Int.sub_mul] at h1; omega
 refine ⟨⟨hA, hB⟩, ?_⟩
 have hS : sumF (shareF ms f need) ms.length = sumF (fun i => if f i = true then quo ms need U i else 0) ms.length + sumF (fun i => if (f i && decide (beforeF ms f need U i < leftF ms f need U ms.length)) = true then 1 else 0) ms.length :=
  sumF_add fun i hi => by
   simp only [shareF, hUe, hi, true_and]
   cases f i <;> simp
 rw [hS, sumF_cnt, cnt_before ms f need U _ hA (by omega)]
 omega
end Go.Proofs.YtjadiajfbflghaaGreat
