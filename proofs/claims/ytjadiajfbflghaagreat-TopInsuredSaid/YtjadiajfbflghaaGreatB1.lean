/- The value calculus, first part: trees for Go values, the book of local blocks, and what each operation of the compact code does. -/
import Derived.Carry
import Derived.WalkKit
import Derived.OrdersIn
import Derived.RangeFuncLeaves
import Derived.RangeFuncRecord
import Derived.Laws.AppendOwn
import Derived.Below
import Derived.Laws.Build
import Derived.Laws.StructEq
set_option linter.unusedSimpArgs false
set_option linter.unusedVariables false
/- The value calculus, part A: trees for Go values, what a tree says of a machine value, and the book-keeping (ghost) that says which blocks are the activation's own and which are never written again. -/
namespace Go.TV
open Go.RowKit
inductive SV where
 | junk
 | one
 | int (k : IntKind) (n : Int)
 | bool (b : Bool)
 | str (s : ByteArray)
 | nilp
 | nils
 | nilm
 | nilfn
 | niface
 | ptr (b off : Nat)
 | eptr (b sz i off : Nat)
 | own (b : Nat)
 | osl (b sz off n : Nat)
 | csl (b off n cap : Nat)
 | mp (b : Nat)
 | yield (b : Nat)
 | fn (f : FuncId) (first caps : List SV)
 | agg (cs : List SV)
 | tup (vs : List SV)
 | iface (t : TypeId) (v : SV)
 | sl (sz : Nat) (es : List SV)
 | iptr (e : SV) (off : Nat)
 | imap (es : List (SV × SV))
instance : Inhabited SV := ⟨.junk⟩
structure Loc where
 blk : Nat
 len : Nat
 cap : Nat
abbrev Env := Nat → Option Loc
mutual
def den (w : World) (imm : Nat → Prop) : SV → (Nat → Prop) → Env → Value → Prop
 | .junk, _, _, _ => True
 | .one, _, _, v => v.oneCell' = true
 | .int k n, _, _, v => v = .int k n
 | .bool b, _, _, v => v = .bool b
 | .str s, _, _, v => v = .string s
 | .nilp, _, _, v => v = .pointer none
 | .nils, _, _, v => v = .slice none 0 0
 | .nilm, _, _, v => v = .map none
 | .nilfn, _, _, v => v = .nilFunc
 | .niface, _, _, v => v = .nilIface
 | .ptr b off, D, ι, v => D b ∧ (∃ a, v = .pointer (some a)) ∧ ∀ l, ι b = some l → v = .pointer (some ⟨l.blk, off, none⟩)
 | .eptr b sz i off, D, ι, v => D b ∧ (∃ a, v = .pointer (some a)) ∧ ∀ l, ι b = some l → v = .pointer (some ⟨l.blk, i * sz + off, none⟩)
 | .own b, D, ι, v => D b ∧ (∃ a n c, v = .slice a n c) ∧ ∀ l, ι b = some l → v = .slice (some ⟨l.blk, 0, none⟩) l.len l.cap
 | .osl b sz off n, D, ι, v => D b ∧ (∃ a m c, v = .slice a m c) ∧ ∀ l, ι b = some l → off + n ≤ l.len ∧ v = .slice (some ⟨l.blk, if l.cap = off then 0 else off * sz, none⟩) n (l.cap - off)
 | .csl b off n cap, D, ι, v => D b ∧ (∃ a, v = .slice (some a) n cap) ∧ ∀ l, ι b = some l → v = .slice (some ⟨l.blk, off, none⟩) n cap
 | .mp b, D, ι, v => D b ∧ (∃ r, v = .map r) ∧ ∀ l, ι b = some l → v = .map (some l.blk)
 | .yield b, D, ι, v => D b ∧ (∃ l, v = .func (.yield l) #[] #[]) ∧ ∀ l, ι b = some l → v = .func (.yield l.blk) #[] #[]
 | .fn f fs cs, D, ι, v => ∃ vf vc : List Value, v = .func (.func f) vf.toArray vc.toArray ∧ denL w imm fs D ι vf ∧ denL w imm cs D ι vc
 | .agg cs, D, ι, v => ∃ vs : List Value, v = .agg vs.toArray ∧ denL w imm cs D ι vs
 | .tup cs, D, ι, v => ∃ vs : List Value, v = .tuple vs.toArray ∧ denL w imm cs D ι vs
 | .iface t s, D, ι, v => ∃ u, v = .iface t u ∧ den w imm s D ι u
 | .sl sz es, _, _, v => ∃ (a : Option Addr) (cap : Nat) (vs : List Value), v = .slice a es.length cap ∧ es.length ≤ cap ∧ denL w imm es (fun _ => False) (fun _ => none) vs ∧
   ∀ i u, vs[i]? = some u → u.cells.size = sz ∧ (∀ c ∈ u.cells.toList, c.oneCell' = true) ∧ ∃ r off, a = some ⟨r, off, none⟩ ∧ imm r ∧ ∀ j c, u.cells[j]? = some c → w.cell? ⟨r, off + i * sz + j, none⟩ = some c
 | .iptr e off, _, _, v => ∃ (r o : Nat) (u : Value), v = .pointer (some ⟨r, o + off, none⟩) ∧ imm r ∧ den w imm e (fun _ => False) (fun _ => none) u ∧
   ∀ j c, u.cells[j]? = some c → w.cell? ⟨r, o + j, none⟩ = some c
 | .imap es, _, _, v => ∃ (r : Nat) (ents : Array MapEntry) (idx : List Nat), v = .map (some r) ∧ imm r ∧ w.heap[r]? = some (.map ents ents.size) ∧ idx.Perm (List.range ents.size) ∧
   (∀ (i : Nat) (e : MapEntry), ents[i]? = some e → e.born = i) ∧ denM w imm es (fun _ => False) (fun _ => none) ents idx
def denL (w : World) (imm : Nat → Prop) : List SV → (Nat → Prop) → Env → List Value → Prop
 | [], _, _, vs => vs = []
 | s :: ss, D, ι, vs => ∃ u us, vs = u :: us ∧ den w imm s D ι u ∧ denL w imm ss D ι us
def denM (w : World) (imm : Nat → Prop) : List (SV × SV) → (Nat → Prop) → Env → Array MapEntry → List Nat → Prop
 | [], _, _, _, is => is = []
 | (k, v) :: es, D, ι, ents, is => ∃ i rest e, is = i :: rest ∧ ents[i]? = some e ∧ den w imm k D ι e.key ∧ den w imm v D ι e.val ∧ denM w imm es D ι ents rest
end
theorem cell_of_heap {w w' : World} {r : Nat} (h : w'.heap[r]? = w.heap[r]?) (o : Nat) : w'.cell? ⟨r, o, none⟩ = w.cell? ⟨r, o, none⟩ := by
 simp [World.cell?, h]
mutual
theorem den.mono {w w' : World} {imm imm' : Nat → Prop} (himm : ∀ r, imm r → imm' r) (hh : ∀ r, imm r → w'.heap[r]? = w.heap[r]?) :
  ∀ (s : SV) {D D' : Nat → Prop} {ι ι' : Env} (_ : ∀ b, D b → D' b) (_ : ∀ b l, D b → ι' b = some l → ι b = some l) {v : Value}, den w imm s D ι v → den w' imm' s D' ι' v
 | .junk, _, _, _, _, _, _, _, _ => trivial
 | .one, _, _, _, _, _, _, _, h => h
 | .int _ _, _, _, _, _, _, _, _, h => h
 | .bool _, _, _, _, _, _, _, _, h => h
 | .str _, _, _, _, _, _, _, _, h => h
 | .nilp, _, _, _, _, _, _, _, h => h
 | .nils, _, _, _, _, _, _, _, h => h
 | .nilm, _, _, _, _, _, _, _, h => h
 | .nilfn, _, _, _, _, _, _, _, h => h
 | .niface, _, _, _, _, _, _, _, h => h
 | .ptr b off, _, _, _, _, hd, hi, _, h => by simp only [den] at h ⊢; exact ⟨hd b h.1, h.2.1, fun l hl => h.2.2 l (hi b l h.1 hl)⟩
 | .eptr b sz i off, _, _, _, _, hd, hi, _, h => by simp only [den] at h ⊢; exact ⟨hd b h.1, h.2.1, fun l hl => h.2.2 l (hi b l h.1 hl)⟩
 | .own b, _, _, _, _, hd, hi, _, h => by simp only [den] at h ⊢; exact ⟨hd b h.1, h.2.1, fun l hl => h.2.2 l (hi b l h.1 hl)⟩
 | .csl b off n cap, _, _, _, _, hd, hi, _, h => by simp only [den] at h ⊢; exact ⟨hd b h.1, h.2.1, fun l hl => h.2.2 l (hi b l h.1 hl)⟩
 | .osl b sz off n, _, _, _, _, hd, hi, _, h => by simp only [den] at h ⊢; exact ⟨hd b h.1, h.2.1, fun l hl => h.2.2 l (hi b l h.1 hl)⟩
 | .mp b, _, _, _, _, hd, hi, _, h => by simp only [den] at h ⊢; exact ⟨hd b h.1, h.2.1, fun l hl => h.2.2 l (hi b l h.1 hl)⟩
 | .yield b, _, _, _, _, hd, hi, _, h => by simp only [den] at h ⊢; exact ⟨hd b h.1, h.2.1, fun l hl => h.2.2 l (hi b l h.1 hl)⟩
 | .fn f fs cs, _, _, _, _, hd, hi, _, h => by
  simp only [den] at h ⊢
  obtain ⟨vf, vc, e, h1, h2⟩ := h
  exact ⟨vf, vc, e, denL.mono himm hh fs hd hi h1, denL.mono himm hh cs hd hi h2⟩
 | .agg cs, _, _, _, _, hd, hi, _, h => by
  simp only [den] at h ⊢
  obtain ⟨vs, e, h1⟩ := h
  exact ⟨vs, e, denL.mono himm hh cs hd hi h1⟩
 | .tup cs, _, _, _, _, hd, hi, _, h => by
  simp only [den] at h ⊢
  obtain ⟨vs, e, h1⟩ := h
  exact ⟨vs, e, denL.mono himm hh cs hd hi h1⟩
 | .iface t s, _, _, _, _, hd, hi, _, h => by
  simp only [den] at h ⊢
  obtain ⟨u, e, h1⟩ := h
  exact ⟨u, e, den.mono himm hh s hd hi h1⟩
 | .sl sz es, _, _, _, _, _, _, _, h => by
  simp only [den] at h ⊢
  obtain ⟨a, cap, vs, e, hc, h1, h2⟩ := h
  refine ⟨a, cap, vs, e, hc, denL.mono himm hh es (fun _ h => h) (fun _ _ h => h.elim) h1, fun i u hu => ?_⟩
  obtain ⟨h3, h5, r, off, ha, hr, h4⟩ := h2 i u hu
  exact ⟨h3, h5, r, off, ha, himm r hr, fun j c hc => (cell_of_heap (hh r hr) _).trans (h4 j c hc)⟩
 | .iptr e off, _, _, _, _, _, _, _, h => by
  simp only [den] at h ⊢
  obtain ⟨r, o, u, he, hr, h1, h2⟩ := h
  exact ⟨r, o, u, he, himm r hr, den.mono himm hh e (fun _ h => h) (fun _ _ h => h.elim) h1, fun j c hc => (cell_of_heap (hh r hr) _).trans (h2 j c hc)⟩
 | .imap es, _, _, _, _, _, _, _, h => by
  simp only [den] at h ⊢
  obtain ⟨r, ents, idx, he, hr, h1, h2, h3, h4⟩ := h
  exact ⟨r, ents, idx, he, himm r hr, (hh r hr).trans h1, h2, h3, denM.mono himm hh es (fun _ h => h) (fun _ _ h => h.elim) h4⟩
theorem denL.mono {w w' : World} {imm imm' : Nat → Prop} (himm : ∀ r, imm r → imm' r) (hh : ∀ r, imm r → w'.heap[r]? = w.heap[r]?) :
  ∀ (ss : List SV) {D D' : Nat → Prop} {ι ι' : Env} (_ : ∀ b, D b → D' b) (_ : ∀ b l, D b → ι' b = some l → ι b = some l) {vs : List Value}, denL w imm ss D ι vs → denL w' imm' ss D' ι' vs
 | [], _, _, _, _, _, _, _, h => h
 | s :: ss, _, _, _, _, hd, hi, _, h => by
  simp only [denL] at h ⊢
  obtain ⟨u, us, e, h1, h2⟩ := h
  exact ⟨u, us, e, den.mono himm hh s hd hi h1, denL.mono himm hh ss hd hi h2⟩
theorem denM.mono {w w' : World} {imm imm' : Nat → Prop} (himm : ∀ r, imm r → imm' r) (hh : ∀ r, imm r → w'.heap[r]? = w.heap[r]?) :
  ∀ (es : List (SV × SV)) {D D' : Nat → Prop} {ι ι' : Env} (_ : ∀ b, D b → D' b) (_ : ∀ b l, D b → ι' b = some l → ι b = some l) {ents : Array MapEntry} {is : List Nat},
   denM w imm es D ι ents is → denM w' imm' es D' ι' ents is
 | [], _, _, _, _, _, _, _, _, h => h
 | (k, v) :: es, _, _, _, _, hd, hi, _, _, h => by
  simp only [denM] at h ⊢
  obtain ⟨i, rest, e, h0, h1, h2, h3, h4⟩ := h
  exact ⟨i, rest, e, h0, h1, den.mono himm hh k hd hi h2, den.mono himm hh v hd hi h3, denM.mono himm hh es hd hi h4⟩
end
end Go.TV
/- The value calculus, part B: the compact code: operations with their types' sizes worked out, and the function that makes it of the model's code. -/
namespace Go.TV
open Go.RowKit
inductive TOpd where
 | t (n : Nat)
 | c (s : SV)
inductive TShape where
 | int (k : IntKind)
 | bool
 | str
 | st (fs : List (Nat × Nat × Bool × TShape))
 | arr (n sz : Nat) (agg : Bool) (sh : TShape)
inductive TOp where
 | bad
 | mv (x : TOpd)
 | pick (c a b : TOpd)
 | alloc (cs : List SV)
 | box (x : TOpd)
 | build (zero : List SV) (parts : List (Nat × Nat × TOpd))
 | bslice (e : TypeId) (agg : Bool) (sz n : Nat) (zero : List SV) (parts : List (Nat × Nat × TOpd))
 | load (agg : Bool) (sz : Nat) (x : TOpd)
 | store (sz : Nat) (x v : TOpd)
 | nilck (x : TOpd)
 | arith (op : BinOp) (x y : TOpd)
 | cmp (op : BinOp) (x y : TOpd)
 | eqv (sh : TShape) (neg : Bool) (x y : TOpd)
 | strop (op : BinOp) (x y : TOpd)
 | not (x : TOpd)
 | neg (x : TOpd)
 | conv (k : IntKind) (x : TOpd)
 | mkfn (f : FuncId) (first caps : List TOpd)
 | mkmap
 | faddr (off : Nat) (x : TOpd)
 | field (agg : Bool) (off sz : Nat) (x : TOpd)
 | idxS (sz : Nat) (x i : TOpd)
 | idxA (n sz : Nat) (x i : TOpd)
 | idxV (agg : Bool) (n sz : Nat) (x i : TOpd)
 | idxStr (x i : TOpd)
 | lookup (sh : TShape) (zero : SV) (ok : Bool) (x k : TOpd)
 | mapUpd (sh : TShape) (m k v : TOpd)
 | range (x : TOpd)
 | next (x : TOpd)
 | entry (x : TOpd)
 | slice (sz : Nat) (x : TOpd) (lo hi : Option TOpd)
 | sliceA (n sz : Nat) (x : TOpd) (lo hi : Option TOpd)
 | extract (x : TOpd) (i : Nat)
 | call (f : FuncId) (args : List TOpd)
 | callv (x : TOpd) (args : List TOpd)
 | lenS (x : TOpd)
 | lenStr (x : TOpd)
 | lenM (x : TOpd)
 | lenA (n : Nat)
 | append (e : TypeId) (sz bytes : Nat) (x y : TOpd)
 | minmax (isMax : Bool) (x y : TOpd)
 | copy (x y : TOpd)
 | mkiface (t : TypeId) (x : TOpd)
 | isnil (neg : Bool) (x : TOpd)
 | mkslice (e : TypeId) (sz bytes : Nat) (z : SV) (l c : TOpd)
 | mapEnt (sh : TShape) (zero : SV) (x k : TOpd)
 | entSt (x s v : TOpd)
structure TOper where
 dst : Option Nat
 op : TOp
 guard : Option (Nat × Bool)
 deps : List Nat
 reads : List Nat
inductive TCode where
 | bad
 | skip
 | region (draw : Bool) (ops : List TOper)
 | seq (a b : TCode)
 | cond (c : TOpd) (a b : TCode)
 | block (id : Nat) (c : TCode)
 | loop (c : TCode)
 | rfunc (f : TOpd) (ps : List Nat) (assign body : TCode)
 | exit (id : Nat)
 | scope (c : TCode)
 | ret
def scSV : Value → Option SV
 | .int k n => some (.int k n)
 | .bool b => some (.bool b)
 | .string s => some (.str s)
 | .pointer a => match a with
  | none => some .nilp
  | some _ => none
 | .slice a n c => match a, n, c with
  | none, 0, 0 => some .nils
  | _, _, _ => none
 | .map r => match r with
  | none => some .nilm
  | some _ => none
 | .nilFunc => some .nilfn
 | .nilIface => some .niface
 | _ => none
def goSV (f : Value → Option SV) : List Value → Option (List SV)
 | [] => some []
 | v :: vs =>
  match f v with
  | some s => (goSV f vs).map (s :: ·)
  | none => none
def toSV : Nat → Value → Option SV
 | 0, v => scSV v
 | n + 1, v => match v with
  | .agg cs => (goSV (toSV n) cs.toList).map SV.agg
  | .tuple cs => (goSV (toSV n) cs.toList).map SV.tup
  | v => scSV v
def SV.cells : SV → List SV
 | .agg cs => cs
 | s => [s]
def cOpd : Operand → TOpd
 | .tmp t => .t t
 | .const v => .c ((toSV 8 v).getD .junk)
 | .global _ => .c .junk
 | .func f => .c (.fn f [] [])
def isAggT (P : Program) (t : TypeId) : Option Bool :=
 match P.underlying t with
 | some (.struct _) | some (.array _ _) => some true
 | some _ => some false
 | none => none
def sizeT (P : Program) (t : TypeId) : Option Nat := (P.info? t).map (·.size)
def zeroT (P : Program) (t : TypeId) : Option SV :=
 match P.info? t with
 | some i => match i.zero with
  | some z => match toSV 8 z with
   | some (.tup _) => none
   | r => r
  | none => none
 | none => none
def fieldAt? (P : Program) (fs : Array Field) (i : Nat) : Option (Nat × Nat) :=
 match fs[i]? with
 | some f => (sizeT P f.type).map fun s => (f.offset, s)
 | none => none
def cParts (place : Nat → Option (Nat × Nat)) : List (Nat × Operand) → Option (List (Nat × Nat × TOpd))
 | [] => some []
 | (i, x) :: ps =>
  match place i, cParts place ps with
  | some (o, s), some r => some ((o, s, cOpd x) :: r)
  | _, _ => none
def shapeF (P : Program) (f : TypeId → Option TShape) : List Field → Option (List (Nat × Nat × Bool × TShape))
 | [] => some []
 | fd :: fs =>
  match fd.name == "_" with
  | true => none
  | false =>
   match f fd.type, sizeT P fd.type, isAggT P fd.type, shapeF P f fs with
   | some s, some z, some b, some r => match b, z with
    | true, z => some ((fd.offset, z, true, s) :: r)
    | false, 1 => some ((fd.offset, 1, false, s) :: r)
    | false, _ => none
   | _, _, _, _ => none
def shapeT (P : Program) : Nat → TypeId → Option TShape
 | 0, _ => none
 | n + 1, t =>
  match P.underlying t with
  | some (.int k) => some (.int k)
  | some .bool => some .bool
  | some .string => some .str
  | some (.struct fs) => match P.stoodInHeld t with
   | true => none
   | false => (shapeF P (shapeT P n) fs.toList).map .st
  | some (.array k e) =>
   match shapeT P n e, sizeT P e, isAggT P e with
   | some s, some z, some b => match b, z with
    | true, z => some (.arr k z true s)
    | false, 1 => some (.arr k 1 false s)
    | false, _ => none
   | _, _, _ => none
  | _ => none
def cBin (P : Program) (op : BinOp) (t : TypeId) (x y : Operand) : TOp :=
 match P.underlying t with
 | some (.int _) =>
  match op with
  | .add | .sub | .mul | .quo | .rem | .and | .or | .xor | .andNot | .shl | .shr => .arith op (cOpd x) (cOpd y)
  | _ => .cmp op (cOpd x) (cOpd y)
 | some .string => .strop op (cOpd x) (cOpd y)
 | some (.slice _) => match op, cOpd y with
  | .eql, .c .nils => .isnil false (cOpd x)
  | .neq, .c .nils => .isnil true (cOpd x)
  | _, _ => .bad
 | some _ =>
  if P.eqGuardType P.depth t then .bad else
  match op, shapeT P 8 t with
  | .eql, some sh => .eqv sh false (cOpd x) (cOpd y)
  | .neq, some sh => .eqv sh true (cOpd x) (cOpd y)
  | _, _ => .bad
 | none => .bad
def cCall (P : Program) (c : Call) : TOp :=
 match c.callee with
 | .value (.func f) => .call f (c.args.toList.map cOpd)
 | .value x => .callv (cOpd x) (c.args.toList.map cOpd)
 | .invoke _ _ => .bad
 | .builtin b =>
  match b, c.args.toList, c.argTypes.toList with
  | .len, [x], [t] =>
   match P.underlying t with
   | some (.slice _) => .lenS (cOpd x)
   | some .string => .lenStr (cOpd x)
   | some (.map _ _) => .lenM (cOpd x)
   | some (.array n _) => .lenA n
   | _ => .bad
  | .append, [x, y], [t, u] =>
   if t = u then
    match P.underlying t with
    | some (.slice e) =>
     match P.info? e with
     | some i => match i.zero with
      | some z => if z.cells.size = i.size ∧ 0 < i.bytes then .append e i.size i.bytes (cOpd x) (cOpd y) else .bad
      | none => .bad
     | none => .bad
    | _ => .bad
   else .bad
  | .copy, [x, y], [t, _] =>
   match P.underlying t with
   | some (.slice e) => if (P.info? e).map (·.size) = some 1 then .copy (cOpd x) (cOpd y) else .bad
   | _ => .bad
  | .min, [x, y], _ => .minmax false (cOpd x) (cOpd y)
  | .max, [x, y], _ => .minmax true (cOpd x) (cOpd y)
  | _, _, _ => .bad
def cOp (P : Program) (o : Op) : TOp :=
 match o with
 | .move x | .assign x => .mv (cOpd x)
 | .pick c a b => .pick (cOpd c) (cOpd a) (cOpd b)
 | .alloc t =>
  match zeroT P t with
  | some z => .alloc z.cells
  | none => .bad
 | .box _ x => .box (cOpd x)
 | .build t parts =>
  match zeroT P t, P.underlying t with
  | some z, some (.struct fs) =>
   if fs.toList.all (fun f => (sizeT P f.type).isSome) then
   match cParts (fieldAt? P fs) parts.toList with
   | some r => .build z.cells r
   | none => .bad
   else .bad
  | some z, some (.array _ e) =>
   match sizeT P e with
   | some s =>
    match cParts (fun i => some (i * s, s)) parts.toList with
    | some r => .build z.cells r
    | none => .bad
   | none => .bad
  | _, _ => .bad
 | .buildSlice t n parts =>
  match P.underlying t with
  | some (.slice e) =>
   match isAggT P e, sizeT P e, zeroT P e with
   | some b, some s, some z =>
    if z.cells.length = s ∧ 0 < s ∧ n * s ≤ 16777216 ∧ (b = false → s = 1) then
    match cParts (fun i => some (i * s, s)) parts.toList with
    | some r => .bslice e b s n z.cells r
    | none => .bad
    else .bad
   | _, _, _ => .bad
  | _ => .bad
 | .load t x =>
  match isAggT P t, sizeT P t with
  | some b, some s => .load b s (cOpd x)
  | _, _ => .bad
 | .store t x v =>
  match sizeT P t with
  | some s => .store s (cOpd x) (cOpd v)
  | none => .bad
 | .nilCheck x => .nilck (cOpd x)
 | .binOp op t x y _ => cBin P op t x y
 | .unOp .not _ x => .not (cOpd x)
 | .unOp .neg _ x => .neg (cOpd x)
 | .convert src dst x =>
  match P.underlying src, P.underlying dst with
  | some (.int _), some (.int k) => .conv k (cOpd x)
  | _, _ => .bad
 | .makeFunc (.func f) first caps => .mkfn f (first.toList.map cOpd) (caps.toList.map cOpd)
 | .makeMap _ none => .mkmap
 | .makeSlice t l c =>
  match P.underlying t with
  | some (.slice e) =>
   match P.info? e, zeroT P e with
   | some i, some z => if z.cells.length = i.size ∧ 0 < i.size then .mkslice e i.size i.bytes z (cOpd l) (cOpd c) else .bad
   | _, _ => .bad
  | _ => .bad
 | .fieldAddr s x f =>
  match P.underlying s with
  | some (.struct fs) =>
   match fieldAt? P fs f with
   | some (o, n) => if n = 0 then .bad else .faddr o (cOpd x)
   | none => .bad
  | _ => .bad
 | .field s x f =>
  match P.underlying s with
  | some (.struct fs) =>
   match fs[f]? with
   | some fd =>
    match isAggT P fd.type, sizeT P fd.type with
    | some b, some n => .field b fd.offset n (cOpd x)
    | _, _ => .bad
   | none => .bad
  | _ => .bad
 | .indexAddr t x i =>
  match P.underlying t with
  | some (.slice e) =>
   match sizeT P e with
   | some s => .idxS s (cOpd x) (cOpd i)
   | none => .bad
  | some (.array n e) =>
   match sizeT P e with
   | some s => .idxA n s (cOpd x) (cOpd i)
   | none => .bad
  | _ => .bad
 | .index t x i =>
  match P.underlying t with
  | some (.array n e) =>
   match isAggT P e, sizeT P e with
   | some b, some s => .idxV b n s (cOpd x) (cOpd i)
   | _, _ => .bad
  | some .string => .idxStr (cOpd x) (cOpd i)
  | _ => .bad
 | .lookup t x k ok =>
  match P.underlying t with
  | some (.map kt e) =>
   match zeroT P e, shapeT P 8 kt with
   | some z, some sh => .lookup sh z ok (cOpd x) (cOpd k)
   | _, _ => .bad
  | _ => .bad
 | .mapUpdate t m k v | .insert t m k v =>
  match P.underlying t with
  | some (.map kt _) =>
   match shapeT P 8 kt with
   | some sh => .mapUpd sh (cOpd m) (cOpd k) (cOpd v)
   | none => .bad
  | _ => .bad
 | .mapEntry t x k =>
  match P.underlying t with
  | some (.map kt e) =>
   match zeroT P e, shapeT P 8 kt with
   | some z, some sh => .mapEnt sh z (cOpd x) (cOpd k)
   | _, _ => .bad
  | _ => .bad
 | .entryStore _ x s v => .entSt (cOpd x) (cOpd s) (cOpd v)
 | .range t x =>
  match P.underlying t with
  | some (.map _ _) => .range (cOpd x)
  | _ => .bad
 | .next x false => .next (cOpd x)
 | .entry x => .entry (cOpd x)
 | .slice t x lo hi none =>
  match P.underlying t with
  | some (.slice e) =>
   match sizeT P e with
   | some s => .slice s (cOpd x) (lo.map cOpd) (hi.map cOpd)
   | none => .bad
  | some (.array n e) =>
   match sizeT P e with
   | some s => .sliceA n s (cOpd x) (lo.map cOpd) (hi.map cOpd)
   | none => .bad
  | _ => .bad
 | .extract x i => .extract (cOpd x) i
 | .call c => cCall P c
 | .makeInterface t x => if P.concrete t then .mkiface t (cOpd x) else .bad
 | _ => .bad
def cDeps (o : Oper) : List Nat := (o.after.toList.filter fun e => Region.binds .any e).map (·.on)
def rds : List Operand → List Nat
 | [] => []
 | .tmp t :: xs => t :: rds xs
 | _ :: xs => rds xs
def cOper (P : Program) (ops : Array Oper) (draw : Bool) (o : Oper) : TOper :=
 let deps := match draw with
  | true => cDeps o
  | false => []
 let reads := match draw with
  | true => rds o.op.operands.toList
  | false => []
 match o.guard with
 | none => { dst := o.dst, op := cOp P o.op, guard := none, deps, reads }
 | some (j, want) =>
  match (ops[j]?).bind (·.dst) with
  | some s => { dst := o.dst, op := cOp P o.op, guard := some (s, want), deps, reads }
  | none => { dst := o.dst, op := .bad, guard := none, deps, reads }
def comp (P : Program) : Code → TCode
 | .skip => .skip
 | .region _ ops draw => .region draw (ops.toList.map (cOper P ops draw))
 | .seq a b => .seq (comp P a) (comp P b)
 | .cond c a b => .cond (cOpd c) (comp P a) (comp P b)
 | .block id c => .block id (comp P c)
 | .loop c => .loop (comp P c)
 | .rangeFunc f ps a b => .rfunc (cOpd f) ps.toList (comp P a) (comp P b)
 | .exit id => .exit id
 | .scope c => .scope (comp P c)
 | .label _ => .skip
 | .goto _ => .bad
 | .ret => .ret
 | .refuse _ => .bad
end Go.TV
/- The value calculus, part C: the book of local blocks, what it says of a world, and how it persists. -/
namespace Go.TV
open Go.RowKit
inductive Jump where
 | ret
 | exit (id : Nat)
def Jump.code : Jump → Code
 | .ret => .ret
 | .exit id => .exit id
abbrev TokP := Nat → (Nat → Prop) → (Nat → Prop) → World → Prop
inductive LB where
 | dead
 | cells (cs : List SV)
 | arr (e : TypeId) (sz : Nat) (es : List SV)
 | map (es : List (SV × SV))
 | iter (src : SV) (left : List (SV × SV)) (cur : Option (SV × SV))
 | loop (st : LoopState) (pend : Option Jump) (σ : List SV) (ps : List Nat) (assign body : TCode)
 | dcol
 | tok (Φ : TokP)
 | tokp (m : Nat) (ls : Nat → Loc) (Φ : TokP)
structure Gh where
 dom : Nat → Prop
 ι : Env
 imm : Nat → Prop
 hid : Option (Nat → Prop)
 flr : Nat
def Gh.hd (g : Gh) (r : Nat) : Prop := ∃ H, g.hid = some H ∧ H r
def Pin (m : Nat) (ls : Nat → Loc) (g : Gh) : Prop := ∀ i, i < m → g.dom (i + 1) ∧ ∀ k, g.ι (i + 1) = some k → k = ls i
structure TStep (l : Nat) (H imm : Nat → Prop) (w : World) (imm' : Nat → Prop) (w' : World) : Prop where
 os : w'.os = w.os
 tape : w'.tape = w.tape
 output : w'.output = w.output
 size : w.heap.size ≤ w'.heap.size
 up : ∀ r, imm r → imm' r
 old : ∀ r, (r = l ∨ H r ∨ imm r) → w'.heap[r]? = w.heap[r]?
 new : ∀ r, imm' r → imm r ∨ ¬ (r = l ∨ H r)
def Tok (Φ : TokP) (l : Nat) (H imm : Nat → Prop) (w : World) : Prop := ∀ imm' w', TStep l H imm w imm' w' → (∀ r, imm' r → r < w'.heap.size) → Φ l H imm' w'
theorem TStep.refl (l : Nat) (H imm : Nat → Prop) (w : World) : TStep l H imm w imm w := ⟨rfl, rfl, rfl, Nat.le_refl _, fun _ h => h, fun _ _ => rfl, fun _ h => .inl h⟩
theorem TStep.trans {l : Nat} {H i1 i2 i3 : Nat → Prop} {w1 w2 w3 : World} (h : TStep l H i1 w1 i2 w2) (k : TStep l H i2 w2 i3 w3) : TStep l H i1 w1 i3 w3 :=
 ⟨k.os.trans h.os, k.tape.trans h.tape, k.output.trans h.output, Nat.le_trans h.size k.size, fun r hr => k.up r (h.up r hr),
  fun r hr => (k.old r (hr.imp id (Or.imp id (h.up r)))).trans (h.old r hr), fun r hr => (k.new r hr).elim (h.new r) .inr⟩
theorem Tok.step {Φ : TokP} {l : Nat} {H imm imm' : Nat → Prop} {w w' : World} (h : Tok Φ l H imm w) (k : TStep l H imm w imm' w') : Tok Φ l H imm' w' := fun _ _ q => h _ _ (k.trans q)
abbrev Gh.den (g : Gh) (w : World) (s : SV) (v : Value) : Prop := TV.den w g.imm s g.dom g.ι v
abbrev Gh.denL (g : Gh) (w : World) (ss : List SV) (vs : List Value) : Prop := TV.denL w g.imm ss g.dom g.ι vs
abbrev Gh.denM (g : Gh) (w : World) (es : List (SV × SV)) (ents : Array MapEntry) (idx : List Nat) : Prop := TV.denM w g.imm es g.dom g.ι ents idx
def borns (ents : Array MapEntry) : Prop := ∀ (i : Nat) (e : MapEntry), ents[i]? = some e → e.born = i
def lbden (P : Program) (w : World) (g : Gh) (b : Nat) : LB → Prop
 | .dead => True
 | .cells cs => ∃ l vs t, g.ι b = some l ∧ w.heap[l.blk]? = some (.cells vs t (0, 0)) ∧ g.denL w cs vs.toList
 | .arr e sz es => ∃ (l : Loc) (vs : List Value), g.ι b = some l ∧ l.len = es.length ∧ g.denL w es vs ∧ (∀ u ∈ vs, u.cells.size = sz ∧ ∀ c ∈ u.cells.toList, c.oneCell' = true) ∧
   w.ownsRow 0 e sz (.slice (some ⟨l.blk, 0, none⟩) l.len l.cap) l.len (vs.flatMap (·.cells.toList))
 | .map es => ∃ l ents idx, g.ι b = some l ∧ w.heap[l.blk]? = some (.map ents ents.size) ∧ idx.Perm (List.range ents.size) ∧ borns ents ∧ g.denM w es ents idx
 | .iter src left cur => ∃ l m seen ents idx, g.ι b = some l ∧ w.heap[l.blk]? = some (.mapIter (some m) ents.size seen ents.size) ∧
   ((∃ mb lm, src = .mp mb ∧ g.ι mb = some lm ∧ m = lm.blk) ∨ ((∃ es, src = .imap es) ∧ g.imm m)) ∧
   w.heap[m]? = some (.map ents ents.size) ∧ borns ents ∧ idx.Nodup ∧ (∀ i, i ∈ idx ↔ i < ents.size ∧ i ∉ seen.toList) ∧ g.denM w left ents idx ∧
   (∀ k v, cur = some (k, v) → ∃ i e, seen.back? = some i ∧ ents[i]? = some e ∧ g.den w k e.key ∧ g.den w v e.val)
 | .loop st pend σ ps as bd => ∃ l fn tmps ac bc d, g.ι b = some l ∧
   w.heap[l.blk]? = some (.loop { state := st, pending := pend.map Jump.code, fn, tmps, params := ps.toArray, assign := ac, body := bc, defers := d }) ∧
   g.denL w σ tmps.toList ∧ comp P ac = as ∧ comp P bc = bd
 | .dcol => ∃ l, g.ι b = some l ∧ w.heap[l.blk]? = some (.deferred (some []))
 | .tok Φ => b = 0 ∧ ∃ l H, g.ι b = some l ∧ g.hid = some H ∧ Tok Φ l.blk H g.imm w
 | .tokp m ls Φ => b = 0 ∧ Pin m ls g ∧ ∃ l H, g.ι b = some l ∧ g.hid = some H ∧ Tok Φ l.blk H g.imm w
def LB.deps : LB → List Nat
 | .iter (.mp mb) _ _ => [mb]
 | _ => []
structure GOk (g : Gh) (w : World) : Prop where
 own : ∀ b l, g.ι b = some l → g.dom b ∧ l.blk < w.heap.size ∧ ¬ g.imm l.blk
 inj : ∀ b b' l l', g.ι b = some l → g.ι b' = some l' → l.blk = l'.blk → b = b'
 immlt : ∀ r, g.imm r → r < w.heap.size
 hlt : ∀ r, g.hd r → r < w.heap.size
 himm : ∀ r, g.hd r → ¬ g.imm r
 hown : ∀ b l, g.ι b = some l → ¬ g.hd l.blk
 flr : g.flr ≤ w.heap.size
structure Ext (g : Gh) (w : World) (g' : Gh) (w' : World) (U : Nat → Prop) : Prop where
 os : w'.os = w.os
 tape : w'.tape = w.tape
 output : w'.output = w.output
 size : w.heap.size ≤ w'.heap.size
 dom : ∀ b, g.dom b → g'.dom b
 ι : ∀ b, g.dom b → (¬ U b → g'.ι b = g.ι b) ∧ (g'.ι b = g.ι b ∨ g'.ι b = none)
 imm : ∀ r, g.imm r → g'.imm r
 hid : g'.hid = g.hid
 flr : g'.flr = g.flr
 old : ∀ r, r < w.heap.size → (∀ b l, U b → g.ι b = some l → l.blk ≠ r) → w'.heap[r]? = w.heap[r]?
 newι : ∀ b l, g'.ι b = some l → g.ι b = some l ∨ w.heap.size ≤ l.blk ∨ ∃ b0 l0, U b0 ∧ g.ι b0 = some l0 ∧ l0.blk = l.blk
 newimm : ∀ r, g'.imm r → g.imm r ∨ w.heap.size ≤ r ∨ ∃ b l, U b ∧ g.ι b = some l ∧ l.blk = r
variable {P : Program} {g g' g'' : Gh} {w w' w'' : World} {U V : Nat → Prop}
theorem Ext.refl (g : Gh) (w : World) (U : Nat → Prop) : Ext g w g w U :=
 ⟨rfl, rfl, rfl, Nat.le_refl _, fun _ h => h, fun _ _ => ⟨fun _ => rfl, .inl rfl⟩, fun _ h => h, rfl, rfl, fun _ _ _ => rfl, fun _ _ h => .inl h, fun _ h => .inl h⟩
theorem Gh.hd_of {g g' : Gh} (h : g'.hid = g.hid) {r : Nat} : g'.hd r ↔ g.hd r := by unfold Gh.hd; rw [h]
theorem Ext.more (h : Ext g w g' w' U) (hUV : ∀ b, U b → V b) : Ext g w g' w' V :=
 ⟨h.os, h.tape, h.output, h.size, h.dom, fun b hb => ⟨fun hv => (h.ι b hb).1 fun hu => hv (hUV b hu), (h.ι b hb).2⟩, h.imm, h.hid, h.flr,
  fun r hr hn => h.old r hr fun b l hu => hn b l (hUV b hu),
  fun b l hl => (h.newι b l hl).imp id (Or.imp id fun ⟨b0, l0, hu, h1⟩ => ⟨b0, l0, hUV _ hu, h1⟩),
  fun r hr => (h.newimm r hr).imp id (Or.imp id fun ⟨b0, l0, hu, h1⟩ => ⟨b0, l0, hUV _ hu, h1⟩)⟩
abbrev All : Nat → Prop := fun _ => True
theorem Ext.trans (h : Ext g w g' w' All) (k : Ext g' w' g'' w'' All) : Ext g w g'' w'' All := by
 refine ⟨k.os.trans h.os, k.tape.trans h.tape, k.output.trans h.output, Nat.le_trans h.size k.size, fun b hb => k.dom b (h.dom b hb), fun b hb => ⟨fun hn => (hn trivial).elim, ?_⟩,
  fun r hr => k.imm r (h.imm r hr), k.hid.trans h.hid, k.flr.trans h.flr, fun r hr hn => ?_, fun b l hl => ?_, fun r hr => ?_⟩
 ·rcases (k.ι b (h.dom b hb)).2 with e | e
  ·rw [e]; exact (h.ι b hb).2
  ·exact .inr e
 ·rw [k.old r (Nat.lt_of_lt_of_le hr h.size) ?_, h.old r hr hn]
  intro b l _ hl e
  rcases h.newι b l hl with h1 | h1 | ⟨b0, l0, _, h1, h2⟩
  ·exact hn b l trivial h1 e
  ·omega
  ·exact hn b0 l0 trivial h1 (h2.trans e)
 ·rcases k.newι b l hl with h1 | h1 | ⟨b0, l0, _, h1, h2⟩
  ·exact h.newι b l h1
  ·exact .inr (.inl (Nat.le_trans h.size h1))
  ·rcases h.newι b0 l0 h1 with h3 | h3 | ⟨b1, l1, _, h3, h4⟩
   ·exact .inr (.inr ⟨b0, l0, trivial, h3, h2⟩)
   ·exact .inr (.inl (h2 ▸ h3))
   ·exact .inr (.inr ⟨b1, l1, trivial, h3, h4.trans h2⟩)
 ·rcases k.newimm r hr with h1 | h1 | ⟨b0, l0, _, h1, h2⟩
  ·exact h.newimm r h1
  ·exact .inr (.inl (Nat.le_trans h.size h1))
  ·rcases h.newι b0 l0 h1 with h3 | h3 | ⟨b1, l1, _, h3, h4⟩
   ·exact .inr (.inr ⟨b0, l0, trivial, h3, h2⟩)
   ·exact .inr (.inl (h2 ▸ h3))
   ·exact .inr (.inr ⟨b1, l1, trivial, h3, h4.trans h2⟩)
theorem Ext.immHeap (hg : GOk g w) (h : Ext g w g' w' U) (r : Nat) (hr : g.imm r) : w'.heap[r]? = w.heap[r]? :=
 h.old r (hg.immlt r hr) fun b l _ hl e => (hg.own b l hl).2.2 (e ▸ hr)
theorem Ext.ι_old (h : Ext g w g' w' U) (b : Nat) (l : Loc) (hb : g.dom b) (hl : g'.ι b = some l) : g.ι b = some l := by
 rcases (h.ι b hb).2 with e | e
 ·exact e ▸ hl
 ·rw [e] at hl; cases hl
theorem Ext.den (hg : GOk g w) (h : Ext g w g' w' U) {s : SV} {v : Value} (hd : g.den w s v) : g'.den w' s v :=
 den.mono h.imm (h.immHeap hg) s h.dom (h.ι_old ·) hd
theorem Ext.denL (hg : GOk g w) (h : Ext g w g' w' U) {ss : List SV} {vs : List Value} (hd : g.denL w ss vs) : g'.denL w' ss vs :=
 denL.mono h.imm (h.immHeap hg) ss h.dom (h.ι_old ·) hd
theorem Ext.denM (hg : GOk g w) (h : Ext g w g' w' U) {es : List (SV × SV)} {ents : Array MapEntry} {idx : List Nat} (hd : g.denM w es ents idx) : g'.denM w' es ents idx :=
 denM.mono h.imm (h.immHeap hg) es h.dom (h.ι_old ·) hd
theorem Ext.block (hg : GOk g w) (h : Ext g w g' w' U) {b : Nat} {l : Loc} (hU : ¬ U b) (hl : g.ι b = some l) : g'.ι b = some l ∧ w'.heap[l.blk]? = w.heap[l.blk]? :=
 ⟨((h.ι b (hg.own b l hl).1).1 hU).trans hl, h.old _ (hg.own b l hl).2.1 fun b' l' hu hl' e => hU (hg.inj b' b l' l hl' hl e ▸ hu)⟩
theorem ownsRow_block {w w' : World} {base e sz n : Nat} {blk cap : Nat} {xs : List Value} (h : w.ownsRow base e sz (.slice (some ⟨blk, 0, none⟩) n cap) n xs) (hb : w'.heap[blk]? = w.heap[blk]?) :
  w'.ownsRow base e sz (.slice (some ⟨blk, 0, none⟩) n cap) n xs := by
 obtain ⟨h1, h2⟩ := h
 refine ⟨h1, ?_⟩
 rcases h2 with ⟨h2, _⟩ | ⟨r, cp, cur, h2, h3, h4, h5⟩
 ·cases h2
 ·have e1 : r = blk := by cases h2; rfl
  subst e1
  exact .inr ⟨r, cp, cur, h2, h3, hb.trans h4, h5⟩
theorem Ext.lb (hg : GOk g w) (h : Ext g w g' w' U) {b : Nat} {lb : LB} (hU : ¬ U b) (hdep : ∀ d ∈ lb.deps, ¬ U d) (hd : lbden P w g b lb) : lbden P w' g' b lb := by
 cases lb with
 | dead => trivial
 | cells cs =>
  obtain ⟨l, vs, t, h1, h2, h3⟩ := hd
  obtain ⟨h4, h5⟩ := h.block hg hU h1
  exact ⟨l, vs, t, h4, h5.trans h2, h.denL hg h3⟩
 | arr e sz es =>
  obtain ⟨l, vs, h1, hn, h2, h3, h4⟩ := hd
  obtain ⟨h5, h6⟩ := h.block hg hU h1
  exact ⟨l, vs, h5, hn, h.denL hg h2, h3, ownsRow_block h4 h6⟩
 | map es =>
  obtain ⟨l, ents, idx, h1, h2, h3, h4, h5⟩ := hd
  obtain ⟨h6, h7⟩ := h.block hg hU h1
  exact ⟨l, ents, idx, h6, h7.trans h2, h3, h4, h.denM hg h5⟩
 | iter src left cur =>
  obtain ⟨l, m, seen, ents, idx, h1, h2, h3, h4, h5, h6, h7, h8, h9⟩ := hd
  obtain ⟨k1, k2⟩ := h.block hg hU h1
  have hm : w'.heap[m]? = w.heap[m]? ∧ ((∃ mb lm, src = .mp mb ∧ g'.ι mb = some lm ∧ m = lm.blk) ∨ ((∃ es, src = .imap es) ∧ g'.imm m)) := by
   rcases h3 with ⟨mb, lm, rfl, h3, rfl⟩ | ⟨h3, hi⟩
   ·obtain ⟨k3, k4⟩ := h.block hg (hdep mb (by simp [LB.deps])) h3
    exact ⟨k4, .inl ⟨mb, lm, rfl, k3, rfl⟩⟩
   ·exact ⟨h.immHeap hg m hi, .inr ⟨h3, h.imm m hi⟩⟩
  refine ⟨l, m, seen, ents, idx, k1, k2.trans h2, hm.2, hm.1.trans h4, h5, h6, h7, h.denM hg h8, fun k v e => ?_⟩
  obtain ⟨i, en, e1, e2, e3, e4⟩ := h9 k v e
  exact ⟨i, en, e1, e2, h.den hg e3, h.den hg e4⟩
 | loop st pend σ ps as bd =>
  obtain ⟨l, fn, tmps, ac, bc, d, h1, h2, h3, h4, h5⟩ := hd
  obtain ⟨h6, h7⟩ := h.block hg hU h1
  exact ⟨l, fn, tmps, ac, bc, d, h6, h7.trans h2, h.denL hg h3, h4, h5⟩
 | dcol =>
  obtain ⟨l, h1, h2⟩ := hd
  obtain ⟨h6, h7⟩ := h.block hg hU h1
  exact ⟨l, h6, h7.trans h2⟩
 | tok Φ =>
  obtain ⟨h0, l, H, h1, h2, h3⟩ := hd
  obtain ⟨h6, h7⟩ := h.block hg hU h1
  have hH : ∀ r, H r → g.hd r := fun r hr => ⟨H, h2, hr⟩
  refine ⟨h0, l, H, h6, h.hid.trans h2, h3.step ⟨h.os, h.tape, h.output, h.size, h.imm, fun r hr => ?_, fun r hr => ?_⟩⟩
  ·rcases hr with rfl | hr | hr
   ·exact h7
   ·exact h.old r (hg.hlt r (hH r hr)) fun b' l' _ hl' e => hg.hown b' l' hl' (e ▸ hH r hr)
   ·exact h.immHeap hg r hr
  ·rcases h.newimm r hr with q | q | ⟨b', l', hu, hl', rfl⟩
   ·exact .inl q
   ·refine .inr fun hh => ?_
    rcases hh with rfl | hh
    ·have := (hg.own b l h1).2.1; omega
    ·have := hg.hlt r (hH r hh); omega
   ·refine .inr fun hh => ?_
    rcases hh with hh | hh
    ·exact hU (hg.inj b' b l' l hl' h1 hh ▸ hu)
    ·exact hg.hown b' l' hl' (hH _ hh)
 | tokp m ls Φ =>
  obtain ⟨h0, hp, l, H, h1, h2, h3⟩ := hd
  obtain ⟨h6, h7⟩ := h.block hg hU h1
  have hH : ∀ r, H r → g.hd r := fun r hr => ⟨H, h2, hr⟩
  refine ⟨h0, fun i hi => ⟨h.dom _ (hp i hi).1, fun k hk => (hp i hi).2 k (h.ι_old _ _ (hp i hi).1 hk)⟩, l, H, h6, h.hid.trans h2, h3.step ⟨h.os, h.tape, h.output, h.size, h.imm, fun r hr => ?_, fun r hr => ?_⟩⟩
  ·rcases hr with rfl | hr | hr
   ·exact h7
   ·exact h.old r (hg.hlt r (hH r hr)) fun b' l' _ hl' e => hg.hown b' l' hl' (e ▸ hH r hr)
   ·exact h.immHeap hg r hr
  ·rcases h.newimm r hr with q | q | ⟨b', l', hu, hl', rfl⟩
   ·exact .inl q
   ·refine .inr fun hh => ?_
    rcases hh with rfl | hh
    ·have := (hg.own b l h1).2.1; omega
    ·have := hg.hlt r (hH r hh); omega
   ·refine .inr fun hh => ?_
    rcases hh with hh | hh
    ·exact hU (hg.inj b' b l' l hl' h1 hh ▸ hu)
    ·exact hg.hown b' l' hl' (hH _ hh)
end Go.TV
/- The value calculus, part D: steps of the book; one operation, its operands and the blocks it needs alone; the evaluator of operations (without maps and equality). -/
namespace Go.TV
open Go.RowKit
def Gh.add (g : Gh) (b : Nat) (l : Loc) : Gh := { dom := fun c => g.dom c ∨ c = b, ι := fun c => if c = b then some l else g.ι c, imm := g.imm, hid := g.hid, flr := g.flr }
section steps
variable {P : Program} {g : Gh} {w : World} {U : Nat → Prop}
theorem Gh.add_ι_self (g : Gh) (b : Nat) (l : Loc) : (g.add b l).ι b = some l := by simp [Gh.add]
theorem ext_alloc (hg : GOk g w) {b : Nat} (hn : ¬ g.dom b) (o : Obj) (n c : Nat) :
  GOk (g.add b ⟨w.heap.size, n, c⟩) (w.alloc o) ∧ Ext g w (g.add b ⟨w.heap.size, n, c⟩) (w.alloc o) U := by
 have hsz : (w.alloc o).heap.size = w.heap.size + 1 := by simp
 refine ⟨⟨fun b' l hl => ?_, fun b' b'' l l' hl hl' e => ?_, fun r hr => ?_, fun r hr => ?_, hg.himm, fun b' l hl => ?_, Nat.le_trans hg.flr (by simp)⟩, ⟨rfl, rfl, rfl, by simp, fun b' hb => .inl hb, fun b' hb => ?_, fun r h => h, rfl, rfl, fun r hr _ => Below.heap_alloc _ _ _ hr, fun b' l hl => ?_, fun r h => .inl h⟩⟩
 ·simp only [Gh.add] at hl ⊢
  by_cases e : b' = b
  ·simp only [e, if_true] at hl
   obtain rfl := Option.some.inj hl
   exact ⟨.inr e, by simp, fun hi => Nat.lt_irrefl _ (hg.immlt _ hi)⟩
  ·simp only [e, if_false] at hl
   obtain ⟨h1, h2, h3⟩ := hg.own b' l hl
   exact ⟨.inl h1, by omega, h3⟩
 ·simp only [Gh.add] at hl hl'
  by_cases e1 : b' = b <;> by_cases e2 : b'' = b
  ·rw [e1, e2]
  ·simp only [e1, if_true, e2, if_false] at hl hl'
   obtain rfl := Option.some.inj hl
   have := (hg.own b'' l' hl').2.1
   simp at e; omega
  ·simp only [e1, if_false, e2, if_true] at hl hl'
   obtain rfl := Option.some.inj hl'
   have := (hg.own b' l hl).2.1
   simp at e; omega
  ·simp only [e1, e2, if_false] at hl hl'
   exact hg.inj b' b'' l l' hl hl' e
 ·have := hg.immlt r hr; omega
 ·have := hg.hlt r hr; omega
 ·simp only [Gh.add] at hl
  intro hh
  by_cases e : b' = b
  ·simp only [e, if_true] at hl
   obtain rfl := Option.some.inj hl
   exact Nat.lt_irrefl _ (hg.hlt _ hh)
  ·simp only [e, if_false] at hl
   exact hg.hown b' l hl hh
 ·have e : b' ≠ b := fun e => hn (e ▸ hb)
  simp [Gh.add, e]
 ·simp only [Gh.add] at hl
  by_cases e : b' = b
  ·simp only [e, if_true] at hl
   obtain rfl := Option.some.inj hl
   exact .inr (.inl (Nat.le_refl _))
  ·simp only [e, if_false] at hl
   exact .inl hl
theorem ext_set (hg : GOk g w) {b : Nat} {l : Loc} (hb : g.ι b = some l) (hU : U b) {w' : World} (h1 : w'.os = w.os) (h2 : w'.tape = w.tape) (h3 : w'.output = w.output) (h4 : w'.heap.size = w.heap.size)
    (h5 : ∀ r, r ≠ l.blk → w'.heap[r]? = w.heap[r]?) : GOk g w' ∧ Ext g w g w' U :=
  ⟨⟨fun b' l' hl => let ⟨x, y, z⟩ := hg.own b' l' hl; ⟨x, h4 ▸ y, z⟩, hg.inj, fun r hr => h4 ▸ hg.immlt r hr, fun r hr => h4 ▸ hg.hlt r hr, hg.himm, hg.hown, h4 ▸ hg.flr⟩,
   ⟨h1, h2, h3, Nat.le_of_eq h4.symm, fun _ h => h, fun _ _ => ⟨fun _ => rfl, .inl rfl⟩, fun _ h => h, rfl, rfl, fun r _ hn => h5 r fun e => hn b l hU hb e.symm, fun _ _ h => .inl h, fun _ h => .inl h⟩⟩
theorem ext_drew (hg : GOk g w) : GOk g w.drew ∧ Ext g w g w.drew U :=
 ⟨⟨hg.own, hg.inj, hg.immlt, hg.hlt, hg.himm, hg.hown, hg.flr⟩, ⟨rfl, rfl, rfl, Nat.le_refl _, fun _ h => h, fun _ _ => ⟨fun _ => rfl, .inl rfl⟩, fun _ h => h, rfl, rfl, fun _ _ _ => rfl, fun _ _ h => .inl h, fun _ h => .inl h⟩⟩
end steps
structure Ev (p : Prop) : Prop where
 out : p
theorem Ev_iff {p : Prop} : Ev p ↔ p := ⟨fun h => h.out, fun h => ⟨h⟩⟩
theorem Ev.go {p : Prop} (h : p) : Ev p := Ev_iff.2 h
theorem Ev.at {p : Prop} (h : Ev p) : p := Ev_iff.1 h
def forceK (s : SV) (k : SV → Prop) : Prop :=
 match s with
 | .junk => k (.junk)
 | .one => k (.one)
 | .int k' n => k (.int k' n)
 | .bool b => k (.bool b)
 | .str s' => k (.str s')
 | .nilp => k (.nilp)
 | .nils => k (.nils)
 | .nilm => k (.nilm)
 | .nilfn => k (.nilfn)
 | .niface => k (.niface)
 | .ptr b off => k (.ptr b off)
 | .eptr b sz i off => k (.eptr b sz i off)
 | .own b => k (.own b)
 | .osl b sz off n => k (.osl b sz off n)
 | .csl b off n cap => k (.csl b off n cap)
 | .mp b => k (.mp b)
 | .yield b => k (.yield b)
 | .fn f fs cs => k (.fn f fs cs)
 | .agg cs => k (.agg cs)
 | .tup vs => k (.tup vs)
 | .iface t v => k (.iface t v)
 | .sl sz es => k (.sl sz es)
 | .iptr e off => k (.iptr e off)
 | .imap es => k (.imap es)
theorem forceK_iff {s : SV} {k : SV → Prop} : forceK s k ↔ k s := by cases s <;> exact Iff.rfl
def getS : List SV → Nat → SV
 | [], _ => .junk
 | s :: _, 0 => s
 | _ :: ss, n + 1 => getS ss n
def hget : List LB → Nat → LB
 | [], _ => .dead
 | s :: _, 0 => s
 | _ :: ss, n + 1 => hget ss n
def gv (σ : List SV) : TOpd → SV
 | .t n => getS σ n
 | .c s => s
def setK {α : Type} : List α → Nat → α → (List α → Prop) → Prop
 | [], _, _, k => k []
 | _ :: as, 0, v, k => k (v :: as)
 | a :: as, n + 1, v, k => setK as n v fun r => k (a :: r)
def dropK : Nat → List SV → (List SV → Prop) → Prop
 | 0, l, k => k l
 | n + 1, _ :: l, k => dropK n l k
 | _ + 1, [], _ => False
def takeK : Nat → List SV → (List SV → Prop) → Prop
 | 0, _, k => k []
 | n + 1, s :: l, k => takeK n l fun r => k (s :: r)
 | _ + 1, [], _ => False
def getK : List SV → Nat → (SV → Prop) → Prop
 | [], _, _ => False
 | s :: _, 0, k => k s
 | _ :: ss, n + 1, k => getK ss n k
def overK : List SV → List SV → (List SV → Prop) → Prop
 | cs, [], k => k cs
 | _ :: cs, v :: vs, k => overK cs vs fun r => k (v :: r)
 | [], _ :: _, _ => False
def spliceK : List SV → Nat → List SV → (List SV → Prop) → Prop
 | cs, 0, vs, k => overK cs vs k
 | c :: cs, n + 1, vs, k => spliceK cs n vs fun r => k (c :: r)
 | [], _ + 1, _, _ => False
def onesK : List SV → Prop → Prop
 | [], k => k
 | .junk :: _, _ => False
 | .tup _ :: _, _ => False
 | .agg _ :: _, _ => False
 | _ :: ss, k => onesK ss k
def cellsK : SV → (List SV → Prop) → Prop
 | .junk, _ => False
 | .tup _, _ => False
 | .agg cs, k => onesK cs (k cs)
 | s, k => k [s]
def lenIs : List SV → Nat → Prop
 | [], 0 => True
 | _ :: l, n + 1 => lenIs l n
 | _, _ => False
def fillK (σ : List SV) : List SV → List (Nat × Nat × TOpd) → (List SV → Prop) → Prop
 | cs, [], k => k cs
 | cs, (off, sz, x) :: ps, k => forceK (gv σ x) fun s => cellsK s fun vs => lenIs vs sz ∧ Ev (spliceK cs off vs fun r => fillK σ r ps k)
theorem lenIs_iff : ∀ {l : List SV} {n : Nat}, lenIs l n → l.length = n
 | [], 0, _ => rfl
 | _ :: l, n + 1, h => by simp [lenIs_iff (l := l) (n := n) h]
theorem setK_iff {α : Type} : ∀ (l : List α) (n : Nat) (v : α) (k : List α → Prop), setK l n v k ↔ k (l.set n v)
 | [], _, _, _ => by simp [setK]
 | _ :: _, 0, _, _ => by simp [setK]
 | a :: l, n + 1, v, k => by simp [setK, setK_iff l n v]
theorem dropK_iff : ∀ (n : Nat) (l : List SV) (k : List SV → Prop), dropK n l k → k (l.drop n) ∧ n ≤ l.length
 | 0, _, _, h => ⟨h, Nat.zero_le _⟩
 | n + 1, _ :: l, k, h => by
  obtain ⟨h1, h2⟩ := dropK_iff n l k h
  exact ⟨h1, by simp; omega⟩
theorem takeK_iff : ∀ (n : Nat) (l : List SV) (k : List SV → Prop), takeK n l k → k (l.take n) ∧ n ≤ l.length
 | 0, _, _, h => ⟨h, Nat.zero_le _⟩
 | n + 1, _ :: l, k, h => by
  obtain ⟨h1, h2⟩ := takeK_iff n l _ h
  exact ⟨h1, by simp; omega⟩
theorem getK_iff : ∀ (l : List SV) (n : Nat) (k : SV → Prop), getK l n k → ∃ s, l[n]? = some s ∧ k s
 | s :: _, 0, k, h => ⟨s, rfl, h⟩
 | _ :: l, n + 1, k, h => by
  obtain ⟨s, h1, h2⟩ := getK_iff l n k h
  exact ⟨s, by simpa using h1, h2⟩
theorem overK_iff : ∀ (cs vs : List SV) (k : List SV → Prop), overK cs vs k → k (vs ++ cs.drop vs.length) ∧ vs.length ≤ cs.length
 | cs, [], k, h => by cases cs <;> exact ⟨by simpa [overK] using h, by simp⟩
 | c :: cs, v :: vs, k, h => by
  obtain ⟨h1, h2⟩ := overK_iff cs vs _ h
  exact ⟨by simpa using h1, by simpa using h2⟩
theorem spliceK_iff : ∀ (cs : List SV) (n : Nat) (vs : List SV) (k : List SV → Prop), spliceK cs n vs k → k (cs.take n ++ vs ++ cs.drop (n + vs.length)) ∧ n + vs.length ≤ cs.length
 | cs, 0, vs, k, h => by
  obtain ⟨h1, h2⟩ := overK_iff cs vs k (by cases cs <;> exact h)
  exact ⟨by simpa using h1, by simpa using h2⟩
 | c :: cs, n + 1, vs, k, h => by
  obtain ⟨h1, h2⟩ := spliceK_iff cs n vs _ h
  refine ⟨?_, by simp; omega⟩
  have : n + 1 + vs.length = (n + vs.length) + 1 := by omega
  simpa [this] using h1
section dl
variable {w : World} {imm : Nat → Prop} {D : Nat → Prop} {ι : Env}
theorem denL_len : ∀ {ss : List SV} {vs : List Value}, denL w imm ss D ι vs → vs.length = ss.length
 | [], _, h => by simp only [denL] at h; simp [h]
 | s :: ss, vs, h => by
  simp only [denL] at h
  obtain ⟨u, us, rfl, _, h2⟩ := h
  simp [denL_len h2]
theorem denL_get : ∀ {ss : List SV} {vs : List Value} {i : Nat} {s : SV}, denL w imm ss D ι vs → ss[i]? = some s → ∃ v, vs[i]? = some v ∧ den w imm s D ι v
 | s :: ss, vs, i, s', h, hs => by
  simp only [denL] at h
  obtain ⟨u, us, rfl, h1, h2⟩ := h
  cases i with
  | zero => simp at hs; exact ⟨u, rfl, hs ▸ h1⟩
  | succ i => simp at hs; obtain ⟨v, hv, hd⟩ := denL_get h2 hs; exact ⟨v, by simpa using hv, hd⟩
 | [], _, _, _, _, hs => by simp at hs
theorem denL_append : ∀ {ss ss' : List SV} {vs vs' : List Value}, denL w imm ss D ι vs → denL w imm ss' D ι vs' → denL w imm (ss ++ ss') D ι (vs ++ vs')
 | [], _, _, _, h, h' => by simp only [denL] at h; subst h; exact h'
 | s :: ss, ss', vs, vs', h, h' => by
  simp only [denL] at h
  obtain ⟨u, us, rfl, h1, h2⟩ := h
  simp only [List.cons_append, denL]
  exact ⟨u, us ++ vs', rfl, h1, denL_append h2 h'⟩
theorem denL_take : ∀ {n : Nat} {ss : List SV} {vs : List Value}, denL w imm ss D ι vs → denL w imm (ss.take n) D ι (vs.take n)
 | 0, _, _, _ => by simp [denL]
 | n + 1, [], vs, h => by simp only [denL] at h; subst h; simp [denL]
 | n + 1, s :: ss, vs, h => by
  simp only [denL] at h
  obtain ⟨u, us, rfl, h1, h2⟩ := h
  simp only [List.take_succ_cons, denL]
  exact ⟨u, us.take n, rfl, h1, denL_take h2⟩
theorem denL_drop : ∀ {n : Nat} {ss : List SV} {vs : List Value}, denL w imm ss D ι vs → denL w imm (ss.drop n) D ι (vs.drop n)
 | 0, _, _, h => by simpa using h
 | n + 1, [], vs, h => by simp only [denL] at h; subst h; simp [denL]
 | n + 1, s :: ss, vs, h => by
  simp only [denL] at h
  obtain ⟨u, us, rfl, h1, h2⟩ := h
  simpa using denL_drop h2
theorem denL_one {s : SV} {v : Value} (h : den w imm s D ι v) : denL w imm [s] D ι [v] := by
 simp only [denL]; exact ⟨v, [], rfl, h, rfl⟩
theorem denL_set : ∀ {n : Nat} {ss : List SV} {vs : List Value} {s : SV} {v : Value}, denL w imm ss D ι vs → den w imm s D ι v → denL w imm (ss.set n s) D ι (vs.set n v)
 | _, [], vs, _, _, h, _ => by simp only [denL] at h; subst h; simp [denL]
 | 0, s :: ss, vs, s', v', h, h' => by
  simp only [denL] at h
  obtain ⟨u, us, rfl, h1, h2⟩ := h
  simp only [List.set_cons_zero, denL]
  exact ⟨v', us, rfl, h', h2⟩
 | n + 1, s :: ss, vs, s', v', h, h' => by
  simp only [denL] at h
  obtain ⟨u, us, rfl, h1, h2⟩ := h
  simp only [List.set_cons_succ, denL]
  exact ⟨u, us.set n v', rfl, h1, denL_set h2 h'⟩
theorem getS_den {σ : List SV} {vs : List Value} (h : denL w imm σ D ι vs) (n : Nat) : den w imm (getS σ n) D ι (vs.getD n undef) := by
 by_cases hn : n < σ.length
 ·have hs : σ[n]? = some (getS σ n) := by
   clear h
   induction σ generalizing n with
   | nil => simp at hn
   | cons s ss ih => cases n with
    | zero => rfl
    | succ n => simpa [getS] using ih n (by simpa using hn)
  obtain ⟨v, hv, hd⟩ := denL_get h hs
  simpa [List.getD, hv] using hd
 ·have : getS σ n = .junk := by
   clear h
   induction σ generalizing n with
   | nil => rfl
   | cons s ss ih => cases n with
    | zero => simp at hn
    | succ n => exact ih n (by simpa using hn)
  rw [this]; simp only [den]
theorem den_one {s : SV} {v : Value} (hd : den w imm s D ι v) : (match s with | .junk | .tup _ | .agg _ => True | _ => v.oneCell' = true) := by
 cases s <;> simp only [den] at hd ⊢
 case ptr => obtain ⟨_, ⟨a, rfl⟩, _⟩ := hd; rfl
 case one => exact hd
 case eptr => obtain ⟨_, ⟨a, rfl⟩, _⟩ := hd; rfl
 case own => obtain ⟨_, ⟨a, n, c, rfl⟩, _⟩ := hd; rfl
 case osl => obtain ⟨_, ⟨a, n, c, rfl⟩, _⟩ := hd; rfl
 case csl => obtain ⟨_, ⟨a, rfl⟩, _⟩ := hd; rfl
 case mp => obtain ⟨_, ⟨a, rfl⟩, _⟩ := hd; rfl
 case yield => obtain ⟨_, ⟨a, rfl⟩, _⟩ := hd; rfl
 case fn => obtain ⟨_, _, rfl, _⟩ := hd; rfl
 case iface => obtain ⟨_, rfl, _⟩ := hd; rfl
 case sl => obtain ⟨_, _, _, rfl, _⟩ := hd; rfl
 case iptr => obtain ⟨_, _, _, rfl, _⟩ := hd; rfl
 case imap => obtain ⟨_, _, _, rfl, _⟩ := hd; rfl
 all_goals first | (subst hd; rfl) | trivial
theorem cells_one {v : Value} (h : v.oneCell' = true) : v.cells = #[v] := by
 cases v <;> simp_all [Value.oneCell', Value.cells]
theorem onesK_iff : ∀ {cs : List SV} {k : Prop}, onesK cs k → k ∧ ∀ {vs : List Value}, denL w imm cs D ι vs → ∀ v ∈ vs, v.oneCell' = true
 | [], _, h => ⟨h, fun hd v hv => by simp only [denL] at hd; subst hd; cases hv⟩
 | s :: ss, k, h => by
  have h' : onesK ss k := by cases s <;> simp only [onesK] at h <;> first | exact h.elim | exact h
  obtain ⟨h1, h2⟩ := onesK_iff h'
  refine ⟨h1, fun hd v hv => ?_⟩
  simp only [denL] at hd
  obtain ⟨u, us, rfl, hu, hus⟩ := hd
  rcases List.mem_cons.1 hv with rfl | hv
  ·have := den_one hu
   cases s <;> simp only [onesK] at h <;> first | exact h.elim | exact this
  ·exact h2 hus v hv
end dl
end Go.TV
/- The value calculus, part E: what an operation yields, told on trees. K takes the value, the blocks that are new or turned (by number), and the blocks that were needed. -/
namespace Go.TV
open Go.RowKit
def partK (agg : Bool) (off sz : Nat) : SV → (SV → Prop) → Prop
 | .agg cs, k => match agg with
  | true => dropK off cs fun r => takeK sz r fun r => k (.agg r)
  | false => getK cs off k
 | .junk, _ => False
 | .tup _, _ => False
 | s, k => match agg, off with
  | false, 0 => k s
  | _, _ => False
def putK (off sz : Nat) (vs : List SV) : SV → (SV → Prop) → Prop
 | .agg cs, k => lenIs vs sz ∧ Ev (spliceK cs off vs fun r => k (.agg r))
 | .junk, _ => False
 | .tup _, _ => False
 | _, k => match off, vs with
  | 0, [v] => sz = 1 ∧ Ev (k v)
  | _, _ => False
def chunks (sz : Nat) : Nat → List SV → List SV
 | 0, _ => []
 | n + 1, cs => .agg (cs.take sz) :: chunks sz n (cs.drop sz)
def catS : List SV → List SV → List SV
 | [], l => l
 | x :: xs, l => x :: catS xs l
theorem catS_eq : ∀ (a b : List SV), catS a b = a ++ b
 | [], _ => rfl
 | x :: a, b => by simp [catS, catS_eq a b]
def repl : Nat → List SV → List SV
 | 0, _ => []
 | n + 1, z => catS z (repl n z)
structure Vc (p : Prop) : Prop where
 h : p
theorem Vc_iff {p : Prop} : Vc p ↔ p := ⟨fun h => h.h, fun h => ⟨h⟩⟩
def eqK (a b : Nat) (k : Prop) : Prop :=
 match Nat.beq a b with
 | true => k
 | false => False
theorem eqK_iff {a b : Nat} {k : Prop} : eqK a b k ↔ (a = b ∧ k) := by
 unfold eqK
 cases h : Nat.beq a b with
 | true => exact ⟨fun hk => ⟨Nat.eq_of_beq_eq_true h, hk⟩, fun hk => hk.2⟩
 | false => exact ⟨fun hk => hk.elim, fun ⟨e, _⟩ => by subst e; rw [Nat.beq_refl] at h; cases h⟩
def posK (a : Nat) (k : Prop) : Prop :=
 match a with
 | 0 => False
 | _ + 1 => k
theorem posK_iff {a : Nat} {k : Prop} : posK a k ↔ (0 < a ∧ k) := by
 cases a with
 | zero => exact ⟨fun h => h.elim, fun h => absurd h.1 (Nat.lt_irrefl 0)⟩
 | succ a => exact ⟨fun h => ⟨Nat.succ_pos a, h⟩, fun h => h.2⟩
def outK : Nat → List Nat → Prop → Prop
 | _, [], k => k
 | b, x :: xs, k => match Nat.beq b x with
  | true => False
  | false => outK b xs k
theorem outK_iff {b : Nat} : ∀ {l : List Nat} {k : Prop}, outK b l k ↔ (b ∉ l ∧ k)
 | [], k => by simp [outK]
 | x :: xs, k => by
  simp only [outK]
  cases h : Nat.beq b x with
  | true => simp [Nat.eq_of_beq_eq_true h]
  | false =>
   have : b ≠ x := fun e => by subst e; rw [Nat.beq_refl] at h; cases h
   simp [outK_iff (l := xs), this]
def mapK (σ : List SV) : List TOpd → (List SV → Prop) → Prop
 | [], k => k []
 | x :: xs, k => forceK (gv σ x) fun s => mapK σ xs fun r => k (s :: r)
def noIter : List LB → Nat → Prop → Prop
 | [], _, k => k
 | .iter (.mp mb) _ _ :: h, b, k => mb ≠ b ∧ noIter h b k
 | _ :: h, b, k => noIter h b k
def andN : Nat → (Nat → Prop) → Prop
 | 0, _ => True
 | 1, p => p 0
 | n + 2, p => andN (n + 1) p ∧ p (n + 1)
mutual
def shOK : TShape → SV → Prop
 | .int k0, s => match s with
  | .int k _ => k0 = k
  | _ => False
 | .bool, s => match s with
  | .bool _ => True
  | _ => False
 | .str, s => match s with
  | .str _ => True
  | _ => False
 | .st fs, s => match s with
  | .agg cs => shF fs 0 cs
  | _ => False
 | .arr n sz agg sh, s => match s with
  | .agg cs => lenIs cs (n * sz) ∧ andN n fun i => partK agg (i * sz) sz (.agg cs) fun x => shOK sh x
  | _ => False
def shF : List (Nat × Nat × Bool × TShape) → Nat → List SV → Prop
 | [], off, cs => lenIs cs off
 | (o, sz, agg, sh) :: fs, off, cs => o = off ∧ (partK agg off sz (.agg cs) fun x => shOK sh x) ∧ shF fs (off + sz) cs
end
def ikn : IntKind → Nat
 | .i8 => 0 | .i16 => 1 | .i32 => 2 | .i64 => 3 | .u8 => 4 | .u16 => 5 | .u32 => 6 | .u64 => 7
def arithP (op : BinOp) (k : IntKind) (m n : Int) (K : Int → Prop) : Prop :=
 match op with
 | .add => ∀ r, r = k.wrap (m + n) → Ev (K r)
 | .sub => ∀ r, r = k.wrap (m - n) → Ev (K r)
 | .mul => ∀ r, r = k.wrap (m * n) → Ev (K r)
 | .quo => Vc (n ≠ 0) ∧ ∀ r, r = k.wrap (m.tdiv n) → Ev (K r)
 | .rem => Vc (n ≠ 0) ∧ ∀ r, r = m.tmod n → Ev (K r)
 | .shl => Vc (0 ≤ n) ∧ ∀ r, r = k.wrap (m * 2 ^ (min n.toNat k.bits)) → Ev (K r)
 | .shr => Vc (0 ≤ n) ∧ ∀ r, r = m.fdiv (2 ^ (min n.toNat k.bits)) → Ev (K r)
 | .and => ∀ r, r = k.wrap (BitVec.ofInt k.bits m &&& BitVec.ofInt k.bits n).toNat → Ev (K r)
 | .or => ∀ r, r = k.wrap (BitVec.ofInt k.bits m ||| BitVec.ofInt k.bits n).toNat → Ev (K r)
 | .xor => ∀ r, r = k.wrap (BitVec.ofInt k.bits m ^^^ BitVec.ofInt k.bits n).toNat → Ev (K r)
 | _ => False
def cmpP (op : BinOp) (m n : Int) (K : Bool → Prop) : Prop :=
 match op with
 | .eql => (m = n → Ev (K true)) ∧ (¬ m = n → Ev (K false))
 | .neq => (m = n → Ev (K false)) ∧ (¬ m = n → Ev (K true))
 | .lss => (m < n → Ev (K true)) ∧ (n ≤ m → Ev (K false))
 | .leq => (m ≤ n → Ev (K true)) ∧ (n < m → Ev (K false))
 | .gtr => (n < m → Ev (K true)) ∧ (m ≤ n → Ev (K false))
 | .geq => (n ≤ m → Ev (K true)) ∧ (m < n → Ev (K false))
 | _ => False
def isShift : BinOp → Bool
 | .shl | .shr => true
 | _ => false
def shK (op : BinOp) (a b : Nat) (k : Prop) : Prop :=
 match isShift op with
 | true => k
 | false => eqK a b k
theorem shK_iff {op : BinOp} {a b : Nat} {k : Prop} : shK op a b k ↔ ((isShift op = true ∨ a = b) ∧ k) := by
 unfold shK
 cases h : isShift op with
 | true => simp
 | false => simp [eqK_iff]
abbrev EvK := SV → List (Nat × LB) → List Nat → Prop
def loNat (σ : List SV) : Option TOpd → Option Int
 | none => some 0
 | some x => match gv σ x with
  | .int _ n => some n
  | _ => none
def hiNat (σ : List SV) (len : Nat) : Option TOpd → Option Int
 | none => some len
 | some x => match gv σ x with
  | .int _ n => some n
  | _ => none
def lookE (sh : TShape) (k : SV) (es : List (SV × SV)) (z : SV) (K : Bool → SV → Prop) : Prop :=
 Vc (shOK sh k) ∧ Vc (∀ e ∈ es, shOK sh e.1) ∧
  ((∃ pre v post, es = pre ++ (k, v) :: post ∧ (∀ e ∈ pre, k ≠ e.1) ∧ (∀ e ∈ post, k ≠ e.1) ∧ Ev (K true v)) ∨ ((∀ e ∈ es, k ≠ e.1) ∧ Ev (K false z)))
def updE (sh : TShape) (k v : SV) (es : List (SV × SV)) (K : List (SV × SV) → Prop) : Prop :=
 Vc (shOK sh k) ∧ Vc (∀ e ∈ es, shOK sh e.1) ∧
  ((∃ pre v0 post, es = pre ++ (k, v0) :: post ∧ (∀ e ∈ pre, k ≠ e.1) ∧ (∀ e ∈ post, k ≠ e.1) ∧ Ev (K (pre ++ (k, v) :: post))) ∨ ((∀ e ∈ es, k ≠ e.1) ∧ Ev (K (es ++ [(k, v)]))))
def ev (σ : List SV) (h : List LB) (nid : Nat) : TOp → EvK → Prop
 | .bad, _ => False
 | .mv x, K => K (gv σ x) [] []
 | .pick c a b, K => match gv σ c with
  | .bool true => K (gv σ a) [] []
  | .bool false => K (gv σ b) [] []
  | _ => False
 | .alloc cs, K => K (.ptr nid 0) [(nid, .cells cs)] []
 | .box x, K => forceK (gv σ x) fun s => cellsK s fun cs => K (.ptr nid 0) [(nid, .cells cs)] []
 | .build z ps, K => fillK σ z ps fun r => K (.agg r) [] []
 | .bslice e agg sz n z ps, K => fillK σ (repl n z) ps fun r => match agg with
  | true => onesK r (K (.own nid) [(nid, .arr e sz (chunks sz n r))] [])
  | false => onesK r (K (.own nid) [(nid, .arr e sz r)] [])
 | .load agg sz x, K => match gv σ x with
  | .ptr b off => match hget h b with
   | .cells cs => partK agg off sz (.agg cs) fun s => K s [] [b]
   | _ => False
  | .eptr b sz' i off => match hget h b with
   | .arr _ sz2 es => eqK sz' sz2 (Vc (i < es.length) ∧ ∀ e0, es[i]? = some e0 → Ev (partK agg off sz e0 fun s => K s [] [b]))
   | _ => False
  | .iptr e off => partK agg off sz e fun s => K s [] []
  | _ => False
 | .store sz x v, K => match gv σ x with
  | .ptr b off => match hget h b with
   | .cells cs => forceK (gv σ v) fun sv => cellsK sv fun vs => lenIs vs sz ∧ Ev (spliceK cs off vs fun r => K (.tup []) [(b, .cells r)] [b])
   | _ => False
  | .eptr b sz' i off => match hget h b with
   | .arr e sz2 es => eqK sz' sz2 (Vc (i < es.length) ∧ ∀ e0, es[i]? = some e0 → Ev (forceK (gv σ v) fun sv => cellsK sv fun vs => putK off sz vs e0 fun s => K (.tup []) [(b, .arr e sz2 (es.set i s))] [b]))
   | _ => False
  | _ => False
 | .nilck x, K => match gv σ x with
  | .ptr b off => K (.ptr b off) [] []
  | .eptr b sz i off => K (.eptr b sz i off) [] []
  | .iptr e off => K (.iptr e off) [] []
  | .fn f a c => K (.fn f a c) [] []
  | _ => False
 | .arith op x y, K => match gv σ x, gv σ y with
  | .int k m, .int k' n => shK op (ikn k) (ikn k') (arithP op k m n fun r => K (.int k r) [] [])
  | _, _ => False
 | .cmp op x y, K => match gv σ x, gv σ y with
  | .int k m, .int k' n => eqK (ikn k) (ikn k') (cmpP op m n fun r => K (.bool r) [] [])
  | _, _ => False
 | .eqv sh neg x y, K => forceK (gv σ x) fun s => forceK (gv σ y) fun s' => Vc (shOK sh s) ∧ Vc (shOK sh s') ∧ (s = s' → Ev (K (.bool !neg) [] [])) ∧ (¬ s = s' → Ev (K (.bool neg) [] []))
 | .strop _ _ _, _ => False
 | .not x, K => match gv σ x with
  | .bool true => K (.bool false) [] []
  | .bool false => K (.bool true) [] []
  | _ => False
 | .neg x, K => match gv σ x with
  | .int k n => ∀ r, r = k.wrap (0 - n) → Ev (K (.int k r) [] [])
  | _ => False
 | .conv k x, K => match gv σ x with
  | .int _ n => ∀ r, r = k.wrap n → Ev (K (.int k r) [] [])
  | _ => False
 | .mkfn f first caps, K => mapK σ first fun a => mapK σ caps fun c => K (.fn f a c) [] []
 | .mkmap, K => K (.mp nid) [(nid, .map [])] []
 | .faddr off x, K => match gv σ x with
  | .ptr b o => K (.ptr b (o + off)) [] []
  | .eptr b sz i o => K (.eptr b sz i (o + off)) [] []
  | .iptr e o => K (.iptr e (o + off)) [] []
  | _ => False
 | .field agg off sz x, K => match gv σ x with
  | .agg cs => partK agg off sz (.agg cs) fun s => K s [] []
  | _ => False
 | .idxS sz x i, K => match gv σ x, gv σ i with
  | .sl sz' es, .int _ n => eqK sz sz' (Vc (0 ≤ n) ∧ Vc (n < es.length) ∧ ∀ e, es[n.toNat]? = some e → Ev (K (.iptr e 0) [] []))
  | .own b, .int _ n => match hget h b with
   | .arr _ sz' es => eqK sz sz' (Vc (0 ≤ n) ∧ Vc (n < es.length) ∧ Ev (K (.eptr b sz n.toNat 0) [] [b]))
   | _ => False
  | .osl b sz' off m, .int _ n => match hget h b with
   | .arr _ _ _ => eqK sz sz' (Vc (0 ≤ n) ∧ Vc (n < m) ∧ Ev (K (.eptr b sz (off + n.toNat) 0) [] [b]))
   | _ => False
  | .csl b off m _, .int _ n => Vc (0 ≤ n) ∧ Vc (n < m) ∧ Ev (K (.ptr b (off + n.toNat * sz)) [] [])
  | _, _ => False
 | .idxA n sz x i, K => match gv σ x, gv σ i with
  | .ptr b o, .int _ m => Vc (0 ≤ m) ∧ Vc (m < n) ∧ Ev (K (.ptr b (o + m.toNat * sz)) [] [])
  | .iptr e o, .int _ m => Vc (0 ≤ m) ∧ Vc (m < n) ∧ Ev (K (.iptr e (o + m.toNat * sz)) [] [])
  | _, _ => False
 | .idxV agg n sz x i, K => match gv σ x, gv σ i with
  | .agg cs, .int _ m => Vc (0 ≤ m) ∧ Vc (m < n) ∧ Ev (partK agg (m.toNat * sz) sz (.agg cs) fun s => K s [] [])
  | _, _ => False
 | .idxStr _ _, _ => False
 | .lookup sh z ok x k, K => match gv σ x with
  | .mp b => match hget h b with
   | .map es => forceK (gv σ k) fun key => lookE sh key es z fun found s => K (if ok then .tup [s, .bool found] else s) [] [b]
   | _ => False
  | .imap es => forceK (gv σ k) fun key => lookE sh key es z fun found s => K (if ok then .tup [s, .bool found] else s) [] []
  | _ => False
 | .mapUpd sh m k v, K => match gv σ m with
  | .mp b => match hget h b with
   | .map es => noIter h b (forceK (gv σ k) fun key => forceK (gv σ v) fun val => updE sh key val es fun es' => K (.tup []) [(b, .map es')] [b])
   | _ => False
  | _ => False
 | .range x, K => match gv σ x with
  | .mp b => match hget h b with
   | .map es => K (.ptr nid 0) [(nid, .iter (.mp b) es none)] [b]
   | _ => False
  | .imap es => K (.ptr nid 0) [(nid, .iter (.imap es) es none)] []
  | _ => False
 | .next _, _ => False
 | .mapEnt _ _ _ _, _ => False
 | .entSt _ _ _, _ => False
 | .entry x, K => match gv σ x with
  | .ptr b 0 => match hget h b with
   | .iter _ _ (some (k, v)) => K (.tup [k, v]) [] [b]
   | _ => False
  | _ => False
 | .slice sz x lo hi, K => match gv σ x with
  | .sl sz' es => match loNat σ lo, hiNat σ es.length hi with
   | some l, some r => eqK sz sz' (Vc (0 ≤ l) ∧ Vc (l ≤ r) ∧ Vc (r ≤ es.length) ∧ Ev (K (.sl sz ((es.drop l.toNat).take (r - l).toNat)) [] []))
   | _, _ => False
  | .own b => match hget h b with
   | .arr _ sz' es => match loNat σ lo, hiNat σ es.length hi with
    | some l, some r => eqK sz sz' (Vc (0 ≤ l) ∧ Vc (l ≤ r) ∧ Vc (r ≤ es.length) ∧ Ev (K (.osl b sz l.toNat (r - l).toNat) [] [b]))
    | _, _ => False
   | _ => False
  | _ => False
 | .sliceA n sz x lo hi, K => match gv σ x with
  | .ptr b o => match loNat σ lo, hiNat σ n hi with
   | some l, some r => Vc (0 ≤ l) ∧ Vc (l ≤ r) ∧ Vc (r ≤ n) ∧ Ev (K (.csl b (match Nat.beq n l.toNat with | true => o | false => o + l.toNat * sz) (r - l).toNat (n - l.toNat)) [] [])
   | _, _ => False
  | _ => False
 | .extract x i, K => match gv σ x with
  | .tup vs => getK vs i fun s => K s [] []
  | _ => False
 | .call _ _, _ => False
 | .callv _ _, _ => False
 | .lenS x, K => match gv σ x with
  | .sl _ es => K (.int .i64 es.length) [] []
  | .nils => K (.int .i64 0) [] []
  | .own b => match hget h b with
   | .arr _ _ es => K (.int .i64 es.length) [] [b]
   | _ => False
  | .osl b _ _ n => match hget h b with
   | .arr _ _ _ => K (.int .i64 n) [] [b]
   | _ => False
  | .csl _ _ n _ => K (.int .i64 n) [] []
  | _ => False
 | .copy x y, K => match gv σ y with
  | .sl szf fs => match gv σ x with
   | .own b => match hget h b with
    | .arr e sz es => eqK szf 1 (eqK sz 1 (Vc (fs.length ≤ es.length) ∧ Ev (K (.int .i64 fs.length) [(b, .arr e 1 (fs ++ es.drop fs.length))] [b])))
    | _ => False
   | .osl b szo off m => match hget h b with
    | .arr e sz es => eqK szo 1 (eqK szf 1 (eqK sz 1 (Vc (fs.length ≤ m) ∧ Ev (K (.int .i64 fs.length) [(b, .arr e 1 (es.take off ++ (fs ++ es.drop (off + fs.length))))] [b]))))
    | _ => False
   | _ => False
  | _ => False
 | .lenStr x, K => match gv σ x with
  | .str s => K (.int .i64 s.size) [] []
  | _ => False
 | .lenM x, K => match gv σ x with
  | .mp b => match hget h b with
   | .map es => K (.int .i64 es.length) [] [b]
   | _ => False
  | .imap es => K (.int .i64 es.length) [] []
  | .nilm => K (.int .i64 0) [] []
  | _ => False
 | .lenA n, K => K (.int .i64 n) [] []
 | .append e sz bytes x y, K =>
  let fin (es' : List SV) (nb : List Nat) : Prop := match gv σ x with
   | .own b => match hget h b with
    | .arr e' sz' es => eqK e e' (eqK sz sz' (posK sz (outK b nb (Vc ((es.length + es'.length) * bytes ≤ 140737488355328) ∧ Ev (K (.own nid) [(b, .dead), (nid, .arr e sz (es ++ es'))] (b :: nb))))))
    | _ => False
   | .nils => posK sz (Vc (es' ≠ []) ∧ Vc (es'.length * bytes ≤ 140737488355328) ∧ Ev (K (.own nid) [(nid, .arr e sz es')] nb))
   | _ => False
  match gv σ y with
  | .own b' => match hget h b' with
   | .arr e' sz' es' => eqK e e' (eqK sz sz' (fin es' [b']))
   | _ => False
  | .sl sz' es' => eqK sz sz' (fin es' [])
  | _ => False
 | .minmax mx x y, K => match gv σ x, gv σ y with
  | .int k m, .int k' n => eqK (ikn k) (ikn k') (match mx with
   | true => ∀ r, r = max m n → Ev (K (.int k r) [] [])
   | false => ∀ r, r = min m n → Ev (K (.int k r) [] []))
  | _, _ => False
 | .isnil _ _, _ => False
 | .mkslice e sz bytes z l c, K => match gv σ l, gv σ c with
  | .int _ n, .int _ m => onesK (SV.cells z) (Vc (m = n) ∧ Vc (0 ≤ n) ∧ Vc (bytes * n ≤ 281474976710656) ∧ Vc (n ≤ 9223372036854775807) ∧ Ev (K (.own nid) [(nid, .arr e sz (List.replicate n.toNat z))] []))
  | _, _ => False
 | .mkiface t x, K => forceK (gv σ x) fun s => K (.iface t s) [] []
end Go.TV
/- The value calculus, part F: what the evaluator tells of an operation is so (first half: moves, arithmetic, variables, structs). -/
namespace Go.TV
open Go.RowKit
def ids (upd : List (Nat × LB)) (b : Nat) : Prop := b ∈ upd.map (·.1)
def LRun (P : Program) (o : Oper) (σ : List SV) (h : List LB) (nid : Nat) (sv : SV) (upd : List (Nat × LB)) (nb : List Nat) : Prop :=
 ∀ (g : Gh) (a : Act) (w : World), GOk g w → (∀ p ∈ upd, nid ≤ p.1 → ¬ g.dom p.1) →
  (∀ x ∈ o.op.operands.toList, g.den w (gv σ (cOpd x)) (a.eval x)) →
  (∀ b ∈ nb, lbden P w g b (hget h b)) →
  ∃ (v : Value) (w' : World) (g' : Gh), ((execOp a.eval o).run P w = .ok (.value v) w' ∨ ((execOp a.eval o).run P w = .ok .skip w' ∧ v = undef)) ∧ GOk g' w' ∧
   Ext g w g' w' (ids upd) ∧ g'.den w' sv v ∧ (∀ p ∈ upd, lbden P w' g' p.1 p.2) ∧ (∀ b, g'.dom b → g.dom b ∨ ids upd b)
def Safe (h : List LB) (b : Nat) : Prop :=
 match hget h b with
 | .map _ => ∀ i, b ∉ (hget h i).deps
 | .dead => False
 | .tok _ => False
 | .tokp _ _ _ => False
 | _ => True
def EvOK (P : Program) (o : Oper) (σ : List SV) (h : List LB) (nid : Nat) (K : EvK) : Prop :=
 ∃ sv upd nb, K sv upd nb ∧ LRun P o σ h nid sv upd nb ∧ ∀ p ∈ upd, p.1 = nid ∨ (p.1 ∈ nb ∧ Safe h p.1)
section
variable {P : Program} {o : Oper} {σ : List SV} {h : List LB} {nid : Nat} {K : EvK}
theorem LRun.pure {sv : SV} {nb : List Nat}
  (hh : ∀ (g : Gh) (a : Act) (w : World), GOk g w → (∀ x ∈ o.op.operands.toList, g.den w (gv σ (cOpd x)) (a.eval x)) → (∀ b ∈ nb, lbden P w g b (hget h b)) →
   ∃ v, (execOp a.eval o).run P w = .ok (.value v) w ∧ g.den w sv v) : LRun P o σ h nid sv [] nb := by
 intro g a w hg _ hx hb
 obtain ⟨v, h1, h2⟩ := hh g a w hg hx hb
 exact ⟨v, w, g, .inl h1, hg, Ext.refl _ _ _, h2, by simp, fun b hb => .inl hb⟩
theorem EvOK.pure {sv : SV} {nb : List Nat} (hK : K sv [] nb)
  (hh : ∀ (g : Gh) (a : Act) (w : World), GOk g w → (∀ x ∈ o.op.operands.toList, g.den w (gv σ (cOpd x)) (a.eval x)) → (∀ b ∈ nb, lbden P w g b (hget h b)) →
   ∃ v, (execOp a.eval o).run P w = .ok (.value v) w ∧ g.den w sv v) : EvOK P o σ h nid K :=
 ⟨sv, [], nb, hK, .pure hh, by simp⟩
theorem LRun.new {cs : List SV}
  (hh : ∀ (g : Gh) (a : Act) (w : World), GOk g w → (∀ x ∈ o.op.operands.toList, g.den w (gv σ (cOpd x)) (a.eval x)) →
   ∃ (vs : Array Value) (t : TypeId), (execOp a.eval o).run P w = .ok (.value (.pointer (some ⟨w.heap.size, 0, none⟩))) (w.alloc (.cells vs t)) ∧ g.denL w cs vs.toList) :
  LRun P o σ h nid (.ptr nid 0) [(nid, .cells cs)] [] := by
 intro g a w hg hn hx hb
 obtain ⟨vs, t, h1, h2⟩ := hh g a w hg hx
 obtain ⟨e1, e2⟩ := ext_alloc (U := ids [(nid, .cells cs)]) hg (hn (nid, .cells cs) (by simp) (Nat.le_refl _)) (.cells vs t) 0 0
 refine ⟨_, _, _, .inl h1, e1, e2, ?_, ?_, ?_⟩
 ·simp only [Gh.den, den]
  refine ⟨.inr rfl, ⟨_, rfl⟩, fun l hl => ?_⟩
  rw [Gh.add_ι_self] at hl
  obtain rfl := Option.some.inj hl
  rfl
 ·intro p hp
  simp at hp
  subst hp
  exact ⟨_, vs, t, Gh.add_ι_self _ _ _, heap_alloc_new w _, e2.denL hg h2⟩
 ·intro b hb
  rcases hb with hb | hb
  ·exact .inl hb
  ·exact .inr (by simp [ids, hb])
theorem scSV_den {w : World} {imm D : Nat → Prop} {ι : Env} {v : Value} {s : SV} (h : scSV v = some s) : den w imm s D ι v ∧ v.oneCell' = true := by
 cases v <;> simp only [scSV] at h
 case pointer a => cases a <;> first | (obtain rfl := Option.some.inj h; simp [den, Value.oneCell']) | cases h
 case map a => cases a <;> first | (obtain rfl := Option.some.inj h; simp [den, Value.oneCell']) | cases h
 case slice a m c =>
  rcases a with _ | a <;> rcases m with _ | m <;> rcases c with _ | c <;> first | (obtain rfl := Option.some.inj h; simp [den, Value.oneCell']) | cases h
 all_goals (first | (cases h; done) | (obtain rfl := Option.some.inj h; simp [den, Value.oneCell']))
theorem goSV_den {w : World} {imm D : Nat → Prop} {ι : Env} {f : Value → Option SV} (ih : ∀ (v : Value) (s : SV), f v = some s → den w imm s D ι v) :
  ∀ (vs : List Value) (ss : List SV), goSV f vs = some ss → denL w imm ss D ι vs
 | [], ss, h => by simp only [goSV] at h; obtain rfl := Option.some.inj h; simp only [denL]
 | v :: vs, ss, h => by
  simp only [goSV] at h
  split at h
  ·rename_i s hs
   simp only [Option.map_eq_some_iff] at h
   obtain ⟨r, h1, rfl⟩ := h
   simp only [denL]
   exact ⟨v, vs, rfl, ih v s hs, goSV_den ih vs r h1⟩
  ·cases h
theorem toSV_den {w : World} {imm D : Nat → Prop} {ι : Env} (n : Nat) : ∀ (v : Value) (s : SV), toSV n v = some s → den w imm s D ι v := by
 induction n with
 | zero => exact fun v s h => (scSV_den h).1
 | succ n ih =>
  intro v s h
  simp only [toSV] at h
  split at h
  ·simp only [Option.map_eq_some_iff] at h
   obtain ⟨ss, h1, rfl⟩ := h
   simp only [den]
   exact ⟨_, by simp, goSV_den ih _ ss h1⟩
  ·simp only [Option.map_eq_some_iff] at h
   obtain ⟨ss, h1, rfl⟩ := h
   simp only [den]
   exact ⟨_, by simp, goSV_den ih _ ss h1⟩
  ·exact (scSV_den h).1
theorem toSV_cells {w : World} {imm D : Nat → Prop} {ι : Env} {n : Nat} {v : Value} {s : SV} (h : toSV n v = some s) (hs : ∀ cs, s ≠ .tup cs) : denL w imm s.cells D ι v.cells.toList := by
 have hd := toSV_den (w := w) (imm := imm) (D := D) (ι := ι) n v s h
 have key : ∀ {v : Value} {s : SV}, scSV v = some s → denL w imm s.cells D ι v.cells.toList := by
  intro v s h
  obtain ⟨h1, h2⟩ := scSV_den (w := w) (imm := imm) (D := D) (ι := ι) h
  have : s.cells = [s] := by
   cases s <;> simp only [SV.cells]
   rename_i cs
   simp only [den] at h1
   obtain ⟨vs, rfl, _⟩ := h1
   cases h2
  rw [this, cells_one h2]
  exact denL_one h1
 cases n with
 | zero => exact key h
 | succ n =>
  simp only [toSV] at h
  split at h
  ·simp only [Option.map_eq_some_iff] at h
   obtain ⟨ss, h1, rfl⟩ := h
   simp only [den] at hd
   obtain ⟨vs, e, hd⟩ := hd
   rw [e]
   simpa [Value.cells, SV.cells] using hd
  ·simp only [Option.map_eq_some_iff] at h
   obtain ⟨ss, h1, rfl⟩ := h
   exact absurd rfl (hs ss)
  ·exact key h
end
end Go.TV
/- The value calculus, part G: what the evaluator tells of an operation is so (numbers, variables, structs, arrays). -/
namespace Go.TV
open Go.RowKit
section ops
variable {P : Program} {σ : List SV} {h : List LB} {nid : Nat} {K : EvK} {dst : Option Tmp} {ty : TypeId} {pos : String} {aft : Array Edge} {gd : Option (Nat × Bool)}
theorem ev_move {x : Operand} (hK : K (gv σ (cOpd x)) [] []) : EvOK P ⟨dst, .move x, ty, pos, aft, gd⟩ σ h nid K :=
 .pure hK fun g a w hg hx hb => ⟨a.eval x, rfl, hx x (by simp [Op.operands])⟩
theorem ev_assign {x : Operand} (hK : K (gv σ (cOpd x)) [] []) : EvOK P ⟨dst, .assign x, ty, pos, aft, gd⟩ σ h nid K :=
 .pure hK fun g a w hg hx hb => ⟨a.eval x, rfl, hx x (by simp [Op.operands])⟩
theorem ev_pick {c x y : Operand} (hK : ev σ h nid (.pick (cOpd c) (cOpd x) (cOpd y)) K) : EvOK P ⟨dst, .pick c x y, ty, pos, aft, gd⟩ σ h nid K := by
 simp only [ev, forceK_iff, eqK_iff, posK_iff, outK_iff, shK_iff, Ev_iff, Vc_iff] at hK
 split at hK
 ·rename_i e
  refine .pure hK fun g a w hg hx hb => ?_
  have hc := hx c (by simp [Op.operands])
  rw [e] at hc; simp only [Gh.den, den] at hc
  exact ⟨a.eval x, by simp [execOp, hc, asBool], hx x (by simp [Op.operands])⟩
 ·rename_i e
  refine .pure hK fun g a w hg hx hb => ?_
  have hc := hx c (by simp [Op.operands])
  rw [e] at hc; simp only [Gh.den, den] at hc
  exact ⟨a.eval y, by simp [execOp, hc, asBool], hx y (by simp [Op.operands])⟩
 ·exact hK.elim
theorem zeroT_spec {t : TypeId} {z : SV} (hz : zeroT P t = some z) : ∃ i v, P.info? t = some i ∧ i.zero = some v ∧ toSV 8 v = some z ∧ ∀ cs, z ≠ .tup cs := by
 unfold zeroT at hz
 split at hz
 ·rename_i i hi
  split at hz
  ·rename_i v hv
   split at hz
   ·cases hz
   ·rename_i hn
    exact ⟨i, v, hi, hv, hz, fun cs e => hn cs (by rw [hz, e])⟩
  ·cases hz
 ·cases hz
theorem run_zeroValue' {t : TypeId} {i : TypeInfo} {v : Value} (hi : P.info? t = some i) (hv : i.zero = some v) (w : World) : (zeroValue t).run P w = .ok v w := by
 simp [zeroValue, typeInfo, hi, hv]
theorem ev_alloc {t : TypeId} {z : SV} (hz : zeroT P t = some z) (hK : K (.ptr nid 0) [(nid, .cells z.cells)] []) : EvOK P ⟨dst, .alloc t, ty, pos, aft, gd⟩ σ h nid K := by
 refine ⟨_, _, _, hK, .new fun g a w hg hx => ?_, by simp⟩
 obtain ⟨i, v, hi, hv, hs, hn⟩ := zeroT_spec hz
 exact ⟨v.cells, t, by simp [execOp, Instr.alloc, run_zeroValue' hi hv, newVar, newRow], toSV_cells hs hn⟩
theorem ev_box {t : TypeId} {x : Operand} (hK : ev σ h nid (.box (cOpd x)) K) : EvOK P ⟨dst, .box t x, ty, pos, aft, gd⟩ σ h nid K := by
 simp only [ev, forceK_iff, eqK_iff, posK_iff, outK_iff, shK_iff, Ev_iff, Vc_iff] at hK
 -- the cells that the tree has do not hang on the value
 have key : ∃ cs, K (.ptr nid 0) [(nid, .cells cs)] [] ∧ ∀ {w : World} {imm D : Nat → Prop} {ι : Env} {v : Value}, den w imm (gv σ (cOpd x)) D ι v → denL w imm cs D ι v.cells.toList := by
  generalize gv σ (cOpd x) = s at hK
  cases s <;> simp only [cellsK] at hK <;> try exact hK.elim
  case agg cs =>
   have h1 : K (.ptr nid 0) [(nid, .cells cs)] [] := (onesK_iff (w := default) (imm := fun _ => False) (D := fun _ => False) (ι := fun _ => none) hK).1
   refine ⟨cs, h1, fun hd => ?_⟩
   simp only [den] at hd
   obtain ⟨vs, rfl, hd⟩ := hd
   simpa [Value.cells] using hd
  all_goals exact ⟨_, hK, fun hd => by have := den_one hd; simp only at this; rw [cells_one this]; exact denL_one hd⟩
 obtain ⟨cs, h1, h2⟩ := key
 exact ⟨_, _, _, h1, .new fun g a w hg hx => ⟨(a.eval x).cells, t, by simp [execOp, Instr.box, newVar, newRow], h2 (hx x (by simp [Op.operands]))⟩, by simp⟩
theorem ev_nilck {x : Operand} (hK : ev σ h nid (.nilck (cOpd x)) K) : EvOK P ⟨dst, .nilCheck x, ty, pos, aft, gd⟩ σ h nid K := by
 simp only [ev, forceK_iff, eqK_iff, posK_iff, outK_iff, shK_iff, Ev_iff, Vc_iff] at hK
 split at hK
 ·rename_i b off e
  refine .pure hK fun g a w hg hx hb => ?_
  have hc := hx x (by simp [Op.operands])
  rw [e] at hc; have hc' := hc; simp only [Gh.den, den] at hc
  obtain ⟨_, ⟨ad, hv⟩, _⟩ := hc
  exact ⟨a.eval x, by simp [execOp, hv], hc'⟩
 ·rename_i b off e
  refine .pure hK fun g a w hg hx hb => ?_
  have hc := hx x (by simp [Op.operands])
  rw [e] at hc; have hc' := hc; simp only [Gh.den, den] at hc
  obtain ⟨_, ⟨ad, hv⟩, _⟩ := hc
  exact ⟨a.eval x, by simp [execOp, hv], hc'⟩
 ·rename_i b off e
  refine .pure hK fun g a w hg hx hb => ?_
  have hc := hx x (by simp [Op.operands])
  rw [e] at hc; have hc' := hc; simp only [Gh.den, den] at hc
  obtain ⟨r, o, u, hv, _⟩ := hc
  exact ⟨a.eval x, by simp [execOp, hv], hc'⟩
 ·rename_i b off e
  refine .pure hK fun g a w hg hx hb => ?_
  have hc := hx x (by simp [Op.operands])
  rw [e] at hc; have hc' := hc; simp only [Gh.den, den] at hc
  obtain ⟨vf, vc, hv, _⟩ := hc
  exact ⟨a.eval x, by simp [execOp, hv], hc'⟩
 ·exact hK.elim
theorem ikn_inj {k k' : IntKind} (e : ikn k = ikn k') : k = k' := by
 cases k <;> cases k' <;> simp_all [ikn]
theorem ev_neg {t : TypeId} {x : Operand} (hK : ev σ h nid (.neg (cOpd x)) K) : EvOK P ⟨dst, .unOp .neg t x, ty, pos, aft, gd⟩ σ h nid K := by
 simp only [ev, forceK_iff, eqK_iff, posK_iff, outK_iff, shK_iff, Ev_iff, Vc_iff] at hK
 split at hK
 ·rename_i k n e
  refine .pure (hK _ rfl) fun g a w hg hx hb => ?_
  have hc := hx x (by simp [Op.operands])
  rw [e] at hc; simp only [Gh.den, den] at hc
  exact ⟨_, by simp [execOp, hc, Op.unary, Op.intArith]; rfl, by simp [den]⟩
 ·exact hK.elim
theorem ev_not {t : TypeId} {x : Operand} (hK : ev σ h nid (.not (cOpd x)) K) : EvOK P ⟨dst, .unOp .not t x, ty, pos, aft, gd⟩ σ h nid K := by
 simp only [ev, forceK_iff, eqK_iff, posK_iff, outK_iff, shK_iff, Ev_iff, Vc_iff] at hK
 split at hK
 all_goals first | exact hK.elim | skip
 all_goals
  rename_i e
  refine .pure hK fun g a w hg hx hb => ?_
  have hc := hx x (by simp [Op.operands])
  rw [e] at hc; simp only [Gh.den, den] at hc
  exact ⟨_, by simp [execOp, hc, Op.unary]; rfl, by simp [den]⟩
theorem ev_conv {src dt : TypeId} {k ks : IntKind} {x : Operand} (h1 : P.underlying src = some (.int ks)) (h2 : P.underlying dt = some (.int k)) (hK : ev σ h nid (.conv k (cOpd x)) K) :
  EvOK P ⟨dst, .convert src dt x, ty, pos, aft, gd⟩ σ h nid K := by
 simp only [ev, forceK_iff, eqK_iff, posK_iff, outK_iff, shK_iff, Ev_iff, Vc_iff] at hK
 split at hK
 ·rename_i k' n e
  refine .pure (hK _ rfl) fun g a w hg hx hb => ?_
  have hc := hx x (by simp [Op.operands])
  rw [e] at hc; simp only [Gh.den, den] at hc
  exact ⟨_, by simp [execOp, hc, convert, run_underlying h1, run_underlying h2, Conv.intToInt]; rfl, by simp [den]⟩
 ·exact hK.elim
theorem ev_cmp {op : BinOp} {t yt : TypeId} {x y : Operand} (hK : ev σ h nid (.cmp op (cOpd x) (cOpd y)) K) :
  EvOK P ⟨dst, .binOp op t x y yt, ty, pos, aft, gd⟩ σ h nid K := by
 simp only [ev, forceK_iff, eqK_iff, posK_iff, outK_iff, shK_iff, Ev_iff, Vc_iff] at hK
 split at hK
 ·rename_i k m k' n ex ey
  obtain ⟨hk, hK⟩ := hK
  obtain rfl := ikn_inj hk
  have fin : ∀ b : Bool, K (.bool b) [] [] → (∀ w : World, (binOp op t (.int k m) (.int k n)).run P w = .ok (.bool b) w) → EvOK P ⟨dst, .binOp op t x y yt, ty, pos, aft, gd⟩ σ h nid K := fun b hb hr => by
   refine .pure hb fun g a w hg hx _ => ?_
   have hx1 := hx x (by simp [Op.operands])
   have hy1 := hx y (by simp [Op.operands])
   rw [ex] at hx1; rw [ey] at hy1; simp only [Gh.den, den] at hx1 hy1
   refine ⟨.bool b, ?_, by simp [den]⟩
   have hgd : (eqGuard op t x y (.int k m) (.int k n)).run P w = .ok () w := by
    unfold eqGuard; split <;> rfl
   simp [execOp, hx1, hy1, hgd, hr w]
  unfold cmpP at hK
  simp only [Ev_iff] at hK
  split at hK
  ·by_cases c : m = n
   ·exact fin true (hK.1 c) fun w => by simp [binOp, Op.intCmp, c]
   ·exact fin false (hK.2 c) fun w => by simp [binOp, Op.intCmp, c]
  ·by_cases c : m = n
   ·exact fin false (hK.1 c) fun w => by simp [binOp, Op.intCmp, c]
   ·exact fin true (hK.2 c) fun w => by simp [binOp, Op.intCmp, c]
  ·by_cases c : m < n
   ·exact fin true (hK.1 c) fun w => by simp [binOp, Op.intCmp, c]
   ·exact fin false (hK.2 (by omega)) fun w => by simp [binOp, Op.intCmp]; omega
  ·by_cases c : m ≤ n
   ·exact fin true (hK.1 c) fun w => by simp [binOp, Op.intCmp, c]
   ·exact fin false (hK.2 (by omega)) fun w => by simp [binOp, Op.intCmp]; omega
  ·by_cases c : n < m
   ·exact fin true (hK.1 c) fun w => by simp [binOp, Op.intCmp, c]
   ·exact fin false (hK.2 (by omega)) fun w => by simp [binOp, Op.intCmp]; omega
  ·by_cases c : n ≤ m
   ·exact fin true (hK.1 c) fun w => by simp [binOp, Op.intCmp, c]
   ·exact fin false (hK.2 (by omega)) fun w => by simp [binOp, Op.intCmp]; omega
  ·exact hK.elim
 ·exact hK.elim
theorem ev_arith {op : BinOp} {t yt : TypeId} {x y : Operand} (hK : ev σ h nid (.arith op (cOpd x) (cOpd y)) K) :
  EvOK P ⟨dst, .binOp op t x y yt, ty, pos, aft, gd⟩ σ h nid K := by
 simp only [ev, forceK_iff, eqK_iff, posK_iff, outK_iff, shK_iff, Ev_iff, Vc_iff] at hK
 split at hK
 ·rename_i k m k' n ex ey
  obtain ⟨hk, hK⟩ := hK
  have fin : ∀ r : Int, K (.int k r) [] [] → (∀ w : World, (binOp op t (.int k m) (.int k' n)).run P w = .ok (.int k r) w) → EvOK P ⟨dst, .binOp op t x y yt, ty, pos, aft, gd⟩ σ h nid K := fun r hb hr => by
   refine .pure hb fun g a w hg hx _ => ?_
   have hx1 := hx x (by simp [Op.operands])
   have hy1 := hx y (by simp [Op.operands])
   rw [ex] at hx1; rw [ey] at hy1; simp only [Gh.den, den] at hx1 hy1
   refine ⟨.int k r, ?_, by simp [den]⟩
   have hgd : (eqGuard op t x y (.int k m) (.int k' n)).run P w = .ok () w := by
    unfold eqGuard; split <;> rfl
   simp [execOp, hx1, hy1, hgd, hr w]
  unfold arithP at hK
  simp only [Ev_iff, Vc_iff] at hK
  split at hK
  case h_6 => exact fin _ (hK.2 _ rfl) fun w => by simp [binOp, Op.shift, Int.not_lt.2 hK.1]
  case h_7 => exact fin _ (hK.2 _ rfl) fun w => by simp [binOp, Op.shift, Int.not_lt.2 hK.1]
  case h_11 => exact hK.elim
  all_goals
   have hkk : k = k' := by
    rcases hk with hk | hk
    ·simp [isShift] at hk
    ·exact ikn_inj hk
   subst hkk
  ·exact fin _ (hK _ rfl) fun w => by simp [binOp, Op.intArith]
  ·exact fin _ (hK _ rfl) fun w => by simp [binOp, Op.intArith]
  ·exact fin _ (hK _ rfl) fun w => by simp [binOp, Op.intArith]
  ·exact fin _ (hK.2 _ rfl) fun w => by simp [binOp, Op.intDiv, hK.1]
  ·exact fin _ (hK.2 _ rfl) fun w => by simp [binOp, Op.intDiv, hK.1]
  ·exact fin _ (hK _ rfl) fun w => by simp [binOp, Op.intBits]
  ·exact fin _ (hK _ rfl) fun w => by simp [binOp, Op.intBits]
  ·exact fin _ (hK _ rfl) fun w => by simp [binOp, Op.intBits]
 ·exact hK.elim
end ops
end Go.TV
/- The value calculus, part H: what the evaluator tells of an operation is so (loads, stores, structs, arrays, slices that are read). -/
namespace Go.TV
open Go.RowKit
theorem partK_spec {agg : Bool} {off sz : Nat} {s : SV} {k : SV → Prop} (hk : partK agg off sz s k) :
  ∃ s', k s' ∧ ∀ {w : World} {imm D : Nat → Prop} {ι : Env} {v : Value}, den w imm s D ι v →
   (agg = true → off + sz ≤ v.cells.size ∧ den w imm s' D ι (.agg (v.cells.extract off (off + sz)))) ∧ (agg = false → ∃ u, v.cells[off]? = some u ∧ den w imm s' D ι u) := by
 cases s <;> simp only [partK] at hk <;> try exact hk.elim
 case agg cs =>
  cases agg with
  | true =>
   simp only at hk
   obtain ⟨h1, h2⟩ := dropK_iff _ _ _ hk
   obtain ⟨h3, h4⟩ := takeK_iff _ _ _ h1
   refine ⟨_, h3, fun hd => ⟨fun _ => ?_, fun e => by cases e⟩⟩
   simp only [den] at hd
   obtain ⟨vs, rfl, hd⟩ := hd
   have hl := denL_len hd
   simp at h4
   refine ⟨by simp [Value.cells]; omega, ?_⟩
   simp only [den]
   refine ⟨(vs.drop off).take sz, ?_, denL_take (denL_drop hd)⟩
   simp [Value.cells]
  | false =>
   simp only at hk
   obtain ⟨s', h1, h2⟩ := getK_iff _ _ _ hk
   refine ⟨s', h2, fun hd => ⟨(by intro e; cases e), fun _ => ?_⟩⟩
   simp only [den] at hd
   obtain ⟨vs, rfl, hd⟩ := hd
   obtain ⟨u, hu, hd'⟩ := denL_get hd h1
   exact ⟨u, by simpa [Value.cells] using hu, hd'⟩
 all_goals
  cases agg with
  | true => exact hk.elim
  | false =>
   cases off with
   | succ off => exact hk.elim
   | zero =>
    simp only at hk
    refine ⟨_, hk, fun hd => ⟨(by intro e; cases e), fun _ => ?_⟩⟩
    have h1 := den_one hd
    simp only at h1
    rw [cells_one h1]
    exact ⟨_, rfl, hd⟩
theorem flat_get (sz : Nat) : ∀ (vs : List Value) (i : Nat) (v : Value) (j : Nat) (c : Value), (∀ u ∈ vs, u.cells.size = sz) → vs[i]? = some v → v.cells[j]? = some c →
  (vs.flatMap (·.cells.toList))[i * sz + j]? = some c
 | [], i, _, _, _, _, h, _ => by simp at h
 | u :: us, 0, v, j, c, hsz, h, hj => by
  simp at h; subst h
  have := (Array.getElem?_eq_some_iff.1 hj).1
  simp only [List.flatMap_cons, Nat.zero_mul, Nat.zero_add]
  rw [List.getElem?_append_left (by simpa using this)]
  simpa using hj
 | u :: us, i + 1, v, j, c, hsz, h, hj => by
  have hu := hsz u (by simp)
  have h5 := flat_get sz us i v j c (fun x hx => hsz x (by simp [hx])) (by simpa using h) hj
  simp only [List.flatMap_cons]
  rw [List.getElem?_append_right (by simp only [Array.length_toList, hu, Nat.succ_mul]; omega)]
  simp only [Array.length_toList, hu]
  rw [show (i + 1) * sz + j - sz = i * sz + j by rw [Nat.succ_mul]; omega]
  exact h5
section ops
variable {P : Program} {σ : List SV} {h : List LB} {nid : Nat} {K : EvK} {dst : Option Tmp} {ty : TypeId} {pos : String} {aft : Array Edge} {gd : Option (Nat × Bool)}
theorem run_isAggT {t : TypeId} {b : Bool} (hb : isAggT P t = some b) (w : World) : (isAgg t).run P w = .ok b w := by
 unfold isAggT at hb
 split at hb
 ·rename_i hu; obtain rfl := Option.some.inj hb; simp [isAgg, run_underlying hu]
 ·rename_i hu; obtain rfl := Option.some.inj hb; simp [isAgg, run_underlying hu]
 ·rename_i d h1 h2 hu
  obtain rfl := Option.some.inj hb
  simp only [isAgg, Sem.run_bind, run_underlying hu, Result.andThen]
  cases d <;> first | rfl | exact (h1 _ rfl).elim | exact (h2 _ _ rfl).elim
 ·cases hb
theorem run_sizeT {t : TypeId} {s : Nat} (hs : sizeT P t = some s) (w : World) : (sizeOf t).run P w = .ok s w := by
 unfold sizeT at hs
 simp only [Option.map_eq_some_iff] at hs
 obtain ⟨i, hi, rfl⟩ := hs
 simp [sizeOf, typeInfo, hi]
theorem addr_add (r o n : Nat) : (⟨r, o, none⟩ : Addr).add n = ⟨r, o + n, none⟩ := by
 unfold Addr.add
 split
 ·simp_all
 ·rfl
theorem run_loadVar_at {t : TypeId} {agg : Bool} {sz : Nat} (hb : isAggT P t = some agg) (hs : sizeT P t = some sz) (w : World) (r o off : Nat) (vs : Array Value)
  (hc : ∀ j c, vs[j]? = some c → w.cell? ⟨r, o + j, none⟩ = some c) :
  (agg = true → off + sz ≤ vs.size → (loadVar t ⟨r, o + off, none⟩).run P w = .ok (.agg (vs.extract off (off + sz))) w) ∧
  (agg = false → ∀ u, vs[off]? = some u → (loadVar t ⟨r, o + off, none⟩).run P w = .ok u w) := by
 constructor
 ·rintro rfl hle
  have hl := run_loadCells_list (P := P) w ⟨r, o + off, none⟩ ((vs.toList.drop off).take sz) (fun j v hv => by
   rw [addr_add]
   rw [List.getElem?_take] at hv
   split at hv
   ·rw [List.getElem?_drop] at hv
    have := hc (off + j) v (by simpa using hv)
    rwa [← Nat.add_assoc] at this
   ·cases hv)
  have hlen : ((vs.toList.drop off).take sz).length = sz := by simp; omega
  rw [hlen] at hl
  simp only [loadVar, Sem.run_bind, run_isAggT hb, Result.andThen, if_true, run_sizeT hs, hl]
  simp only [Sem.run_pure]
  congr 2
  apply Array.ext'
  simp
 ·rintro rfl u hu
  have := hc off u hu
  simp only [loadVar, Sem.run_bind, run_isAggT hb, Result.andThen, Bool.false_eq_true, if_false]
  simp [this]
theorem cell_of_cells {w : World} {r : Nat} {vs : Array Value} {t : TypeId} {fr : Nat × Nat} (hh : w.heap[r]? = some (.cells vs t fr)) (j : Nat) (c : Value) (hc : vs[j]? = some c) :
  w.cell? ⟨r, 0 + j, none⟩ = some c := by
 simp [World.cell?, hh, hc]
theorem ev_load {t : TypeId} {agg : Bool} {sz : Nat} {x : Operand} (hb : isAggT P t = some agg) (hs : sizeT P t = some sz) (hK : ev σ h nid (.load agg sz (cOpd x)) K) :
  EvOK P ⟨dst, .load t x, ty, pos, aft, gd⟩ σ h nid K := by
 simp only [ev, forceK_iff, eqK_iff, posK_iff, outK_iff, shK_iff, Ev_iff, Vc_iff] at hK
 -- from a run of loadVar to the claim
 have fin : ∀ {a : Act} {w : World} {r o off : Nat} {v : Value} {s' : SV} {imm D : Nat → Prop} {ι : Env}, a.eval x = .pointer (some ⟨r, o + off, none⟩) → (∀ j c, v.cells[j]? = some c → w.cell? ⟨r, o + j, none⟩ = some c) →
   ((agg = true → off + sz ≤ v.cells.size ∧ den w imm s' D ι (.agg (v.cells.extract off (off + sz)))) ∧ (agg = false → ∃ u, v.cells[off]? = some u ∧ den w imm s' D ι u)) →
   ∃ v, (execOp a.eval ⟨dst, .load t x, ty, pos, aft, gd⟩).run P w = .ok (.value v) w ∧ den w imm s' D ι v := by
  intro a w r o off v s' imm D ι he hc hp
  obtain ⟨h1, h2⟩ := run_loadVar_at hb hs w r o off v.cells hc
  cases agg with
  | true =>
   obtain ⟨h3, h4⟩ := hp.1 rfl
   exact ⟨_, by simp [execOp, Instr.loadAt, he, Instr.sureAddr, h1 rfl h3], h4⟩
  | false =>
   obtain ⟨u, h3, h4⟩ := hp.2 rfl
   exact ⟨_, by simp [execOp, Instr.loadAt, he, Instr.sureAddr, h2 rfl u h3], h4⟩
 split at hK
 ·rename_i b off e
  split at hK
  ·rename_i cs hcs
   obtain ⟨s', h1, h2⟩ := partK_spec hK
   refine .pure h1 fun g a w hg hx hbl => ?_
   have hc := hx x (by simp [Op.operands])
   rw [e] at hc; simp only [Gh.den, den] at hc
   have hl := hbl b (by simp)
   rw [hcs] at hl
   obtain ⟨l, vs, t', hi, hh, hd⟩ := hl
   have hv : den w g.imm (.agg cs) g.dom g.ι (.agg vs) := by simp only [den]; exact ⟨vs.toList, by simp, hd⟩
   exact fin (o := 0) (v := .agg vs) ((hc.2.2 l hi).trans (by simp)) (fun j c hj => cell_of_cells hh j c (by simpa [Value.cells] using hj)) (h2 hv)
  ·exact hK.elim
 ·rename_i b sz' i off e
  split at hK
  ·rename_i te sz2 es hcs
   obtain ⟨rfl, hlt, hK⟩ := hK
   obtain ⟨e0, he0⟩ : ∃ e0, es[i]? = some e0 := ⟨_, List.getElem?_eq_getElem hlt⟩
   obtain ⟨s', h1, h2⟩ := partK_spec (hK e0 he0)
   refine .pure h1 fun g a w hg hx hbl => ?_
   have hc := hx x (by simp [Op.operands])
   rw [e] at hc; simp only [Gh.den, den] at hc
   have hl := hbl b (by simp)
   rw [hcs] at hl
   obtain ⟨l, vs, hi, hn, hd, hsz, hown⟩ := hl
   obtain ⟨v, hv, hdv⟩ := denL_get hd he0
   have hcell : ∀ j c, v.cells[j]? = some c → w.cell? ⟨l.blk, i * sz' + j, none⟩ = some c := by
    intro j c hj
    have hfl := flat_get sz' vs i v j c (fun u hu => (hsz u hu).1) hv hj
    have := hown.cells (g := l.blk) (by simp [Value.ownBlock]) (i * sz' + j) c hfl
    rw [addr_add] at this
    simpa using this
   exact fin (o := i * sz') (v := v) ((hc.2.2 l hi).trans (by simp)) hcell (h2 hdv)
  ·exact hK.elim
 ·rename_i e0 off e
  obtain ⟨s', h1, h2⟩ := partK_spec hK
  refine .pure h1 fun g a w hg hx hbl => ?_
  have hc := hx x (by simp [Op.operands])
  rw [e] at hc; simp only [Gh.den, den] at hc
  obtain ⟨r, o, u, hv, hi, hd, hcell⟩ := hc
  have hd' : den w g.imm e0 g.dom g.ι u := den.mono (fun _ h => h) (fun _ _ => rfl) e0 (fun _ h => h.elim) (fun _ _ h => h.elim) hd
  exact fin (o := o) (v := u) hv hcell (h2 hd')
 ·exact hK.elim
theorem ev_faddr {s : TypeId} {fs : Array Field} {f off sz : Nat} {x : Operand} (hu : P.underlying s = some (.struct fs)) (hf : fieldAt? P fs f = some (off, sz)) (h0 : sz ≠ 0) (hK : ev σ h nid (.faddr off (cOpd x)) K) :
  EvOK P ⟨dst, .fieldAddr s x f, ty, pos, aft, gd⟩ σ h nid K := by
 unfold fieldAt? at hf
 split at hf
 case h_2 => cases hf
 rename_i fd hfd
 simp only [Option.map_eq_some_iff, Prod.mk.injEq] at hf
 obtain ⟨_, hsz, rfl, rfl⟩ := hf
 simp only [ev, forceK_iff, eqK_iff, posK_iff, outK_iff, shK_iff, Ev_iff, Vc_iff] at hK
 have run : ∀ (a : Act) (w : World) (r o : Nat), a.eval x = .pointer (some ⟨r, o, none⟩) →
   (execOp a.eval ⟨dst, .fieldAddr s x f, ty, pos, aft, gd⟩).run P w = .ok (.value (.pointer (some ⟨r, o + fd.offset, none⟩))) w := by
  intro a w r o he
  simp [execOp, Instr.fieldAt, run_underlying hu, hfd, he, Instr.sureAddr, fieldPlace, run_sizeT hsz, h0, addr_add]
 -- (when the block is no longer told, the pointer's own place is not known; its kind is)
 have run' : ∀ (a : Act) (w : World) (ad : Addr), a.eval x = .pointer (some ad) →
   (execOp a.eval ⟨dst, .fieldAddr s x f, ty, pos, aft, gd⟩).run P w = .ok (.value (.pointer (some (ad.add fd.offset)))) w := by
  intro a w ad he
  simp [execOp, Instr.fieldAt, run_underlying hu, hfd, he, Instr.sureAddr, fieldPlace, run_sizeT hsz, h0]
 split at hK
 ·rename_i b o e
  refine .pure hK fun g a w hg hx hb => ?_
  have hc := hx x (by simp [Op.operands])
  rw [e] at hc; simp only [Gh.den, den] at hc
  obtain ⟨hd, ⟨ad, hv⟩, hl⟩ := hc
  refine ⟨_, run' a w ad hv, ?_⟩
  simp only [den]
  refine ⟨hd, ⟨_, rfl⟩, fun l hi => ?_⟩
  have h2 := hl l hi
  rw [hv] at h2
  have h3 : ad = ⟨l.blk, o, none⟩ := by simpa using h2
  rw [h3, addr_add]
 ·rename_i b sz' i o e
  refine .pure hK fun g a w hg hx hb => ?_
  have hc := hx x (by simp [Op.operands])
  rw [e] at hc; simp only [Gh.den, den] at hc
  obtain ⟨hd, ⟨ad, hv⟩, hl⟩ := hc
  refine ⟨_, run' a w ad hv, ?_⟩
  simp only [den]
  refine ⟨hd, ⟨_, rfl⟩, fun l hi => ?_⟩
  have h2 := hl l hi
  rw [hv] at h2
  have h3 : ad = ⟨l.blk, i * sz' + o, none⟩ := by simpa using h2
  rw [h3, addr_add, Nat.add_assoc]
 ·rename_i e0 o e
  refine .pure hK fun g a w hg hx hb => ?_
  have hc := hx x (by simp [Op.operands])
  rw [e] at hc; simp only [Gh.den, den] at hc
  obtain ⟨r, o', u, hv, hi, hd, hcell⟩ := hc
  refine ⟨_, run a w r _ hv, ?_⟩
  simp only [den]
  exact ⟨r, o', u, by rw [Nat.add_assoc], hi, hd, hcell⟩
 ·exact hK.elim
theorem run_part {t : TypeId} {agg : Bool} {sz : Nat} (hb : isAggT P t = some agg) (hs : sizeT P t = some sz) (w : World) (cs : Array Value) (off : Nat) :
  (agg = true → (part t cs off).run P w = .ok (.agg (cs.extract off (off + sz))) w) ∧ (agg = false → ∀ u, cs[off]? = some u → (part t cs off).run P w = .ok u w) := by
 constructor
 ·rintro rfl
  simp [part, run_isAggT hb, run_sizeT hs]
 ·rintro rfl u hu
  simp [part, run_isAggT hb, hu]
theorem ev_field {s : TypeId} {fs : Array Field} {f : Nat} {fd : Field} {agg : Bool} {sz : Nat} {x : Operand} (hu : P.underlying s = some (.struct fs)) (hf : fs[f]? = some fd)
  (hb : isAggT P fd.type = some agg) (hs : sizeT P fd.type = some sz) (hK : ev σ h nid (.field agg fd.offset sz (cOpd x)) K) :
  EvOK P ⟨dst, .field s x f, ty, pos, aft, gd⟩ σ h nid K := by
 simp only [ev, forceK_iff, eqK_iff, posK_iff, outK_iff, shK_iff, Ev_iff, Vc_iff] at hK
 split at hK
 ·rename_i cs e
  obtain ⟨s', h1, h2⟩ := partK_spec hK
  refine .pure h1 fun g a w hg hx hbl => ?_
  have hc := hx x (by simp [Op.operands])
  rw [e] at hc
  have h3 := h2 hc
  simp only [Gh.den, den] at hc
  obtain ⟨vs, hv, hd⟩ := hc
  rw [hv] at h3
  simp only [Value.cells] at h3
  obtain ⟨r1, r2⟩ := run_part hb hs w vs.toArray fd.offset
  cases agg with
  | true => exact ⟨_, by simp only [execOp, Instr.field, Sem.run_bind, run_underlying hu, Result.andThen, hf, hv, asAgg, Sem.run_pure, r1 rfl], (h3.1 rfl).2⟩
  | false =>
   obtain ⟨u, hu', hd'⟩ := h3.2 rfl
   exact ⟨u, by simp only [execOp, Instr.field, Sem.run_bind, run_underlying hu, Result.andThen, hf, hv, asAgg, Sem.run_pure, r2 rfl u hu'], hd'⟩
 ·exact hK.elim
theorem ev_extract {x : Operand} {i : Nat} (hK : ev σ h nid (.extract (cOpd x) i) K) : EvOK P ⟨dst, .extract x i, ty, pos, aft, gd⟩ σ h nid K := by
 simp only [ev, forceK_iff, eqK_iff, posK_iff, outK_iff, shK_iff, Ev_iff, Vc_iff] at hK
 split at hK
 ·rename_i vs e
  obtain ⟨s', h1, h2⟩ := getK_iff _ _ _ hK
  refine .pure h2 fun g a w hg hx hbl => ?_
  have hc := hx x (by simp [Op.operands])
  rw [e] at hc; simp only [Gh.den, den] at hc
  obtain ⟨us, hv, hd⟩ := hc
  obtain ⟨u, hu, hd'⟩ := denL_get hd h1
  exact ⟨u, by simp [execOp, Instr.extract, hv, hu], hd'⟩
 ·exact hK.elim
end ops
end Go.TV
/- The value calculus, part I: what the evaluator tells of an operation is so (stores, literals, slices that are read, append). -/
namespace Go.TV
open Go.RowKit
theorem cellsK_spec {s : SV} {k : List SV → Prop} (h : cellsK s k) :
  ∃ cs, k cs ∧ ∀ {w : World} {imm D : Nat → Prop} {ι : Env} {v : Value}, den w imm s D ι v → denL w imm cs D ι v.cells.toList ∧ ∀ u ∈ v.cells.toList, u.oneCell' = true := by
 cases s <;> simp only [cellsK] at h <;> try exact h.elim
 case agg cs =>
  have h1 := (onesK_iff (w := default) (imm := fun _ => False) (D := fun _ => False) (ι := fun _ => none) h).1
  refine ⟨cs, h1, fun {w imm D ι v} hd => ?_⟩
  simp only [den] at hd
  obtain ⟨vs, rfl, hd⟩ := hd
  exact ⟨by simpa [Value.cells] using hd, by simpa [Value.cells] using (onesK_iff (w := w) (imm := imm) (D := D) (ι := ι) h).2 hd⟩
 all_goals
  refine ⟨_, h, fun hd => ?_⟩
  have := den_one hd
  simp only at this
  exact ⟨by rw [cells_one this]; exact denL_one hd, by rw [cells_one this]; simpa using this⟩
theorem denL_splice {w : World} {imm D : Nat → Prop} {ι : Env} {cs vs : List SV} {us ws : List Value} (n : Nat) (h1 : denL w imm cs D ι us) (h2 : denL w imm vs D ι ws) :
  denL w imm (cs.take n ++ vs ++ cs.drop (n + vs.length)) D ι (us.take n ++ ws ++ us.drop (n + ws.length)) := by
 have e := denL_len h2
 rw [e]
 exact denL_append (denL_append (denL_take h1) h2) (denL_drop h1)
theorem putK_spec {off sz : Nat} {vs : List SV} {e0 : SV} {k : SV → Prop} (hk : putK off sz vs e0 k) :
  ∃ s, k s ∧ vs.length = sz ∧ ∀ {w : World} {imm D : Nat → Prop} {ι : Env} {v : Value} {ws : List Value}, den w imm e0 D ι v → denL w imm vs D ι ws → (∀ u ∈ ws, u.oneCell' = true) →
   off + sz ≤ v.cells.size ∧ ∃ u, u.cells = (v.cells.toList.take off ++ ws ++ v.cells.toList.drop (off + ws.length)).toArray ∧ den w imm s D ι u := by
 cases e0 <;> simp only [putK, Ev_iff] at hk <;> try exact hk.elim
 case agg cs =>
  obtain ⟨h1, h2⟩ := hk
  have h1 := lenIs_iff h1
  obtain ⟨h3, h4⟩ := spliceK_iff _ _ _ _ h2
  refine ⟨_, h3, h1, fun hd hv h1' => ?_⟩
  simp only [den] at hd
  obtain ⟨us, rfl, hd⟩ := hd
  have hl := denL_len hd
  refine ⟨by simp [Value.cells]; omega, .agg _, rfl, ?_⟩
  simp only [den]
  exact ⟨_, rfl, by simpa [Value.cells] using denL_splice off hd hv⟩
 all_goals
  rcases off with _ | off
  ·rcases vs with _ | ⟨v, _ | ⟨v', vs⟩⟩
   ·exact hk.elim
   ·obtain ⟨rfl, h1⟩ := hk
    refine ⟨v, h1, rfl, fun hd hv h1' => ?_⟩
    have h5 := den_one hd
    simp only at h5
    simp only [denL] at hv
    obtain ⟨u, us, rfl, hu, rfl⟩ := hv
    refine ⟨by rw [cells_one h5]; simp, u, ?_, hu⟩
    rw [cells_one h5, cells_one (h1' u (by simp))]
    simp
   ·exact hk.elim
  ·exact hk.elim
theorem flat_set (sz off : Nat) (ws : List Value) : ∀ (vs : List Value) (i : Nat) (v u : Value), (∀ x ∈ vs, x.cells.size = sz) → vs[i]? = some v → off + ws.length ≤ sz →
  u.cells = (v.cells.toList.take off ++ ws ++ v.cells.toList.drop (off + ws.length)).toArray →
  (vs.set i u).flatMap (·.cells.toList) = (vs.flatMap (·.cells.toList)).take (i * sz + off) ++ ws ++ (vs.flatMap (·.cells.toList)).drop (i * sz + off + ws.length)
 | [], _, _, _, _, h, _, _ => by simp at h
 | x :: xs, 0, v, u, hsz, h, hle, hu => by
  simp at h; subst h
  have hx := hsz x (by simp)
  have hx' : x.cells.toList.length = sz := by simpa using hx
  simp only [List.set_cons_zero, List.flatMap_cons, Nat.zero_mul, Nat.zero_add, hu]
  rw [List.take_append_of_le_length (by omega), List.drop_append_of_le_length (by omega)]
  simp
 | x :: xs, i + 1, v, u, hsz, h, hle, hu => by
  have hx := hsz x (by simp)
  have hx' : x.cells.toList.length = sz := by simpa using hx
  have ih := flat_set sz off ws xs i v u (fun y hy => hsz y (by simp [hy])) (by simpa using h) hle hu
  simp only [List.set_cons_succ, List.flatMap_cons, ih]
  have e1 : (i + 1) * sz + off = x.cells.toList.length + (i * sz + off) := by rw [hx', Nat.succ_mul]; omega
  rw [e1, List.take_length_add_append, Nat.add_assoc (x.cells.toList.length), List.drop_length_add_append]
  simp
theorem take_splice {α : Type} (l ws : List α) (p n : Nat) (h : p + ws.length ≤ n) (hn : n ≤ l.length) :
  (l.take p ++ ws ++ l.drop (p + ws.length)).take n = (l.take n).take p ++ ws ++ (l.take n).drop (p + ws.length) := by
 rw [List.take_append, List.take_of_length_le (by simp; omega), List.take_take, List.drop_take]
 have e1 : min p n = p := by omega
 have e2 : (l.take p ++ ws).length = p + ws.length := by simp; omega
 rw [e1, e2]
section ops
variable {P : Program} {σ : List SV} {h : List LB} {nid : Nat} {K : EvK} {dst : Option Tmp} {ty : TypeId} {pos : String} {aft : Array Edge} {gd : Option (Nat × Bool)}
theorem ev_store {t : TypeId} {sz : Nat} {x y : Operand} (hs : sizeT P t = some sz) (hK : ev σ h nid (.store sz (cOpd x) (cOpd y)) K) :
  EvOK P ⟨dst, .store t x y, ty, pos, aft, gd⟩ σ h nid K := by
 simp only [ev, forceK_iff, eqK_iff, posK_iff, outK_iff, shK_iff, Ev_iff, Vc_iff] at hK
 have run : ∀ (a : Act) (w : World) (r o : Nat) (cur : Array Value) (te : TypeId), a.eval x = .pointer (some ⟨r, o, none⟩) → w.heap[r]? = some (.cells cur te (0, 0)) → (a.eval y).cells.size = sz →
   o + sz ≤ cur.size → (∀ u ∈ (a.eval y).cells.toList, u.oneCell' = true) →
   (execOp a.eval ⟨dst, .store t x y, ty, pos, aft, gd⟩).run P w =
    .ok .skip (w.setRow r (cur.toList.take o ++ (a.eval y).cells.toList ++ cur.toList.drop (o + (a.eval y).cells.toList.length)).toArray) := by
  intro a w r o cur te he hh hsz hle h1
  have := run_storeCells_at P r o te (a.eval y).cells.toList 0 cur w hh (by simp; omega) h1
  simp only [Nat.add_zero] at this
  simp [execOp, Instr.storeAt, he, Instr.sureAddr, storeVar, run_sizeT hs, hsz, this]
 have row : ∀ (w : World) (r : Nat) (cs : Array Value), ∀ k, k ≠ r → (w.setRow r cs).heap[k]? = w.heap[k]? := fun w r cs k hk => setRow_other w r k cs hk
 split at hK
 ·rename_i b off e
  split at hK
  ·rename_i cs hcs
   obtain ⟨vs, ⟨h1, h2⟩, hc2⟩ := cellsK_spec hK
   have h1 := lenIs_iff h1
   obtain ⟨h3, h4⟩ := spliceK_iff _ _ _ _ h2
   refine ⟨_, _, _, h3, ?_, by intro p hp; simp at hp; subst hp; exact .inr ⟨by simp, by simp [Safe, hcs]⟩⟩
   intro g a w hg _ hx hbl
   have hcx := hx x (by simp [Op.operands])
   have hcy := hx y (by simp [Op.operands])
   rw [e] at hcx; simp only [Gh.den, den] at hcx
   obtain ⟨hdy, hone⟩ := hc2 hcy
   have hl := hbl b (by simp)
   rw [hcs] at hl
   obtain ⟨l, us, te, hi, hh, hd⟩ := hl
   have hsz : (a.eval y).cells.size = sz := by have := denL_len hdy; simp at this; omega
   have hlen : us.size = cs.length := by have := denL_len hd; simpa using this
   have hr := run a w l.blk off us te (hcx.2.2 l hi) hh hsz (by omega) hone
   obtain ⟨g1, g2⟩ := ext_set (U := ids [(b, LB.cells (List.take off cs ++ vs ++ List.drop (off + vs.length) cs))]) hg hi (by simp [ids]) (w' := w.setRow l.blk (us.toList.take off ++ (a.eval y).cells.toList ++ us.toList.drop (off + (a.eval y).cells.toList.length)).toArray) rfl rfl rfl (by simp) (row _ _ _)
   refine ⟨undef, _, g, .inr ⟨hr, rfl⟩, g1, g2, by simp [den, denL, undef], ?_, fun b hb => .inl hb⟩
   intro p hp
   simp at hp
   subst hp
   exact ⟨l, _, te, hi, setRow_heap w l.blk us _ te _ hh, by simpa using denL_splice off (g2.denL hg hd) (g2.denL hg hdy)⟩
  ·exact hK.elim
 ·rename_i b sz' i off e
  split at hK
  ·rename_i te sz2 es hcs
   obtain ⟨rfl, hlt, hK⟩ := hK
   obtain ⟨e0, he0⟩ : ∃ e0, es[i]? = some e0 := ⟨_, List.getElem?_eq_getElem hlt⟩
   obtain ⟨vs, h1, hc2⟩ := cellsK_spec (hK e0 he0)
   obtain ⟨s, h3, hvl, hput⟩ := putK_spec h1
   refine ⟨_, _, _, h3, ?_, by intro p hp; simp at hp; subst hp; exact .inr ⟨by simp, by simp [Safe, hcs]⟩⟩
   intro g a w hg _ hx hbl
   have hcx := hx x (by simp [Op.operands])
   have hcy := hx y (by simp [Op.operands])
   rw [e] at hcx; simp only [Gh.den, den] at hcx
   obtain ⟨hdy, hone⟩ := hc2 hcy
   have hl := hbl b (by simp)
   rw [hcs] at hl
   obtain ⟨l, us, hi, hn, hd, hszs, hown⟩ := hl
   have hsz : (a.eval y).cells.size = sz := by have := denL_len hdy; simp at this; omega
   obtain ⟨v0, hv0, hd0⟩ := denL_get hd he0
   obtain ⟨hle, u, huc, hdu⟩ := hput hd0 hdy hone
   obtain ⟨hv0sz, hv0one⟩ := hszs v0 (List.mem_of_getElem? hv0)
   have hilt : i < us.length := (List.getElem?_eq_some_iff.1 hv0).1
   have husl : us.length = es.length := denL_len hd
   obtain ⟨hx1, hx2⟩ := hown
   rcases hx2 with ⟨hx2, _⟩ | ⟨r, cap, cur, hx2, hx3, hx4, hx5, hx6, hx7, hx8⟩
   ·cases hx2
   have hrb : r = l.blk ∧ cap = l.cap := by cases hx2; exact ⟨rfl, rfl⟩
   obtain ⟨rfl, rfl⟩ := hrb
   have hbound : i * sz' + off + sz ≤ l.len * sz' := by
    have : (i + 1) * sz' ≤ l.len * sz' := Nat.mul_le_mul_right _ (by omega)
    rw [Nat.succ_mul] at this; omega
   have hcb : l.len * sz' ≤ cur.size := by rw [hx7]; exact Nat.mul_le_mul_right _ hx5
   have hr := run a w l.blk (i * sz' + off) cur te (hcx.2.2 l hi) hx4 hsz (by omega) hone
   obtain ⟨g1, g2⟩ := ext_set (U := ids [(b, LB.arr te sz' (es.set i s))]) hg hi (by simp [ids]) (w' := w.setRow l.blk (cur.toList.take (i * sz' + off) ++ (a.eval y).cells.toList ++ cur.toList.drop (i * sz' + off + (a.eval y).cells.toList.length)).toArray) rfl rfl rfl (by simp) (row _ _ _)
   refine ⟨undef, _, g, .inr ⟨hr, rfl⟩, g1, g2, by simp [den, denL, undef], ?_, fun b hb => .inl hb⟩
   intro p hp
   simp at hp
   subst hp
   have hyl : (a.eval y).cells.toList.length = sz := by simpa using hsz
   have hflat := flat_set sz' off (a.eval y).cells.toList us i v0 u (fun x hx => (hszs x hx).1) hv0 (by omega) huc
   have husz : u.cells.size = sz' := by rw [huc]; simp; omega
   refine ⟨l, us.set i u, hi, by simpa using hn, denL_set (g2.denL hg hd) (g2.den hg hdu), ?_, ?_⟩
   ·intro x hx
    rcases List.mem_or_eq_of_mem_set hx with hx | rfl
    ·exact hszs x hx
    ·refine ⟨husz, fun c hc => ?_⟩
     rw [huc] at hc
     rcases List.mem_append.1 hc with hc | hc
     ·rcases List.mem_append.1 hc with hc | hc
      ·exact hv0one c (List.mem_of_mem_take hc)
      ·exact hone c hc
     ·exact hv0one c (List.mem_of_mem_drop hc)
   ·refine ⟨?_, .inr ⟨l.blk, l.cap, _, rfl, Nat.zero_le _, setRow_heap w l.blk cur _ te _ hx4, hx5, hx6, ?_, ?_⟩⟩
    ·rw [hflat]; simp only [List.length_append, List.length_take, List.length_drop, hx1]; omega
    ·simp only [List.size_toArray, List.length_append, List.length_take, List.length_drop, Array.length_toList]; simp only [Array.length_toList] at hyl; omega
    ·rw [hflat, ← hx8]
     exact take_splice cur.toList _ _ _ (by omega) (by simpa using hcb)
  ·exact hK.elim
 ·exact hK.elim
end ops
end Go.TV
/- The value calculus, part J: what the evaluator tells of an operation is so (struct literals, elements' addresses, functions, lengths, slices of slices). -/
namespace Go.TV
open Go.RowKit
theorem fold_fill (vs : List Value) : ∀ (off k : Nat) (cs : Array Value), off + k + vs.length ≤ cs.size →
  ((vs.zipIdx k).foldl (fun cs (p : Value × Nat) => cs.setIfInBounds (off + p.2) p.1) cs).toList = cs.toList.take (off + k) ++ vs ++ cs.toList.drop (off + k + vs.length) := by
 induction vs with
 | nil => intro off k cs _; simp
 | cons v vs ih =>
  intro off k cs hle
  simp only [List.length_cons] at hle
  simp only [List.zipIdx_cons, List.foldl_cons]
  rw [ih off (k + 1) _ (by simp; omega)]
  have := list_seg_step cs.toList (off + k) v vs (by simp; omega)
  simp only [Array.toList_setIfInBounds, List.length_cons]
  rw [show off + (k + 1) = off + k + 1 by omega]
  exact this
theorem fillK_spec {P : Program} {σ : List SV} {place : Nat → Option (Nat × Nat)} : ∀ {ps : List (Nat × Operand)} {qs : List (Nat × Nat × TOpd)} {cs : List SV} {k : List SV → Prop},
  cParts place ps = some qs → fillK σ cs qs k →
  ∃ r, k r ∧ r.length = cs.length ∧ ∀ {w : World} {imm D : Nat → Prop} {ι : Env} (ρ : Operand → Value) (vs : Array Value), (∀ p ∈ ps, den w imm (gv σ (cOpd p.2)) D ι (ρ p.2)) → denL w imm cs D ι vs.toList →
   ∃ us : Array Value, Instr.fill place vs (ps.map fun p => (p.1, ρ p.2)) = some us ∧ denL w imm r D ι us.toList
 | [], qs, cs, k, hc, hk => by
  simp only [cParts] at hc
  obtain rfl := Option.some.inj hc
  exact ⟨cs, hk, rfl, fun ρ vs _ hd => ⟨vs, rfl, hd⟩⟩
 | (i, x) :: ps, qs, cs, k, hc, hk => by
  simp only [cParts] at hc
  split at hc
  case h_2 => cases hc
  rename_i off sz qs' h1 h2
  obtain rfl := Option.some.inj hc
  simp only [fillK, forceK_iff] at hk
  obtain ⟨vs, ⟨h3, h4⟩, h5⟩ := cellsK_spec hk
  have h3 := lenIs_iff h3
  obtain ⟨h6, h7⟩ := spliceK_iff _ _ _ _ h4.at
  obtain ⟨r, h8, hrl, h9⟩ := fillK_spec (P := P) h2 h6
  refine ⟨r, h8, hrl.trans (by simp; omega), fun {w imm D ι} ρ us hp hd => ?_⟩
  have hx := (h5 (hp (i, x) (by simp))).1
  have hxl : (ρ x).cells.size = sz := by have := denL_len hx; simp at this; omega
  have hul : us.size = cs.length := by have := denL_len hd; simpa using this
  have hf := fold_fill (ρ x).cells.toList off 0 us (by simp; omega)
  have hd' := denL_splice off hd hx
  obtain ⟨us', e1, e2⟩ := h9 (w := w) (imm := imm) (D := D) (ι := ι) ρ ((ρ x).cells.zipIdx.foldl (fun cs (p : Value × Nat) => cs.setIfInBounds (off + p.2) p.1) us) (fun p hp' => hp p (by simp [hp'])) (by
   rw [← Array.foldl_toList]
   simp only [Array.toList_zipIdx]
   rw [hf]
   simpa using hd')
  refine ⟨us', ?_, e2⟩
  simp only [List.map_cons, Instr.fill, h1, hxl]
  rw [if_neg (by simp; omega)]
  exact e1
section ops
variable {P : Program} {σ : List SV} {h : List LB} {nid : Nat} {K : EvK} {dst : Option Tmp} {ty : TypeId} {pos : String} {aft : Array Edge} {gd : Option (Nat × Bool)}
theorem run_mapM_places {fs : Array Field} (w : World) : ∀ (l : List Field), (∀ f ∈ l, ∃ s, sizeT P f.type = some s) →
  ((l.mapM fun f => do pure (f.offset, ← sizeOf f.type) : Sem (List (Nat × Nat)))).run P w = .ok (l.map fun f => (f.offset, P.cellsOf f.type)) w
 | [], _ => by simp
 | f :: l, hl => by
  obtain ⟨s, hs⟩ := hl f (by simp)
  have ih := run_mapM_places (fs := fs) w l (fun g hg => hl g (by simp [hg]))
  have e : P.cellsOf f.type = s := by simp only [sizeT] at hs; simp [Program.cellsOf, hs]
  simp only [List.mapM_cons, Sem.run_bind, run_sizeT hs, Result.andThen, Sem.run_pure, ih, List.map_cons, e]
theorem ev_build_arr {t e : TypeId} {n s : Nat} {z : SV} {parts : Array (Nat × Operand)} {qs : List (Nat × Nat × TOpd)} (hz : zeroT P t = some z) (hu : P.underlying t = some (.array n e)) (hs : sizeT P e = some s)
  (hq : cParts (fun i => some (i * s, s)) parts.toList = some qs) (hK : ev σ h nid (.build z.cells qs) K) : EvOK P ⟨dst, .build t parts, ty, pos, aft, gd⟩ σ h nid K := by
 simp only [ev, forceK_iff, eqK_iff, posK_iff, outK_iff, shK_iff, Ev_iff, Vc_iff] at hK
 obtain ⟨r, h1, _, h2⟩ := fillK_spec (P := P) hq hK
 refine .pure h1 fun g a w hg hx hb => ?_
 obtain ⟨i, v, hi, hv, hsv, hn⟩ := zeroT_spec hz
 obtain ⟨us, e1, e2⟩ := h2 (w := w) (imm := g.imm) (D := g.dom) (ι := g.ι) a.eval v.cells (fun p hp => hx p.2 (by simp [Op.operands]; exact ⟨p.1, by simpa using hp⟩)) (toSV_cells hsv hn)
 refine ⟨.agg us, ?_, by simp only [Gh.den, den]; exact ⟨us.toList, by simp, e2⟩⟩
 have e1' : Instr.fill (fun i => some (i * s, s)) v.cells (parts.map fun (p : Nat × Operand) => (p.1, a.eval p.2)).toList = some us := by simpa using e1
 simp only [execOp, Instr.build, Sem.run_bind, run_zeroValue' hi hv, Result.andThen, run_underlying hu, run_sizeT hs, e1', Sem.run_pure]
theorem arr_cap {g : Gh} {w : World} {b : Nat} {e : TypeId} {sz : Nat} {es : List SV} (h : lbden P w g b (.arr e sz es)) : ∀ l, g.ι b = some l → l.len ≤ l.cap := by
 intro l hl
 obtain ⟨l', vs, h1, h2, h3, h4, h5⟩ := h
 rw [hl] at h1; cases h1
 obtain ⟨hx1, hx2⟩ := h5
 rcases hx2 with ⟨q, _⟩ | ⟨r, cp, cur, q, _, _, q2, _⟩
 ·cases q
 ·cases q; omega
theorem ev_idxS {t e : TypeId} {s : Nat} {x y : Operand} (hu : P.underlying t = some (.slice e)) (hs : sizeT P e = some s) (hK : ev σ h nid (.idxS s (cOpd x) (cOpd y)) K) :
  EvOK P ⟨dst, .indexAddr t x y, ty, pos, aft, gd⟩ σ h nid K := by
 simp only [ev, forceK_iff, eqK_iff, posK_iff, outK_iff, shK_iff, Ev_iff, Vc_iff] at hK
 have run : ∀ (a : Act) (w : World) (ad : Addr) (len cap : Nat) (k : IntKind) (n : Int), a.eval x = .slice (some ad) len cap → a.eval y = .int k n → 0 ≤ n → n < len →
   (execOp a.eval ⟨dst, .indexAddr t x y, ty, pos, aft, gd⟩).run P w = .ok (.value (.pointer (some (ad.add (n.toNat * s))))) w := by
  intro a w ad len cap k n hx hy h0 h1
  simp [execOp, Instr.indexAt, hx, hy, asIntOf, run_underlying hu, h0, h1, run_sizeT hs]
 split at hK
 ·rename_i sz' es k n e1 e2
  obtain ⟨rfl, h0, h1, hK⟩ := hK
  obtain ⟨e0, he0⟩ : ∃ e0, es[n.toNat]? = some e0 := ⟨_, List.getElem?_eq_getElem (by omega)⟩
  refine .pure (hK e0 he0) fun g a w hg hx hbl => ?_
  have hcx := hx x (by simp [Op.operands])
  have hcy := hx y (by simp [Op.operands])
  rw [e1] at hcx; rw [e2] at hcy; simp only [Gh.den, den] at hcx hcy
  obtain ⟨ad, cap, vs, hv, hcap, hd, hel⟩ := hcx
  obtain ⟨v, hv1, hv2⟩ := denL_get hd he0
  obtain ⟨hsz, _, r, off, rfl, hr, hcell⟩ := hel _ v hv1
  refine ⟨_, run a w _ _ _ _ _ hv hcy h0 h1, ?_⟩
  simp only [den]
  exact ⟨r, off + n.toNat * s, v, by rw [addr_add]; rfl, hr, hv2, fun j c hj => hcell j c hj⟩
 ·rename_i b k n e1 e2
  split at hK
  ·rename_i te sz' es hcs
   obtain ⟨rfl, h0, h1, hK⟩ := hK
   refine .pure hK fun g a w hg hx hbl => ?_
   have hcx := hx x (by simp [Op.operands])
   have hcy := hx y (by simp [Op.operands])
   rw [e1] at hcx; rw [e2] at hcy; simp only [Gh.den, den] at hcx hcy
   have hl := hbl b (by simp)
   rw [hcs] at hl
   obtain ⟨l, us, hi, hn, hd, hszs, hown⟩ := hl
   refine ⟨_, run a w _ _ _ _ _ (hcx.2.2 l hi) hcy h0 (by omega), ?_⟩
   simp only [den]
   refine ⟨hcx.1, ⟨_, rfl⟩, fun l' hi' => ?_⟩
   rw [hi] at hi'
   obtain rfl := Option.some.inj hi'
   rw [addr_add]; simp
  ·exact hK.elim
 ·rename_i b sz' off m k n e1 e2
  split at hK
  ·rename_i te sz2 es hcs
   obtain ⟨rfl, h0, h1, hK⟩ := hK
   refine .pure hK fun g a w hg hx hbl => ?_
   have hcx := hx x (by simp [Op.operands])
   have hcy := hx y (by simp [Op.operands])
   rw [e1] at hcx; rw [e2] at hcy; simp only [Gh.den, den] at hcx hcy
   have hl := hbl b (by simp)
   rw [hcs] at hl
   have hcap := arr_cap hl
   obtain ⟨l, us, hi, hn, hd, hszs, hown⟩ := hl
   have hle := (hcx.2.2 l hi).1
   have hc := hcap l hi
   have hv := (hcx.2.2 l hi).2
   rw [if_neg (by omega)] at hv
   refine ⟨_, run a w _ _ _ _ _ hv hcy h0 (by omega), ?_⟩
   simp only [den]
   refine ⟨hcx.1, ⟨_, rfl⟩, fun l' hi' => ?_⟩
   rw [hi] at hi'
   obtain rfl := Option.some.inj hi'
   rw [addr_add, Nat.add_mul]; simp
  ·exact hK.elim
 ·rename_i b off m c k n e1 e2
  obtain ⟨h0, h1, hK⟩ := hK
  refine .pure hK fun g a w hg hx hbl => ?_
  have hcx := hx x (by simp [Op.operands])
  have hcy := hx y (by simp [Op.operands])
  rw [e1] at hcx; rw [e2] at hcy; simp only [Gh.den, den] at hcx hcy
  obtain ⟨hD, ⟨ad, hv⟩, hl0⟩ := hcx
  refine ⟨_, run a w _ _ _ _ _ hv hcy h0 h1, ?_⟩
  simp only [Gh.den, den]
  refine ⟨hD, ⟨_, rfl⟩, fun l hi => ?_⟩
  have := hl0 l hi
  rw [hv] at this
  cases this
  rw [addr_add]
 ·exact hK.elim
theorem ev_idxA {t e : TypeId} {n s : Nat} {x y : Operand} (hu : P.underlying t = some (.array n e)) (hs : sizeT P e = some s) (hK : ev σ h nid (.idxA n s (cOpd x) (cOpd y)) K) :
  EvOK P ⟨dst, .indexAddr t x y, ty, pos, aft, gd⟩ σ h nid K := by
 simp only [ev, forceK_iff, eqK_iff, posK_iff, outK_iff, shK_iff, Ev_iff, Vc_iff] at hK
 have run : ∀ (a : Act) (w : World) (ad : Addr) (k : IntKind) (m : Int), a.eval x = .pointer (some ad) → a.eval y = .int k m → 0 ≤ m → m < n →
   (execOp a.eval ⟨dst, .indexAddr t x y, ty, pos, aft, gd⟩).run P w = .ok (.value (.pointer (some (ad.add (m.toNat * s))))) w := by
  intro a w ad k m hx hy h0 h1
  simp [execOp, Instr.indexAt, hx, hy, asIntOf, run_underlying hu, h0, h1, run_sizeT hs, Instr.sureAddr]
 split at hK
 ·rename_i b o k m e1 e2
  obtain ⟨h0, h1, hK⟩ := hK
  refine .pure hK fun g a w hg hx hbl => ?_
  have hcx := hx x (by simp [Op.operands])
  have hcy := hx y (by simp [Op.operands])
  rw [e1] at hcx; rw [e2] at hcy; simp only [Gh.den, den] at hcx hcy
  obtain ⟨hd, ⟨ad, hv⟩, hl⟩ := hcx
  refine ⟨_, run a w ad _ _ hv hcy h0 h1, ?_⟩
  simp only [den]
  refine ⟨hd, ⟨_, rfl⟩, fun l hi => ?_⟩
  have h2 := hl l hi
  rw [hv] at h2
  have h3 : ad = ⟨l.blk, o, none⟩ := by simpa using h2
  rw [h3, addr_add]
 ·rename_i e0 o k m e1 e2
  obtain ⟨h0, h1, hK⟩ := hK
  refine .pure hK fun g a w hg hx hbl => ?_
  have hcx := hx x (by simp [Op.operands])
  have hcy := hx y (by simp [Op.operands])
  rw [e1] at hcx; rw [e2] at hcy; simp only [Gh.den, den] at hcx hcy
  obtain ⟨r, o', u, hv, hi, hd, hcell⟩ := hcx
  refine ⟨_, run a w _ _ _ hv hcy h0 h1, ?_⟩
  simp only [den]
  exact ⟨r, o', u, by rw [addr_add, Nat.add_assoc], hi, hd, hcell⟩
 ·exact hK.elim
theorem ev_idxV {t e : TypeId} {n s : Nat} {agg : Bool} {x y : Operand} (hu : P.underlying t = some (.array n e)) (hb : isAggT P e = some agg) (hs : sizeT P e = some s) (hK : ev σ h nid (.idxV agg n s (cOpd x) (cOpd y)) K) :
  EvOK P ⟨dst, .index t x y, ty, pos, aft, gd⟩ σ h nid K := by
 simp only [ev, forceK_iff, eqK_iff, posK_iff, outK_iff, shK_iff, Ev_iff, Vc_iff] at hK
 split at hK
 ·rename_i cs k m e1 e2
  obtain ⟨h0, h1, hK⟩ := hK
  obtain ⟨s', h3, h4⟩ := partK_spec hK
  refine .pure h3 fun g a w hg hx hbl => ?_
  have hcx := hx x (by simp [Op.operands])
  have hcy := hx y (by simp [Op.operands])
  rw [e1] at hcx; rw [e2] at hcy
  have h5 := h4 hcx
  simp only [Gh.den, den] at hcx hcy
  obtain ⟨vs, hv, hd⟩ := hcx
  rw [hv] at h5
  simp only [Value.cells] at h5
  obtain ⟨r1, r2⟩ := run_part hb hs w vs.toArray (m.toNat * s)
  cases agg with
  | true => exact ⟨_, by simp only [execOp, Instr.index, Sem.run_bind, hcy, asIntOf, Sem.run_pure, Result.andThen, run_underlying hu, hv, h0, h1, and_self, if_true, run_sizeT hs, r1 rfl], (h5.1 rfl).2⟩
  | false =>
   obtain ⟨u, hu', hd'⟩ := h5.2 rfl
   exact ⟨u, by simp only [execOp, Instr.index, Sem.run_bind, hcy, asIntOf, Sem.run_pure, Result.andThen, run_underlying hu, hv, h0, h1, and_self, if_true, run_sizeT hs, r2 rfl u hu'], hd'⟩
 ·exact hK.elim
theorem mapK_spec {σ : List SV} : ∀ {xs : List Operand} {k : List SV → Prop}, mapK σ (xs.map cOpd) k → ∃ r, k r ∧ ∀ {w : World} {imm D : Nat → Prop} {ι : Env} (ρ : Operand → Value), (∀ x ∈ xs, den w imm (gv σ (cOpd x)) D ι (ρ x)) → denL w imm r D ι (xs.map ρ)
 | [], k, hk => ⟨[], hk, fun ρ _ => by simp [denL]⟩
 | x :: xs, k, hk => by
  simp only [List.map_cons, mapK, forceK_iff] at hk
  obtain ⟨r, h1, h2⟩ := mapK_spec hk
  exact ⟨_, h1, fun ρ hp => by simp only [List.map_cons, denL]; exact ⟨_, _, rfl, hp x (by simp), h2 ρ fun y hy => hp y (by simp [hy])⟩⟩
theorem ev_mkfn {f : FuncId} {first caps : Array Operand} (hK : ev σ h nid (.mkfn f (first.toList.map cOpd) (caps.toList.map cOpd)) K) :
  EvOK P ⟨dst, .makeFunc (.func f) first caps, ty, pos, aft, gd⟩ σ h nid K := by
 simp only [ev, forceK_iff, eqK_iff, posK_iff, outK_iff, shK_iff, Ev_iff, Vc_iff] at hK
 obtain ⟨r1, h1, h2⟩ := mapK_spec hK
 obtain ⟨r2, h3, h4⟩ := mapK_spec h1
 refine .pure h3 fun g a w hg hx hbl => ?_
 refine ⟨.func (.func f) (first.map a.eval) (caps.map a.eval), rfl, ?_⟩
 simp only [Gh.den, den]
 exact ⟨first.toList.map a.eval, caps.toList.map a.eval, by congr 1 <;> apply Array.ext' <;> simp, h2 a.eval fun x hx' => hx x (by simp only [Op.operands, Array.toList_append, List.mem_append]; exact .inl hx'), h4 a.eval fun x hx' => hx x (by simp only [Op.operands, Array.toList_append, List.mem_append]; exact .inr hx')⟩
theorem ev_lenA {t : TypeId} {n : Nat} {e : TypeId} {x : Operand} {rt : TypeId} (hu : P.underlying t = some (.array n e)) (hK : K (.int .i64 n) [] []) :
  EvOK P ⟨dst, .call { callee := .builtin .len, args := #[x], argTypes := #[t] }, rt, pos, aft, gd⟩ σ h nid K := by
 refine .pure hK fun g a w hg hx hbl => ⟨_, ?_, by simp only [Gh.den, den]; rfl⟩
 simp [execOp, resolve, invoke, builtin, Builtin.len_, run_underlying hu, goInt]
theorem ev_lenS {t : TypeId} {e : TypeId} {x : Operand} {rt : TypeId} (hu : P.underlying t = some (.slice e)) (hK : ev σ h nid (.lenS (cOpd x)) K) :
  EvOK P ⟨dst, .call { callee := .builtin .len, args := #[x], argTypes := #[t] }, rt, pos, aft, gd⟩ σ h nid K := by
 have run : ∀ (a : Act) (w : World) (ad : Option Addr) (n c : Nat), a.eval x = .slice ad n c →
   (execOp a.eval ⟨dst, .call { callee := .builtin .len, args := #[x], argTypes := #[t] }, rt, pos, aft, gd⟩).run P w = .ok (.value (.int .i64 n)) w := by
  intro a w ad n c he
  simp [execOp, resolve, invoke, builtin, Builtin.len_, run_underlying hu, goInt, he]
 simp only [ev, forceK_iff, eqK_iff, posK_iff, outK_iff, shK_iff, Ev_iff, Vc_iff] at hK
 split at hK
 ·rename_i sz es e1
  refine .pure hK fun g a w hg hx hbl => ?_
  have hcx := hx x (by simp [Op.operands, Call.operands])
  rw [e1] at hcx; simp only [Gh.den, den] at hcx
  obtain ⟨ad, cap, vs, hv, _⟩ := hcx
  exact ⟨_, run a w _ _ _ hv, by simp [den]⟩
 ·rename_i e1
  refine .pure hK fun g a w hg hx hbl => ?_
  have hcx := hx x (by simp [Op.operands, Call.operands])
  rw [e1] at hcx; simp only [Gh.den, den] at hcx
  exact ⟨_, run a w _ _ _ hcx, by simp [den]⟩
 ·rename_i b e1
  split at hK
  ·rename_i te sz' es hcs
   refine .pure hK fun g a w hg hx hbl => ?_
   have hcx := hx x (by simp [Op.operands, Call.operands])
   rw [e1] at hcx; simp only [Gh.den, den] at hcx
   have hl := hbl b (by simp)
   rw [hcs] at hl
   obtain ⟨l, us, hi, hn, hd, hszs, hown⟩ := hl
   exact ⟨_, run a w _ _ _ (hcx.2.2 l hi), by simp [den, hn]⟩
  ·exact hK.elim
 ·rename_i b sz' off m e1
  split at hK
  ·rename_i te sz2 es hcs
   refine .pure hK fun g a w hg hx hbl => ?_
   have hcx := hx x (by simp [Op.operands, Call.operands])
   rw [e1] at hcx; simp only [Gh.den, den] at hcx
   have hl := hbl b (by simp)
   rw [hcs] at hl
   obtain ⟨l, us, hi, hn, hd, hszs, hown⟩ := hl
   exact ⟨_, run a w _ _ _ (hcx.2.2 l hi).2, by simp [den]⟩
  ·exact hK.elim
 ·rename_i b off m c e1
  refine .pure hK fun g a w hg hx hbl => ?_
  have hcx := hx x (by simp [Op.operands, Call.operands])
  rw [e1] at hcx; simp only [Gh.den, den] at hcx
  obtain ⟨_, ⟨ad, hv⟩, _⟩ := hcx
  exact ⟨_, run a w _ _ _ hv, by simp [den]⟩
 ·exact hK.elim
theorem ev_minmax {mx : Bool} {ats : Array TypeId} {x y : Operand} {rt : TypeId} (hK : ev σ h nid (.minmax mx (cOpd x) (cOpd y)) K) :
  EvOK P ⟨dst, .call { callee := .builtin (if mx then .max else .min), args := #[x, y], argTypes := ats }, rt, pos, aft, gd⟩ σ h nid K := by
 simp only [ev, forceK_iff, eqK_iff, posK_iff, outK_iff, shK_iff, Ev_iff, Vc_iff] at hK
 split at hK
 ·rename_i k m k' n e1 e2
  obtain ⟨hk, hK⟩ := hK
  obtain rfl := ikn_inj hk
  cases mx with
  | true =>
   refine .pure (hK _ rfl) fun g a w hg hx hbl => ?_
   have hcx := hx x (by simp [Op.operands, Call.operands])
   have hcy := hx y (by simp [Op.operands, Call.operands])
   rw [e1] at hcx; rw [e2] at hcy; simp only [Gh.den, den] at hcx hcy
   refine ⟨.int k (max m n), ?_, by simp [den]⟩
   simp only [execOp, resolve, invoke, builtin, Builtin.max_, if_true, Sem.run_bind, Sem.run_pure, Result.andThen, List.map_toArray, List.map_cons, List.map_nil, hcx, hcy, List.foldlM_cons, List.foldlM_nil, Builtin.max2]
   congr 3
   rw [Int.max_def]
   split <;> split <;> omega
  | false =>
   refine .pure (hK _ rfl) fun g a w hg hx hbl => ?_
   have hcx := hx x (by simp [Op.operands, Call.operands])
   have hcy := hx y (by simp [Op.operands, Call.operands])
   rw [e1] at hcx; rw [e2] at hcy; simp only [Gh.den, den] at hcx hcy
   refine ⟨.int k (min m n), ?_, by simp [den]⟩
   simp only [execOp, resolve, invoke, builtin, Builtin.min_, Bool.false_eq_true, if_false, Sem.run_bind, Sem.run_pure, Result.andThen, List.map_toArray, List.map_cons, List.map_nil, hcx, hcy, List.foldlM_cons, List.foldlM_nil, Builtin.min2]
   congr 3
   rw [Int.min_def]
   split <;> split <;> omega
 ·exact hK.elim
end ops
end Go.TV
/- The value calculus, part K: what the evaluator tells of an operation is so (slice literals, struct literals, slices of slices, append). -/
namespace Go.TV
open Go.RowKit
section ops
variable {P : Program} {σ : List SV} {h : List LB} {nid : Nat} {K : EvK} {dst : Option Tmp} {ty : TypeId} {pos : String} {aft : Array Edge} {gd : Option (Nat × Bool)}
theorem cParts_size {fs : Array Field} : ∀ {ps : List (Nat × Operand)} {qs : List (Nat × Nat × TOpd)}, cParts (fieldAt? P fs) ps = some qs → ∀ p ∈ ps, ∃ f, fs[p.1]? = some f ∧ ∃ s, sizeT P f.type = some s
 | [], _, _, p, hp => by simp at hp
 | (i, x) :: ps, qs, hc, p, hp => by
  simp only [cParts] at hc
  split at hc
  case h_2 => cases hc
  rename_i off sz qs' h1 h2
  rcases List.mem_cons.1 hp with rfl | hp
  ·simp only [fieldAt?] at h1
   split at h1
   ·rename_i f hf
    simp only [Option.map_eq_some_iff] at h1
    obtain ⟨s, hs, _⟩ := h1
    exact ⟨f, hf, s, hs⟩
   ·cases h1
  ·exact cParts_size h2 p hp
theorem fill_congr {pl pl' : Nat → Option (Nat × Nat)} : ∀ (l : List (Nat × Value)) (cs : Array Value), (∀ p ∈ l, pl p.1 = pl' p.1) → Instr.fill pl cs l = Instr.fill pl' cs l
 | [], _, _ => rfl
 | (i, v) :: l, cs, hp => by
  have h1 := hp (i, v) (by simp)
  simp only at h1
  simp only [Instr.fill, h1]
  split
  ·rfl
  ·split
   ·rfl
   ·exact fill_congr l _ fun p hp' => hp p (by simp [hp'])
theorem ev_build_st {t : TypeId} {fs : Array Field} {z : SV} {parts : Array (Nat × Operand)} {qs : List (Nat × Nat × TOpd)} (hz : zeroT P t = some z) (hu : P.underlying t = some (.struct fs)) (hall : ∀ f ∈ fs.toList, ∃ s, sizeT P f.type = some s)
  (hq : cParts (fieldAt? P fs) parts.toList = some qs) (hK : ev σ h nid (.build z.cells qs) K) : EvOK P ⟨dst, .build t parts, ty, pos, aft, gd⟩ σ h nid K := by
 simp only [ev, forceK_iff, eqK_iff, posK_iff, outK_iff, shK_iff, Ev_iff, Vc_iff] at hK
 obtain ⟨r, h1, _, h2⟩ := fillK_spec (P := P) hq hK
 refine .pure h1 fun g a w hg hx hb => ?_
 obtain ⟨i, v, hi, hv, hsv, hn⟩ := zeroT_spec hz
 obtain ⟨us, e1, e2⟩ := h2 (w := w) (imm := g.imm) (D := g.dom) (ι := g.ι) a.eval v.cells (fun p hp => hx p.2 (by simp [Op.operands]; exact ⟨p.1, by simpa using hp⟩)) (toSV_cells hsv hn)
 refine ⟨.agg us, ?_, by simp only [Gh.den, den]; exact ⟨us.toList, by simp, e2⟩⟩
 have hm : (fs.mapM fun f => do pure (f.offset, ← sizeOf f.type) : Sem (Array (Nat × Nat))).run P w = .ok (fs.map fun f => (f.offset, P.cellsOf f.type)) w := by
  have := run_mapM_places (P := P) (fs := fs) w fs.toList hall
  rw [Array.mapM_eq_mapM_toList]
  show Sem.run P ((fs.toList.mapM fun f => do pure (f.offset, ← sizeOf f.type)) >>= (pure ∘ List.toArray)) w = _
  rw [Sem.run_bind, this]
  simp only [Result.andThen]
  show Result.ok _ w = _
  congr 1
  apply Array.ext'
  simp
 have e1' : Instr.fill ((fs.map fun f => (f.offset, P.cellsOf f.type))[·]?) v.cells (parts.map fun (p : Nat × Operand) => (p.1, a.eval p.2)).toList = some us := by
  rw [show (parts.map fun (p : Nat × Operand) => (p.1, a.eval p.2)).toList = parts.toList.map fun p => (p.1, a.eval p.2) by simp]
  rw [← e1]
  refine fill_congr _ _ fun p hp => ?_
  obtain ⟨q, hq', rfl⟩ := List.mem_map.1 hp
  obtain ⟨f, hf, s, hs⟩ := cParts_size hq q hq'
  have e : P.cellsOf f.type = s := by simp only [sizeT] at hs; simp [Program.cellsOf, hs]
  simp [fieldAt?, hf, hs, e]
 simp only [execOp, Instr.build, Sem.run_bind, run_zeroValue' hi hv, Result.andThen, run_underlying hu, hm, e1', Sem.run_pure]
theorem repl_den {w : World} {imm D : Nat → Prop} {ι : Env} {z : List SV} {vs : List Value} (hd : denL w imm z D ι vs) : ∀ n : Nat, denL w imm (repl n z) D ι (List.replicate n vs).flatten
 | 0 => by simp [repl, denL]
 | n + 1 => by simp only [repl, catS_eq, List.replicate_succ, List.flatten_cons]; exact denL_append hd (repl_den hd n)
theorem range_mod (vs : Array Value) (n : Nat) (h0 : 0 < vs.size) : ((Array.range (n * vs.size)).map fun i => vs[i % vs.size]!).toList = (List.replicate n vs.toList).flatten := by
 apply List.ext_getElem?
 intro j
 simp only [Array.toList_map, Array.toList_range, List.getElem?_map]
 induction n generalizing j with
 | zero => simp
 | succ n ih =>
  rw [List.replicate_succ, List.flatten_cons]
  by_cases hj : j < vs.size
  ·have h1 : j < (n + 1) * vs.size := by rw [Nat.succ_mul]; omega
   rw [List.getElem?_append_left (by simpa using hj)]
   simp [List.getElem?_range h1, Nat.mod_eq_of_lt hj, hj]
  ·rw [List.getElem?_append_right (by simpa using hj)]
   simp only [Array.length_toList]
   rw [← ih (j - vs.size)]
   by_cases h1 : j < (n + 1) * vs.size
   ·have h2 : j - vs.size < n * vs.size := by rw [Nat.succ_mul] at h1; omega
    rw [List.getElem?_range h1, List.getElem?_range h2]
    simp only [Option.map_some]
    congr 2
    rw [← Nat.mod_eq_sub_mod (by omega)]
   ·have h2 : ¬ j - vs.size < n * vs.size := by rw [Nat.succ_mul] at h1; omega
    rw [List.getElem?_eq_none (by simpa using Nat.le_of_not_lt h1), List.getElem?_eq_none (by simpa using Nat.le_of_not_lt h2)]
def elems (agg : Bool) (sz : Nat) : Nat → List Value → List Value
 | 0, _ => []
 | n + 1, cs => (if agg then .agg (cs.take sz).toArray else (cs.head?.getD undef)) :: elems agg sz n (cs.drop sz)
theorem chunks_den {w : World} {imm D : Nat → Prop} {ι : Env} {sz : Nat} : ∀ (n : Nat) {ss : List SV} {vs : List Value}, denL w imm ss D ι vs → denL w imm (chunks sz n ss) D ι (elems true sz n vs)
 | 0, _, _, _ => by simp [chunks, elems, denL]
 | n + 1, ss, vs, hd => by
  simp only [chunks, elems, denL, if_true]
  exact ⟨_, _, rfl, by simp only [den]; exact ⟨_, rfl, denL_take hd⟩, chunks_den n (denL_drop hd)⟩
theorem elems_cells {sz : Nat} : ∀ (n : Nat) (vs : List Value), vs.length = n * sz → (∀ c ∈ vs, c.oneCell' = true) → (elems true sz n vs).length = n ∧ (∀ u ∈ elems true sz n vs, u.cells.size = sz ∧ ∀ c ∈ u.cells.toList, c.oneCell' = true) ∧ (elems true sz n vs).flatMap (·.cells.toList) = vs
 | 0, vs, h, _ => by
  have : vs = [] := List.eq_nil_of_length_eq_zero (by simpa using h)
  simp [elems, this]
 | n + 1, vs, h, ho => by
  rw [Nat.succ_mul] at h
  obtain ⟨h1, h2, h3⟩ := elems_cells (sz := sz) n (vs.drop sz) (by simp; omega) (fun c hc => ho c (List.mem_of_mem_drop hc))
  simp only [elems, if_true]
  refine ⟨by simp [h1], ?_, ?_⟩
  ·intro u hu
   rcases List.mem_cons.1 hu with rfl | hu
   ·refine ⟨by simp [Value.cells]; omega, fun c hc => ho c (List.mem_of_mem_take hc)⟩
   ·exact h2 u hu
  ·simp only [List.flatMap_cons]
   rw [h3]
   exact List.take_append_drop sz vs
theorem ev_bslice {t e : TypeId} {agg : Bool} {s n : Nat} {z : SV} {parts : Array (Nat × Operand)} {qs : List (Nat × Nat × TOpd)} (hu : P.underlying t = some (.slice e)) (hb : isAggT P e = some agg) (hs : sizeT P e = some s) (hz : zeroT P e = some z)
  (hzl : z.cells.length = s) (h0 : 0 < s) (hsmall : n * s ≤ 16777216) (hone : agg = false → s = 1)
  (hq : cParts (fun i => some (i * s, s)) parts.toList = some qs) (hK : ev σ h nid (.bslice e agg s n z.cells qs) K) : EvOK P ⟨dst, .buildSlice t n parts, ty, pos, aft, gd⟩ σ h nid K := by
 simp only [ev, forceK_iff, eqK_iff, posK_iff, outK_iff, shK_iff, Ev_iff, Vc_iff] at hK
 obtain ⟨r, h1, hrl, h2⟩ := fillK_spec (P := P) hq hK
 obtain ⟨i, v, hi, hv, hsv, hn⟩ := zeroT_spec hz
 have hrn : r.length = n * s := by
  rw [hrl]
  clear h1 h2 hrl hK
  induction n with
  | zero => simp [repl]
  | succ n ih => simp only [repl, catS_eq, List.length_append, hzl]; rw [ih (by rw [Nat.succ_mul] at hsmall; omega), Nat.succ_mul]; omega
 -- the machine's part
 have run : ∀ (g : Gh) (a : Act) (w : World), GOk g w → (∀ x ∈ (Op.buildSlice t n parts).operands.toList, g.den w (gv σ (cOpd x)) (a.eval x)) →
   ∃ us : Array Value, (execOp a.eval ⟨dst, .buildSlice t n parts, ty, pos, aft, gd⟩).run P w = .ok (.value (.slice (some ⟨w.heap.size, 0, none⟩) n n)) (w.alloc (.cells us e)) ∧ g.denL w r us.toList := by
  intro g a w hg hx
  have hvl : v.cells.size = s := by
   have h3 := toSV_cells (w := w) (imm := g.imm) (D := g.dom) (ι := g.ι) hsv hn
   have := denL_len h3; simp at this; omega
  have hzc : ∀ zc : Array Value, (n = 0 ∨ zc = v.cells) → ((Array.range (n * s)).map (zc[· % zc.size]!)).toList = (List.replicate n v.cells.toList).flatten := by
   intro zc hzc
   rcases hzc with rfl | rfl
   ·simp
   ·have h3 := range_mod v.cells n (by omega); rw [hvl] at h3; rw [hvl]; exact h3
  obtain ⟨us, e1, e2⟩ := h2 (w := w) (imm := g.imm) (D := g.dom) (ι := g.ι) a.eval (List.replicate n v.cells.toList).flatten.toArray (fun p hp => hx p.2 (by simp [Op.operands]; exact ⟨p.1, by simpa using hp⟩))
   (repl_den (toSV_cells hsv hn) n)
  refine ⟨us, ?_, e2⟩
  have e1' : ∀ zc : Array Value, (n = 0 ∨ zc = v.cells) → Instr.fill (fun i => some (i * s, s)) ((Array.range (n * s)).map (zc[· % zc.size]!)) (parts.map fun (p : Nat × Operand) => (p.1, a.eval p.2)).toList = some us := by
   intro zc hzc'
   have e : (Array.range (n * s)).map (zc[· % zc.size]!) = (List.replicate n v.cells.toList).flatten.toArray := Array.ext' (by simpa using hzc zc hzc')
   rw [e]; simpa using e1
  have hle : ¬ n * s > 2 ^ 24 := by omega
  by_cases hn0 : n * s = 0
  ·have hn1 : n = 0 := by
    rcases Nat.mul_eq_zero.1 hn0 with h | h
    ·exact h
    ·omega
   have h5 := e1' #[] (.inl hn1)
   simp only [execOp, Instr.buildSlice, Sem.run_bind, run_underlying hu, Result.andThen, run_sizeT hs, hle, if_false, if_pos hn0, Sem.run_pure]
   simp only [h5, newRow, Sem.run_bind, run_newObj_alloc, Result.andThen, Sem.run_pure]
  ·simp only [execOp, Instr.buildSlice, Sem.run_bind, run_underlying hu, Result.andThen, run_sizeT hs, hle, if_false, hn0, run_zeroValue' hi hv, Sem.run_pure]
   simp only [e1' v.cells (.inr rfl), newRow, Sem.run_bind, run_newObj_alloc, Result.andThen, Sem.run_pure]
 have fin : ∀ es : List SV, K (.own nid) [(nid, .arr e s es)] [] → (∀ {w : World} {imm D : Nat → Prop} {ι : Env} {us : List Value}, denL w imm r D ι us → ∃ vs, denL w imm es D ι vs ∧ vs.length = n ∧ (∀ u ∈ vs, u.cells.size = s ∧ ∀ c ∈ u.cells.toList, c.oneCell' = true) ∧ vs.flatMap (·.cells.toList) = us) →
   es.length = n → EvOK P ⟨dst, .buildSlice t n parts, ty, pos, aft, gd⟩ σ h nid K := by
  intro es hKes hes hlen
  refine ⟨_, _, _, hKes, ?_, by simp⟩
  intro g a w hg hfr hx hbl
  obtain ⟨us, hr, hd⟩ := run g a w hg hx
  obtain ⟨g1, g2⟩ := ext_alloc (U := ids [(nid, .arr e s es)]) hg (hfr (nid, .arr e s es) (by simp) (Nat.le_refl _)) (.cells us e) n n
  refine ⟨_, _, _, .inl hr, g1, g2, ?_, ?_, ?_⟩
  ·simp only [Gh.den, den]
   refine ⟨.inr rfl, ⟨_, _, _, rfl⟩, fun l hl => ?_⟩
   rw [Gh.add_ι_self] at hl
   obtain rfl := Option.some.inj hl
   rfl
  ·intro p hp
   simp at hp
   subst hp
   obtain ⟨vs, k1, k2, k3, k4⟩ := hes (g2.denL hg hd)
   have hul : us.size = n * s := by have := denL_len hd; simp at this; omega
   refine ⟨_, vs, Gh.add_ι_self _ _ _, hlen.symm, k1, k3, ⟨?_, .inr ⟨w.heap.size, n, us, rfl, Nat.zero_le _, heap_alloc_new w _, Nat.le_refl _, ?_, hul, ?_⟩⟩⟩
   ·rw [k4]; simpa using hul
   ·unfold maxLen; have : n ≤ n * s := Nat.le_mul_of_pos_right n h0; omega
   ·rw [k4]; exact List.take_of_length_le (by simp [hul])
  ·intro b hb
   rcases hb with hb | hb
   ·exact .inl hb
   ·exact .inr (by simp [ids, hb])
 cases agg with
 | true =>
  simp only at h1
  have hk := (onesK_iff (w := default) (imm := fun _ => False) (D := fun _ => False) (ι := fun _ => none) h1).1
  refine fin _ hk (fun hd => ⟨_, chunks_den n hd, elems_cells n _ (by have := denL_len hd; omega) ((onesK_iff h1).2 hd)⟩) ?_
  clear fin run h1 h2 hrl hK hsmall hk
  have : ∀ (m : Nat) (l : List SV), (chunks s m l).length = m := by
   intro m; induction m with
   | zero => intro l; rfl
   | succ m ih => intro l; simp [chunks, ih]
  exact this n r
 | false =>
  obtain rfl := hone rfl
  simp only at h1
  have hk := (onesK_iff (w := default) (imm := fun _ => False) (D := fun _ => False) (ι := fun _ => none) h1).1
  refine fin _ hk (fun {w imm D ι us} hd => ⟨us, hd, by have := denL_len hd; omega, ?_, ?_⟩) (by omega)
  ·intro u hu
   have h5 := (onesK_iff h1).2 hd u hu
   rw [cells_one h5]; exact ⟨rfl, by simpa using h5⟩
  ·have h3 := (onesK_iff h1).2 hd
   clear hd
   induction us with
   | nil => rfl
   | cons u us ih =>
    simp only [List.flatMap_cons, cells_one (h3 u (by simp)), ih fun x hx => h3 x (by simp [hx])]
    rfl
end ops
end Go.TV
/- The value calculus, part L: what the evaluator tells of an operation is so (slices of slices, append, maps that are made and ranged over). -/
namespace Go.TV
open Go.RowKit
section ops
variable {P : Program} {σ : List SV} {h : List LB} {nid : Nat} {K : EvK} {dst : Option Tmp} {ty : TypeId} {pos : String} {aft : Array Edge} {gd : Option (Nat × Bool)}
theorem loNat_spec {w : World} {imm D : Nat → Prop} {ι : Env} {lo : Option Operand} {l : Int} (hl : loNat σ (lo.map cOpd) = some l) (ρ : Operand → Value) (hx : ∀ x, lo = some x → den w imm (gv σ (cOpd x)) D ι (ρ x)) :
  (lo = none ∧ l = 0) ∨ ∃ x k, lo = some x ∧ ρ x = .int k l := by
 cases lo with
 | none => simp only [Option.map_none, loNat] at hl; exact .inl ⟨rfl, (Option.some.inj hl).symm⟩
 | some x =>
  simp only [Option.map_some, loNat] at hl
  split at hl
  ·rename_i k n e
   obtain rfl := Option.some.inj hl
   have := hx x rfl
   rw [e] at this; simp only [den] at this
   exact .inr ⟨x, k, rfl, this⟩
  ·cases hl
theorem hiNat_spec {w : World} {imm D : Nat → Prop} {ι : Env} {len : Nat} {hi : Option Operand} {l : Int} (hl : hiNat σ len (hi.map cOpd) = some l) (ρ : Operand → Value) (hx : ∀ x, hi = some x → den w imm (gv σ (cOpd x)) D ι (ρ x)) :
  (hi = none ∧ l = len) ∨ ∃ x k, hi = some x ∧ ρ x = .int k l := by
 cases hi with
 | none => simp only [Option.map_none, hiNat] at hl; exact .inl ⟨rfl, (Option.some.inj hl).symm⟩
 | some x =>
  simp only [Option.map_some, hiNat] at hl
  split at hl
  ·rename_i k n e
   obtain rfl := Option.some.inj hl
   have := hx x rfl
   rw [e] at this; simp only [den] at this
   exact .inr ⟨x, k, rfl, this⟩
  ·cases hl
theorem ev_sliceA {t e : TypeId} {n s : Nat} {x : Operand} {lo hi : Option Operand} (hu : P.underlying t = some (.array n e)) (hs : sizeT P e = some s) (hK : ev σ h nid (.sliceA n s (cOpd x) (lo.map cOpd) (hi.map cOpd)) K) :
  EvOK P ⟨dst, .slice t x lo hi none, ty, pos, aft, gd⟩ σ h nid K := by
 simp only [ev, forceK_iff, eqK_iff, posK_iff, outK_iff, shK_iff, Ev_iff, Vc_iff] at hK
 split at hK
 case h_2 => exact hK.elim
 rename_i b o e1
 split at hK
 case h_2 => exact hK.elim
 rename_i l r hl hr
 obtain ⟨h0, h1, h2, hK⟩ := hK
 refine .pure hK fun g a w hg hx hbl => ?_
 have hcx := hx x (by simp [Op.operands])
 rw [e1] at hcx; simp only [Gh.den, den] at hcx
 obtain ⟨hD, ⟨ad, hv⟩, hl0⟩ := hcx
 have kl := loNat_spec (w := w) (imm := g.imm) (D := g.dom) (ι := g.ι) hl a.eval (fun y hy => hx y (by subst hy; simp [Op.operands]))
 have kr := hiNat_spec (w := w) (imm := g.imm) (D := g.dom) (ι := g.ι) hr a.eval (fun y hy => hx y (by subst hy; simp [Op.operands]))
 have hb : (Instr.sliceBounds false n n (lo.map a.eval) (hi.map a.eval) none).run P w = .ok (l.toNat, r.toNat, n) w := by
  have c1 : 0 ≤ r := by omega
  have c3 : l ≤ ((r.toNat : Nat) : Int) := by omega
  rcases kl with ⟨rfl, rfl⟩ | ⟨xl, k1, rfl, hl'⟩ <;> rcases kr with ⟨rfl, rfl⟩ | ⟨xr, k2, rfl, hr'⟩
  ·simp [Instr.sliceBounds]
  ·simp [Instr.sliceBounds, Instr.sliceBound, hr', asIntOf, c1, h2]
  ·simp [Instr.sliceBounds, Instr.sliceBound, hl', asIntOf, h0]; omega
  ·simp [Instr.sliceBounds, Instr.sliceBound, hl', hr', asIntOf, c1, h2, h0]; omega
 have e2 : r.toNat - l.toNat = (r - l).toNat := by omega
 refine ⟨.slice (some (if n = l.toNat then ad else ad.add (l.toNat * s))) (r.toNat - l.toNat) (n - l.toNat), ?_, ?_⟩
 ·simp only [execOp, Instr.sliceAt, Sem.run_bind, run_underlying hu, Result.andThen, Option.map_none, Instr.sureAddr, hv, hb, run_sizeT hs, Sem.run_pure]
 ·simp only [Gh.den, den]
  rw [e2]
  refine ⟨hD, ⟨_, rfl⟩, fun l2 hl2 => ?_⟩
  have := hl0 l2 hl2
  rw [hv] at this
  cases this
  cases hq : Nat.beq n l.toNat with
  | true => rw [if_pos (Nat.eq_of_beq_eq_true hq)]
  | false => rw [if_neg (fun q => Nat.ne_of_beq_eq_false hq q)]; simp [addr_add]
theorem ev_slice {t e : TypeId} {s : Nat} {x : Operand} {lo hi : Option Operand} (hu : P.underlying t = some (.slice e)) (hs : sizeT P e = some s) (hK : ev σ h nid (.slice s (cOpd x) (lo.map cOpd) (hi.map cOpd)) K) :
  EvOK P ⟨dst, .slice t x lo hi none, ty, pos, aft, gd⟩ σ h nid K := by
 simp only [ev, forceK_iff, eqK_iff, posK_iff, outK_iff, shK_iff, Ev_iff, Vc_iff] at hK
 split at hK
 case h_3 => exact hK.elim
 case h_2 =>
  rename_i b e1
  split at hK
  case h_2 => exact hK.elim
  rename_i te sz' es hcs
  split at hK
  case h_2 => exact hK.elim
  rename_i l r hl hr
  obtain ⟨rfl, h0, h1, h2, hK⟩ := hK
  refine .pure hK fun g a w hg hx hbl => ?_
  have hcx := hx x (by simp [Op.operands])
  rw [e1] at hcx; simp only [Gh.den, den] at hcx
  have hlb := hbl b (by simp)
  rw [hcs] at hlb
  have hcap := arr_cap hlb
  obtain ⟨lo', us, hii, hn, hd, hszs, hown⟩ := hlb
  have hcap := hcap lo' hii
  have hv := hcx.2.2 lo' hii
  have kl := loNat_spec (w := w) (imm := g.imm) (D := g.dom) (ι := g.ι) hl a.eval (fun y hy => hx y (by subst hy; simp [Op.operands]))
  have kr := hiNat_spec (w := w) (imm := g.imm) (D := g.dom) (ι := g.ι) hr a.eval (fun y hy => hx y (by subst hy; simp [Op.operands]))
  have hb : (Instr.sliceBounds true lo'.len lo'.cap (lo.map a.eval) (hi.map a.eval) none).run P w = .ok (l.toNat, r.toNat, lo'.cap) w := by
   have c1 : 0 ≤ r := by omega
   have c2 : r ≤ (lo'.cap : Int) := by omega
   have c3 : l ≤ ((r.toNat : Nat) : Int) := by omega
   rcases kl with ⟨rfl, rfl⟩ | ⟨xl, k1, rfl, hl'⟩ <;> rcases kr with ⟨rfl, rfl⟩ | ⟨xr, k2, rfl, hr'⟩
   ·simp [Instr.sliceBounds, hn]
   ·simp [Instr.sliceBounds, Instr.sliceBound, hr', asIntOf, c1, c2]
   ·simp [Instr.sliceBounds, Instr.sliceBound, hl', asIntOf, h0, hn]; omega
   ·simp [Instr.sliceBounds, Instr.sliceBound, hl', hr', asIntOf, c1, c2, h0]; omega
  refine ⟨.slice (if lo'.cap = l.toNat then some ⟨lo'.blk, 0, none⟩ else (some (⟨lo'.blk, 0, none⟩ : Addr)).map (·.add (l.toNat * s))) (r.toNat - l.toNat) (lo'.cap - l.toNat), ?_, ?_⟩
  ·simp only [execOp, Instr.sliceAt, Sem.run_bind, run_underlying hu, Result.andThen, Option.map_none, Instr.slice, hv, hb, run_sizeT hs, Sem.run_pure]
  ·simp only [den]
   refine ⟨hcx.1, ⟨_, _, _, rfl⟩, fun l2 hl2 => ?_⟩
   rw [hii] at hl2
   obtain rfl := Option.some.inj hl2
   refine ⟨by omega, ?_⟩
   have e2 : r.toNat - l.toNat = (r - l).toNat := by omega
   rw [e2]
   split
   ·rfl
   ·simp [addr_add]
 rename_i sz' es e1
 split at hK
 case h_2 => exact hK.elim
 rename_i l r hl hr
 obtain ⟨rfl, h0, h1, h2, hK⟩ := hK
 refine .pure hK fun g a w hg hx hbl => ?_
 have hcx := hx x (by simp [Op.operands])
 rw [e1] at hcx; simp only [Gh.den, den] at hcx
 obtain ⟨ad, cap, vs, hv, hcap, hd, hel⟩ := hcx
 have kl := loNat_spec (w := w) (imm := g.imm) (D := g.dom) (ι := g.ι) hl a.eval (fun y hy => hx y (by subst hy; simp [Op.operands]))
 have kr := hiNat_spec (w := w) (imm := g.imm) (D := g.dom) (ι := g.ι) hr a.eval (fun y hy => hx y (by subst hy; simp [Op.operands]))
 have hb : (Instr.sliceBounds true es.length cap (lo.map a.eval) (hi.map a.eval) none).run P w = .ok (l.toNat, r.toNat, cap) w := by
  have c1 : 0 ≤ r := by omega
  have c2 : r ≤ (cap : Int) := by omega
  have c3 : l ≤ ((r.toNat : Nat) : Int) := by omega
  rcases kl with ⟨rfl, rfl⟩ | ⟨xl, k1, rfl, hl'⟩ <;> rcases kr with ⟨rfl, rfl⟩ | ⟨xr, k2, rfl, hr'⟩
  ·simp [Instr.sliceBounds]
  ·simp [Instr.sliceBounds, Instr.sliceBound, hr', asIntOf, c1, c2]
  ·simp [Instr.sliceBounds, Instr.sliceBound, hl', asIntOf, h0]; omega
  ·simp [Instr.sliceBounds, Instr.sliceBound, hl', hr', asIntOf, c1, c2, h0]; omega
 have hlen : vs.length = es.length := denL_len hd
 refine ⟨.slice (if cap = l.toNat then ad else ad.map (·.add (l.toNat * s))) (r.toNat - l.toNat) (cap - l.toNat), ?_, ?_⟩
 ·simp only [execOp, Instr.sliceAt, Sem.run_bind, run_underlying hu, Result.andThen, Option.map_none, Instr.slice, hv, hb, run_sizeT hs, Sem.run_pure]
 ·simp only [den]
  refine ⟨if cap = l.toNat then ad else ad.map (·.add (l.toNat * s)), cap - l.toNat, (vs.drop l.toNat).take (r - l).toNat, ?_, ?_, denL_take (denL_drop hd), ?_⟩
  ·congr 1
   simp; omega
  ·simp; omega
  ·intro i u hu'
   rw [List.getElem?_take] at hu'
   split at hu'
   case isFalse => cases hu'
   rename_i hi'
   rw [List.getElem?_drop] at hu'
   obtain ⟨k1, k2, r0, off, rfl, k3, k4⟩ := hel _ u hu'
   refine ⟨k1, k2, r0, off + l.toNat * s, ?_, k3, fun j c hj => ?_⟩
   ·rw [if_neg (by omega)]
    simp [addr_add]
   ·have := k4 j c hj
    rw [Nat.add_mul] at this
    rw [show off + l.toNat * s + i * s + j = off + (l.toNat * s + i * s) + j by omega]
    exact this
theorem ev_mkmap {t : TypeId} (hK : K (.mp nid) [(nid, .map [])] []) : EvOK P ⟨dst, .makeMap t none, ty, pos, aft, gd⟩ σ h nid K := by
 refine ⟨_, _, _, hK, ?_, by simp⟩
 intro g a w hg hfr hx hbl
 obtain ⟨g1, g2⟩ := ext_alloc (U := ids [(nid, .map [])]) hg (hfr (nid, .map []) (by simp) (Nat.le_refl _)) (.map #[] 0) 0 0
 refine ⟨.map (some w.heap.size), _, _, .inl ?_, g1, g2, ?_, ?_, ?_⟩
 ·simp [execOp, Instr.makeMap]
 ·simp only [Gh.den, den]
  refine ⟨.inr rfl, ⟨_, rfl⟩, fun l hl => ?_⟩
  rw [Gh.add_ι_self] at hl
  obtain rfl := Option.some.inj hl
  rfl
 ·intro p hp
  simp at hp
  subst hp
  exact ⟨_, #[], [], Gh.add_ι_self _ _ _, heap_alloc_new w _, by simp, fun i e he => by simp at he, by simp only [Gh.denM, denM]⟩
 ·intro b hb
  rcases hb with hb | hb
  ·exact .inl hb
  ·exact .inr (by simp [ids, hb])
theorem ev_range {t kt et : TypeId} {x : Operand} (hu : P.underlying t = some (.map kt et)) (hK : ev σ h nid (.range (cOpd x)) K) : EvOK P ⟨dst, .range t x, ty, pos, aft, gd⟩ σ h nid K := by
 simp only [ev, forceK_iff, eqK_iff, posK_iff, outK_iff, shK_iff, Ev_iff, Vc_iff] at hK
 have key : ∀ (src : SV) (es : List (SV × SV)) (nb : List Nat), K (.ptr nid 0) [(nid, .iter src es none)] nb →
   (∀ (g : Gh) (a : Act) (w : World), GOk g w → g.den w (gv σ (cOpd x)) (a.eval x) → (∀ b ∈ nb, lbden P w g b (hget h b)) →
    ∃ m ents idx, a.eval x = .map (some m) ∧ w.heap[m]? = some (.map ents ents.size) ∧ idx.Perm (List.range ents.size) ∧ borns ents ∧ g.denM w es ents idx ∧
     ((∃ mb lm, src = .mp mb ∧ g.ι mb = some lm ∧ m = lm.blk) ∨ ((∃ es, src = .imap es) ∧ g.imm m))) →
   EvOK P ⟨dst, .range t x, ty, pos, aft, gd⟩ σ h nid K := by
  intro src es nb hK hh
  refine ⟨_, _, _, hK, ?_, by simp⟩
  intro g a w hg hfr hx hbl
  obtain ⟨m, ents, idx, hv, hm, hp, hbn, hd, hsrc⟩ := hh g a w hg (hx x (by simp [Op.operands])) hbl
  have hfr' := hfr (nid, .iter src es none) (by simp) (Nat.le_refl _)
  obtain ⟨g1, g2⟩ := ext_alloc (U := ids [(nid, .iter src es none)]) hg hfr' (.mapIter (some m) ents.size #[] ents.size) 0 0
  have hlt : m < w.heap.size := (Array.getElem?_eq_some_iff.1 hm).1
  refine ⟨.pointer (some ⟨w.heap.size, 0, none⟩), _, _, .inl ?_, g1, g2, ?_, ?_, ?_⟩
  ·have hg' : (getObj m).run P w = .ok (.map ents ents.size) w := by simp [getObj, Sem.run, hm]
   simp [execOp, Instr.range, run_underlying hu, hv, hg']
  ·simp only [Gh.den, den]
   refine ⟨.inr rfl, ⟨_, rfl⟩, fun l hl => ?_⟩
   rw [Gh.add_ι_self] at hl
   obtain rfl := Option.some.inj hl
   rfl
  ·intro p hp'
   simp at hp'
   subst hp'
   refine ⟨_, m, #[], ents, idx, Gh.add_ι_self _ _ _, heap_alloc_new w _, ?_, (Below.heap_alloc w _ m hlt).trans hm, hbn, (hp.nodup_iff.2 List.nodup_range), ?_, g2.denM hg hd, fun k v e => by cases e⟩
   ·rcases hsrc with ⟨mb, lm, h1, h2, h3⟩ | ⟨h1, h2⟩
    ·refine .inl ⟨mb, lm, h1, ?_, h3⟩
     have : mb ≠ nid := fun e => hfr' (e ▸ (hg.own mb lm h2).1)
     simp [Gh.add, this, h2]
    ·exact .inr ⟨h1, h2⟩
   ·intro i
    rw [hp.mem_iff]
    simp
  ·intro b hb
   rcases hb with hb | hb
   ·exact .inl hb
   ·exact .inr (by simp [ids, hb])
 split at hK
 ·rename_i b e1
  split at hK
  ·rename_i es hcs
   refine key _ _ _ hK fun g a w hg hcx hbl => ?_
   rw [e1] at hcx; simp only [Gh.den, den] at hcx
   have hl := hbl b (by simp)
   rw [hcs] at hl
   obtain ⟨l, ents, idx, hi, hh, hp, hb', hd⟩ := hl
   exact ⟨l.blk, ents, idx, hcx.2.2 l hi, hh, hp, hb', hd, .inl ⟨b, l, rfl, hi, rfl⟩⟩
  ·exact hK.elim
 ·rename_i es e1
  refine key _ _ _ hK fun g a w hg hcx hbl => ?_
  rw [e1] at hcx; simp only [Gh.den, den] at hcx
  obtain ⟨r, ents, idx, hv, hr, hh, hp, hb', hd⟩ := hcx
  exact ⟨r, ents, idx, hv, hh, hp, hb', denM.mono (fun _ h => h) (fun _ _ => rfl) es (fun _ h => h.elim) (fun _ _ h => h.elim) hd, .inr ⟨⟨_, rfl⟩, hr⟩⟩
 ·exact hK.elim
theorem find_born {ents : Array MapEntry} (hb : borns ents) {i : Nat} {e : MapEntry} (he : ents[i]? = some e) : ents.find? (·.born == i) = some e := by
 have hlt : i < ents.size := (Array.getElem?_eq_some_iff.1 he).1
 have hei : e.born = i := hb i e he
 cases hf : ents.find? (·.born == i) with
 | none =>
  have := Array.find?_eq_none.1 hf e (Array.mem_of_getElem? he)
  simp [hei] at this
 | some e' =>
  have h1 := Array.find?_some hf
  have h2 := Array.mem_of_find?_eq_some hf
  obtain ⟨j, hj⟩ := Array.getElem?_of_mem h2
  have h3 := hb j e' hj
  have : j = i := by simp at h1; omega
  subst this
  rw [hj] at he
  exact he
theorem ev_entry {x : Operand} (hK : ev σ h nid (.entry (cOpd x)) K) : EvOK P ⟨dst, .entry x, ty, pos, aft, gd⟩ σ h nid K := by
 simp only [ev, forceK_iff, eqK_iff, posK_iff, outK_iff, shK_iff, Ev_iff, Vc_iff] at hK
 split at hK
 ·rename_i b e1
  split at hK
  ·rename_i src left k v hcs
   refine .pure hK fun g a w hg hx hbl => ?_
   have hcx := hx x (by simp [Op.operands])
   rw [e1] at hcx; simp only [Gh.den, den] at hcx
   have hl := hbl b (by simp)
   rw [hcs] at hl
   obtain ⟨l, m, seen, ents, idx, hi, hh, hm0, hm, hbn, hnd, hidx, hd, hcur⟩ := hl
   obtain ⟨i, en, hs, hen, hk, hv⟩ := hcur k v rfl
   have g1 : (getObj l.blk).run P w = .ok (.mapIter (some m) ents.size seen ents.size) w := by simp [getObj, Sem.run, hh]
   have g2 : (getObj m).run P w = .ok (.map ents ents.size) w := by simp [getObj, Sem.run, hm]
   refine ⟨.tuple #[en.key, en.val], ?_, ?_⟩
   ·simp [execOp, Instr.entry, hcx.2.2 l hi, g1, hs, g2, find_born hbn hen]
   ·simp only [Gh.den, den]
    exact ⟨[en.key, en.val], rfl, by simp only [denL]; exact ⟨_, _, rfl, hk, _, _, rfl, hv, rfl⟩⟩
  ·exact hK.elim
 ·exact hK.elim
theorem ev_mkiface {t : TypeId} {x : Operand} (hc : P.concrete t = true) (hK : K (.iface t (gv σ (cOpd x))) [] []) : EvOK P ⟨dst, .makeInterface t x, ty, pos, aft, gd⟩ σ h nid K :=
 .pure hK fun g a w hg hx hbl => ⟨.iface t (a.eval x), by simp [execOp, run_makeInterface w t _ hc], by simp only [Gh.den, den]; exact ⟨_, rfl, hx x (by simp [Op.operands])⟩⟩
end ops
end Go.TV
/- The value calculus, part M: what the evaluator tells of append is so. -/
namespace Go.TV
open Go.RowKit
section ops
variable {P : Program} {σ : List SV} {h : List LB} {nid : Nat} {K : EvK} {dst : Option Tmp} {ty : TypeId} {pos : String} {aft : Array Edge} {gd : Option (Nat × Bool)}
theorem run_append_to (w : World) (t ty e : TypeId) (i : TypeInfo) (z : Value) (ht : P.underlying t = some (.slice e)) (hi : P.info? e = some i) (hz : i.zero = some z) (hzs : z.cells.size = i.size) (hsz : 0 < i.size)
  (g n cap : Nat) (xs : List Value) (hown : w.ownsRow 0 e i.size (.slice (some ⟨g, 0, none⟩) n cap) n xs)
  (y : Value) (m : Nat) (news : List Value) (hy : (∃ c, y = .slice none m c ∧ m = 0) ∨ ∃ a c, y = .slice (some a) m c ∧ ∀ j u, news[j]? = some u → w.cell? (a.add j) = some u)
  (hl : news.length = m * i.size) (h1 : ∀ u ∈ news, u.oneCell' = true) (hbytes : (n + m) * i.bytes ≤ 140737488355328) (h63 : n + m ≤ maxLen) :
  ∃ (g' cap' : Nat) (w' : World), (Builtin.append_ #[t, t] ty #[.slice (some ⟨g, 0, none⟩) n cap, y]).run P w = .ok (.slice (some ⟨g', 0, none⟩) (n + m) cap') w' ∧
   w'.ownsRow 0 e i.size (.slice (some ⟨g', 0, none⟩) (n + m) cap') (n + m) (xs ++ news) ∧ w.grownBy w' (some g) ∧ (g' = g ∨ w.heap.size ≤ g') := by
 have hsmall : n + m ≤ 9223372036854775807 := by simp only [maxLen] at h63; omega
 have hlen : (xs ++ news).length = (n + m) * i.size := by rw [List.length_append, hown.1, hl, Nat.add_mul]
 obtain ⟨hx1, hx2⟩ := hown
 rcases hx2 with ⟨hx2, _⟩ | ⟨r, cp, cur, hx2, hx3, hg, hnc, hcm, hcs, htake⟩
 ·cases hx2
 have hrb : r = g ∧ cp = cap := by cases hx2; exact ⟨rfl, rfl⟩
 obtain ⟨rfl, rfl⟩ := hrb
 by_cases hroom : n + m ≤ cp
 ·have hfit : n * i.size + news.length ≤ cur.size := by rw [hl, hcs, ← Nat.add_mul]; exact Nat.mul_le_mul_right _ hroom
  rcases hy with ⟨c, rfl, rfl⟩ | ⟨a, c, rfl, hnews⟩
  ·have hn : news = [] := List.eq_nil_of_length_eq_zero (by simpa using hl)
   subst hn
   refine ⟨r, cp, w, ?_, ?_, ⟨rfl, rfl, rfl, Nat.le_refl _, fun _ _ _ => rfl⟩, .inl rfl⟩
   ·simp at hroom
    simp [Builtin.append_, run_underlying ht, sizeOf, typeInfo, hi, Builtin.lenOf, Builtin.firstCells, hroom, storeCells]
   ·refine ⟨hlen, .inr ⟨r, cp, cur, rfl, Nat.zero_le _, hg, hroom, hcm, hcs, by simpa using htake⟩⟩
  ·have hr := run_append_room (P := P) w t ty e i ht hi r n cp cur hg a m c news hl hnews h1 hroom hfit
   refine ⟨r, cp, _, hr, ⟨hlen, .inr ⟨r, cp, _, rfl, Nat.zero_le _, setRow_heap w r cur _ e _ hg, hroom, hcm, ?_, ?_⟩⟩, ⟨rfl, rfl, rfl, by simp, fun k _ hk => setRow_other w r k _ (fun e => hk (by rw [e]))⟩, .inl rfl⟩
   ·simp only [List.size_toArray, List.length_append, List.length_take, List.length_drop, Array.length_toList]
    omega
   ·rw [htake, ← hlen]
    exact List.take_left
 ·rcases hy with ⟨c, rfl, rfl⟩ | ⟨a, c, rfl, hnews⟩
  ·exact absurd hnc (by omega)
  have holds : ∀ j u, xs[j]? = some u → w.cell? ((⟨r, 0, none⟩ : Addr).add j) = some u := World.ownsRow.cells (base := 0) (e := e) (size := i.size) (v := .slice (some ⟨r, 0, none⟩) n cp) (n := n) ⟨hx1, .inr ⟨r, cp, cur, rfl, Nat.zero_le _, hg, hnc, hcm, hcs, htake⟩⟩ rfl
  have hr := run_append_grow (P := P) w t ty e i z ht hi hz ⟨r, 0, none⟩ n cp xs hx1 holds a m c news hl hnews (by omega) (by omega) (growslice_fits (by omega) hbytes)
  have hge := grownCap_ge w (n + m) cp e
  have hcm' : grownCap w (n + m) cp e ≤ maxLen := grownCap_le_maxLen w (n + m) cp e h63
  refine ⟨w.heap.size, _, _, hr, ⟨hlen, .inr ⟨w.heap.size, _, _, rfl, Nat.zero_le _, heap_alloc_new w.drew _, hge, hcm', ?_, ?_⟩⟩, ⟨rfl, rfl, rfl, by simp, fun k hk _ => Below.heap_alloc w.drew _ k hk⟩, .inr (Nat.le_refl _)⟩
  ·simp only [Array.size_append, List.size_toArray, size_zeroCells, hzs, hx1, hl, ← Nat.add_mul]
   congr 1
   omega
  ·simp only [Array.toList_append, List.append_assoc]
   rw [← List.append_assoc, ← hlen]
   exact List.take_left
theorem run_append_nil_to (w : World) (t ty e : TypeId) (i : TypeInfo) (z : Value) (ht : P.underlying t = some (.slice e)) (hi : P.info? e = some i) (hz : i.zero = some z) (hzs : z.cells.size = i.size)
  (a : Addr) (m c : Nat) (news : List Value) (hnews : ∀ j u, news[j]? = some u → w.cell? (a.add j) = some u) (h0 : 0 < m)
  (hl : news.length = m * i.size) (hbytes : m * i.bytes ≤ 140737488355328) (h63 : m ≤ maxLen) :
  ∃ (cap' : Nat) (w' : World), (Builtin.append_ #[t, t] ty #[.slice none 0 0, .slice (some a) m c]).run P w = .ok (.slice (some ⟨w.heap.size, 0, none⟩) m cap') w' ∧
   w'.ownsRow 0 e i.size (.slice (some ⟨w.heap.size, 0, none⟩) m cap') m news ∧ w.grownBy w' none := by
 have hsmall : m ≤ 9223372036854775807 := by simp only [maxLen] at h63; omega
 have hr := run_append_nil (P := P) w t ty e i z ht hi hz a m c news hl hnews h0 (by omega) (by omega)
 have hge := grownCap_ge w m 0 e
 have hcm' : grownCap w m 0 e ≤ maxLen := grownCap_le_maxLen w m 0 e h63
 refine ⟨_, _, hr, ⟨hl, .inr ⟨w.heap.size, _, _, rfl, Nat.zero_le _, heap_alloc_new w.drew _, hge, hcm', ?_, ?_⟩⟩, ⟨rfl, rfl, rfl, by simp, fun k hk _ => Below.heap_alloc w.drew _ k hk⟩⟩
 ·simp only [Array.size_append, List.size_toArray, size_zeroCells, hzs, hl, ← Nat.add_mul]
  congr 1
  omega
 ·simp only [Array.toList_append]
  rw [← hl]
  exact List.take_left
theorem flat_len {sz : Nat} : ∀ {vs : List Value}, (∀ u ∈ vs, u.cells.size = sz) → (vs.flatMap (·.cells.toList)).length = vs.length * sz
 | [], _ => by simp
 | v :: vs, hv => by
  simp only [List.flatMap_cons, List.length_append, Array.length_toList, hv v (by simp), flat_len (sz := sz) (vs := vs) fun u hu => hv u (by simp [hu]), List.length_cons, Nat.succ_mul]
  omega
theorem flat_get' (sz : Nat) (h0 : 0 < sz) : ∀ (vs : List Value) (k : Nat) (c : Value), (∀ u ∈ vs, u.cells.size = sz) → (vs.flatMap (·.cells.toList))[k]? = some c →
  ∃ v, vs[k / sz]? = some v ∧ v.cells[k % sz]? = some c
 | [], k, c, _, hk => by simp at hk
 | v :: vs, k, c, hsz, hk => by
  have hv := hsz v (by simp)
  simp only [List.flatMap_cons] at hk
  by_cases hlt : k < sz
  ·rw [List.getElem?_append_left (by simpa [hv] using hlt)] at hk
   exact ⟨v, by simp [Nat.div_eq_of_lt hlt], by simpa [Nat.mod_eq_of_lt hlt] using hk⟩
  ·rw [List.getElem?_append_right (by simp [hv]; omega)] at hk
   simp only [Array.length_toList, hv] at hk
   obtain ⟨u, h1, h2⟩ := flat_get' sz h0 vs (k - sz) c (fun u hu => hsz u (by simp [hu])) hk
   have e1 : k / sz = (k - sz) / sz + 1 := by
    rw [Nat.div_eq k sz, if_pos ⟨h0, by omega⟩]
   exact ⟨u, by rw [e1]; simpa using h1, by rw [← Nat.mod_eq_sub_mod (by omega)] at h2; exact h2⟩
theorem ev_append {t e : TypeId} {i : TypeInfo} {x y : Operand} {rt : TypeId} {z : Value} (hu : P.underlying t = some (.slice e)) (hi : P.info? e = some i) (hz : i.zero = some z) (hzs : z.cells.size = i.size) (hby : 0 < i.bytes)
  (hK : ev σ h nid (.append e i.size i.bytes (cOpd x) (cOpd y)) K) :
  EvOK P ⟨dst, .call { callee := .builtin .append, args := #[x, y], argTypes := #[t, t] }, rt, pos, aft, gd⟩ σ h nid K := by
 simp only [ev, forceK_iff, eqK_iff, posK_iff, outK_iff, shK_iff, Ev_iff, Vc_iff] at hK
 -- what is appended
 have core : ∀ (es' : List SV) (nb : List Nat),
   (∀ (g : Gh) (a : Act) (w : World), GOk g w → g.den w (gv σ (cOpd y)) (a.eval y) → (∀ b ∈ nb, lbden P w g b (hget h b)) →
    ∃ vs : List Value, g.denL w es' vs ∧ (∀ u ∈ vs, u.cells.size = i.size ∧ ∀ c ∈ u.cells.toList, c.oneCell' = true) ∧
     ((∃ c, a.eval y = .slice none vs.length c ∧ vs.length = 0) ∨ ∃ ad c, a.eval y = .slice (some ad) vs.length c ∧ ∀ j u, (vs.flatMap (·.cells.toList))[j]? = some u → w.cell? (ad.add j) = some u)) →
   (match gv σ (cOpd x) with
    | .own b => match hget h b with
     | .arr e' sz' es => e = e' ∧ i.size = sz' ∧ 0 < i.size ∧ (b ∉ nb) ∧ (es.length + es'.length) * i.bytes ≤ 140737488355328 ∧ K (.own nid) [(b, .dead), (nid, .arr e i.size (es ++ es'))] (b :: nb)
     | _ => False
    | .nils => 0 < i.size ∧ es' ≠ [] ∧ es'.length * i.bytes ≤ 140737488355328 ∧ K (.own nid) [(nid, .arr e i.size es')] nb
    | _ => False) →
   EvOK P ⟨dst, .call { callee := .builtin .append, args := #[x, y], argTypes := #[t, t] }, rt, pos, aft, gd⟩ σ h nid K := by
  intro es' nb hy hK
  have hrun : ∀ (a : Act) (w w' : World) (v : Value), (Builtin.append_ #[t, t] rt #[a.eval x, a.eval y]).run P w = .ok v w' →
    (execOp a.eval ⟨dst, .call { callee := .builtin .append, args := #[x, y], argTypes := #[t, t] }, rt, pos, aft, gd⟩).run P w = .ok (.value v) w' := by
   intro a w w' v hr
   simp [execOp, resolve, invoke, builtin, hr]
  split at hK
  case h_3 => exact hK.elim
  ·rename_i b e1
   split at hK
   case h_2 => exact hK.elim
   rename_i te sz' es hcs
   obtain ⟨rfl, rfl, h0, hbn, hbd, hK⟩ := hK
   refine ⟨_, _, _, hK, ?_, (by
    intro p hp
    simp at hp
    rcases hp with rfl | rfl
    ·exact .inr ⟨by simp, by simp [Safe, hcs]⟩
    ·exact .inl rfl)⟩
   intro g a w hg hfr hx hbl
   have hcx := hx x (by simp [Op.operands, Call.operands])
   have hcy := hx y (by simp [Op.operands, Call.operands])
   obtain ⟨vs, hvs, hcells, hyv⟩ := hy g a w hg hcy (fun b' hb' => hbl b' (by simp [hb']))
   rw [e1] at hcx; simp only [Gh.den, den] at hcx
   have hl := hbl b (by simp)
   rw [hcs] at hl
   obtain ⟨l, us, hιb, hn, hd, hszs, hown⟩ := hl
   have husl : us.length = es.length := denL_len hd
   have hvsl : vs.length = es'.length := denL_len hvs
   have hmax : l.len + vs.length ≤ maxLen := by
    have : l.len + vs.length ≤ (es.length + es'.length) * i.bytes := by rw [hn, hvsl]; exact Nat.le_mul_of_pos_right _ hby
    unfold maxLen; omega
   obtain ⟨g', cap', w', hr, hown', hgrow, hwhere⟩ := run_append_to (P := P) w t rt e i z hu hi hz hzs h0 l.blk l.len l.cap _ hown (a.eval y) vs.length (vs.flatMap (·.cells.toList)) hyv (flat_len fun u hu => (hcells u hu).1)
    (fun u hu => by obtain ⟨v, hv, hc⟩ := List.mem_flatMap.1 hu; exact (hcells v hv).2 u hc) (by rw [hn, hvsl]; exact hbd) hmax
   have hrunv := hrun a w w' _ (by rw [hcx.2.2 l hιb]; exact hr)
   have hfr' : ¬ g.dom nid := hfr (nid, .arr e i.size (es ++ es')) (by simp) (Nat.le_refl _)
   have hbne : b ≠ nid := fun e => hfr' (e ▸ hcx.1)
   -- the new book: b is no longer told, nid lies where the value says
   let gn : Gh := { dom := fun c => g.dom c ∨ c = nid, ι := fun c => if c = nid then some ⟨g', l.len + vs.length, cap'⟩ else if c = b then none else g.ι c, imm := g.imm, hid := g.hid, flr := g.flr }
   have hsz' : g' < w'.heap.size := by
    obtain ⟨_, h2⟩ := hown'
    rcases h2 with ⟨h2, _⟩ | ⟨r, cp, cur, h2, _, h3, _⟩
    ·cases h2
    ·have : r = g' := by cases h2; rfl
     rw [← this]; exact (Array.getElem?_eq_some_iff.1 h3).1
   have gok : GOk gn w' := by
    refine ⟨fun c lc hc => ?_, fun c c' lc lc' hc hc' he => ?_, fun r hr => Nat.lt_of_lt_of_le (hg.immlt r hr) hgrow.size, fun r hr => Nat.lt_of_lt_of_le (hg.hlt r hr) hgrow.size, hg.himm, fun c lc hc => ?_, Nat.le_trans hg.flr hgrow.size⟩
    ·simp only [gn] at hc ⊢
     by_cases ec : c = nid
     ·simp only [ec, if_true] at hc
      obtain rfl := Option.some.inj hc
      refine ⟨.inr ec, hsz', fun him => ?_⟩
      rcases hwhere with rfl | hw
      ·exact (hg.own b l hιb).2.2 him
      ·exact Nat.lt_irrefl _ (Nat.lt_of_lt_of_le (hg.immlt _ him) hw)
     ·simp only [ec, if_false] at hc
      by_cases eb : c = b
      ·simp [eb] at hc
      ·simp only [eb, if_false] at hc
       obtain ⟨h1, h2, h3⟩ := hg.own c lc hc
       exact ⟨.inl h1, Nat.lt_of_lt_of_le h2 hgrow.size, h3⟩
    ·simp only [gn] at hc hc'
     have hne : ∀ d ld, d ≠ b → g.ι d = some ld → ld.blk ≠ g' := by
      intro d ld hdb hdl he
      rcases hwhere with rfl | hw
      ·exact hdb (hg.inj d b ld l hdl hιb he)
      ·have := (hg.own d ld hdl).2.1; omega
     by_cases ec : c = nid <;> by_cases ec' : c' = nid
     ·rw [ec, ec']
     ·simp only [ec, if_true, ec', if_false] at hc hc'
      obtain rfl := Option.some.inj hc
      by_cases eb : c' = b
      ·simp [eb] at hc'
      ·simp only [eb, if_false] at hc'
       exact absurd he.symm (hne c' lc' eb hc')
     ·simp only [ec, if_false, ec', if_true] at hc hc'
      obtain rfl := Option.some.inj hc'
      by_cases eb : c = b
      ·simp [eb] at hc
      ·simp only [eb, if_false] at hc
       exact absurd he (hne c lc eb hc)
     ·simp only [ec, ec', if_false] at hc hc'
      by_cases eb : c = b
      ·simp [eb] at hc
      ·by_cases eb' : c' = b
       ·simp [eb'] at hc'
       ·simp only [eb, eb', if_false] at hc hc'
        exact hg.inj c c' lc lc' hc hc' he
    ·simp only [gn] at hc
     by_cases ec : c = nid
     ·simp only [ec, if_true] at hc
      obtain rfl := Option.some.inj hc
      intro hh
      rcases hwhere with rfl | hw
      ·exact hg.hown b l hιb hh
      ·exact Nat.lt_irrefl _ (Nat.lt_of_lt_of_le (hg.hlt _ hh) hw)
     ·simp only [ec, if_false] at hc
      by_cases eb : c = b
      ·simp [eb] at hc
      ·simp only [eb, if_false] at hc
       exact hg.hown c lc hc
   have ext : Ext g w gn w' (ids [(b, .dead), (nid, .arr e i.size (es ++ es'))]) := by
    refine ⟨hgrow.os, hgrow.tape, hgrow.output, hgrow.size, fun c hc => .inl hc, fun c hc => ?_, fun r hr => hr, rfl, rfl, fun r hr hn => ?_, fun c lc hc => ?_, fun r hr => .inl hr⟩
    ·have ec : c ≠ nid := fun e => hfr' (e ▸ hc)
     simp only [gn, ec, if_false]
     by_cases eb : c = b
     ·simp [eb, ids]
     ·simp [eb]
    ·exact hgrow.block r hr fun he => hn b l (by simp [ids]) hιb (by simpa using he.symm)
    ·simp only [gn] at hc
     by_cases ec : c = nid
     ·simp only [ec, if_true] at hc
      obtain rfl := Option.some.inj hc
      rcases hwhere with rfl | hw
      ·exact .inr (.inr ⟨b, l, by simp [ids], hιb, rfl⟩)
      ·exact .inr (.inl hw)
     ·simp only [ec, if_false] at hc
      by_cases eb : c = b
      ·simp [eb] at hc
      ·simp only [eb, if_false] at hc
       exact .inl hc
   refine ⟨_, w', gn, .inl hrunv, gok, ext, ?_, ?_, ?_⟩
   ·simp only [Gh.den, den]
    refine ⟨.inr rfl, ⟨_, _, _, rfl⟩, fun lc hc => ?_⟩
    simp only [gn, if_true] at hc
    obtain rfl := Option.some.inj hc
    rfl
   ·intro p hp
    simp at hp
    rcases hp with rfl | rfl
    ·trivial
    ·refine ⟨⟨g', l.len + vs.length, cap'⟩, us ++ vs, by simp [gn], by simp [hn, hvsl], denL_append (ext.denL hg hd) (ext.denL hg hvs), ?_, ?_⟩
     ·intro u hu
      rcases List.mem_append.1 hu with hu | hu
      ·exact hszs u hu
      ·exact hcells u hu
     ·rw [List.flatMap_append]; exact hown'
   ·intro c hc
    rcases hc with hc | hc
    ·exact .inl hc
    ·exact .inr (by simp [ids, hc])
  ·rename_i e1
   obtain ⟨h0, hne, hbd, hK⟩ := hK
   refine ⟨_, _, _, hK, ?_, by simp⟩
   intro g a w hg hfr hx hbl
   have hcx := hx x (by simp [Op.operands, Call.operands])
   have hcy := hx y (by simp [Op.operands, Call.operands])
   obtain ⟨vs, hvs, hcells, hyv⟩ := hy g a w hg hcy hbl
   rw [e1] at hcx; simp only [Gh.den, den] at hcx
   have hvsl : vs.length = es'.length := denL_len hvs
   have hpos : 0 < vs.length := by rw [hvsl]; exact List.length_pos_iff.2 hne
   have hmax : vs.length ≤ maxLen := by
    have : vs.length ≤ es'.length * i.bytes := by rw [hvsl]; exact Nat.le_mul_of_pos_right _ hby
    unfold maxLen; omega
   rcases hyv with ⟨c, _, h⟩ | ⟨ad, c, hyv, hnews⟩
   ·omega
   obtain ⟨cap', w', hr, hown', hgrow⟩ := run_append_nil_to (P := P) w t rt e i z hu hi hz hzs ad vs.length c (vs.flatMap (·.cells.toList)) hnews hpos (flat_len fun u hu => (hcells u hu).1) (by rw [hvsl]; exact hbd) hmax
   have hrunv := hrun a w w' _ (by rw [hcx, hyv]; exact hr)
   have hfr' : ¬ g.dom nid := hfr (nid, .arr e i.size es') (by simp) (Nat.le_refl _)
   let gn : Gh := g.add nid ⟨w.heap.size, vs.length, cap'⟩
   have hsz' : w.heap.size < w'.heap.size := by
    obtain ⟨_, h2⟩ := hown'
    rcases h2 with ⟨h2, _⟩ | ⟨r, cp, cur, h2, _, h3, _⟩
    ·cases h2
    ·have : r = w.heap.size := by cases h2; rfl
     rw [← this]; exact (Array.getElem?_eq_some_iff.1 h3).1
   obtain ⟨k1, k2⟩ := ext_alloc (U := ids [(nid, .arr e i.size es')]) hg hfr' (.deferred none) vs.length cap'
   have gok : GOk gn w' := ⟨fun c lc hc => by
     obtain ⟨h1, h2, h3⟩ := k1.own c lc hc
     simp at h2
     exact ⟨h1, by omega, h3⟩, k1.inj, fun r hr => Nat.lt_of_lt_of_le (hg.immlt r hr) hgrow.size, fun r hr => Nat.lt_of_lt_of_le (hg.hlt r hr) hgrow.size, hg.himm, k1.hown, Nat.le_trans hg.flr hgrow.size⟩
   have ext : Ext g w gn w' (ids [(nid, .arr e i.size es')]) :=
    ⟨hgrow.os, hgrow.tape, hgrow.output, hgrow.size, k2.dom, k2.ι, k2.imm, rfl, rfl, fun r hr _ => hgrow.block r hr (by simp), k2.newι, k2.newimm⟩
   refine ⟨_, w', gn, .inl hrunv, gok, ext, ?_, ?_, ?_⟩
   ·simp only [Gh.den, den]
    refine ⟨.inr rfl, ⟨_, _, _, rfl⟩, fun lc hc => ?_⟩
    simp only [gn, Gh.add_ι_self] at hc
    obtain rfl := Option.some.inj hc
    rfl
   ·intro p hp
    simp at hp
    subst hp
    exact ⟨⟨w.heap.size, vs.length, cap'⟩, vs, Gh.add_ι_self _ _ _, hvsl, ext.denL hg hvs, hcells, hown'⟩
   ·intro c hc
    rcases hc with hc | hc
    ·exact .inl hc
    ·exact .inr (by simp [ids, hc])
 split at hK
 ·rename_i b' e1
  split at hK
  case h_2 => exact hK.elim
  rename_i te sz' es' hcs
  obtain ⟨rfl, rfl, hK⟩ := hK
  refine core es' [b'] (fun g a w hg hcy hbl => ?_) hK
  rw [e1] at hcy; simp only [Gh.den, den] at hcy
  have hl := hbl b' (by simp)
  rw [hcs] at hl
  obtain ⟨l, us, hιb, hn, hd, hszs, hown⟩ := hl
  have husl : us.length = es'.length := denL_len hd
  refine ⟨us, hd, hszs, .inr ⟨⟨l.blk, 0, none⟩, l.cap, ?_, fun j u hj => hown.cells (g := l.blk) rfl j u hj⟩⟩
  rw [hcy.2.2 l hιb, hn, husl]
 ·rename_i sz' es' e1
  obtain ⟨rfl, hK⟩ := hK
  refine core es' [] (fun g a w hg hcy hbl => ?_) hK
  rw [e1] at hcy; simp only [Gh.den, den] at hcy
  obtain ⟨ad, cap, vs, hv, hcap, hd, hel⟩ := hcy
  have hvsl : vs.length = es'.length := denL_len hd
  have hd' : g.denL w es' vs := denL.mono (fun _ h => h) (fun _ _ => rfl) es' (fun _ h => h.elim) (fun _ _ h => h.elim) hd
  refine ⟨vs, hd', fun u hu => ?_, ?_⟩
  ·obtain ⟨j, hj⟩ := List.getElem?_of_mem hu
   exact ⟨(hel j u hj).1, (hel j u hj).2.1⟩
  ·cases ad with
   | none =>
    refine .inl ⟨cap, by rw [hv, hvsl], ?_⟩
    rcases vs with _ | ⟨v, vs⟩
    ·rfl
    ·obtain ⟨_, _, r, off, h, _⟩ := hel 0 v rfl
     cases h
   | some ad =>
    refine .inr ⟨ad, cap, by rw [hv, hvsl], fun k u hk => ?_⟩
    by_cases h0 : 0 < i.size
    ·obtain ⟨v, h1, h2⟩ := flat_get' i.size h0 vs k u (fun u hu => by obtain ⟨j, hj⟩ := List.getElem?_of_mem hu; exact (hel j u hj).1) hk
     obtain ⟨_, _, r, off, he, _, hc⟩ := hel _ v h1
     obtain rfl := Option.some.inj he
     rw [addr_add]
     have := hc _ u h2
     rwa [Nat.add_assoc, Nat.mul_comm, Nat.div_add_mod] at this
    ·have e0 : i.size = 0 := by omega
     have := flat_len (sz := i.size) (vs := vs) (fun u hu => by obtain ⟨j, hj⟩ := List.getElem?_of_mem hu; exact (hel j u hj).1)
     rw [e0, Nat.mul_zero] at this
     have : vs.flatMap (·.cells.toList) = [] := List.eq_nil_of_length_eq_zero this
     rw [this] at hk
     simp at hk
 ·exact hK.elim
theorem flat_take1 : ∀ {vs : List Value} (n : Nat), (∀ u ∈ vs, u.cells.size = 1) → (vs.take n).flatMap (·.cells.toList) = (vs.flatMap (·.cells.toList)).take n
 | [], n, _ => by simp
 | v :: vs, 0, _ => by simp
 | v :: vs, n + 1, h => by
  have h1 : v.cells.toList.length = 1 := by simpa using h v (by simp)
  obtain ⟨c, hc⟩ := List.length_eq_one_iff.1 h1
  simp only [List.take_succ_cons, List.flatMap_cons, hc, List.singleton_append, flat_take1 (vs := vs) n fun u hu => h u (List.mem_cons_of_mem _ hu)]
theorem flat_drop1 : ∀ {vs : List Value} (n : Nat), (∀ u ∈ vs, u.cells.size = 1) → (vs.drop n).flatMap (·.cells.toList) = (vs.flatMap (·.cells.toList)).drop n
 | [], n, _ => by simp
 | v :: vs, 0, _ => by simp
 | v :: vs, n + 1, h => by
  have h1 : v.cells.toList.length = 1 := by simpa using h v (by simp)
  obtain ⟨c, hc⟩ := List.length_eq_one_iff.1 h1
  simp only [List.drop_succ_cons, List.flatMap_cons, hc, List.singleton_append, flat_drop1 (vs := vs) n fun u hu => h u (List.mem_cons_of_mem _ hu)]
theorem run_copy_to (w : World) (dT sT ty elem : TypeId) (g o dLen dCap : Nat) (a : Option Addr) (sLen sCap : Nat) (cur : Array Value) (t : TypeId) (cs : List Value)
  (hu : P.underlying dT = some (.slice elem)) (hs : (P.info? elem).map (·.size) = some 1) (hg : w.heap[g]? = some (.cells cur t (0, 0))) (hn : cs.length = Nat.min sLen dLen)
  (hsrc : (a = none ∧ cs = []) ∨ ∃ ad, a = some ad ∧ ∀ j v, cs[j]? = some v → w.cell? (ad.add j) = some v) (hfit : o + cs.length ≤ cur.size) (h1 : ∀ v ∈ cs, v.oneCell' = true) :
  (Builtin.copy_ #[dT, sT] ty #[.slice (some ⟨g, o, none⟩) dLen dCap, .slice a sLen sCap]).run P w = .ok (goInt cs.length) (w.setRow g (cur.toList.take o ++ cs ++ cur.toList.drop (o + cs.length)).toArray) := by
 rcases hsrc with ⟨rfl, rfl⟩ | ⟨ad, rfl, hsrc⟩
 ·have e : (cur.toList.take o ++ [] ++ cur.toList.drop (o + ([] : List Value).length)).toArray = cur := by simp
  rw [e, setRow_self w g cur t (0, 0) hg]
  cases hq : P.info? elem with
  | none => simp [hq] at hs
  | some i =>
   have hi : i.size = 1 := by simpa [hq] using hs
   simp only [List.length_nil] at hn
   simp [Builtin.copy_, run_underlying hu, Builtin.lenOf, Builtin.firstCells, sizeOf, typeInfo, hq, hi, storeCells, ← hn]
 ·exact run_copy_row P w dT sT ty elem g o dLen dCap ad sLen sCap cur t cs hu hs hg hn hsrc hfit h1
theorem ev_copy {t u e : TypeId} {x y : Operand} {rt : TypeId} (hu : P.underlying t = some (.slice e)) (hs : (P.info? e).map (·.size) = some 1) (hK : ev σ h nid (.copy (cOpd x) (cOpd y)) K) :
  EvOK P ⟨dst, .call { callee := .builtin .copy, args := #[x, y], argTypes := #[t, u] }, rt, pos, aft, gd⟩ σ h nid K := by
 simp only [ev, forceK_iff, eqK_iff, posK_iff, outK_iff, shK_iff, Ev_iff, Vc_iff] at hK
 have core : ∀ (b : Nat) (te : TypeId) (es fs : List SV) (off m : Nat), hget h b = .arr te 1 es → gv σ (cOpd y) = .sl 1 fs → fs.length ≤ m → off + m ≤ es.length ∨ m = 0 ∨ True →
   (∀ (g : Gh) (a : Act) (w : World) (l : Loc), g.den w (gv σ (cOpd x)) (a.eval x) → g.ι b = some l → l.len = es.length → l.len ≤ l.cap → off + m ≤ es.length ∧ ∃ o c, (off = o ∨ m = 0 ∧ o = 0) ∧ a.eval x = .slice (some ⟨l.blk, o, none⟩) m c) →
   K (.int .i64 fs.length) [(b, .arr te 1 (es.take off ++ (fs ++ es.drop (off + fs.length))))] [b] →
   EvOK P ⟨dst, .call { callee := .builtin .copy, args := #[x, y], argTypes := #[t, u] }, rt, pos, aft, gd⟩ σ h nid K := by
  intro b te es fs off m hcs ey hfm _ hxv hK
  refine ⟨_, _, _, hK, ?_, by intro p hp; simp at hp; subst hp; exact .inr ⟨by simp, by simp [Safe, hcs]⟩⟩
  intro g a w hg _ hx hbl
  have hcx := hx x (by simp [Op.operands, Call.operands])
  have hcy := hx y (by simp [Op.operands, Call.operands])
  rw [ey] at hcy; simp only [Gh.den, den] at hcy
  obtain ⟨ad, cap, vs, hv, hcap, hd', hel⟩ := hcy
  have hvsl : vs.length = fs.length := denL_len hd'
  have hdv : g.denL w fs vs := denL.mono (fun _ h => h) (fun _ _ => rfl) fs (fun _ h => h.elim) (fun _ _ h => h.elim) hd'
  have hl := hbl b (by simp)
  rw [hcs] at hl
  have hlc := arr_cap hl
  obtain ⟨l, us, hi, hn, hd, hszs, hown⟩ := hl
  obtain ⟨hom, o, c, ho, hxe⟩ := hxv g a w l hcx hi hn (hlc l hi)
  have husl : us.length = es.length := denL_len hd
  obtain ⟨hx1, hx2⟩ := hown
  rcases hx2 with ⟨hx2, _⟩ | ⟨r, cp, cur, hx2, hx3, hx4, hx5, hx6, hx7, hx8⟩
  ·cases hx2
  have hrb : r = l.blk ∧ cp = l.cap := by cases hx2; exact ⟨rfl, rfl⟩
  obtain ⟨rfl, rfl⟩ := hrb
  have one : ∀ u ∈ vs, u.cells.size = 1 ∧ ∀ c ∈ u.cells.toList, c.oneCell' = true := fun u hu => by
   obtain ⟨j, hj⟩ := List.getElem?_of_mem hu
   exact ⟨(hel j u hj).1, (hel j u hj).2.1⟩
  have hcl : (vs.flatMap (·.cells.toList)).length = fs.length := by
   have := flat_len (sz := 1) (vs := vs) (fun u hu => (one u hu).1)
   rw [this, hvsl]; omega
  have hfit : off + fs.length ≤ cur.size := by rw [hx7]; omega
  have hrun : (execOp a.eval ⟨dst, .call { callee := .builtin .copy, args := #[x, y], argTypes := #[t, u] }, rt, pos, aft, gd⟩).run P w =
    .ok (.value (.int .i64 fs.length)) (w.setRow l.blk (cur.toList.take off ++ vs.flatMap (·.cells.toList) ++ cur.toList.drop (off + fs.length)).toArray) := by
   have hsrc : (ad = none ∧ vs.flatMap (·.cells.toList) = []) ∨ ∃ ad', ad = some ad' ∧ ∀ j v, (vs.flatMap (·.cells.toList))[j]? = some v → w.cell? (ad'.add j) = some v := by
    cases ad with
    | none =>
     refine .inl ⟨rfl, ?_⟩
     rcases vs with _ | ⟨v, vs⟩
     ·rfl
     ·obtain ⟨_, _, r, off, h, _⟩ := hel 0 v rfl
      cases h
    | some ad =>
     refine .inr ⟨ad, rfl, fun k u hk => ?_⟩
     obtain ⟨v, h1, h2⟩ := flat_get' 1 (by omega) vs k u (fun u hu => (one u hu).1) hk
     obtain ⟨_, _, r, off, he, _, hc⟩ := hel _ v h1
     obtain rfl := Option.some.inj he
     rw [addr_add]
     have := hc _ u h2
     rwa [Nat.add_assoc, Nat.mul_comm, Nat.div_add_mod] at this
   have hone : ∀ v ∈ vs.flatMap (·.cells.toList), v.oneCell' = true := by
    intro v hv
    obtain ⟨q, hq, hq2⟩ := List.mem_flatMap.1 hv
    exact (one q hq).2 v hq2
   have hr := run_copy_to (P := P) w t u rt e l.blk o m c ad fs.length cap cur te (vs.flatMap (·.cells.toList)) hu hs hx4 (by rw [hcl]; exact (Nat.min_eq_left hfm).symm) hsrc (by rw [hcl]; rcases ho with h | h <;> omega) hone
   have hrow : (cur.toList.take o ++ vs.flatMap (·.cells.toList) ++ cur.toList.drop (o + (vs.flatMap (·.cells.toList)).length)).toArray = (cur.toList.take off ++ vs.flatMap (·.cells.toList) ++ cur.toList.drop (off + fs.length)).toArray := by
    rcases ho with rfl | ⟨hm, rfl⟩
    ·rw [hcl]
    ·have h0 : fs.length = 0 := by omega
     have hn0 : vs.flatMap (·.cells.toList) = [] := List.eq_nil_of_length_eq_zero (by rw [hcl, h0])
     rw [hn0, h0]; simp
   rw [hrow, hcl] at hr
   simp [execOp, resolve, invoke, builtin, hxe, hv, hr, goInt]
  obtain ⟨g1, g2⟩ := ext_set (U := ids [(b, LB.arr te 1 (es.take off ++ (fs ++ es.drop (off + fs.length))))]) hg hi (by simp [ids]) (w' := w.setRow l.blk (cur.toList.take off ++ vs.flatMap (·.cells.toList) ++ cur.toList.drop (off + fs.length)).toArray) rfl rfl rfl (by simp) (fun k hk => setRow_other w l.blk k _ hk)
  refine ⟨.int .i64 fs.length, _, g, .inl hrun, g1, g2, by simp [den], ?_, fun b hb => .inl hb⟩
  intro p hp
  simp at hp
  subst hp
  refine ⟨l, us.take off ++ (vs ++ us.drop (off + fs.length)), hi, ?_, denL_append (denL_take (g2.denL hg hd)) (denL_append (g2.denL hg hdv) (denL_drop (g2.denL hg hd))), ?_, ?_⟩
  ·simp; omega
  ·intro q hq
   rcases List.mem_append.1 hq with hq | hq
   ·exact hszs q (List.mem_of_mem_take hq)
   ·rcases List.mem_append.1 hq with hq | hq
    ·exact one q hq
    ·exact hszs q (List.mem_of_mem_drop hq)
  ·have all1 : ∀ q ∈ us.take off ++ (vs ++ us.drop (off + fs.length)), q.cells.size = 1 := by
    intro q hq
    rcases List.mem_append.1 hq with hq | hq
    ·exact (hszs q (List.mem_of_mem_take hq)).1
    ·rcases List.mem_append.1 hq with hq | hq
     ·exact (one q hq).1
     ·exact (hszs q (List.mem_of_mem_drop hq)).1
   have hu1 : ∀ q ∈ us, q.cells.size = 1 := fun q hq => (hszs q hq).1
   refine ⟨?_, .inr ⟨l.blk, l.cap, _, rfl, Nat.zero_le _, setRow_heap w l.blk cur _ te _ hx4, hx5, hx6, ?_, ?_⟩⟩
   ·rw [flat_len all1]; simp; omega
   ·simp only [List.size_toArray, List.length_append, List.length_take, List.length_drop, Array.length_toList, hcl]; omega
   ·have hs2 := take_splice cur.toList (vs.flatMap (·.cells.toList)) off (l.len * 1) (by rw [hcl]; omega) (by simp; omega)
    rw [hcl, hx8] at hs2
    rw [List.flatMap_append, List.flatMap_append, flat_take1 off hu1, flat_drop1 _ hu1, ← List.append_assoc]
    exact hs2
 split at hK
 case h_2 => exact hK.elim
 rename_i szf fs ey
 split at hK
 ·rename_i b ex
  split at hK
  case h_2 => exact hK.elim
  rename_i te sz es hcs
  obtain ⟨rfl, rfl, h1, hK⟩ := hK
  refine core b te es fs 0 es.length hcs ey h1 (.inr (.inr trivial)) (fun g a w l hx hi hn hc => ?_) (by simpa using hK)
  rw [ex] at hx; simp only [Gh.den, den] at hx
  exact ⟨by omega, 0, l.cap, .inl rfl, by rw [hx.2.2 l hi, hn]⟩
 ·rename_i b szo off m ex
  split at hK
  case h_2 => exact hK.elim
  rename_i te sz es hcs
  obtain ⟨rfl, rfl, rfl, h1, hK⟩ := hK
  refine core b te es fs off m hcs ey h1 (.inr (.inr trivial)) (fun g a w l hx hi hn hc => ?_) hK
  rw [ex] at hx; simp only [Gh.den, den] at hx
  obtain ⟨hb, hv⟩ := hx.2.2 l hi
  refine ⟨by omega, _, _, ?_, hv⟩
  split
  ·exact .inr (by omega)
  ·exact .inl (by omega)
 ·exact hK.elim
end ops
end Go.TV
/- The value calculus, part N: equality of trees and of values; map keys. -/
namespace Go.TV
open Go.RowKit
theorem andN_iff {p : Nat → Prop} : ∀ (n : Nat), andN n p ↔ ∀ i, i < n → p i
 | 0 => by simp [andN]
 | 1 => by
  simp only [andN]
  constructor
  ·intro h i hi
   obtain rfl : i = 0 := by omega
   exact h
  ·intro h
   exact h 0 (by omega)
 | n + 2 => by
  simp only [andN, andN_iff (n + 1)]
  exact ⟨fun h i hi => by
   by_cases e : i = n + 1
   ·subst e; exact h.2
   ·exact h.1 i (by omega), fun h => ⟨fun i hi => h i (by omega), h _ (by omega)⟩⟩
def sub (agg : Bool) (off sz : Nat) (cs : List SV) : SV := match agg with
 | true => .agg ((cs.drop off).take sz)
 | false => (cs[off]?).getD .junk
theorem partK_sub {agg : Bool} {off sz : Nat} {cs : List SV} {k : SV → Prop} (hs : agg = false → sz = 1) (h : partK agg off sz (.agg cs) k) : k (sub agg off sz cs) ∧ off + sz ≤ cs.length := by
 cases agg with
 | true =>
  simp only [partK] at h
  obtain ⟨h1, h2⟩ := dropK_iff _ _ _ h
  obtain ⟨h3, h4⟩ := takeK_iff _ _ _ h1
  simp at h4
  exact ⟨h3, by omega⟩
 | false =>
  simp only [partK] at h
  obtain ⟨s, h1, h2⟩ := getK_iff _ _ _ h
  have := (List.getElem?_eq_some_iff.1 h1).1
  exact ⟨by simpa [sub, h1] using h2, by have := hs rfl; omega⟩
theorem sub_den {w : World} {imm D : Nat → Prop} {ι : Env} {agg : Bool} {off sz : Nat} {cs : List SV} {vs : List Value} (h : denL w imm cs D ι vs) (hle : off + sz ≤ cs.length) (hs : agg = false → sz = 1) :
  (agg = true → den w imm (sub agg off sz cs) D ι (.agg (vs.toArray.extract off (off + sz)))) ∧ (agg = false → ∃ u, vs[off]? = some u ∧ den w imm (sub agg off sz cs) D ι u) := by
 constructor
 ·rintro rfl
  simp only [sub, den]
  exact ⟨(vs.drop off).take sz, by simp, denL_take (denL_drop h)⟩
 ·rintro rfl
  have h1 := hs rfl
  have hlt : off < cs.length := by omega
  obtain ⟨u, h2, h3⟩ := denL_get h (List.getElem?_eq_getElem hlt)
  exact ⟨u, h2, by simpa [sub, hlt] using h3⟩
theorem sub_ext {agg : Bool} {off sz : Nat} {xs ys : List SV} (hx : off + sz ≤ xs.length) (hy : off + sz ≤ ys.length) (hs : agg = false → sz = 1) (h : sub agg off sz xs = sub agg off sz ys) :
  ∀ j, off ≤ j → j < off + sz → xs[j]? = ys[j]? := by
 intro j h1 h2
 cases agg with
 | true =>
  simp only [sub, SV.agg.injEq] at h
  have := congrArg (·[j - off]?) h
  simp only [List.getElem?_take, List.getElem?_drop] at this
  rw [if_pos (by omega), if_pos (by omega), show off + (j - off) = j by omega] at this
  exact this
 | false =>
  have h3 := hs rfl
  have e : j = off := by omega
  subst e
  simp only [sub] at h
  have a1 : j < xs.length := by omega
  have a2 : j < ys.length := by omega
  simp [a1, a2] at h ⊢
  exact h
section
variable {P : Program}
theorem shapeF_spec {g : TypeId → Option TShape} : ∀ {l : List Field} {fs : List (Nat × Nat × Bool × TShape)}, shapeF P g l = some fs →
  (l = [] ∧ fs = []) ∨ ∃ f l' s z b r, l = f :: l' ∧ fs = (f.offset, z, b, s) :: r ∧ f.name ≠ "_" ∧ g f.type = some s ∧ sizeT P f.type = some z ∧ isAggT P f.type = some b ∧ (b = false → z = 1) ∧ shapeF P g l' = some r
 | [], fs, h => by simp only [shapeF] at h; exact .inl ⟨rfl, (Option.some.inj h).symm⟩
 | f :: l, fs, h => by
  simp only [shapeF] at h
  split at h
  ·cases h
  rename_i hn
  have hn : f.name ≠ "_" := by simpa using hn
  split at h
  case h_2 => cases h
  rename_i s z b r h1 h2 h3 h4
  split at h
  ·exact .inr ⟨f, l, s, _, true, r, rfl, (Option.some.inj h).symm, hn, h1, h2, h3, by simp, h4⟩
  ·exact .inr ⟨f, l, s, 1, false, r, rfl, (Option.some.inj h).symm, hn, h1, h2, h3, by simp, h4⟩
  ·cases h
theorem shapeT_succ (n : Nat) (t : TypeId) : shapeT P (n + 1) t = (match P.underlying t with
  | some (.int k) => some (.int k)
  | some .bool => some .bool
  | some .string => some .str
  | some (.struct fs) => if P.stoodInHeld t then none else (shapeF P (shapeT P n) fs.toList).map .st
  | some (.array k e) =>
   match shapeT P n e, sizeT P e, isAggT P e with
   | some s, some z, some b => if b = false → z = 1 then some (.arr k z b s) else none
   | _, _, _ => none
  | _ => none) := by
 simp only [shapeT]
 cases P.underlying t with
 | none => rfl
 | some d =>
  cases d
  case struct fs => cases P.stoodInHeld t <;> rfl
  case array k e =>
   simp only
   cases shapeT P n e <;> cases sizeT P e <;> cases isAggT P e <;> try rfl
   rename_i s z b
   cases b
   ·by_cases hz : z = 1
    ·subst hz; simp
    ·simp only [hz]
     split <;> simp_all
   ·simp
  all_goals rfl
def EqAt (P : Program) (d : Nat) (t : TypeId) (sh : TShape) : Prop :=
 ∀ {w : World} {imm D : Nat → Prop} {ι : Env} {s1 s2 : SV} {v1 v2 : Value}, den w imm s1 D ι v1 → den w imm s2 D ι v2 → shOK sh s1 → shOK sh s2 →
  ∃ b, (Op.equalIn d t v1 v2).run P w = .ok b w ∧ (b = true ↔ s1 = s2)
theorem eqF_run {n d : Nat} (ih : ∀ t sh, shapeT P n t = some sh → EqAt P d t sh) {w : World} {imm D : Nat → Prop} {ι : Env} {xs ys : List SV} {us vs : List Value}
  (hx : denL w imm xs D ι us) (hy : denL w imm ys D ι vs) : ∀ (l : List Field) (fs : List (Nat × Nat × Bool × TShape)) (off : Nat), shapeF P (shapeT P n) l = some fs → shF fs off xs → shF fs off ys →
  ∃ b, (Op.eqFields d us.toArray vs.toArray l).run P w = .ok b w ∧ (b = true ↔ ∀ j, off ≤ j → xs[j]? = ys[j]?)
 | l, fs, off, hl, h1, h2 => by
  rcases shapeF_spec hl with ⟨rfl, rfl⟩ | ⟨f, l', s, z, b, r, rfl, rfl, hn, h3, h4, h5, h6, h7⟩
  ·simp only [shF] at h1 h2
   have e1 := lenIs_iff h1
   have e2 := lenIs_iff h2
   refine ⟨true, rfl, by simp; intro j hj; rw [List.getElem?_eq_none (by omega), List.getElem?_eq_none (by omega)]⟩
  ·simp only [shF] at h1 h2
   obtain ⟨rfl, h1, h1'⟩ := h1
   obtain ⟨_, h2, h2'⟩ := h2
   obtain ⟨a1, a2⟩ := partK_sub h6 h1
   obtain ⟨b1, b2⟩ := partK_sub h6 h2
   obtain ⟨bo, c1, c2⟩ := eqF_run ih hx hy l' r (f.offset + z) h7 h1' h2'
   obtain ⟨x1, x2⟩ := sub_den (agg := b) hx a2 h6
   obtain ⟨y1, y2⟩ := sub_den (agg := b) hy b2 h6
   obtain ⟨p1, p2⟩ := run_part h5 h4 w us.toArray f.offset
   obtain ⟨q1, q2⟩ := run_part h5 h4 w vs.toArray f.offset
   -- the two parts as the machine reads them
   have parts : ∃ u v, (part f.type us.toArray f.offset).run P w = .ok u w ∧ (part f.type vs.toArray f.offset).run P w = .ok v w ∧
     den w imm (sub b f.offset z xs) D ι u ∧ den w imm (sub b f.offset z ys) D ι v := by
    cases b with
    | true => exact ⟨_, _, p1 rfl, q1 rfl, x1 rfl, y1 rfl⟩
    | false =>
     obtain ⟨u, k1, k2⟩ := x2 rfl
     obtain ⟨v, k3, k4⟩ := y2 rfl
     exact ⟨u, v, p2 rfl u (by simpa using k1), q2 rfl v (by simpa using k3), k2, k4⟩
   obtain ⟨u, v, k1, k2, k3, k4⟩ := parts
   obtain ⟨be, m1, m2⟩ := ih f.type s h3 k3 k4 a1 b1
   cases be with
   | true =>
    have heq := m2.1 rfl
    refine ⟨bo, ?_, ?_⟩
    ·simp [Op.eqFields, hn, k1, k2, m1, c1]
    ·rw [c2]
     refine ⟨fun h j hj => ?_, fun h j hj => h j (by omega)⟩
     by_cases hlt : j < f.offset + z
     ·exact sub_ext a2 b2 h6 heq j hj hlt
     ·exact h j (by omega)
   | false =>
    refine ⟨false, ?_, ?_⟩
    ·simp [Op.eqFields, hn, k1, k2, m1]
    ·simp only [Bool.false_eq_true, false_iff]
     intro h
     refine absurd (m2.2 ?_) (by simp)
     cases b with
     | true =>
      simp only [sub]
      congr 1
      apply List.ext_getElem?
      intro j
      simp only [List.getElem?_take, List.getElem?_drop]
      split
      ·exact h _ (by omega)
      ·rfl
     | false =>
      simp only [sub]
      rw [h _ (Nat.le_refl _)]
theorem eqA_run {d : Nat} {e : TypeId} {sh : TShape} {sz : Nat} {agg : Bool} (ih : EqAt P d e sh) (hb : isAggT P e = some agg) (hs : sizeT P e = some sz) (h6 : agg = false → sz = 1)
  {w : World} {imm D : Nat → Prop} {ι : Env} {xs ys : List SV} {us vs : List Value} (hx : denL w imm xs D ι us) (hy : denL w imm ys D ι vs) (k : Nat) :
  ∀ (m i : Nat), i + m = k → (∀ j, j < k → partK agg (j * sz) sz (.agg xs) fun x => shOK sh x) → (∀ j, j < k → partK agg (j * sz) sz (.agg ys) fun x => shOK sh x) →
  ∃ b, (do
    let r ← forIn (m := Sem) (List.range' i m) ((none, ()) : Option Bool × Unit) fun i _ => do
     if !(← Op.equalIn d e (← part e us.toArray (i * sz)) (← part e vs.toArray (i * sz))) then pure (ForInStep.done (some false, ())) else pure (ForInStep.yield (none, ()))
    match r.fst with
    | some a => pure a
    | none => pure true : Sem Bool).run P w = .ok b w ∧ (b = true ↔ ∀ j, i * sz ≤ j → j < k * sz → xs[j]? = ys[j]?)
 | 0, i, hi, _, _ => ⟨true, by simp, by
   simp; intro j h1 h2
   have : i = k := by omega
   subst this; omega⟩
 | m + 1, i, hi, h1, h2 => by
  obtain ⟨a1, a2⟩ := partK_sub h6 (h1 i (by omega))
  obtain ⟨b1, b2⟩ := partK_sub h6 (h2 i (by omega))
  obtain ⟨bo, c1, c2⟩ := eqA_run ih hb hs h6 hx hy k m (i + 1) (by omega) h1 h2
  obtain ⟨x1, x2⟩ := sub_den (agg := agg) hx a2 h6
  obtain ⟨y1, y2⟩ := sub_den (agg := agg) hy b2 h6
  obtain ⟨p1, p2⟩ := run_part hb hs w us.toArray (i * sz)
  obtain ⟨q1, q2⟩ := run_part hb hs w vs.toArray (i * sz)
  have parts : ∃ u v, (part e us.toArray (i * sz)).run P w = .ok u w ∧ (part e vs.toArray (i * sz)).run P w = .ok v w ∧
    den w imm (sub agg (i * sz) sz xs) D ι u ∧ den w imm (sub agg (i * sz) sz ys) D ι v := by
   cases agg with
   | true => exact ⟨_, _, p1 rfl, q1 rfl, x1 rfl, y1 rfl⟩
   | false =>
    obtain ⟨u, k1, k2⟩ := x2 rfl
    obtain ⟨v, k3, k4⟩ := y2 rfl
    exact ⟨u, v, p2 rfl u (by simpa using k1), q2 rfl v (by simpa using k3), k2, k4⟩
  obtain ⟨u, v, k1, k2, k3, k4⟩ := parts
  obtain ⟨be, m1, m2⟩ := ih k3 k4 a1 b1
  cases be with
  | true =>
   have heq := m2.1 rfl
   refine ⟨bo, ?_, ?_⟩
   ·rw [← c1]
    simp only [List.range'_succ, List.forIn_cons, Sem.run_bind, k1, k2, m1, Result.andThen, Bool.not_true, Bool.false_eq_true, if_false, Sem.run_pure]
   ·rw [c2]
    refine ⟨fun h j hj hk => ?_, fun h j hj hk => h j (by rw [Nat.succ_mul] at hj; omega) hk⟩
    by_cases hlt : j < i * sz + sz
    ·exact sub_ext a2 b2 h6 heq j hj hlt
    ·exact h j (by rw [Nat.succ_mul]; omega) hk
  | false =>
   refine ⟨false, ?_, ?_⟩
   ·simp only [List.range'_succ, List.forIn_cons, Sem.run_bind, k1, k2, m1, Result.andThen, Bool.not_false, if_true, Sem.run_pure]
   ·simp only [Bool.false_eq_true, false_iff]
    intro h
    have hk' : i * sz + sz ≤ k * sz := by rw [← Nat.succ_mul]; exact Nat.mul_le_mul_right _ (by omega)
    refine absurd (m2.2 ?_) (by simp)
    cases agg with
    | true =>
     simp only [sub]
     congr 1
     apply List.ext_getElem?
     intro j
     simp only [List.getElem?_take, List.getElem?_drop]
     split
     ·exact h _ (by omega) (by omega)
     ·rfl
    | false =>
     simp only [sub]
     rw [h _ (Nat.le_refl _) (by have := h6 rfl; omega)]
end
end Go.TV
/- The value calculus, part O: equality by shape; looking up and writing maps. -/
namespace Go.TV
open Go.RowKit
section
variable {P : Program}
theorem bytes_beq (a b : ByteArray) : (a == b) = true ↔ a = b := by
 obtain ⟨x⟩ := a
 obtain ⟨y⟩ := b
 show (x == y) = true ↔ _
 simp
theorem eqAt_of_shape : ∀ (n : Nat) (t : TypeId) (sh : TShape), shapeT P n t = some sh → ∀ d, n ≤ d → EqAt P d t sh
 | 0, t, sh, h, _, _ => by simp [shapeT] at h
 | n + 1, t, sh, h, d, hd => by
  obtain ⟨d, rfl⟩ : ∃ d', d = d' + 1 := ⟨d - 1, by omega⟩
  have ih : ∀ t sh, shapeT P n t = some sh → EqAt P d t sh := fun t sh h => eqAt_of_shape n t sh h d (by omega)
  rw [shapeT_succ] at h
  rename_i w imm D ι s1 s2 v1 v2
  intro hd1 hd2 ho1 ho2
  split at h
  ·rename_i k hu
   obtain rfl := Option.some.inj h
   cases s1 <;> simp only [shOK] at ho1
   cases s2 <;> simp only [shOK] at ho2
   subst ho1; subst ho2
   simp only [den] at hd1 hd2
   subst hd1; subst hd2
   exact ⟨_, run_equalIn_int w d t _ _ _ _ hu, by simp⟩
  ·rename_i hu
   obtain rfl := Option.some.inj h
   cases s1 <;> simp only [shOK] at ho1
   cases s2 <;> simp only [shOK] at ho2
   simp only [den] at hd1 hd2
   subst hd1; subst hd2
   exact ⟨_, run_equalIn_bool' w d t _ _ hu, by simp⟩
  ·rename_i hu
   obtain rfl := Option.some.inj h
   cases s1 <;> simp only [shOK] at ho1
   cases s2 <;> simp only [shOK] at ho2
   simp only [den] at hd1 hd2
   subst hd1; subst hd2
   refine ⟨_, run_equalIn_string w d t _ _ hu, ?_⟩
   rw [← beq_toListBytes, bytes_beq]
   simp
  ·rename_i fs hu
   split at h
   ·cases h
   rename_i hst
   simp only [Option.map_eq_some_iff] at h
   obtain ⟨l, h1, rfl⟩ := h
   cases s1 <;> simp only [shOK] at ho1
   cases s2 <;> simp only [shOK] at ho2
   rename_i xs ys
   simp only [den] at hd1 hd2
   obtain ⟨us, rfl, hx⟩ := hd1
   obtain ⟨vs, rfl, hy⟩ := hd2
   have hf : P.fieldsOf t = fs := by simp [Program.fieldsOf, hu]
   obtain ⟨b, e1, e2⟩ := eqF_run (P := P) ih hx hy fs.toList l 0 h1 ho1 ho2
   refine ⟨b, ?_, ?_⟩
   ·rw [run_equalIn_struct w d t _ _ (by rw [hf]; exact hu) (by simpa using hst), hf]
    exact e1
   ·rw [e2]
    simp only [SV.agg.injEq]
    exact ⟨fun h => List.ext_getElem? fun j => h j (Nat.zero_le _), fun h j _ => by rw [h]⟩
  ·rename_i k e hu
   split at h
   case h_2 => cases h
   rename_i s z b h1 h2 h3
   split at h
   case isFalse => cases h
   rename_i hz
   obtain rfl := Option.some.inj h
   cases s1 <;> simp only [shOK] at ho1
   cases s2 <;> simp only [shOK] at ho2
   rename_i xs ys
   simp only [den] at hd1 hd2
   obtain ⟨us, rfl, hx⟩ := hd1
   obtain ⟨vs, rfl, hy⟩ := hd2
   obtain ⟨bb, e1, e2⟩ := eqA_run (P := P) (ih e s h1) h3 h2 hz hx hy k k 0 (by omega) ((andN_iff k).1 ho1.2) ((andN_iff k).1 ho2.2)
   refine ⟨bb, ?_, ?_⟩
   ·rw [← e1]
    simp only [Op.equalIn, Sem.run_bind, run_underlying hu, Result.andThen_ok, run_sizeT h2]
    rw [Std.Legacy.Range.forIn_eq_forIn_range']
    simp [Std.Legacy.Range.size]
    congr 1
    funext a w'
    rcases a with ⟨_ | _, _⟩ <;> rfl
   ·rw [e2]
    have l1 := lenIs_iff ho1.1
    have l2 := lenIs_iff ho2.1
    simp only [SV.agg.injEq, Nat.zero_mul]
    refine ⟨fun h => List.ext_getElem? fun j => ?_, fun h j _ _ => by rw [h]⟩
    by_cases hj : j < k * z
    ·exact h j (Nat.zero_le _) hj
    ·rw [List.getElem?_eq_none (by omega), List.getElem?_eq_none (by omega)]
  ·cases h
theorem checkKey_run : ∀ (n : Nat) (t : TypeId) (sh : TShape), shapeT P n t = some sh → ∀ (emp : Bool) (d : Nat), n ≤ d → ∀ {w : World} {imm D : Nat → Prop} {ι : Env} {s : SV} {v : Value}, den w imm s D ι v → shOK sh s →
  (Instr.checkKey emp d t v).run P w = .ok () w
 | 0, t, sh, h, _, _, _ => by simp [shapeT] at h
 | n + 1, t, sh, h, emp, d, hd => by
  obtain ⟨d, rfl⟩ : ∃ d', d = d' + 1 := ⟨d - 1, by omega⟩
  rw [shapeT_succ] at h
  rename_i w imm D ι s v
  intro hv ho
  split at h
  ·rename_i k hu
   obtain rfl := Option.some.inj h
   cases s <;> simp only [shOK] at ho
   simp only [den] at hv
   subst hv
   simp [Instr.checkKey, run_underlying hu]
  ·rename_i hu
   obtain rfl := Option.some.inj h
   cases s <;> simp only [shOK] at ho
   simp only [den] at hv
   subst hv
   simp [Instr.checkKey, run_underlying hu]
  ·rename_i hu
   obtain rfl := Option.some.inj h
   cases s <;> simp only [shOK] at ho
   simp only [den] at hv
   subst hv
   simp [Instr.checkKey, run_underlying hu]
  ·rename_i fs hu
   split at h
   ·cases h
   simp only [Option.map_eq_some_iff] at h
   obtain ⟨l, h1, rfl⟩ := h
   cases s <;> simp only [shOK] at ho
   rename_i xs
   simp only [den] at hv
   obtain ⟨us, rfl, hx⟩ := hv
   have key : ∀ (fl : List Field) (l : List (Nat × Nat × Bool × TShape)) (off : Nat), shapeF P (shapeT P n) fl = some l → shF l off xs →
     (forIn (m := Sem) fl PUnit.unit fun f _ => do
      if f.name ≠ "_" then
       Instr.checkKey emp d f.type (← part f.type us.toArray f.offset)
       pure (ForInStep.yield PUnit.unit)
      else pure (ForInStep.yield PUnit.unit)).run P w = .ok PUnit.unit w := by
    intro fl
    induction fl with
    | nil => intro l off _ _; simp
    | cons f0 fl ihl =>
     intro l off hl ho'
     rcases shapeF_spec hl with ⟨h2, _⟩ | ⟨f, l', s, z, b, r, h2, rfl, hn, h3, h4, h5, h6, h7⟩
     ·cases h2
     cases h2
     simp only [shF] at ho'
     obtain ⟨rfl, ho1, ho2⟩ := ho'
     obtain ⟨a1, a2⟩ := partK_sub h6 ho1
     obtain ⟨x1, x2⟩ := sub_den (agg := b) hx a2 h6
     obtain ⟨p1, p2⟩ := run_part h5 h4 w us.toArray f0.offset
     have hp : ∃ u, (part f0.type us.toArray f0.offset).run P w = .ok u w ∧ den w imm (sub b f0.offset z xs) D ι u := by
      cases b with
      | true => exact ⟨_, p1 rfl, x1 rfl⟩
      | false =>
       obtain ⟨u, k1, k2⟩ := x2 rfl
       exact ⟨u, p2 rfl u (by simpa using k1), k2⟩
     obtain ⟨u, k1, k2⟩ := hp
     have k3 := checkKey_run n f0.type s h3 emp d (by omega) k2 a1
     have k4 := ihl r _ h7 ho2
     simp only [List.forIn_cons, Sem.run_bind, if_pos hn, k1, k3, Result.andThen, Sem.run_pure]
     exact k4
   have := key fs.toList l 0 h1 ho
   simp only [Instr.checkKey, Sem.run_bind, run_underlying hu, Result.andThen_ok]
   rw [← Array.forIn_toList]
   simp at this ⊢
   rw [this]
   rfl
  ·rename_i k e hu
   split at h
   case h_2 => cases h
   rename_i s' z b h1 h2 h3
   split at h
   case isFalse => cases h
   rename_i hz
   obtain rfl := Option.some.inj h
   cases s <;> simp only [shOK] at ho
   rename_i xs
   simp only [den] at hv
   obtain ⟨us, rfl, hx⟩ := hv
   have ho2 := (andN_iff k).1 ho.2
   have key : ∀ (m i : Nat), i + m = k →
     (forIn (m := Sem) (List.range' i m) PUnit.unit fun i _ => do
      Instr.checkKey emp d e (← part e us.toArray (i * (← sizeOf e)))
      pure (ForInStep.yield PUnit.unit)).run P w = .ok PUnit.unit w := by
    intro m
    induction m with
    | zero => intro i _; simp
    | succ m ihm =>
     intro i hi
     obtain ⟨a1, a2⟩ := partK_sub hz (ho2 i (by omega))
     obtain ⟨x1, x2⟩ := sub_den (agg := b) hx a2 hz
     obtain ⟨p1, p2⟩ := run_part h3 h2 w us.toArray (i * z)
     have hp : ∃ u, (part e us.toArray (i * z)).run P w = .ok u w ∧ den w imm (sub b (i * z) z xs) D ι u := by
      cases b with
      | true => exact ⟨_, p1 rfl, x1 rfl⟩
      | false =>
       obtain ⟨u, k1, k2⟩ := x2 rfl
       exact ⟨u, p2 rfl u (by simpa using k1), k2⟩
     obtain ⟨u, k1, k2⟩ := hp
     have k3 := checkKey_run n e s' h1 emp d (by omega) k2 a1
     have k4 := ihm (i + 1) (by omega)
     simp only [List.range'_succ, List.forIn_cons, Sem.run_bind, run_sizeT h2, k1, k3, Result.andThen, Sem.run_pure]
     exact k4
   have := key k 0 (by omega)
   simp only [Instr.checkKey, Sem.run_bind, run_underlying hu, Result.andThen_ok]
   rw [Std.Legacy.Range.forIn_eq_forIn_range']
   simp [Std.Legacy.Range.size] at this ⊢
   rw [this]
   rfl
  ·cases h
end
end Go.TV
/- The value calculus, part P: equality tests, lookups and stores in maps. -/
namespace Go.TV
open Go.RowKit
section
variable {P : Program} {w : World} {imm D : Nat → Prop} {ι : Env}
theorem denM_mem {es : List (SV × SV)} {ents : Array MapEntry} {idx : List Nat} (h : denM w imm es D ι ents idx) :
  (∀ j ∈ idx, ∃ p ∈ es, ∃ e, ents[j]? = some e ∧ den w imm p.1 D ι e.key ∧ den w imm p.2 D ι e.val) ∧ idx.length = es.length := by
 induction es generalizing idx with
 | nil => simp only [denM] at h; subst h; simp
 | cons p es ih =>
  obtain ⟨k, v⟩ := p
  simp only [denM] at h
  obtain ⟨i, rest, e, rfl, h1, h2, h3, h4⟩ := h
  obtain ⟨h5, h6⟩ := ih h4
  refine ⟨fun j hj => ?_, by simp [h6]⟩
  rcases List.mem_cons.1 hj with rfl | hj
  ·exact ⟨(k, v), by simp, e, h1, h2, h3⟩
  ·obtain ⟨p, hp, r⟩ := h5 j hj
   exact ⟨p, by simp [hp], r⟩
theorem denM_at {es : List (SV × SV)} {ents : Array MapEntry} {idx : List Nat} (h : denM w imm es D ι ents idx) : ∀ {j : Nat}, j ∈ idx →
  ∃ pre k v post ipre ipost e, es = pre ++ (k, v) :: post ∧ idx = ipre ++ j :: ipost ∧ ents[j]? = some e ∧ den w imm k D ι e.key ∧ den w imm v D ι e.val ∧ denM w imm pre D ι ents ipre ∧ denM w imm post D ι ents ipost := by
 induction es generalizing idx with
 | nil => intro j hj; simp only [denM] at h; subst h; cases hj
 | cons p es ih =>
  intro j hj
  obtain ⟨k, v⟩ := p
  simp only [denM] at h
  obtain ⟨i, rest, e, rfl, h1, h2, h3, h4⟩ := h
  rcases List.mem_cons.1 hj with rfl | hj
  ·exact ⟨[], k, v, es, [], rest, e, rfl, rfl, h1, h2, h3, by simp only [denM], h4⟩
  ·obtain ⟨pre, k', v', post, ipre, ipost, e', rfl, rfl, k1, k2, k3, k4, k5⟩ := ih h4 hj
   exact ⟨(k, v) :: pre, k', v', post, i :: ipre, ipost, e', rfl, rfl, k1, k2, k3, by simp only [denM]; exact ⟨i, ipre, e, rfl, h1, h2, h3, k4⟩, k5⟩
theorem denM_append {es es' : List (SV × SV)} {ents : Array MapEntry} {idx idx' : List Nat} (h : denM w imm es D ι ents idx) (h' : denM w imm es' D ι ents idx') : denM w imm (es ++ es') D ι ents (idx ++ idx') := by
 induction es generalizing idx with
 | nil => simp only [denM] at h; subst h; exact h'
 | cons p es ih =>
  obtain ⟨k, v⟩ := p
  simp only [denM] at h
  obtain ⟨i, rest, e, rfl, h1, h2, h3, h4⟩ := h
  simp only [List.cons_append, denM]
  exact ⟨i, rest ++ idx', e, rfl, h1, h2, h3, ih h4⟩
theorem denM_ents {es : List (SV × SV)} {ents ents' : Array MapEntry} {idx : List Nat} (h : denM w imm es D ι ents idx) (he : ∀ j ∈ idx, ∀ e, ents[j]? = some e → ∃ e', ents'[j]? = some e' ∧ e'.key = e.key ∧ e'.val = e.val) :
  denM w imm es D ι ents' idx := by
 induction es generalizing idx with
 | nil => simpa only [denM] using h
 | cons p es ih =>
  obtain ⟨k, v⟩ := p
  simp only [denM] at h ⊢
  obtain ⟨i, rest, e, rfl, h1, h2, h3, h4⟩ := h
  obtain ⟨e', k1, k2, k3⟩ := he i (by simp) e h1
  exact ⟨i, rest, e', rfl, k1, by rw [k2]; exact h2, by rw [k3]; exact h3, ih h4 fun j hj => he j (by simp [hj])⟩
def Found (w : World) (imm D : Nat → Prop) (ι : Env) (sh : TShape) (k : SV) (l : List MapEntry) (i : Nat) (r : Option (Nat × Value)) : Prop :=
 (∀ j v, r = some (j, v) → ∃ n e, j = i + n ∧ l[n]? = some e ∧ v = e.val ∧ ∀ s, den w imm s D ι e.key → shOK sh s → k = s) ∧
 (r = none → ∀ e ∈ l, ∀ s, den w imm s D ι e.key → shOK sh s → k ≠ s)
theorem Found.here {sh : TShape} {k : SV} {l : List MapEntry} {i : Nat} {e : MapEntry} (h : ∀ s, den w imm s D ι e.key → shOK sh s → k = s) : Found w imm D ι sh k (e :: l) i (some (i, e.val)) :=
 ⟨fun j v hr => by cases hr; exact ⟨0, e, rfl, rfl, rfl, h⟩, fun hr => by cases hr⟩
theorem Found.there {sh : TShape} {k : SV} {l : List MapEntry} {i : Nat} {e : MapEntry} {r : Option (Nat × Value)} (h : ∀ s, den w imm s D ι e.key → shOK sh s → k ≠ s) (hr : Found w imm D ι sh k l (i + 1) r) :
    Found w imm D ι sh k (e :: l) i r :=
  ⟨fun j v hj => by
    obtain ⟨n, e', rfl, h1, h2⟩ := hr.1 j v hj
    exact ⟨n + 1, e', by omega, by simpa using h1, h2⟩,
   fun hn e' he' => by
    rcases List.mem_cons.1 he' with rfl | he'
    · exact h
    · exact hr.2 hn e' he'⟩
theorem findAsking_run {n : Nat} {kt : TypeId} {sh : TShape} (hs : shapeT P n kt = some sh) (hn : n ≤ 10000) {k : SV} {kv : Value} (hk : den w imm k D ι kv) (ho : shOK sh k) :
  ∀ (l : List MapEntry) (i : Nat), (∀ e ∈ l, ∃ s, den w imm s D ι e.key ∧ shOK sh s) → ∃ r, (Instr.findAsking kt kv l i).run P w = .ok r w ∧ Found w imm D ι sh k l i r
 | [], i, _ => ⟨none, rfl, (fun j v h => by cases h), (fun _ e he => by cases he)⟩
 | e :: l, i, hl => by
  obtain ⟨s, h1, h2⟩ := hl e (by simp)
  obtain ⟨b, h3, h4⟩ := eqAt_of_shape n kt sh hs 10000 hn hk h1 ho h2
  have huniq : ∀ s', den w imm s' D ι e.key → shOK sh s' → (b = true ↔ k = s') := by
   intro s' h5 h6
   obtain ⟨b', h7, h8⟩ := eqAt_of_shape n kt sh hs 10000 hn hk h5 ho h6
   rw [h3] at h7
   cases h7
   exact h8
  cases b with
  | true => exact ⟨some (i, e.val), by simp [Instr.findAsking, Op.equal, Op.maxDepth, h3], .here fun s' h5 h6 => (huniq s' h5 h6).1 rfl⟩
  | false =>
   obtain ⟨r, h5, h6⟩ := findAsking_run hs hn hk ho l (i + 1) (fun e' he' => hl e' (by simp [he']))
   exact ⟨r, by simp [Instr.findAsking, Op.equal, Op.maxDepth, h3, h5], .there (fun s' h7 h8 e => by have := (huniq s' h7 h8).2 e; cases this) h6⟩
theorem sameNow_spec {n : Nat} {kt : TypeId} {sh : TShape} {d : TypeDesc} (hs : shapeT P n kt = some sh) (hd : P.underlying kt = some d) {k s : SV} {kv v : Value} (hk : den w imm k D ι kv) (ho : shOK sh k)
  (hv : den w imm s D ι v) (ho' : shOK sh s) {b : Bool} (h : Instr.sameNow d kv v = some b) : (b = true ↔ k = s) := by
 cases n with
 | zero => simp [shapeT] at hs
 | succ n =>
  rw [shapeT_succ, hd] at hs
  split at hs
  ·obtain rfl := Option.some.inj hs
   rename_i e
   obtain rfl := Option.some.inj e
   cases k <;> simp only [shOK] at ho
   cases s <;> simp only [shOK] at ho'
   subst ho; subst ho'
   simp only [den] at hk hv
   subst hk; subst hv
   simp only [Instr.sameNow, if_true] at h
   cases h
   simp
  ·obtain rfl := Option.some.inj hs
   rename_i e
   obtain rfl := Option.some.inj e
   cases k <;> simp only [shOK] at ho
   cases s <;> simp only [shOK] at ho'
   simp only [den] at hk hv
   subst hk; subst hv
   simp only [Instr.sameNow] at h
   cases h
   simp
  ·obtain rfl := Option.some.inj hs
   rename_i e
   obtain rfl := Option.some.inj e
   cases k <;> simp only [shOK] at ho
   cases s <;> simp only [shOK] at ho'
   simp only [den] at hk hv
   subst hk; subst hv
   simp only [Instr.sameNow] at h
   cases h
   simp [bytes_beq]
  ·rename_i fs e
   obtain rfl := Option.some.inj e
   simp [Instr.sameNow] at h
  ·rename_i m et e
   obtain rfl := Option.some.inj e
   simp [Instr.sameNow] at h
  ·cases hs
theorem findNow_spec {n : Nat} {kt : TypeId} {sh : TShape} {d : TypeDesc} (hs : shapeT P n kt = some sh) (hd : P.underlying kt = some d) {k : SV} {kv : Value} (hk : den w imm k D ι kv) (ho : shOK sh k) :
  ∀ (l : List MapEntry) (i : Nat) (r : Option (Nat × Value)), (∀ e ∈ l, ∃ s, den w imm s D ι e.key ∧ shOK sh s) → Instr.findNow d kv l i = some r → Found w imm D ι sh k l i r
 | [], i, r, _, h => by
  simp only [Instr.findNow] at h
  obtain rfl := Option.some.inj h
  exact ⟨(fun j v h => by cases h), (fun _ e he => by cases he)⟩
 | e :: l, i, r, hl, h => by
  simp only [Instr.findNow] at h
  split at h
  ·rename_i hb
   obtain rfl := Option.some.inj h
   exact .here fun s h1 h2 => (sameNow_spec hs hd hk ho h1 h2 hb).1 rfl
  ·rename_i hb
   exact .there (fun s h1 h2 e => by have := (sameNow_spec hs hd hk ho h1 h2 hb).2 e; cases this) (findNow_spec hs hd hk ho l (i + 1) r (fun e' he' => hl e' (by simp [he'])) h)
  ·cases h
theorem findKey_run {n : Nat} {kt : TypeId} {sh : TShape} (hs : shapeT P n kt = some sh) (hn : n ≤ 10000) {k : SV} {kv : Value} (hk : den w imm k D ι kv) (ho : shOK sh k) (l : List MapEntry)
  (hl : ∀ e ∈ l, ∃ s, den w imm s D ι e.key ∧ shOK sh s) : ∃ r, (Instr.findKey kt kv l).run P w = .ok r w ∧ Found w imm D ι sh k l 0 r := by
 have hd : ∃ d, P.underlying kt = some d := by
  cases n with
  | zero => simp [shapeT] at hs
  | succ n =>
   rw [shapeT_succ] at hs
   cases h : P.underlying kt with
   | none => rw [h] at hs; cases hs
   | some d => exact ⟨d, rfl⟩
 obtain ⟨d, hd⟩ := hd
 cases hf : Instr.findNow d kv l 0 with
 | some r => exact ⟨r, by simp [Instr.findKey, run_underlying hd, hf], findNow_spec hs hd hk ho l 0 r hl hf⟩
 | none =>
  obtain ⟨r, h1, h2⟩ := findAsking_run hs hn hk ho l 0 hl
  exact ⟨r, by simp [Instr.findKey, run_underlying hd, hf, h1], h2⟩
end
section
variable {P : Program}
theorem shapeT_int {n : Nat} {t : TypeId} {k : IntKind} (hs : shapeT P n t = some (.int k)) : P.underlying t = some (.int k) := by
 cases n with
 | zero => simp [shapeT] at hs
 | succ n =>
  rw [shapeT_succ] at hs
  split at hs
  ·rename_i k' hu
   cases hs
   exact hu
  ·cases hs
  ·cases hs
  ·split at hs
   ·cases hs
   ·simp [Option.map_eq_some_iff] at hs
  ·split at hs
   ·split at hs
    ·simp at hs
    ·cases hs
   ·cases hs
  ·cases hs
theorem shapeT_str {n : Nat} {t : TypeId} (hs : shapeT P n t = some .str) : P.underlying t = some .string := by
 cases n with
 | zero => simp [shapeT] at hs
 | succ n =>
  rw [shapeT_succ] at hs
  split at hs
  ·cases hs
  ·cases hs
  ·assumption
  ·split at hs
   ·cases hs
   ·simp [Option.map_eq_some_iff] at hs
  ·split at hs
   ·split at hs
    ·simp at hs
    ·cases hs
   ·cases hs
  ·cases hs
end
section ops
variable {P : Program} {σ : List SV} {h : List LB} {nid : Nat} {K : EvK} {dst : Option Tmp} {ty : TypeId} {pos : String} {aft : Array Edge} {gd : Option (Nat × Bool)}
theorem ev_eqv {op : BinOp} {t yt : TypeId} {sh : TShape} {neg : Bool} {x y : Operand} (hop : (op = .eql ∧ neg = false) ∨ (op = .neq ∧ neg = true)) (hs : shapeT P 8 t = some sh) (hm : P.eqGuardType P.depth t = false)
  (hni : ∀ k, P.underlying t ≠ some (.int k)) (hns : P.underlying t ≠ some .string)
  (hK : ev σ h nid (.eqv sh neg (cOpd x) (cOpd y)) K) : EvOK P ⟨dst, .binOp op t x y yt, ty, pos, aft, gd⟩ σ h nid K := by
 simp only [ev, forceK_iff, eqK_iff, posK_iff, outK_iff, shK_iff, Ev_iff, Vc_iff] at hK
 obtain ⟨o1, o2, k1, k2⟩ := hK
 have fin : ∀ b : Bool, (b = true ↔ gv σ (cOpd x) = gv σ (cOpd y)) → K (.bool (if neg then !b else b)) [] [] → EvOK P ⟨dst, .binOp op t x y yt, ty, pos, aft, gd⟩ σ h nid K := fun b hb hKb => by
  refine .pure hKb fun g a w hg hx _ => ?_
  have hx1 := hx x (by simp [Op.operands])
  have hy1 := hx y (by simp [Op.operands])
  obtain ⟨b', e1, e2⟩ := eqAt_of_shape 8 t sh hs 10000 (by omega) hx1 hy1 o1 o2
  have ebb : b' = b := by
   cases b <;> cases b' <;> simp_all
  subst ebb
  refine ⟨_, ?_, by simp only [Gh.den, den]; rfl⟩
  -- the guard, and the run by the kind of the values
  have hgd : (eqGuard op t x y (a.eval x) (a.eval y)).run P w = .ok () w := by
   generalize gv σ (cOpd x) = s1 at *
   generalize gv σ (cOpd y) = s2 at *
   generalize a.eval x = v1 at *
   generalize a.eval y = v2 at *
   cases sh with
   | bool =>
    cases s1 <;> simp only [shOK] at o1
    cases s2 <;> simp only [shOK] at o2
    simp only [Gh.den, den] at hx1 hy1
    subst hx1; subst hy1
    unfold eqGuard; split <;> rfl
   | int k =>
    cases s1 <;> simp only [shOK] at o1
    cases s2 <;> simp only [shOK] at o2
    simp only [Gh.den, den] at hx1 hy1
    subst hx1; subst hy1
    unfold eqGuard; split <;> rfl
   | str =>
    cases s1 <;> simp only [shOK] at o1
    cases s2 <;> simp only [shOK] at o2
    simp only [Gh.den, den] at hx1 hy1
    subst hx1; subst hy1
    unfold eqGuard; split <;> rfl
   | st fs =>
    cases s1 <;> simp only [shOK] at o1
    cases s2 <;> simp only [shOK] at o2
    simp only [Gh.den, den] at hx1 hy1
    obtain ⟨us, rfl, _⟩ := hx1
    obtain ⟨vs, rfl, _⟩ := hy1
    exact run_eqGuard_agg w op t x y _ _ hm
   | arr n sz agg sh =>
    cases s1 <;> simp only [shOK] at o1
    cases s2 <;> simp only [shOK] at o2
    simp only [Gh.den, den] at hx1 hy1
    obtain ⟨us, rfl, _⟩ := hx1
    obtain ⟨vs, rfl, _⟩ := hy1
    exact run_eqGuard_agg w op t x y _ _ hm
  have hbin : (binOp op t (a.eval x) (a.eval y)).run P w = .ok (.bool (if neg then !b' else b')) w := by
   have heq : (Op.equal t (a.eval x) (a.eval y)).run P w = .ok b' w := e1
   generalize gv σ (cOpd x) = s1 at *
   generalize gv σ (cOpd y) = s2 at *
   generalize a.eval x = v1 at *
   generalize a.eval y = v2 at *
   have hsh : (∃ a b, v1 = .bool a ∧ v2 = .bool b) ∨ ∃ a b, v1 = .agg a ∧ v2 = .agg b := by
    cases sh with
    | bool =>
     cases s1 <;> simp only [shOK] at o1
     cases s2 <;> simp only [shOK] at o2
     simp only [Gh.den, den] at hx1 hy1
     exact .inl ⟨_, _, hx1, hy1⟩
    | int k => exact absurd (shapeT_int hs) (hni _)
    | str => exact absurd (shapeT_str hs) hns
    | st fs =>
     cases s1 <;> simp only [shOK] at o1
     cases s2 <;> simp only [shOK] at o2
     simp only [Gh.den, den] at hx1 hy1
     obtain ⟨us, rfl, _⟩ := hx1
     obtain ⟨vs, rfl, _⟩ := hy1
     exact .inr ⟨_, _, rfl, rfl⟩
    | arr n sz agg sh =>
     cases s1 <;> simp only [shOK] at o1
     cases s2 <;> simp only [shOK] at o2
     simp only [Gh.den, den] at hx1 hy1
     obtain ⟨us, rfl, _⟩ := hx1
     obtain ⟨vs, rfl, _⟩ := hy1
     exact .inr ⟨_, _, rfl, rfl⟩
   rcases hsh with ⟨p, q, rfl, rfl⟩ | ⟨p, q, rfl, rfl⟩ <;> rcases hop with ⟨rfl, rfl⟩ | ⟨rfl, rfl⟩ <;> simp [binOp, heq]
  simp only [execOp, Sem.run_bind, hgd, Result.andThen, hbin, Sem.run_pure]
 by_cases c : gv σ (cOpd x) = gv σ (cOpd y)
 ·refine fin true (by simp [c]) ?_
  have := k1 c
  cases neg <;> simpa using this
 ·refine fin false (by simp [c]) ?_
  have := k2 c
  cases neg <;> simpa using this
theorem denM_here {w : World} {imm D : Nat → Prop} {ι : Env} {sh : TShape} {es : List (SV × SV)} {ents : Array MapEntry} {idx : List Nat} (hp : idx.Perm (List.range ents.size)) (h : denM w imm es D ι ents idx) (ho : ∀ e ∈ es, shOK sh e.1) :
  ∀ e ∈ ents.toList, ∃ s, den w imm s D ι e.key ∧ shOK sh s := by
 intro e he
 obtain ⟨j, hj⟩ := List.getElem?_of_mem he
 have hlt : j < ents.size := by have := (List.getElem?_eq_some_iff.1 hj).1; simpa using this
 obtain ⟨p, hpe, e', h1, h2, _⟩ := (denM_mem h).1 j (hp.mem_iff.2 (by simpa using hlt))
 have : e' = e := by have := h1.symm.trans (by simpa using hj); exact Option.some.inj this
 subst this
 exact ⟨p.1, h2, ho p hpe⟩
theorem denM_entry {w : World} {imm D : Nat → Prop} {ι : Env} {es : List (SV × SV)} {ents : Array MapEntry} {idx : List Nat} (h : denM w imm es D ι ents idx) {e : SV × SV} (he : e ∈ es) :
  ∃ (j : Nat) (en : MapEntry), j ∈ idx ∧ ents[j]? = some en ∧ den w imm e.1 D ι en.key := by
 induction es generalizing idx with
 | nil => cases he
 | cons p es ih =>
  obtain ⟨pk, pv⟩ := p
  simp only [denM] at h
  obtain ⟨i', rest, en, rfl, h1, h2, h3, h4⟩ := h
  rcases List.mem_cons.1 he with rfl | he
  ·exact ⟨i', en, by simp, h1, h2⟩
  ·obtain ⟨j, en, k1, k2, k3⟩ := ih h4 he
   exact ⟨j, en, by simp [k1], k2, k3⟩
theorem find_told {w : World} {imm D : Nat → Prop} {ι : Env} {kt : TypeId} {sh : TShape} (hs : shapeT P 8 kt = some sh) {k : SV} {kv : Value} (hk : den w imm k D ι kv) (ho : shOK sh k)
  {es : List (SV × SV)} {ents : Array MapEntry} {idx : List Nat} (hp : idx.Perm (List.range ents.size)) (hd : denM w imm es D ι ents idx) (hes : ∀ e ∈ es, shOK sh e.1) :
  ∃ r, (Instr.findKey kt kv ents.toList).run P w = .ok r w ∧
   ((∀ e ∈ es, k ≠ e.1) → r = none) ∧
   (∀ pre v post, es = pre ++ (k, v) :: post → (∀ e ∈ pre, k ≠ e.1) → (∀ e ∈ post, k ≠ e.1) → ∃ (j : Nat) (en : MapEntry), r = some (j, en.val) ∧ ents[j]? = some en ∧ den w imm k D ι en.key ∧ den w imm v D ι en.val ∧
    ∃ ipre ipost, idx = ipre ++ j :: ipost ∧ denM w imm pre D ι ents ipre ∧ denM w imm post D ι ents ipost) := by
 obtain ⟨r, f1, f2⟩ := findKey_run hs (by omega) hk ho ents.toList (denM_here hp hd hes)
 have hin : ∀ j v, r = some (j, v) → ∃ en, ents[j]? = some en ∧ v = en.val ∧ ∃ pre v' post ipre ipost, es = pre ++ (k, v') :: post ∧ idx = ipre ++ j :: ipost ∧ den w imm k D ι en.key ∧ den w imm v' D ι en.val ∧ denM w imm pre D ι ents ipre ∧ denM w imm post D ι ents ipost := by
  intro j v hr
  obtain ⟨n, en, rfl, h1, rfl, h2⟩ := f2.1 j v hr
  have h1' : ents[n]? = some en := by simpa using h1
  have hlt : n < ents.size := (Array.getElem?_eq_some_iff.1 h1').1
  obtain ⟨pre, k', v', post, ipre, ipost, en', e1, e2, h3, h4, h5, h6, h7⟩ := denM_at hd (hp.mem_iff.2 (by simpa using hlt))
  rw [h1'] at h3
  obtain rfl := Option.some.inj h3
  obtain rfl := h2 k' h4 (hes (k', v') (by rw [e1]; simp))
  refine ⟨en, by simpa using h1', rfl, pre, v', post, ipre, ipost, e1, by simpa using e2, h4, h5, h6, h7⟩
 refine ⟨r, f1, fun hno => ?_, fun pre v post he hpre hpost => ?_⟩
 ·cases r with
  | none => rfl
  | some r =>
   obtain ⟨j, v⟩ := r
   obtain ⟨en, _, _, pre, v', post, _, _, e1, _⟩ := hin j v rfl
   exact absurd rfl (hno (k, v') (by rw [e1]; simp))
 ·cases r with
  | none =>
   obtain ⟨j, en, h1, h2, h3⟩ := denM_entry hd (e := (k, v)) (by rw [he]; simp)
   exact absurd rfl (f2.2 rfl en (Array.mem_toList_iff.2 (Array.mem_of_getElem? h2)) k h3 ho)
  | some r =>
   obtain ⟨j, v0⟩ := r
   obtain ⟨en, h1, rfl, pre', v', post', ipre, ipost, e1, e2, h4, h5, h6, h7⟩ := hin j v0 rfl
   -- the entry with the key is one
   have huniq : pre' = pre ∧ v' = v ∧ post' = post := by
    have e3 : pre ++ (k, v) :: post = pre' ++ (k, v') :: post' := he.symm.trans e1
    have : ∀ (p p' : List (SV × SV)) (q q' : List (SV × SV)) (a a' : SV), (∀ e ∈ p, k ≠ e.1) → (∀ e ∈ q, k ≠ e.1) → p ++ (k, a) :: q = p' ++ (k, a') :: q' → p' = p ∧ a' = a ∧ q' = q := by
     intro p
     induction p with
     | nil =>
      intro p' q q' a a' _ hq e
      cases p' with
      | nil => simp at e; exact ⟨rfl, e.1.symm, e.2.symm⟩
      | cons x p' =>
       simp at e
       exact absurd rfl (hq (k, a') (by rw [e.2]; simp))
     | cons x p ih =>
      intro p' q q' a a' hp' hq e
      cases p' with
      | nil =>
       simp at e
       exact absurd rfl (hp' (k, a') (by rw [e.1]; simp))
      | cons y p' =>
       simp at e
       obtain ⟨r1, r2, r3⟩ := ih p' q q' a a' (fun e he => hp' e (by simp [he])) hq e.2
       exact ⟨by rw [r1, e.1], r2, r3⟩
    exact this pre pre' post post' v v' hpre hpost e3
   obtain ⟨rfl, rfl, rfl⟩ := huniq
   exact ⟨j, en, rfl, h1, h4, h5, ipre, ipost, e2, h6, h7⟩
theorem ev_lookup {t kt et : TypeId} {sh : TShape} {z : SV} {ok : Bool} {x y : Operand} (hu : P.underlying t = some (.map kt et)) (hz : zeroT P et = some z) (hs : shapeT P 8 kt = some sh) (hK : ev σ h nid (.lookup sh z ok (cOpd x) (cOpd y)) K) :
  EvOK P ⟨dst, .lookup t x y ok, ty, pos, aft, gd⟩ σ h nid K := by
 simp only [ev, forceK_iff, eqK_iff, posK_iff, outK_iff, shK_iff, Ev_iff, Vc_iff] at hK
 have core : ∀ (es : List (SV × SV)) (nb : List Nat),
   (∀ (g : Gh) (a : Act) (w : World), GOk g w → g.den w (gv σ (cOpd x)) (a.eval x) → (∀ b ∈ nb, lbden P w g b (hget h b)) →
    ∃ m ents idx, a.eval x = .map (some m) ∧ w.heap[m]? = some (.map ents ents.size) ∧ idx.Perm (List.range ents.size) ∧ g.denM w es ents idx) →
   lookE sh (gv σ (cOpd y)) es z (fun found s => K (if ok then .tup [s, .bool found] else s) [] nb) →
   EvOK P ⟨dst, .lookup t x y ok, ty, pos, aft, gd⟩ σ h nid K := by
  intro es nb hm hK
  simp only [lookE, Ev_iff, Vc_iff] at hK
  obtain ⟨o1, o2, hK⟩ := hK
  have tail : ∀ (found : Bool) (s : SV) {w : World} {g : Gh} {v : Value}, g.den w s v → g.den w (if ok then .tup [s, .bool found] else s) (if ok then .tuple #[v, .bool found] else v) := by
   intro found s w g v hd
   cases ok with
   | false => simpa using hd
   | true =>
    simp only [if_true, Gh.den, den]
    exact ⟨[v, .bool found], rfl, by simp only [denL]; exact ⟨_, _, rfl, hd, _, _, rfl, by simp only [den], rfl⟩⟩
  rcases hK with ⟨pre, v, post, he, hpre, hpost, hK⟩ | ⟨hno, hK⟩
  ·refine .pure hK fun g a w hg hx hbl => ?_
   have hcx := hx x (by simp [Op.operands])
   have hcy := hx y (by simp [Op.operands])
   obtain ⟨m, ents, idx, hv, hh, hp, hd⟩ := hm g a w hg hcx hbl
   obtain ⟨r, f1, _, f3⟩ := find_told hs hcy o1 hp hd o2
   obtain ⟨j, en, rfl, h1, h2, h3, _⟩ := f3 pre v post he hpre hpost
   have hck := checkKey_run 8 kt sh hs ents.isEmpty 10000 (by omega) hcy o1
   have hgo : (getObj m).run P w = .ok (.map ents ents.size) w := by simp [getObj, Sem.run, hh]
   refine ⟨if ok then .tuple #[en.val, .bool true] else en.val, ?_, tail true v h3⟩
   simp only [execOp, Instr.lookup, Sem.run_bind, run_underlying hu, Result.andThen, hv, hgo, Sem.run_pure, hck, f1]
  ·refine .pure hK fun g a w hg hx hbl => ?_
   have hcx := hx x (by simp [Op.operands])
   have hcy := hx y (by simp [Op.operands])
   obtain ⟨m, ents, idx, hv, hh, hp, hd⟩ := hm g a w hg hcx hbl
   obtain ⟨r, f1, f2, _⟩ := find_told hs hcy o1 hp hd o2
   obtain rfl := f2 hno
   obtain ⟨i, zv, hi, hzv, hsv, hn⟩ := zeroT_spec hz
   have hck := checkKey_run 8 kt sh hs ents.isEmpty 10000 (by omega) hcy o1
   have hgo : (getObj m).run P w = .ok (.map ents ents.size) w := by simp [getObj, Sem.run, hh]
   refine ⟨if ok then .tuple #[zv, .bool false] else zv, ?_, tail false z (toSV_den 8 zv z hsv)⟩
   simp only [execOp, Instr.lookup, Sem.run_bind, run_underlying hu, Result.andThen, hv, hgo, Sem.run_pure, hck, f1, run_zeroValue' hi hzv]
 split at hK
 ·rename_i b e1
  split at hK
  ·rename_i es hcs
   refine core es [b] (fun g a w hg hcx hbl => ?_) hK
   rw [e1] at hcx; simp only [Gh.den, den] at hcx
   have hl := hbl b (by simp)
   rw [hcs] at hl
   obtain ⟨l, ents, idx, hi, hh, hp, hb', hd⟩ := hl
   exact ⟨l.blk, ents, idx, hcx.2.2 l hi, hh, hp, hd⟩
  ·exact hK.elim
 ·rename_i es e1
  refine core es [] (fun g a w hg hcx hbl => ?_) hK
  rw [e1] at hcx; simp only [Gh.den, den] at hcx
  obtain ⟨r, ents, idx, hv, hr, hh, hp, hb', hd⟩ := hcx
  exact ⟨r, ents, idx, hv, hh, hp, denM.mono (fun _ h => h) (fun _ _ => rfl) es (fun _ h => h.elim) (fun _ _ h => h.elim) hd⟩
 ·exact hK.elim
theorem ev_lenM {t kt et : TypeId} {x : Operand} {rt : TypeId} (hu : P.underlying t = some (.map kt et)) (hK : ev σ h nid (.lenM (cOpd x)) K) :
  EvOK P ⟨dst, .call { callee := .builtin .len, args := #[x], argTypes := #[t] }, rt, pos, aft, gd⟩ σ h nid K := by
 have run : ∀ (a : Act) (w : World) (m : Nat) (ents : Array MapEntry) (n : Nat), a.eval x = .map (some m) → w.heap[m]? = some (.map ents ents.size) → ents.size = n →
   (execOp a.eval ⟨dst, .call { callee := .builtin .len, args := #[x], argTypes := #[t] }, rt, pos, aft, gd⟩).run P w = .ok (.value (.int .i64 n)) w := by
  intro a w m ents n he hh hn
  have hgo : (getObj m).run P w = .ok (.map ents ents.size) w := by simp [getObj, Sem.run, hh]
  simp [execOp, resolve, invoke, builtin, Builtin.len_, run_underlying hu, goInt, he, hgo, hn]
 simp only [ev, forceK_iff, eqK_iff, posK_iff, outK_iff, shK_iff, Ev_iff, Vc_iff] at hK
 split at hK
 ·rename_i b e1
  split at hK
  ·rename_i es hcs
   refine .pure hK fun g a w hg hx hbl => ?_
   have hcx := hx x (by simp [Op.operands, Call.operands])
   rw [e1] at hcx; simp only [Gh.den, den] at hcx
   have hl := hbl b (by simp)
   rw [hcs] at hl
   obtain ⟨l, ents, idx, hi, hh, hp, hb', hd⟩ := hl
   have h1 := (denM_mem hd).2
   have h2 := hp.length_eq
   simp at h2
   exact ⟨_, run a w _ ents es.length (hcx.2.2 l hi) hh (by omega), by simp [den]⟩
  ·exact hK.elim
 ·rename_i es e1
  refine .pure hK fun g a w hg hx hbl => ?_
  have hcx := hx x (by simp [Op.operands, Call.operands])
  rw [e1] at hcx; simp only [Gh.den, den] at hcx
  obtain ⟨r, ents, idx, hv, hr, hh, hp, hb', hd⟩ := hcx
  have h1 := (denM_mem hd).2
  have h2 := hp.length_eq
  simp at h2
  exact ⟨_, run a w _ ents es.length hv hh (by omega), by simp [den]⟩
 ·rename_i e1
  refine .pure hK fun g a w hg hx hbl => ?_
  have hcx := hx x (by simp [Op.operands, Call.operands])
  rw [e1] at hcx; simp only [Gh.den, den] at hcx
  exact ⟨.int .i64 0, by simp [execOp, resolve, invoke, builtin, Builtin.len_, run_underlying hu, goInt, hcx], by simp [den]⟩
 ·exact hK.elim
theorem ev_lenStr {t : TypeId} {x : Operand} {rt : TypeId} (hu : P.underlying t = some .string) (hK : ev σ h nid (.lenStr (cOpd x)) K) :
  EvOK P ⟨dst, .call { callee := .builtin .len, args := #[x], argTypes := #[t] }, rt, pos, aft, gd⟩ σ h nid K := by
 simp only [ev, forceK_iff, eqK_iff, posK_iff, outK_iff, shK_iff, Ev_iff, Vc_iff] at hK
 split at hK
 ·rename_i s e1
  refine .pure hK fun g a w hg hx hbl => ?_
  have hcx := hx x (by simp [Op.operands, Call.operands])
  rw [e1] at hcx; simp only [Gh.den, den] at hcx
  exact ⟨.int .i64 s.size, by simp [execOp, resolve, invoke, builtin, Builtin.len_, run_underlying hu, goInt, hcx], by simp [den]⟩
 ·exact hK.elim
end ops
end Go.TV
