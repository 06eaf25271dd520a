/- Books: bounds of numbers in all truths; the worth of an owner. Books, the document's answer: the small functions, the error of a book. Books, the document's answer: what entries do. -/
import Derived.Test.YtjadiajfbflghaaGreatB9
import Derived.Test.YtjadiajfbflghaaGreatB8
set_option maxHeartbeats 32000000
set_option maxRecDepth 100000
set_option linter.unusedSimpArgs false
set_option linter.unusedVariables false
open Go Go.TV
namespace Go.Proofs.YtjadiajfbflghaaGreat
theorem c173 (b : Bok) (day : Int) (out : List Int) : PF Tryz.prog 173 [encBok b, .int .i64 day, .sl 1 (ints out)] (· = .fn 221 [] [.iptr (encBok b) 0, .iptr (.agg [.int .i64 day]) 0, .iptr (.agg [.sl 1 (ints out)]) 0]) := by
 refine PF.of (TF.ev fn_173 (Ev.at ?_))
 exact e trivial
theorem c173n (b : Bok) (day : Int) : PF Tryz.prog 173 [encBok b, .int .i64 day, .nils] (· = .fn 221 [] [.iptr (encBok b) 0, .iptr (.agg [.int .i64 day]) 0, .iptr (.agg [.sl 1 (ints [])]) 0]) := by
 refine PF.fit (c173 b day []) ?_
 (repeat' first | (refine eg ?_; conv => whnf) | refine an ?_ ?_ | (refine iw ?_; intro rx hrx) | exact lf | intro _)
 all_goals try exact vy
theorem c106 (lo hi : Int) (is : Bool) : PF Tryz.prog 106 [.agg [.int .i64 lo, .int .i64 hi], .bool is] (· = .tup [.agg [.int .i64 (if is then lo else 0), .int .i64 (if is then hi else 0)], .int .i64 (if is then 0 else 9)]) := by
 cases is
 ·refine PF.of (TF.ev fn_106 (Ev.at ?_))
  exact e trivial
 ·refine PF.of (TF.ev fn_106 (Ev.at ?_))
  exact e trivial
def covF (x : Fd) (day : Int) : Bool := x.there && (!x.gone && decide (x.sown ≤ day))
theorem c109 (x : Fd) (day : Int) : PF Tryz.prog 109 [encFd x, .int .i64 day] (· = .bool (covF x day)) := by
 obtain ⟨a, b, c, d, e'⟩ := x
 unfold covF
 cases a
 ·refine PF.of (TF.ev fn_109 (Ev.at ?_))
  exact e trivial
 cases b
 rotate_left
 ·refine PF.of (TF.ev fn_109 (Ev.at ?_))
  exact e trivial
 refine PF.of (TF.ev fn_109 (Ev.at ?_))
 (repeat' first | (refine eg ?_; conv => whnf) | refine an ?_ ?_ | (refine iw ?_; intro rx hrx) | exact lf | intro _)
 all_goals (rw [SV.bool_iff]; simp; try omega)
def valK (a : Fds) (o d : Int) : Nat → Int
 | 0 => 0
 | k + 1 => valK a o d k + if (a k).owner = o ∧ covF (a k) d = true then (a k).value else 0
theorem valK_bd {a : Fds} (h : OkG a) (o d : Int) : ∀ k : Nat, 0 ≤ valK a o d k ∧ valK a o d k ≤ 1000 * k
 | 0 => by simp [valK]
 | k + 1 => by
  have ih := valK_bd h o d k
  have := h k
  rw [valK]
  split <;> omega
theorem fd_part {a : Fds} {p : Nat} (hp : p < 10) {n : Nat} {K : SV → Prop} (hk : Ev (K (encFd (a p)))) (hn : n = p * 5) : Ev (partK true n 5 (.agg (fdC a)) K) := by
 subst hn
 rcases ten hp with rfl | rfl | rfl | rfl | rfl | rfl | rfl | rfl | rfl | rfl <;> exact Ev.go hk.at
theorem c108 (a : Fds) (h : OkG a) (o d : Int) : PF Tryz.prog 108 [.agg [.one, .one], .agg (fdC a), .iptr (.agg [.int .i64 o]) 0, .iptr (.agg [.int .i64 d]) 0] (· = .int .i64 (valK a o d 10)) := by
 refine PF.of (TF.ev fn_108 (Ev.at ?_))
 (repeat' first | (refine hst1 ?_ ?_; rotate_left; (first | omega | (dsimp only; omega))) | (refine eg ?_; conv => whnf) | refine an ?_ ?_ | (refine iw ?_; intro rx hrx) | exact lf | intro _)
 all_goals try exact vy
 refine TWq.loop (fun k : Nat => [(6, .int .i64 (valK a o d k)), (10, .int .i64 k)]) (fun _ => []) (fun k => k ≤ 10) (fun k => 10 - k) 0 [] [] ?_ (by omega) ?_
 ·(repeat' first | (refine hst1 ?_ ?_; rotate_left; (first | omega | (dsimp only; omega))) | (refine eg ?_; conv => whnf) | refine an ?_ ?_ | (refine iw ?_; intro rx hrx) | exact lf | intro _)
  all_goals try exact vy
 ·intro k hk
  have hb := valK_bd h o d k
  rcases Nat.lt_or_ge k 10 with hkl | hkl
  ·have hst1 := fun {n : Nat} {K : SV → Prop} => fd_part (a := a) hkl (n := n) (K := K)
   have hok := h k
   have d1 := c109 (a k) d
   have hn : valK a o d (k + 1) = valK a o d k + if (a k).owner = o ∧ covF (a k) d = true then (a k).value else 0 := rfl
   generalize a k = x at *
   generalize valK a o d k = v at *
   by_cases ho : x.owner = o
   ·cases hc : covF x d
    ·rw [hc] at d1 hn
     (repeat' first | (refine hst1 ?_ ?_; rotate_left; (first | omega | (dsimp only; omega))) | (refine eg ?_; conv => whnf) | refine an ?_ ?_ | (refine iw ?_; intro rx hrx) | exact lf | intro _)
     all_goals try exact vz
     all_goals (try (exfalso; omega))
     refine TSq.pureC d1 (by simp [cloL, clo, encFd]) rfl (And.intro rfl rfl) ?_
     (repeat' first | (refine hst1 ?_ ?_; rotate_left; (first | omega | (dsimp only; omega))) | (refine eg ?_; conv => whnf) | refine an ?_ ?_ | (refine iw ?_; intro rx hrx) | exact lf | intro _)
     all_goals try exact vy
     refine ⟨⟨k + 1, by omega, by omega, ?_⟩⟩
     (repeat' first | (refine hst1 ?_ ?_; rotate_left; (first | omega | (dsimp only; omega))) | (refine eg ?_; conv => whnf) | refine an ?_ ?_ | (refine iw ?_; intro rx hrx) | exact lf | intro _)
     all_goals try exact vy
     all_goals exact ⟨by rw [hn]; simp [ho]; try omega⟩
    ·rw [hc] at d1 hn
     (repeat' first | (refine hst1 ?_ ?_; rotate_left; (first | omega | (dsimp only; omega))) | (refine eg ?_; conv => whnf) | refine an ?_ ?_ | (refine iw ?_; intro rx hrx) | exact lf | intro _)
     all_goals try exact vz
     all_goals (try (exfalso; omega))
     refine TSq.pureC d1 (by simp [cloL, clo, encFd]) rfl (And.intro rfl rfl) ?_
     (repeat' first | (refine hst1 ?_ ?_; rotate_left; (first | omega | (dsimp only; omega))) | (refine eg ?_; conv => whnf) | refine an ?_ ?_ | (refine iw ?_; intro rx hrx) | exact lf | intro _)
     all_goals try exact vy
     refine ⟨⟨k + 1, by omega, by omega, ?_⟩⟩
     (repeat' first | (refine hst1 ?_ ?_; rotate_left; (first | omega | (dsimp only; omega))) | (refine eg ?_; conv => whnf) | refine an ?_ ?_ | (refine iw ?_; intro rx hrx) | exact lf | intro _)
     all_goals try exact vy
     all_goals exact ⟨by rw [hn]; simp [ho]; try omega⟩
   ·(repeat' first | (refine hst1 ?_ ?_; rotate_left; (first | omega | (dsimp only; omega))) | (refine eg ?_; conv => whnf) | refine an ?_ ?_ | (refine iw ?_; intro rx hrx) | exact lf | intro _)
    all_goals try exact vz
    all_goals (try (exfalso; omega))
    refine ⟨⟨k + 1, by omega, by omega, ?_⟩⟩
    (repeat' first | (refine hst1 ?_ ?_; rotate_left; (first | omega | (dsimp only; omega))) | (refine eg ?_; conv => whnf) | refine an ?_ ?_ | (refine iw ?_; intro rx hrx) | exact lf | intro _)
    all_goals try exact vy
    all_goals exact ⟨by rw [hn]; simp [ho]⟩
  ·have hke : k = 10 := by omega
   subst hke
   (repeat' first | (refine hst1 ?_ ?_; rotate_left; (first | omega | (dsimp only; omega))) | (refine eg ?_; conv => whnf) | refine an ?_ ?_ | (refine iw ?_; intro rx hrx) | exact lf | intro _)
   all_goals (try (exfalso; omega))
   all_goals try exact vy
def bdL (l : List Int) : Option (Int × Int) := l.foldl (fun r n => match r with | none => some (n, n) | some q => some (min q.1 n, max q.2 n)) none
theorem bdL_snoc (l : List Int) (n : Int) : bdL (l ++ [n]) = match bdL l with | none => some (n, n) | some q => some (min q.1 n, max q.2 n) := by simp only [bdL, List.foldl_append, List.foldl_cons, List.foldl_nil]
def loO (r : Option (Int × Int)) : Int := match r with | none => 0 | some q => q.1
def hiO (r : Option (Int × Int)) : Int := match r with | none => 0 | some q => q.2
theorem c107 (b : Bok) (day : Nat) (hb : OkBok b) (hday : (day : Int) ≤ b.last) (s1 s2 : SV) (hs1 : clo s1) (hs2 : clo s2) (val : Fds → Int) (hf : ∀ a ∈ seenL b [] day (listsL b.rngs), PF Tryz.prog 108 [.agg [.one, .one], .agg (fdC a), .iptr s1 0, .iptr s2 0] (· = .int .i64 (val a))) :
  PF Tryz.prog 107 [encBok b, .int .i64 day, .fn 108 [] [.iptr s1 0, .iptr s2 0]] (· = .tup [.agg [.int .i64 (loO (bdL ((seenL b [] day (listsL b.rngs)).map val))), .int .i64 (hiO (bdL ((seenL b [] day (listsL b.rngs)).map val)))], .bool (bdL ((seenL b [] day (listsL b.rngs)).map val)).isSome]) := by
 have e1 := it221 b [] day hb (by simp) hday
 have d1 := c173n b day
 generalize seenL b [] day (listsL b.rngs) = T at *
 refine PF.of (TF.ev fn_107 (Ev.at ?_))
 (repeat' first | (refine eg ?_; conv => whnf) | refine an ?_ ?_ | (refine iw ?_; intro rx hrx) | exact lf | intro _)
 all_goals try exact vy
 refine TSq.pureC d1 (by simp [cloL, clo, encBok]) rfl (And.intro rfl rfl) ?_
 (repeat' first | (refine eg ?_; conv => whnf) | refine an ?_ ?_ | (refine iw ?_; intro rx hrx) | exact lf | intro _)
 all_goals try exact vy
 refine TWq.rng (α := Unit) (β := Unit) true T (fun a => [.agg [.one, .one], .agg (fdC a)]) (fun i _ => [(2, .cells [.int .i64 (loO (bdL ((T.take i).map val))), .int .i64 (hiO (bdL ((T.take i).map val)))]), (3, .cells [.bool (bdL ((T.take i).map val)).isSome])]) (fun _ _ => True) () (fun _ => .ret) (fun _ => []) (fun _ => False) [] [] [] rfl e1 cl (by simp [cloL, clo, encBok]) (fun _ => rfl) trivial ?_ ?_ ?_ ?_ ?_ ?_
 ·(repeat' first | (refine eg ?_; conv => whnf) | refine an ?_ ?_ | (refine iw ?_; intro rx hrx) | exact lf | intro _)
  all_goals try exact vy
 ·(repeat' first | (refine eg ?_; conv => whnf) | refine an ?_ ?_ | (refine iw ?_; intro rx hrx) | exact lf | intro _)
  all_goals try exact vy
 ·intro i _ _
  (repeat' first | (refine eg ?_; conv => whnf) | refine an ?_ ?_ | (refine iw ?_; intro rx hrx) | exact lf | intro _)
 ·intro i v _ hv _
  have hsn : bdL ((T.take (i + 1)).map val) = match bdL ((T.take i).map val) with | none => some (val v, val v) | some q => some (min q.1 (val v), max q.2 (val v)) := by rw [map_take_snoc hv, bdL_snoc]
  have d2 := hf v (List.mem_of_getElem? hv)
  generalize val v = n at *
  rcases hbd : bdL ((T.take i).map val) with _ | ⟨p, q⟩
  ·rw [hbd] at hsn
   dsimp only at hsn
   have d3 := c171 [n, n] (by simp) (by simp)
   rw [show minL [n, n] = n by simp [minL]] at d3
   simp only [loO, hiO, Option.isSome_none]
   (repeat' first | (refine eg ?_; conv => whnf) | refine an ?_ ?_ | (refine iw ?_; intro rx hrx) | exact lf | intro _)
   all_goals try exact vz
   refine TSq.pureC d2 (by simp [cloL, clo, hs1, hs2, fdC]) rfl (And.intro rfl rfl) ?_
   (repeat' first | (refine eg ?_; conv => whnf) | refine an ?_ ?_ | (refine iw ?_; intro rx hrx) | exact lf | intro _)
   all_goals try exact vz
   refine TDq.lendC d3 (by simp [scal]) rfl (And.intro rfl ?_)
   (repeat' first | (refine eg ?_; conv => whnf) | refine an ?_ ?_ | (refine iw ?_; intro rx hrx) | exact lf | intro _)
   all_goals try exact vz
   refine ⟨⟨(), trivial, ?_⟩⟩
   (repeat' first | (refine eg ?_; conv => whnf) | refine an ?_ ?_ | (refine iw ?_; intro rx hrx) | exact lf | intro _)
   all_goals try exact vy
   all_goals (refine ⟨?_⟩; first | (rw [hsn]; done) | (rw [hsn]; rfl) | (rw [hsn]; dsimp only; omega))
  ·rw [hbd] at hsn
   dsimp only at hsn
   have d3 := c171 [p, n] (by simp) (by simp)
   rw [show minL [p, n] = min p n by simp [minL]] at d3
   simp only [loO, hiO, Option.isSome_some]
   (repeat' first | (refine eg ?_; conv => whnf) | refine an ?_ ?_ | (refine iw ?_; intro rx hrx) | exact lf | intro _)
   all_goals try exact vz
   refine TSq.pureC d2 (by simp [cloL, clo, hs1, hs2, fdC]) rfl (And.intro rfl rfl) ?_
   (repeat' first | (refine eg ?_; conv => whnf) | refine an ?_ ?_ | (refine iw ?_; intro rx hrx) | exact lf | intro _)
   all_goals try exact vz
   refine TDq.lendC d3 (by simp [scal]) rfl (And.intro rfl ?_)
   (repeat' first | (refine eg ?_; conv => whnf) | refine an ?_ ?_ | (refine iw ?_; intro rx hrx) | exact lf | intro _)
   all_goals try exact vz
   refine ⟨⟨(), trivial, ?_⟩⟩
   (repeat' first | (refine eg ?_; conv => whnf) | refine an ?_ ?_ | (refine iw ?_; intro rx hrx) | exact lf | intro _)
   all_goals try exact vy
   all_goals (refine ⟨?_⟩; first | (rw [hsn]; done) | (rw [hsn]; rfl) | (rw [hsn]; dsimp only; omega))
 ·intro _ _
  (repeat' first | (refine eg ?_; conv => whnf) | refine an ?_ ?_ | (refine iw ?_; intro rx hrx) | exact lf | intro _)
  all_goals try exact vz
  all_goals (try (rw [List.take_length]))
 ·intro z hz
  exact hz.elim
theorem seenL_mem {b : Bok} {out : List Int} {day : Nat} {l : List (List Int)} {a : Fds} (h : a ∈ seenL b out day l) : ∃ v ∈ l, seenF b out day v = some a := List.mem_filterMap.1 h
theorem dayG_ok {b : Bok} (hb : OkBok b) {days out : List Int} {d : Nat} {g : Fds} (h : OkG g) : ∀ {k : Nat} {g' : Fds}, dayG b days out d g k = some g' → OkG g'
 | 0, g', e => by cases e; exact h
 | k + 1, g', e => by
  rw [dayG] at e
  obtain ⟨g1, h1, h2⟩ := Option.bind_eq_some_iff.1 e
  have ih := dayG_ok hb h h1
  unfold stepG at h2
  split at h2
  ·rename_i x t hx ht
   split at h2
   ·split at h2
    ·rename_i hB
     cases h2
     exact OkG_act ih (hb.ent x (List.mem_of_getElem? hx)).kind hB
    ·cases h2
   ·cases h2; exact ih
  ·cases h2
theorem playG_ok {b : Bok} (hb : OkBok b) {days sown out : List Int} : ∀ {d : Nat} {g : Fds}, playG b days sown out d = some g → OkG g
 | 0, g, e => by cases e; exact OkG_begin hb sown
 | d + 1, g, e => by
  rw [playG] at e
  obtain ⟨g1, h1, h2⟩ := Option.bind_eq_some_iff.1 e
  exact dayG_ok hb (playG_ok hb h1) h2
theorem seenF_ok {b : Bok} (hb : OkBok b) {out v : List Int} {day : Nat} {a : Fds} (h : seenF b out day v = some a) : OkG a := by
 unfold seenF at h
 split at h
 ·cases h
 ·exact playG_ok hb h
def worthL (b : Bok) (o : Int) (day : Nat) : List Int := (seenL b [] day (listsL b.rngs)).map fun a => valK a o day 10
theorem c45 (b : Bok) (o : Int) (day : Nat) (hb : OkBok b) (hm : manyR b.rngs ≤ 1000) (hday : (day : Int) ≤ b.last) (ho : 0 ≤ o ∧ o < b.owners) :
  PF Tryz.prog 45 [encBok b, .int .i64 o, .int .i64 day] (· = .tup [.agg [.int .i64 (loO (bdL (worthL b o day))), .int .i64 (hiO (bdL (worthL b o day)))], .int .i64 (match bdL (worthL b o day) with | none => 9 | some _ => 0)]) := by
 have d1 := c103 b hb
 rw [if_pos hm] at d1
 have d2 := c104 b o hb.owners
 rw [show within o 0 (b.owners - 1) = true by simp only [within, decide_eq_true_eq]; omega] at d2
 have d3 := c105 b day
 rw [show within day 0 b.last = true by simp only [within, decide_eq_true_eq]; omega] at d3
 have d4 := c107 b day hb hday (.agg [.int .i64 o]) (.agg [.int .i64 day]) (by simp [clo, cloL]) (by simp [clo, cloL]) (fun a => valK a o day 10) (fun a ha => by
  obtain ⟨v, _, hv⟩ := seenL_mem ha
  exact c108 a (seenF_ok hb hv) o day)
 have e0 : (seenL b [] day (listsL b.rngs)).map (fun a => valK a o day 10) = worthL b o day := rfl
 rw [e0] at d4
 generalize worthL b o day = W at *
 cases hW : bdL W with
 | none =>
  rw [hW] at d4
  have d5 := c106 (loO none) (hiO none) false
  refine PF.of (TF.ev fn_45 (Ev.at ?_))
  refine e (And.intro ?_ trivial); intros
  refine TSq.pureC d1 (by simp [cloL, encBok_clo]) rfl (And.intro rfl rfl) ?_
  refine e (And.intro ?_ trivial); intros
  refine TSq.pureC d2 (by simp [cloL, encBok_clo, clo]) rfl (And.intro rfl rfl) ?_
  refine e (And.intro ?_ trivial); intros
  refine TSq.pureC d3 (by simp [cloL, encBok_clo, clo]) rfl (And.intro rfl rfl) ?_
  refine e (And.intro ?_ trivial); intros
  refine TSq.lendC d4 (by simp [scal, scalL]) rfl (And.intro rfl ?_) ?_
  ·exact e trivial
  simp only [Option.isSome_none]
  refine e (And.intro ?_ trivial); intros
  refine TSq.pureC d5 (by simp [cloL, clo]) rfl (And.intro rfl rfl) ?_
  exact e trivial
 | some q =>
  rw [hW] at d4
  have d5 := c106 (loO (some q)) (hiO (some q)) true
  refine PF.of (TF.ev fn_45 (Ev.at ?_))
  refine e (And.intro ?_ trivial); intros
  refine TSq.pureC d1 (by simp [cloL, encBok_clo]) rfl (And.intro rfl rfl) ?_
  refine e (And.intro ?_ trivial); intros
  refine TSq.pureC d2 (by simp [cloL, encBok_clo, clo]) rfl (And.intro rfl rfl) ?_
  refine e (And.intro ?_ trivial); intros
  refine TSq.pureC d3 (by simp [cloL, encBok_clo, clo]) rfl (And.intro rfl rfl) ?_
  refine e (And.intro ?_ trivial); intros
  refine TSq.lendC d4 (by simp [scal, scalL]) rfl (And.intro rfl ?_) ?_
  ·exact e trivial
  simp only [Option.isSome_some]
  refine e (And.intro ?_ trivial); intros
  refine TSq.pureC d5 (by simp [cloL, clo]) rfl (And.intro rfl rfl) ?_
  exact e trivial
end Go.Proofs.YtjadiajfbflghaaGreat
open Go Go.TV
namespace Go.Proofs.YtjadiajfbflghaaGreat
theorem c97 (n lo hi : Int) : PF Tryz.prog 97 [.int .i64 n, .int .i64 lo, .int .i64 hi] (· = .bool (within n lo hi)) := by
 refine PF.of (TF.ev fn_97 (Ev.at ?_))
 (repeat' first | (refine eg ?_; conv => whnf) | refine an ?_ ?_ | (refine iw ?_; intro rx hrx) | exact lf | intro _)
 all_goals (rw [SV.bool_iff]; simp [within]; omega)
def daysB (b : Bok) (r : Rng) : Bool := decide (0 ≤ r.lo) && (decide (r.lo ≤ r.hi) && decide (r.hi ≤ b.last))
theorem daysB_iff {b : Bok} {r : Rng} : daysB b r = true ↔ OkDays b r := by
 simp only [daysB, Bool.and_eq_true, decide_eq_true_eq]
 exact ⟨fun h => ⟨h.1, h.2.1, h.2.2⟩, fun h => ⟨h.lo, h.le, h.hi⟩⟩
theorem c98 (b : Bok) (r : Rng) : PF Tryz.prog 98 [encBok b, encR r] (· = .bool (daysB b r)) := by
 unfold daysB
 refine PF.of (TF.ev fn_98 (Ev.at ?_))
 (repeat' first | (refine eg ?_; conv => whnf) | refine an ?_ ?_ | (refine iw ?_; intro rx hrx) | exact lf | intro _)
 all_goals (rw [SV.bool_iff]; simp; omega)
theorem c214 (b : Bok) (i : Nat) (hp : b.pcls.length ≤ 1000000) (he : b.ents.length ≤ 1000000) (hi : i ≤ b.ents.length) : PF Tryz.prog 214 [encBok b, .int .i64 i] (· = .int .i64 (b.made i)) := by
 have hz := encPcls_len b.pcls
 have hw := encEnts_len b.ents
 refine PF.of (TF.ev fn_214 (Ev.at ?_))
 (repeat' first | refine gx hg1 ?_ | (refine eg ?_; conv => whnf) | refine an ?_ ?_ | (refine iw ?_; intro rx hrx) | exact lf | intro _)
 all_goals try exact vy
 refine TWq.loop (fun k : Nat => [(5, .int .i64 ((b.pcls.length + splits (b.ents.take k) : Nat) : Int)), (6, .int .i64 k)]) (fun _ => []) (fun k => k ≤ i) (fun k => i - k) 0 [] [] ?_ (by omega) ?_
 ·(repeat' first | refine gx hg1 ?_ | (refine eg ?_; conv => whnf) | refine an ?_ ?_ | (refine iw ?_; intro rx hrx) | exact lf | intro _)
  all_goals try exact vy
  refine ⟨?_⟩; simp [splits, hz]
 ·intro k hk
  rcases Nat.lt_or_ge k i with hkl | hkl
  ·obtain ⟨v, hv⟩ : ∃ v, b.ents[k]? = some v := ⟨_, List.getElem?_eq_getElem (by omega)⟩
   have hg1 : ∀ {n : Nat} {x : SV}, n = k → (encEnts b.ents)[n]? = some x → x = encEnt v := by
    rintro n x rfl he
    obtain ⟨y, hy, rfl⟩ := encEnts_at he
    rw [hv] at hy; cases hy; rfl
   have hs := splits_snoc hv
   have hsl := splits_le (b.ents.take k)
   have hsl2 : (b.ents.take k).length ≤ 1000000 := by simp; omega
   (repeat' first | refine gx hg1 ?_ | (refine eg ?_; conv => whnf) | refine an ?_ ?_ | (refine iw ?_; intro rx hrx) | exact lf | intro _)
   all_goals (try (exfalso; omega))
   all_goals try exact vy
   all_goals
    refine ⟨⟨k + 1, by omega, by omega, ?_⟩⟩
    (repeat' first | refine gx hg1 ?_ | (refine eg ?_; conv => whnf) | refine an ?_ ?_ | (refine iw ?_; intro rx hrx) | exact lf | intro _)
    all_goals try exact vy
    all_goals (refine ⟨?_⟩; rw [hs]; simp [*]; try omega)
  ·have hke : k = i := by omega
   subst hke
   (repeat' first | refine gx hg1 ?_ | (refine eg ?_; conv => whnf) | refine an ?_ ?_ | (refine iw ?_; intro rx hrx) | exact lf | intro _)
   all_goals (try (exfalso; omega))
   all_goals try exact vy
theorem made_all (b : Bok) : b.made b.ents.length = b.nums := by simp [Bok.made, Bok.nums]
theorem c162 (b : Bok) (hp : b.pcls.length ≤ 1000000) (he : b.ents.length ≤ 1000000) : PF Tryz.prog 162 [encBok b] (· = .int .i64 b.nums) := by
 have d1 := c214 b b.ents.length hp he (Nat.le_refl _)
 rw [made_all, ← encEnts_len] at d1
 refine PF.of (TF.ev fn_162 (Ev.at ?_))
 refine e (And.intro ?_ trivial); intros
 refine TSq.pureC d1 (by simp [cloL, encBok_clo, clo]) rfl (And.intro rfl rfl) ?_
 exact e trivial
def manyS (l : List Rng) : Int := l.foldl (fun m r => min 2000 (m * rsize r)) 1
theorem manyS_snoc {l : List Rng} {k : Nat} {r : Rng} (h : l[k]? = some r) : manyS (l.take (k + 1)) = min 2000 (manyS (l.take k) * rsize r) := by
 rw [take_snoc h]; simp only [manyS, List.foldl_append, List.foldl_cons, List.foldl_nil]
theorem manyS_bd {l : List Rng} (h : ∀ r ∈ l, 1 ≤ rsize r ∧ rsize r ≤ 31) : ∀ k, 1 ≤ manyS (l.take k) ∧ manyS (l.take k) ≤ 2000
 | 0 => by simp [manyS]
 | k + 1 => by
  have ih := manyS_bd h k
  rcases Nat.lt_or_ge k l.length with hk | hk
  ·have hx : l[k]? = some l[k] := List.getElem?_eq_getElem hk
   rw [manyS_snoc hx]
   have hn := h _ (List.mem_of_getElem? hx)
   have := Int.mul_le_mul (a := 1) (b := 1) (c := manyS (l.take k)) (d := rsize l[k]) ih.1 hn.1 (by omega) (by omega)
   omega
  ·rw [List.take_of_length_le (by omega)]
   rw [List.take_of_length_le (by omega)] at ih
   exact ih
def entB (b : Bok) (x : Ent) : Bool := daysB b x.day && (within x.parcel 0 (b.nums - 1) &&
 if x.kind = 0 then within x.frm 0 (b.owners - 1) && (within x.to 0 (b.owners - 1) && (x.frm != x.to && (x.part == 0 && x.other == 0)))
 else if x.kind = 1 then (x.frm == 0 && x.to == 0) && (x.other == 0 && within x.part 1 1000)
 else if x.kind = 2 then (x.frm == 0 && x.to == 0) && (x.part == 0 && (within x.other 0 (b.nums - 1) && x.other != x.parcel))
 else if x.kind = 3 then (x.frm == 0 && x.to == 0) && (x.part == 0 && x.other == 0) else false)
theorem entB_iff {b : Bok} {x : Ent} : entB b x = true ↔ OkEnt b x := by
 have h1 := @daysB_iff b x.day
 unfold entB
 rw [Bool.and_eq_true, Bool.and_eq_true, h1]
 constructor
 ·rintro ⟨h2, h3, h4⟩
  refine ⟨by simp only [within, decide_eq_true_eq] at h3; omega, h2, ?_⟩
  unfold OkKind
  split at h4
  ·left; simp only [within, Bool.and_eq_true, decide_eq_true_eq, bne_iff_ne, beq_iff_eq] at h4; omega
  ·split at h4
   ·right; left; simp only [within, Bool.and_eq_true, decide_eq_true_eq, bne_iff_ne, beq_iff_eq] at h4; omega
   ·split at h4
    ·right; right; left; simp only [within, Bool.and_eq_true, decide_eq_true_eq, bne_iff_ne, beq_iff_eq] at h4; omega
    ·split at h4
     ·right; right; right; simp only [within, Bool.and_eq_true, decide_eq_true_eq, bne_iff_ne, beq_iff_eq] at h4; omega
     ·cases h4
 ·rintro ⟨h2, h3, h4⟩
  refine ⟨h3, by simp only [within, decide_eq_true_eq]; omega, ?_⟩
  rcases h4 with h4 | h4 | h4 | h4
  ·rw [if_pos h4.1]; simp only [within, Bool.and_eq_true, decide_eq_true_eq, bne_iff_ne, beq_iff_eq]; omega
  ·rw [if_neg (by omega), if_pos h4.1]; simp only [within, Bool.and_eq_true, decide_eq_true_eq, bne_iff_ne, beq_iff_eq]; omega
  ·rw [if_neg (by omega), if_neg (by omega), if_pos h4.1]; simp only [within, Bool.and_eq_true, decide_eq_true_eq, bne_iff_ne, beq_iff_eq]; omega
  ·rw [if_neg (by omega), if_neg (by omega), if_neg (by omega), if_pos h4.1]; simp only [within, Bool.and_eq_true, decide_eq_true_eq, bne_iff_ne, beq_iff_eq]; omega
theorem c99 (b : Bok) (x : Ent) (ho : 1 ≤ b.owners ∧ b.owners ≤ 4) (hp : b.pcls.length ≤ 4) (he : b.ents.length ≤ 6) : PF Tryz.prog 99 [encBok b, encEnt x] (· = .bool (entB b x)) := by
 have d1 := c98 b x.day
 have d2 := c162 b (by omega) (by omega)
 have hN : b.nums ≤ 10 := by have := splits_le b.ents; unfold Bok.nums; omega
 have d3 := c97 x.parcel 0 (b.nums - 1)
 have d4 := c97 x.frm 0 (b.owners - 1)
 have d5 := c97 x.to 0 (b.owners - 1)
 have d6 := c97 x.part 1 1000
 have d7 := c97 x.other 0 (b.nums - 1)
 have hsub1 : ∀ {r : Int}, r = IntKind.i64.wrap ((b.nums : Int) - 1) → (0 : Int) ≤ 0 → r = (b.nums : Int) - 1 := fun h _ => by rw [h, ij _ (by omega)]
 have hsub2 : ∀ {r : Int}, r = IntKind.i64.wrap (b.owners - 1) → (0 : Int) ≤ 0 → r = b.owners - 1 := fun h _ => by rw [h, ij _ (by omega)]
 unfold entB
 cases hd : daysB b x.day
 ·rw [hd] at d1
  refine PF.of (TF.ev fn_99 (Ev.at ?_))
  (repeat' first | (intro rx hrx; have hq := hsub1 hrx (by omega); subst hq; clear hrx) | (intro rx hrx; have hq := hsub2 hrx (by omega); subst hq; clear hrx) | (refine eg ?_; conv => whnf) | refine an ?_ ?_ | (refine iw ?_; intro rx hrx) | exact lf | intro _)
  all_goals try exact vz
  refine TDq.pureC d1 (by simp [cloL, encBok_clo, clo, encR]) rfl (And.intro rfl rfl) ?_
  (repeat' first | (intro rx hrx; have hq := hsub1 hrx (by omega); subst hq; clear hrx) | (intro rx hrx; have hq := hsub2 hrx (by omega); subst hq; clear hrx) | (refine eg ?_; conv => whnf) | refine an ?_ ?_ | (refine iw ?_; intro rx hrx) | exact lf | intro _)
  all_goals try exact vz
  all_goals (try rfl)
 rw [hd] at d1
 cases hq : within x.parcel 0 (b.nums - 1)
 ·rw [hq] at d3
  refine PF.of (TF.ev fn_99 (Ev.at ?_))
  (repeat' first | (intro rx hrx; have hq := hsub1 hrx (by omega); subst hq; clear hrx) | (intro rx hrx; have hq := hsub2 hrx (by omega); subst hq; clear hrx) | (refine eg ?_; conv => whnf) | refine an ?_ ?_ | (refine iw ?_; intro rx hrx) | exact lf | intro _)
  all_goals try exact vz
  refine TDq.pureC d1 (by simp [cloL, encBok_clo, clo, encR]) rfl (And.intro rfl rfl) ?_
  (repeat' first | (intro rx hrx; have hq := hsub1 hrx (by omega); subst hq; clear hrx) | (intro rx hrx; have hq := hsub2 hrx (by omega); subst hq; clear hrx) | (refine eg ?_; conv => whnf) | refine an ?_ ?_ | (refine iw ?_; intro rx hrx) | exact lf | intro _)
  all_goals try exact vz
  refine TDq.pureC d2 (by simp [cloL, encBok_clo]) rfl (And.intro rfl rfl) ?_
  (repeat' first | (intro rx hrx; have hq := hsub1 hrx (by omega); subst hq; clear hrx) | (intro rx hrx; have hq := hsub2 hrx (by omega); subst hq; clear hrx) | (refine eg ?_; conv => whnf) | refine an ?_ ?_ | (refine iw ?_; intro rx hrx) | exact lf | intro _)
  all_goals try exact vz
  refine TDq.pureC d3 (by simp [cloL, clo]) rfl (And.intro rfl rfl) ?_
  (repeat' first | (intro rx hrx; have hq := hsub1 hrx (by omega); subst hq; clear hrx) | (intro rx hrx; have hq := hsub2 hrx (by omega); subst hq; clear hrx) | (refine eg ?_; conv => whnf) | refine an ?_ ?_ | (refine iw ?_; intro rx hrx) | exact lf | intro _)
  all_goals try exact vz
  all_goals (try rfl)
 rw [hq] at d3
 refine PF.of (TF.ev fn_99 (Ev.at ?_))
 (repeat' first | (intro rx hrx; have hq := hsub1 hrx (by omega); subst hq; clear hrx) | (intro rx hrx; have hq := hsub2 hrx (by omega); subst hq; clear hrx) | (refine eg ?_; conv => whnf) | refine an ?_ ?_ | (refine iw ?_; intro rx hrx) | exact lf | intro _)
 all_goals try exact vz
 refine TDq.pureC d1 (by simp [cloL, encBok_clo, clo, encR]) rfl (And.intro rfl rfl) ?_
 (repeat' first | (intro rx hrx; have hq := hsub1 hrx (by omega); subst hq; clear hrx) | (intro rx hrx; have hq := hsub2 hrx (by omega); subst hq; clear hrx) | (refine eg ?_; conv => whnf) | refine an ?_ ?_ | (refine iw ?_; intro rx hrx) | exact lf | intro _)
 all_goals try exact vz
 refine TDq.pureC d2 (by simp [cloL, encBok_clo]) rfl (And.intro rfl rfl) ?_
 (repeat' first | (intro rx hrx; have hq := hsub1 hrx (by omega); subst hq; clear hrx) | (intro rx hrx; have hq := hsub2 hrx (by omega); subst hq; clear hrx) | (refine eg ?_; conv => whnf) | refine an ?_ ?_ | (refine iw ?_; intro rx hrx) | exact lf | intro _)
 all_goals try exact vz
 refine TDq.pureC d3 (by simp [cloL, clo]) rfl (And.intro rfl rfl) ?_
 (repeat' first | (intro rx hrx; have hq := hsub1 hrx (by omega); subst hq; clear hrx) | (intro rx hrx; have hq := hsub2 hrx (by omega); subst hq; clear hrx) | (refine eg ?_; conv => whnf) | refine an ?_ ?_ | (refine iw ?_; intro rx hrx) | exact lf | intro _)
 all_goals try exact vz
 all_goals (try (first | (simp_all; done) | (rw [SV.bool_iff]; simp_all; omega)))
 all_goals first
  | (refine TSq.pureBC d4 cl rfl (And.intro rfl rfl) ?_ ?_ <;> intro b1
     ·(repeat' first | (intro rx hrx; have hq := hsub1 hrx (by omega); subst hq; clear hrx) | (intro rx hrx; have hq := hsub2 hrx (by omega); subst hq; clear hrx) | (refine eg ?_; conv => whnf) | refine an ?_ ?_ | (refine iw ?_; intro rx hrx) | exact lf | intro _)
      all_goals try exact vz
      refine TSq.pureBC d5 cl rfl (And.intro rfl rfl) ?_ ?_ <;> intro b2
      ·(repeat' first | (intro rx hrx; have hq := hsub1 hrx (by omega); subst hq; clear hrx) | (intro rx hrx; have hq := hsub2 hrx (by omega); subst hq; clear hrx) | (refine eg ?_; conv => whnf) | refine an ?_ ?_ | (refine iw ?_; intro rx hrx) | exact lf | intro _)
       all_goals try exact vz
       all_goals (first | (simp_all; done) | (rw [SV.bool_iff]; simp_all; omega))
      ·(repeat' first | (intro rx hrx; have hq := hsub1 hrx (by omega); subst hq; clear hrx) | (intro rx hrx; have hq := hsub2 hrx (by omega); subst hq; clear hrx) | (refine eg ?_; conv => whnf) | refine an ?_ ?_ | (refine iw ?_; intro rx hrx) | exact lf | intro _)
       all_goals try exact vz
       all_goals (first | (simp_all; done) | (rw [SV.bool_iff]; simp_all; omega))
     ·(repeat' first | (intro rx hrx; have hq := hsub1 hrx (by omega); subst hq; clear hrx) | (intro rx hrx; have hq := hsub2 hrx (by omega); subst hq; clear hrx) | (refine eg ?_; conv => whnf) | refine an ?_ ?_ | (refine iw ?_; intro rx hrx) | exact lf | intro _)
      all_goals try exact vz
      all_goals (first | (simp_all; done) | (rw [SV.bool_iff]; simp_all; omega)))
  | (refine TSq.pureBC d6 cl rfl (And.intro rfl rfl) ?_ ?_ <;> intro b1
     all_goals
      (repeat' first | (intro rx hrx; have hq := hsub1 hrx (by omega); subst hq; clear hrx) | (intro rx hrx; have hq := hsub2 hrx (by omega); subst hq; clear hrx) | (refine eg ?_; conv => whnf) | refine an ?_ ?_ | (refine iw ?_; intro rx hrx) | exact lf | intro _)
      all_goals try exact vz
      all_goals (first | (simp_all; done) | (rw [SV.bool_iff]; simp_all; omega)))
  | (refine TDq.pureC d2 (by simp [cloL, encBok_clo]) rfl (And.intro rfl rfl) ?_
     (repeat' first | (intro rx hrx; have hq := hsub1 hrx (by omega); subst hq; clear hrx) | (intro rx hrx; have hq := hsub2 hrx (by omega); subst hq; clear hrx) | (refine eg ?_; conv => whnf) | refine an ?_ ?_ | (refine iw ?_; intro rx hrx) | exact lf | intro _)
     all_goals try exact vz
     refine TDq.pureBC d7 cl rfl (And.intro rfl rfl) ?_ ?_ <;> intro b1
     all_goals
      (repeat' first | (intro rx hrx; have hq := hsub1 hrx (by omega); subst hq; clear hrx) | (intro rx hrx; have hq := hsub2 hrx (by omega); subst hq; clear hrx) | (refine eg ?_; conv => whnf) | refine an ?_ ?_ | (refine iw ?_; intro rx hrx) | exact lf | intro _)
      all_goals try exact vz
      all_goals (first | (simp_all; done) | (rw [SV.bool_iff]; simp_all; omega)))
def FaultB (b : Bok) (s : SV) : Prop := ∃ r : Int, s = .int .i64 r ∧ (r = 0 → OkBok b ∧ manyS b.rngs ≤ 1000) ∧ (OkBok b → r = if manyS b.rngs ≤ 1000 then 0 else 3)
end Go.Proofs.YtjadiajfbflghaaGreat
open Go Go.TV
namespace Go.Proofs.YtjadiajfbflghaaGreat
def fdL (g : Fds) (N : Nat) : List SV := (List.range N).map fun k => encFd (g k)
theorem fdL_len (g : Fds) (N : Nat) : (fdL g N).length = N := by simp [fdL]
theorem fdL_clo (g : Fds) (N : Nat) : cloL (fdL g N) := by
 rw [cloL_iff]; intro s hs; obtain ⟨x, _, rfl⟩ := List.mem_map.1 hs; simp [encFd, clo, cloL]
theorem fdL_at {g : Fds} {N p : Nat} {s : SV} (h : (fdL g N)[p]? = some s) : s = encFd (g p) := by
 have hp : p < N := by
  have := (List.getElem?_eq_some_iff.1 h).1
  rwa [fdL_len] at this
 simp only [fdL, List.getElem?_map, List.getElem?_range hp, Option.map_some, Option.some.injEq] at h
 exact h.symm
theorem fdL_set (g : Fds) (N p : Nat) (x : Fd) : (fdL g N).set p (encFd x) = fdL (updF g p x) N := by
 apply List.ext_getElem?
 intro k
 by_cases hk : k < N
 ·by_cases e : p = k
  ·subst e
   rw [List.getElem?_set_self (by rw [fdL_len]; exact hk)]
   simp [fdL, List.getElem?_range hk, updF_self]
  ·rw [List.getElem?_set_ne e]
   simp [fdL, List.getElem?_range hk, updF_ne g x (Ne.symm e)]
 ·rw [List.getElem?_eq_none_iff.2 (by rw [List.length_set, fdL_len]; omega), List.getElem?_eq_none_iff.2 (by rw [fdL_len]; omega)]
theorem made_lt {b : Bok} {i : Nat} {x : Ent} (hx : b.ents[i]? = some x) (hk : x.kind = 1) : b.made i < b.nums := by
 have h1 := splits_snoc hx
 rw [if_pos hk] at h1
 have h2 : splits (b.ents.take (i + 1)) ≤ splits b.ents := by
  exact List.Sublist.countP_le (List.take_sublist _ _)
 unfold Bok.made Bok.nums; omega
def hapB (g : Fds) (N : Nat) : List LB := [.arr /-t-/367 5 (fdL g N)]
theorem t164 (b : Bok) (g : Fds) (i : Nat) (d : Int) (x : Ent) (hb : OkBok b) (hx : b.ents[i]? = some x) (hg : OkG g) :
  TF Tryz.prog 164 [encBok b, .own 0, .int .i64 i, .int .i64 d] (hapB g b.nums) (fun r h' => h' = hapB (if actB x d g = true then actG b i x g else g) b.nums ∧ r = .bool (actB x d g)) := by
 have hok := hb.ent x (List.mem_of_getElem? hx)
 have hz := fdL_len g b.nums
 have hil := (List.getElem?_eq_some_iff.1 hx).1
 have hw := encEnts_len b.ents
 have hpl := hb.plen
 have hel := hb.elen
 have hN := hb.nums_le
 have d1 := c214 b i (by omega) (by omega) (by omega)
 obtain ⟨p, hpe⟩ : ∃ p : Nat, x.parcel = (p : Int) := ⟨x.parcel.toNat, by have := hok.parcel; omega⟩
 have hp : p < b.nums := by have := hok.parcel; omega
 have hg1 : ∀ {n : Nat} {y : SV}, n = i → (encEnts b.ents)[n]? = some y → y = encEnt x := by
  rintro n y rfl he
  obtain ⟨z, hz, rfl⟩ := encEnts_at he
  rw [hx] at hz; cases hz; rfl
 have hgp := hg p
 have hk := hok.kind
 have hpt : x.parcel.toNat = p := by omega
 have hg2' : ∀ {n : Nat} {y : SV}, n = p → (fdL g b.nums)[n]? = some y → y = encFd (g p) := by
  rintro n y rfl he; exact fdL_at he
 have hup : upF g p = ((g p).there && !(g p).gone) := rfl
 have hnone : upF g p = false → actB x d g = false := fun h => by
  unfold actB sellB splitB swapB harvB
  rw [hpt, h]
  split
  ·rfl
  ·split
   ·rfl
   ·split <;> rfl
 cases ht : (g p).there
 ·have hB := hnone (by rw [hup, ht]; rfl)
  have hg2 : ∀ {n : Nat} {y : SV}, n = p → (fdL g b.nums)[n]? = some y → y = .agg [.bool false, .bool (g p).gone, .int .i64 (g p).owner, .int .i64 (g p).value, .int .i64 (g p).sown] := fun h1 h2 => (hg2' h1 h2).trans (by rw [encFd, ht])
  rw [hB, if_neg (by simp)]
  refine TF.cutTo (TF.ev fn_164 (Ev.at ?_))
  unfold hapB
  (repeat' first | (intro rx hrx; have hq := hsub1 hrx (by omega); subst hq; clear hrx) | refine gx hg1 ?_ | refine gx hg2 ?_ | refine gx hg3 ?_ | refine gx hg4 ?_ | (refine eg ?_; conv => whnf) | refine an ?_ ?_ | (refine iw ?_; intro rx hrx) | exact lf | intro _)
  all_goals try exact vy
  all_goals (first | rfl | exact ⟨fdL_clo _ _⟩ | (exfalso; omega) | (refine ⟨?_⟩; rw [hpt, ← fdL_set]; simp only [encFd, ht, hgo]; done) | skip)
 cases hgo : (g p).gone
 rotate_left
 ·have hB := hnone (by rw [hup, ht, hgo]; rfl)
  have hg2 : ∀ {n : Nat} {y : SV}, n = p → (fdL g b.nums)[n]? = some y → y = .agg [.bool true, .bool true, .int .i64 (g p).owner, .int .i64 (g p).value, .int .i64 (g p).sown] := fun h1 h2 => (hg2' h1 h2).trans (by rw [encFd, ht, hgo])
  rw [hB, if_neg (by simp)]
  refine TF.cutTo (TF.ev fn_164 (Ev.at ?_))
  unfold hapB
  (repeat' first | (intro rx hrx; have hq := hsub1 hrx (by omega); subst hq; clear hrx) | refine gx hg1 ?_ | refine gx hg2 ?_ | refine gx hg3 ?_ | refine gx hg4 ?_ | (refine eg ?_; conv => whnf) | refine an ?_ ?_ | (refine iw ?_; intro rx hrx) | exact lf | intro _)
  all_goals try exact vy
  all_goals (first | rfl | exact ⟨fdL_clo _ _⟩ | (exfalso; omega) | (refine ⟨?_⟩; rw [hpt, ← fdL_set]; simp only [encFd, ht, hgo]; done) | skip)
 have hEF : encFd (g p) = .agg [.bool true, .bool false, .int .i64 (g p).owner, .int .i64 (g p).value, .int .i64 (g p).sown] := by rw [encFd, ht, hgo]
 have hg2 : ∀ {n : Nat} {y : SV}, n = p → (fdL g b.nums)[n]? = some y → y = .agg [.bool true, .bool false, .int .i64 (g p).owner, .int .i64 (g p).value, .int .i64 (g p).sown] := fun h1 h2 => (hg2' h1 h2).trans hEF
 rw [ht, hgo] at hup
 rcases hk with hk | hk | hk | hk
 ·have hA : actG b i x g = updF g p { g p with owner := x.to } := by simp only [actG, if_pos hk.1, sellG, hpt]
  by_cases hv : (g p).owner = x.frm
  ·have hB : actB x d g = true := by simp only [actB, if_pos hk.1, sellB, hpt, hup]; simp [hv]
   rw [hB, if_pos rfl, hA]
   refine TF.cutTo (TF.ev fn_164 (Ev.at ?_))
   unfold hapB
   (repeat' first | (intro rx hrx; have hq := hsub1 hrx (by omega); subst hq; clear hrx) | refine gx hg1 ?_ | refine gx hg2 ?_ | refine gx hg3 ?_ | refine gx hg4 ?_ | (refine eg ?_; conv => whnf) | refine an ?_ ?_ | (refine iw ?_; intro rx hrx) | exact lf | intro _)
   all_goals try exact vy
   all_goals (first | rfl | exact ⟨fdL_clo _ _⟩ | (exfalso; omega) | (refine ⟨?_⟩; rw [hpt, ← fdL_set]; simp only [encFd, ht, hgo]; done) | skip)
  ·have hB : actB x d g = false := by simp only [actB, if_pos hk.1, sellB, hpt, hup]; simp [hv]
   rw [hB, if_neg (by simp)]
   refine TF.cutTo (TF.ev fn_164 (Ev.at ?_))
   unfold hapB
   (repeat' first | (intro rx hrx; have hq := hsub1 hrx (by omega); subst hq; clear hrx) | refine gx hg1 ?_ | refine gx hg2 ?_ | refine gx hg3 ?_ | refine gx hg4 ?_ | (refine eg ?_; conv => whnf) | refine an ?_ ?_ | (refine iw ?_; intro rx hrx) | exact lf | intro _)
   all_goals try exact vy
   all_goals (first | rfl | exact ⟨fdL_clo _ _⟩ | (exfalso; omega) | (refine ⟨?_⟩; rw [hpt, ← fdL_set]; simp only [encFd, ht, hgo]; done) | skip)
 ·have hm := made_lt hx hk.1
  generalize hme : b.made i = m at *
  have hpart : 1 ≤ x.part ∧ x.part ≤ 1000 := by omega
  have hA : actG b i x g = updF (updF g p { g p with value := (g p).value - x.part }) m ⟨true, false, (g p).owner, x.part, (g p).sown⟩ := by simp only [actG, if_neg (show ¬ x.kind = 0 by omega), if_pos hk.1, splitG, hpt, hme, updF_self]
  have hsub1 : ∀ {r : Int}, r = IntKind.i64.wrap ((g p).value - x.part) → (0 : Int) ≤ 0 → r = (g p).value - x.part := fun h _ => by rw [h, IntWalk.i64_in _ (by omega)]
  have hset : (fdL g b.nums).set p (.agg [.bool true, .bool false, .int .i64 (g p).owner, .int .i64 ((g p).value - x.part), .int .i64 (g p).sown]) = fdL (updF g p { g p with value := (g p).value - x.part }) b.nums := by rw [← fdL_set]; simp only [encFd, ht, hgo]
  have hg3 : ∀ {n : Nat} {y : SV}, n = m → ((fdL g b.nums).set x.parcel.toNat (.agg [.bool true, .bool false, .int .i64 (g p).owner, .int .i64 ((g p).value - x.part), .int .i64 (g p).sown]))[n]? = some y → y = encFd (updF g p { g p with value := (g p).value - x.part } m) := by
   rintro n y rfl he; rw [hpt, hset] at he; exact fdL_at he
  by_cases hv : x.part < (g p).value
  ·have hB : actB x d g = true := by simp only [actB, if_neg (show ¬ x.kind = 0 by omega), if_pos hk.1, splitB, hpt, hup]; simp [hv]
   rw [hB, if_pos rfl, hA]
   refine TF.cutTo (TF.ev fn_164 (Ev.at ?_))
   unfold hapB
   (repeat' first | (intro rx hrx; have hq := hsub1 hrx (by omega); subst hq; clear hrx) | refine gx hg1 ?_ | refine gx hg2 ?_ | refine gx hg3 ?_ | refine gx hg4 ?_ | (refine eg ?_; conv => whnf) | refine an ?_ ?_ | (refine iw ?_; intro rx hrx) | exact lf | intro _)
   all_goals try exact vy
   all_goals (first | rfl | exact ⟨fdL_clo _ _⟩ | (exfalso; omega) | (refine ⟨?_⟩; rw [hpt, ← fdL_set]; simp only [encFd, ht, hgo]; done) | skip)
   refine TDq.pureC d1 (by simp [cloL, encBok_clo, clo]) rfl (And.intro rfl rfl) ?_
   (repeat' first | (intro rx hrx; have hq := hsub1 hrx (by omega); subst hq; clear hrx) | refine gx hg1 ?_ | refine gx hg2 ?_ | refine gx hg3 ?_ | refine gx hg4 ?_ | (refine eg ?_; conv => whnf) | refine an ?_ ?_ | (refine iw ?_; intro rx hrx) | exact lf | intro _)
   all_goals try exact vz
   all_goals (first | rfl | exact ⟨fdL_clo _ _⟩ | (exfalso; omega) | (refine ⟨?_⟩; rw [hpt, ← fdL_set]; simp only [encFd, ht, hgo]; done) | skip)
   refine ⟨?_⟩; rw [hpt, hset, Int.toNat_natCast]; exact fdL_set _ _ _ ⟨true, false, (g p).owner, x.part, (g p).sown⟩
  ·have hB : actB x d g = false := by simp only [actB, if_neg (show ¬ x.kind = 0 by omega), if_pos hk.1, splitB, hpt, hup]; simp [hv]
   rw [hB, if_neg (by simp)]
   refine TF.cutTo (TF.ev fn_164 (Ev.at ?_))
   unfold hapB
   (repeat' first | (intro rx hrx; have hq := hsub1 hrx (by omega); subst hq; clear hrx) | refine gx hg1 ?_ | refine gx hg2 ?_ | refine gx hg3 ?_ | refine gx hg4 ?_ | (refine eg ?_; conv => whnf) | refine an ?_ ?_ | (refine iw ?_; intro rx hrx) | exact lf | intro _)
   all_goals try exact vy
   all_goals (first | rfl | exact ⟨fdL_clo _ _⟩ | (exfalso; omega) | (refine ⟨?_⟩; rw [hpt, ← fdL_set]; simp only [encFd, ht, hgo]; done) | skip)
 ·obtain ⟨o, hoe⟩ : ∃ o : Nat, x.other = (o : Int) := ⟨x.other.toNat, by omega⟩
  have ho : o < b.nums := by omega
  have hot : x.other.toNat = o := by omega
  have hpo : o ≠ p := by omega
  have hg4' : ∀ {n : Nat} {y : SV}, n = o → (fdL g b.nums)[n]? = some y → y = encFd (g o) := by
   rintro n y rfl he; exact fdL_at he
  have hA : actG b i x g = updF (updF g p { g p with owner := (g o).owner }) o { g o with owner := (g p).owner } := by simp only [actG, if_neg (show ¬ x.kind = 0 by omega), if_neg (show ¬ x.kind = 1 by omega), if_pos hk.1, swapG, hpt, hot, updF_ne g _ hpo]
  have hupo : upF g o = ((g o).there && !(g o).gone) := rfl
  have hBe : actB x d g = (upF g o && (g p).owner != (g o).owner) := by simp only [actB, if_neg (show ¬ x.kind = 0 by omega), if_neg (show ¬ x.kind = 1 by omega), if_pos hk.1, swapB, hpt, hot, hup]; simp
  cases hto : (g o).there
  ·have hB : actB x d g = false := by rw [hBe, hupo, hto]; rfl
   have hg3 : ∀ {n : Nat} {y : SV}, n = o → (fdL g b.nums)[n]? = some y → y = .agg [.bool false, .bool (g o).gone, .int .i64 (g o).owner, .int .i64 (g o).value, .int .i64 (g o).sown] := fun h1 h2 => (hg4' h1 h2).trans (by rw [encFd, hto])
   rw [hB, if_neg (by simp)]
   refine TF.cutTo (TF.ev fn_164 (Ev.at ?_))
   unfold hapB
   (repeat' first | (intro rx hrx; have hq := hsub1 hrx (by omega); subst hq; clear hrx) | refine gx hg1 ?_ | refine gx hg2 ?_ | refine gx hg3 ?_ | refine gx hg4 ?_ | (refine eg ?_; conv => whnf) | refine an ?_ ?_ | (refine iw ?_; intro rx hrx) | exact lf | intro _)
   all_goals try exact vy
   all_goals (first | rfl | exact ⟨fdL_clo _ _⟩ | (exfalso; omega) | (refine ⟨?_⟩; rw [hpt, ← fdL_set]; simp only [encFd, ht, hgo]; done) | skip)
  cases hgoo : (g o).gone
  rotate_left
  ·have hB : actB x d g = false := by rw [hBe, hupo, hto, hgoo]; rfl
   have hg3 : ∀ {n : Nat} {y : SV}, n = o → (fdL g b.nums)[n]? = some y → y = .agg [.bool true, .bool true, .int .i64 (g o).owner, .int .i64 (g o).value, .int .i64 (g o).sown] := fun h1 h2 => (hg4' h1 h2).trans (by rw [encFd, hto, hgoo])
   rw [hB, if_neg (by simp)]
   refine TF.cutTo (TF.ev fn_164 (Ev.at ?_))
   unfold hapB
   (repeat' first | (intro rx hrx; have hq := hsub1 hrx (by omega); subst hq; clear hrx) | refine gx hg1 ?_ | refine gx hg2 ?_ | refine gx hg3 ?_ | refine gx hg4 ?_ | (refine eg ?_; conv => whnf) | refine an ?_ ?_ | (refine iw ?_; intro rx hrx) | exact lf | intro _)
   all_goals try exact vy
   all_goals (first | rfl | exact ⟨fdL_clo _ _⟩ | (exfalso; omega) | (refine ⟨?_⟩; rw [hpt, ← fdL_set]; simp only [encFd, ht, hgo]; done) | skip)
  have hg3 : ∀ {n : Nat} {y : SV}, n = o → (fdL g b.nums)[n]? = some y → y = .agg [.bool true, .bool false, .int .i64 (g o).owner, .int .i64 (g o).value, .int .i64 (g o).sown] := fun h1 h2 => (hg4' h1 h2).trans (by rw [encFd, hto, hgoo])
  rw [hto, hgoo] at hupo
  have hset : (fdL g b.nums).set p (.agg [.bool true, .bool false, .int .i64 (g o).owner, .int .i64 (g p).value, .int .i64 (g p).sown]) = fdL (updF g p { g p with owner := (g o).owner }) b.nums := by rw [← fdL_set]; simp only [encFd, ht, hgo]
  have hg4 : ∀ {n : Nat} {y : SV}, n = o → ((fdL g b.nums).set x.parcel.toNat (.agg [.bool true, .bool false, .int .i64 (g o).owner, .int .i64 (g p).value, .int .i64 (g p).sown]))[n]? = some y → y = .agg [.bool true, .bool false, .int .i64 (g o).owner, .int .i64 (g o).value, .int .i64 (g o).sown] := by
   rintro n y rfl he; rw [hpt, hset] at he; rw [fdL_at he, updF_ne g _ hpo, encFd, hto, hgoo]
  by_cases hv : (g o).owner = (g p).owner
  ·have hB : actB x d g = false := by rw [hBe, hupo]; simp [hv]
   rw [hB, if_neg (by simp)]
   refine TF.cutTo (TF.ev fn_164 (Ev.at ?_))
   unfold hapB
   (repeat' first | (intro rx hrx; have hq := hsub1 hrx (by omega); subst hq; clear hrx) | refine gx hg1 ?_ | refine gx hg2 ?_ | refine gx hg3 ?_ | refine gx hg4 ?_ | (refine eg ?_; conv => whnf) | refine an ?_ ?_ | (refine iw ?_; intro rx hrx) | exact lf | intro _)
   all_goals try exact vy
   all_goals (first | rfl | exact ⟨fdL_clo _ _⟩ | (exfalso; omega) | (refine ⟨?_⟩; rw [hpt, ← fdL_set]; simp only [encFd, ht, hgo]; done) | skip)
  ·have hB : actB x d g = true := by rw [hBe, hupo]; simp; exact fun h => hv h.symm
   rw [hB, if_pos rfl, hA]
   refine TF.cutTo (TF.ev fn_164 (Ev.at ?_))
   unfold hapB
   (repeat' first | (intro rx hrx; have hq := hsub1 hrx (by omega); subst hq; clear hrx) | refine gx hg1 ?_ | refine gx hg2 ?_ | refine gx hg3 ?_ | refine gx hg4 ?_ | (refine eg ?_; conv => whnf) | refine an ?_ ?_ | (refine iw ?_; intro rx hrx) | exact lf | intro _)
   all_goals try exact vz
   all_goals (first | rfl | exact ⟨fdL_clo _ _⟩ | (exfalso; omega) | (refine ⟨?_⟩; rw [hpt, ← fdL_set]; simp only [encFd, ht, hgo]; done) | skip)
   refine ⟨?_⟩; rw [hpt, hset, hot]
   have he : SV.agg [.bool true, .bool false, .int .i64 (g p).owner, .int .i64 (g o).value, .int .i64 (g o).sown] = encFd { g o with owner := (g p).owner } := by simp only [encFd, hto, hgoo]
   rw [he]
   exact fdL_set _ _ _ _
 ·have hA : actG b i x g = updF g p { g p with gone := true } := by simp only [actG, if_neg (show ¬ x.kind = 0 by omega), if_neg (show ¬ x.kind = 1 by omega), if_neg (show ¬ x.kind = 2 by omega), harvG, hpt]
  by_cases hv : (g p).sown ≤ d
  ·have hB : actB x d g = true := by simp only [actB, if_neg (show ¬ x.kind = 0 by omega), if_neg (show ¬ x.kind = 1 by omega), if_neg (show ¬ x.kind = 2 by omega), harvB, hpt, hup]; simp [hv]
   rw [hB, if_pos rfl, hA]
   refine TF.cutTo (TF.ev fn_164 (Ev.at ?_))
   unfold hapB
   (repeat' first | (intro rx hrx; have hq := hsub1 hrx (by omega); subst hq; clear hrx) | refine gx hg1 ?_ | refine gx hg2 ?_ | refine gx hg3 ?_ | refine gx hg4 ?_ | (refine eg ?_; conv => whnf) | refine an ?_ ?_ | (refine iw ?_; intro rx hrx) | exact lf | intro _)
   all_goals try exact vy
   all_goals (first | rfl | exact ⟨fdL_clo _ _⟩ | (exfalso; omega) | (refine ⟨?_⟩; rw [hpt, ← fdL_set]; simp only [encFd, ht, hgo]; done) | skip)
  ·have hB : actB x d g = false := by simp only [actB, if_neg (show ¬ x.kind = 0 by omega), if_neg (show ¬ x.kind = 1 by omega), if_neg (show ¬ x.kind = 2 by omega), harvB, hpt, hup]; simp [hv]
   rw [hB, if_neg (by simp)]
   refine TF.cutTo (TF.ev fn_164 (Ev.at ?_))
   unfold hapB
   (repeat' first | (intro rx hrx; have hq := hsub1 hrx (by omega); subst hq; clear hrx) | refine gx hg1 ?_ | refine gx hg2 ?_ | refine gx hg3 ?_ | refine gx hg4 ?_ | (refine eg ?_; conv => whnf) | refine an ?_ ?_ | (refine iw ?_; intro rx hrx) | exact lf | intro _)
   all_goals try exact vy
   all_goals (first | rfl | exact ⟨fdL_clo _ _⟩ | (exfalso; omega) | (refine ⟨?_⟩; rw [hpt, ← fdL_set]; simp only [encFd, ht, hgo]; done) | skip)
theorem fdL_zero (N : Nat) : List.replicate N (.agg [.bool false, .bool false, .int .i64 0, .int .i64 0, .int .i64 0]) = fdL (fun _ => fd0) N := by
 exact List.ext_getElem (by simp [fdL]) fun i h1 h2 => by simp [fdL, encFd, fd0]
theorem t163 (b : Bok) (days sown : List Int) (hb : OkBok b) (hs : sown.length = b.pcls.length) :
  TF Tryz.prog 163 [encBok b, .agg [.sl 1 (ints days), .sl 1 (ints sown)]] [] (fun r h' => h' = [.dead, .dead, .arr /-t-/367 5 (fdL (beginG b sown) b.nums)] ∧ r = .own 2) := by
 have hz := encPcls_len b.pcls
 have hw := ints_len sown
 have hpl := hb.plen
 have hel := hb.elen
 have hN := hb.nums_le
 have hpN : b.pcls.length ≤ b.nums := by unfold Bok.nums; omega
 have d1 := c162 b (by omega) (by omega)
 have hB := begK_all b sown hs.symm
 refine TF.cutTo (TF.ev fn_163 (Ev.at ?_))
 (repeat' first | refine gx hg1 ?_ | refine gx hg2 ?_ | refine gx hg3 ?_ | (refine eg ?_; conv => whnf) | refine an ?_ ?_ | (refine iw ?_; intro rx hrx) | exact lf | intro _)
 all_goals try exact vy
 refine TSq.pureC d1 (by simp [cloL, encBok_clo]) rfl (And.intro rfl rfl) ?_
 (repeat' first | refine gx hg1 ?_ | refine gx hg2 ?_ | refine gx hg3 ?_ | (refine eg ?_; conv => whnf) | refine an ?_ ?_ | (refine iw ?_; intro rx hrx) | exact lf | intro _)
 all_goals try exact vy
 rw [Int.toNat_natCast, fdL_zero]
 refine TWq.loop (fun k : Nat => [(6, .int .i64 k)]) (fun k => [(2, .arr /-t-/367 5 (fdL (begK b sown k) b.nums))]) (fun k => k ≤ b.pcls.length) (fun k => b.pcls.length - k) 0 [] [] ?_ (by omega) ?_
 ·(repeat' first | refine gx hg1 ?_ | refine gx hg2 ?_ | refine gx hg3 ?_ | (refine eg ?_; conv => whnf) | refine an ?_ ?_ | (refine iw ?_; intro rx hrx) | exact lf | intro _)
  all_goals try exact vy
  all_goals exact ⟨fdL_clo _ _⟩
 ·intro k hk
  rcases Nat.lt_or_ge k b.pcls.length with hkl | hkl
  ·obtain ⟨v, hv⟩ : ∃ v, b.pcls[k]? = some v := ⟨_, List.getElem?_eq_getElem hkl⟩
   obtain ⟨s, hs⟩ : ∃ v, sown[k]? = some v := ⟨_, List.getElem?_eq_getElem (by omega)⟩
   have hzk := fdL_len (begK b sown k) b.nums
   have hg1 : ∀ {n : Nat} {x : SV}, n = k → (encPcls b.pcls)[n]? = some x → x = encPcl v := by
    rintro n x rfl he
    obtain ⟨y, hy, rfl⟩ := encPcls_at he
    rw [hv] at hy; cases hy; rfl
   have hg2 : ∀ {n : Nat} {x : SV}, n = k → (ints sown)[n]? = some x → x = .int .i64 s := by
    rintro n x rfl he
    obtain ⟨y, hy, rfl⟩ := ints_at he
    rw [hs] at hy; cases hy; rfl
   have hg3 : ∀ {n : Nat} {x : SV}, n = k → (fdL (begK b sown k) b.nums)[n]? = some x → x = encFd (begK b sown k k) := by
    rintro n x rfl he; exact fdL_at he
   (repeat' first | refine gx hg1 ?_ | refine gx hg2 ?_ | refine gx hg3 ?_ | (refine eg ?_; conv => whnf) | refine an ?_ ?_ | (refine iw ?_; intro rx hrx) | exact lf | intro _)
   all_goals (try (exfalso; omega))
   all_goals try exact vz
   refine ⟨⟨k + 1, by omega, by omega, ?_⟩⟩
   (repeat' first | refine gx hg1 ?_ | refine gx hg2 ?_ | refine gx hg3 ?_ | (refine eg ?_; conv => whnf) | refine an ?_ ?_ | (refine iw ?_; intro rx hrx) | exact lf | intro _)
   all_goals try exact vy
   all_goals (first | exact ⟨fdL_clo _ _⟩ | (refine ⟨?_⟩; rw [← begK_step b sown hv hs, ← fdL_set]; rfl))
  ·have hke : k = b.pcls.length := by omega
   subst hke
   rw [hB]
   (repeat' first | refine gx hg1 ?_ | refine gx hg2 ?_ | refine gx hg3 ?_ | (refine eg ?_; conv => whnf) | refine an ?_ ?_ | (refine iw ?_; intro rx hrx) | exact lf | intro _)
   all_goals try exact vy
   all_goals (try (exfalso; omega))
   all_goals exact ⟨fdL_clo _ _⟩
def atR (b : Bok) (days sown : List Int) (day : Nat) : SV := match playG b days sown [] (b.last.toNat + 1) with
 | none => .tup [.nils, .bool false]
 | some _ => .tup [.sl 5 (fdL ((playG b days sown [] (day + 1)).getD fun _ => fd0) b.nums), .bool true]
theorem c101 (b : Bok) (days sown : List Int) (day : Nat) (hb : OkBok b) (hds : days.length = b.ents.length) (hsw : sown.length = b.pcls.length) (hday : (day : Int) ≤ b.last) :
    PF Tryz.prog 101 [encBok b, .agg [.sl 1 (ints days), .sl 1 (ints sown)], .int .i64 day, .int .i64 0] (· = atR b days sown day) := by
  have hz := encPcls_len b.pcls
  have hw := encEnts_len b.ents
  have hzd := ints_len days
  have hpl := hb.plen
  have hel := hb.elen
  have hla := hb.last
  have hN := hb.nums_le
  obtain ⟨L, hL⟩ : ∃ L : Nat, b.last = (L : Int) := ⟨b.last.toNat, by omega⟩
  have hLL : b.last.toNat = L := by omega
  have d1 := t163 b days sown hb hsw
  unfold atR
  rw [hLL]
  refine PF.of (TF.ev fn_101 (Ev.at ?_))
  (repeat' first | (intro rx hrx; have hq := hsub1 hrx (by omega); subst hq; clear hrx) | (intro rx hrx; have hq := hsub2 hrx (by omega); subst hq; clear hrx) | (intro rx hrx; have hq := hsub3 hrx (by omega); subst hq; clear hrx) | refine gx hg2 ?_ | (refine eg ?_; conv => whnf) | refine an ?_ ?_ | (refine iw ?_; intro rx hrx) | exact lf | intro _)
  all_goals try exact vy
  refine TSq.callD [] [(2, .dead), (3, .dead), (4, .arr /-t-/367 5 (fdL (beginG b sown) b.nums))] d1 rfl rfl (And.intro rfl rfl) rfl (by decide) (by simp) rfl (by simp) rfl rfl (by simp) rfl (fun a ha => by match a, ha with | 0, _ => exact ⟨rfl, rfl⟩ | 1, _ => exact ⟨rfl, rfl⟩ | 2, _ => exact ⟨rfl, congrArg (fun e => some (4, LB.arr /-t-/367 5 e)) (cloL_ren _ _ (fdL_clo _ _)).symm⟩) rfl ?_
  (repeat' first | (intro rx hrx; have hq := hsub1 hrx (by omega); subst hq; clear hrx) | (intro rx hrx; have hq := hsub2 hrx (by omega); subst hq; clear hrx) | (intro rx hrx; have hq := hsub3 hrx (by omega); subst hq; clear hrx) | refine gx hg2 ?_ | (refine eg ?_; conv => whnf) | refine an ?_ ?_ | (refine iw ?_; intro rx hrx) | exact lf | intro _)
  all_goals try exact vy
  refine TWq.loopP (fun p : Nat × Fds × Option Fds => [(10, .own 4), (12, .int .i64 p.1), (11, match p.2.2 with | none => .nils | some _ => .own 5)]) (fun p => [(4, .arr /-t-/367 5 (fdL p.2.1 b.nums)), (5, match p.2.2 with | none => .dead | some a => .arr /-t-/367 5 (fdL a b.nums))])
    (fun p => p.1 ≤ L + 1 ∧ playG b days sown [] p.1 = some p.2.1 ∧ OkG p.2.1 ∧ (p.1 ≤ day → p.2.2 = none) ∧ (day < p.1 → ∃ a, p.2.2 = some a ∧ playG b days sown [] (day + 1) = some a)) (fun p => L + 1 - p.1) (0, beginG b sown, none) [] ?_ ⟨by dsimp only; omega, rfl, OkG_begin hb sown, fun _ => rfl, fun h => by dsimp only at h; omega⟩ ?_
  · (repeat' first | (intro rx hrx; have hq := hsub1 hrx (by omega); subst hq; clear hrx) | (intro rx hrx; have hq := hsub2 hrx (by omega); subst hq; clear hrx) | (intro rx hrx; have hq := hsub3 hrx (by omega); subst hq; clear hrx) | refine gx hg2 ?_ | (refine eg ?_; conv => whnf) | refine an ?_ ?_ | (refine iw ?_; intro rx hrx) | exact lf | intro _)
    all_goals try exact vy
    all_goals exact ⟨fdL_clo _ _⟩
  · rintro ⟨d, g0, o⟩ ⟨q1, q2, q3, q4, q5⟩
    dsimp only at q1 q2 q3 q4 q5 ⊢
    rcases Nat.lt_or_ge d (L + 1) with hdl | hdl
    · have inner : ∀ o : Option Fds, o = o := fun _ => rfl
      rcases o with _ | a
      all_goals
        (repeat' first | (intro rx hrx; have hq := hsub1 hrx (by omega); subst hq; clear hrx) | (intro rx hrx; have hq := hsub2 hrx (by omega); subst hq; clear hrx) | (intro rx hrx; have hq := hsub3 hrx (by omega); subst hq; clear hrx) | refine gx hg2 ?_ | (refine eg ?_; conv => whnf) | refine an ?_ ?_ | (refine iw ?_; intro rx hrx) | exact lf | intro _)
        all_goals (try (exfalso; omega))
        all_goals try exact vy
        refine TWq.loop (fun p : Nat × Fds => [(13, .int .i64 p.1)]) (fun p => [(4, .arr /-t-/367 5 (fdL p.2 b.nums))])
          (fun p => p.1 ≤ b.ents.length ∧ dayG b days [] d g0 p.1 = some p.2 ∧ OkG p.2) (fun p => b.ents.length - p.1) (0, g0) [] [] ?_ ⟨by dsimp only; omega, rfl, q3⟩ ?_
        · (repeat' first | (intro rx hrx; have hq := hsub1 hrx (by omega); subst hq; clear hrx) | (intro rx hrx; have hq := hsub2 hrx (by omega); subst hq; clear hrx) | (intro rx hrx; have hq := hsub3 hrx (by omega); subst hq; clear hrx) | refine gx hg2 ?_ | (refine eg ?_; conv => whnf) | refine an ?_ ?_ | (refine iw ?_; intro rx hrx) | exact lf | intro _)
          all_goals try exact vy
          all_goals exact ⟨fdL_clo _ _⟩
        · rintro ⟨i, g⟩ ⟨r1, r2, r3⟩
          dsimp only at r1 r2 r3 ⊢
          rcases Nat.lt_or_ge i b.ents.length with hil | hil
          · obtain ⟨x, hx⟩ : ∃ v, b.ents[i]? = some v := ⟨_, List.getElem?_eq_getElem hil⟩
            obtain ⟨t, ht⟩ : ∃ v, days[i]? = some v := ⟨_, List.getElem?_eq_getElem (by omega)⟩
            have hg2 : ∀ {n : Nat} {y : SV}, n = i → (ints days)[n]? = some y → y = .int .i64 t := by
              rintro n y rfl he
              obtain ⟨z, hz, rfl⟩ := ints_at he
              rw [ht] at hz; cases hz; rfl
            have next : ∀ g', stepG b days [] d i g = some g' → dayG b days [] d g0 (i + 1) = some g' := fun g' h => by rw [dayG, r2]; exact h
            by_cases htd : t = d
            · subst htd
              have d2 := t164 b g i d x hb hx r3
              have hst : ∀ v, v = actB x d g → stepG b days [] d i g = if v = true then some (actG b i x g) else none := fun v hv => by
                simp only [stepG, hx, ht]; rw [if_pos ⟨trivial, rfl⟩, hv]
              have hOk : actB x d g = true → OkG (actG b i x g) := OkG_act r3 (hb.ent x (List.mem_of_getElem? hx)).kind
              have hsub1 : ∀ {x n : Int}, x = IntKind.u64.wrap n → 0 ≤ n ∧ n ≤ 60 → x = n := fun h e => by rw [h, IntWalk.u64_in _ (by omega)]
              have hsub2 : ∀ {r : Int} {e : Nat}, r = Int.fdiv 0 (2 ^ e) → (0 : Int) ≤ 0 → r = 0 := fun h _ => by rw [h]; simp
              have hsub3 : ∀ {r : Int}, r = Int.tmod 0 2 → (0 : Int) ≤ 0 → r = 0 := fun h _ => by rw [h]; rfl
              unfold hapB at d2
              generalize actG b i x g = g' at d2 hst hOk
              generalize actB x d g = v at d2 hst hOk
              have hst := hst v rfl
              cases v
              · (repeat' first | (intro rx hrx; have hq := hsub1 hrx (by omega); subst hq; clear hrx) | (intro rx hrx; have hq := hsub2 hrx (by omega); subst hq; clear hrx) | (intro rx hrx; have hq := hsub3 hrx (by omega); subst hq; clear hrx) | refine gx hg2 ?_ | (refine eg ?_; conv => whnf) | refine an ?_ ?_ | (refine iw ?_; intro rx hrx) | exact lf | intro _)
                all_goals (try (exfalso; omega))
                all_goals try exact vy
                refine TSq.callD [4] [(4, .arr /-t-/367 5 (fdL (if false = true then g' else g) b.nums))] d2 rfl rfl (And.intro rfl rfl) rfl (by decide) (allLt_iff rfl) rfl
                  (fun a ha => by match a, ha with | 0, _ => exact ⟨rfl, congrArg (LB.arr /-t-/367 5) (cloL_ren _ _ (fdL_clo _ _)).symm⟩) rfl rfl (Nat.le_refl _) rfl (fun a ha => by match a, ha with | 0, _ => exact ⟨rfl, congrArg (fun e => some (4, LB.arr /-t-/367 5 e)) (cloL_ren _ _ (fdL_clo _ _)).symm⟩) rfl ?_
                (repeat' first | (intro rx hrx; have hq := hsub1 hrx (by omega); subst hq; clear hrx) | (intro rx hrx; have hq := hsub2 hrx (by omega); subst hq; clear hrx) | (intro rx hrx; have hq := hsub3 hrx (by omega); subst hq; clear hrx) | refine gx hg2 ?_ | (refine eg ?_; conv => whnf) | refine an ?_ ?_ | (refine iw ?_; intro rx hrx) | exact lf | intro _)
                all_goals try exact vy
                all_goals (try exact ⟨fdL_clo _ _⟩)
                have hnone := playG_stop q2 r2 hst hil hdl
                all_goals (rw [hnone])
              · (repeat' first | (intro rx hrx; have hq := hsub1 hrx (by omega); subst hq; clear hrx) | (intro rx hrx; have hq := hsub2 hrx (by omega); subst hq; clear hrx) | (intro rx hrx; have hq := hsub3 hrx (by omega); subst hq; clear hrx) | refine gx hg2 ?_ | (refine eg ?_; conv => whnf) | refine an ?_ ?_ | (refine iw ?_; intro rx hrx) | exact lf | intro _)
                all_goals (try (exfalso; omega))
                all_goals try exact vy
                refine TSq.callD [4] [(4, .arr /-t-/367 5 (fdL (if true = true then g' else g) b.nums))] d2 rfl rfl (And.intro rfl rfl) rfl (by decide) (allLt_iff rfl) rfl
                  (fun a ha => by match a, ha with | 0, _ => exact ⟨rfl, congrArg (LB.arr /-t-/367 5) (cloL_ren _ _ (fdL_clo _ _)).symm⟩) rfl rfl (Nat.le_refl _) rfl (fun a ha => by match a, ha with | 0, _ => exact ⟨rfl, congrArg (fun e => some (4, LB.arr /-t-/367 5 e)) (cloL_ren _ _ (fdL_clo _ _)).symm⟩) rfl ?_
                (repeat' first | (intro rx hrx; have hq := hsub1 hrx (by omega); subst hq; clear hrx) | (intro rx hrx; have hq := hsub2 hrx (by omega); subst hq; clear hrx) | (intro rx hrx; have hq := hsub3 hrx (by omega); subst hq; clear hrx) | refine gx hg2 ?_ | (refine eg ?_; conv => whnf) | refine an ?_ ?_ | (refine iw ?_; intro rx hrx) | exact lf | intro _)
                all_goals try exact vy
                refine ⟨⟨(i + 1, g'), ⟨by dsimp only; omega, next g' hst, hOk rfl⟩, by dsimp only; omega, ?_⟩⟩
                (repeat' first | (intro rx hrx; have hq := hsub1 hrx (by omega); subst hq; clear hrx) | (intro rx hrx; have hq := hsub2 hrx (by omega); subst hq; clear hrx) | (intro rx hrx; have hq := hsub3 hrx (by omega); subst hq; clear hrx) | refine gx hg2 ?_ | (refine eg ?_; conv => whnf) | refine an ?_ ?_ | (refine iw ?_; intro rx hrx) | exact lf | intro _)
                all_goals try exact vy
                all_goals exact ⟨fdL_clo _ _⟩
            · have hst := next g (by simp only [stepG, hx, ht]; rw [if_neg (by omega)])
              (repeat' first | (intro rx hrx; have hq := hsub1 hrx (by omega); subst hq; clear hrx) | (intro rx hrx; have hq := hsub2 hrx (by omega); subst hq; clear hrx) | (intro rx hrx; have hq := hsub3 hrx (by omega); subst hq; clear hrx) | refine gx hg2 ?_ | (refine eg ?_; conv => whnf) | refine an ?_ ?_ | (refine iw ?_; intro rx hrx) | exact lf | intro _)
              all_goals (try (exfalso; omega))
              all_goals try exact vy
              refine ⟨⟨(i + 1, g), ⟨by dsimp only; omega, hst, r3⟩, by dsimp only; omega, ?_⟩⟩
              (repeat' first | (intro rx hrx; have hq := hsub1 hrx (by omega); subst hq; clear hrx) | (intro rx hrx; have hq := hsub2 hrx (by omega); subst hq; clear hrx) | (intro rx hrx; have hq := hsub3 hrx (by omega); subst hq; clear hrx) | refine gx hg2 ?_ | (refine eg ?_; conv => whnf) | refine an ?_ ?_ | (refine iw ?_; intro rx hrx) | exact lf | intro _)
              all_goals try exact vy
              all_goals exact ⟨fdL_clo _ _⟩
          · have hie : i = b.ents.length := by omega
            subst hie
            have hnext : playG b days sown [] (d + 1) = some g := by rw [playG, q2]; exact r2
            have hzg := fdL_len g b.nums
            by_cases hdd : d = day
            · first
                | (exfalso; have hno := q4 (by omega); cases hno; done)
                | ((repeat' first | (intro rx hrx; have hq := hsub1 hrx (by omega); subst hq; clear hrx) | (intro rx hrx; have hq := hsub2 hrx (by omega); subst hq; clear hrx) | (intro rx hrx; have hq := hsub3 hrx (by omega); subst hq; clear hrx) | refine gx hg2 ?_ | (refine eg ?_; conv => whnf) | refine an ?_ ?_ | (refine iw ?_; intro rx hrx) | exact lf | intro _)
                   all_goals (try (exfalso; omega))
                   all_goals try exact vy
                   refine ⟨⟨[(5, 7)], (d + 1, g, some g), ⟨by dsimp only; omega, hnext, r3, fun h => by dsimp only at h; omega, fun _ => ⟨g, rfl, by rw [← hdd]; exact hnext⟩⟩, by dsimp only; omega, ?_⟩⟩
                   (repeat' first | (intro rx hrx; have hq := hsub1 hrx (by omega); subst hq; clear hrx) | (intro rx hrx; have hq := hsub2 hrx (by omega); subst hq; clear hrx) | (intro rx hrx; have hq := hsub3 hrx (by omega); subst hq; clear hrx) | refine gx hg2 ?_ | (refine eg ?_; conv => whnf) | refine an ?_ ?_ | (refine iw ?_; intro rx hrx) | exact lf | intro _)
                   all_goals try exact vy
                   all_goals (first | exact ⟨fdL_clo _ _⟩ | (refine ⟨?_⟩; simp [catS, repl, chunks]; done)))
            · (repeat' first | (intro rx hrx; have hq := hsub1 hrx (by omega); subst hq; clear hrx) | (intro rx hrx; have hq := hsub2 hrx (by omega); subst hq; clear hrx) | (intro rx hrx; have hq := hsub3 hrx (by omega); subst hq; clear hrx) | refine gx hg2 ?_ | (refine eg ?_; conv => whnf) | refine an ?_ ?_ | (refine iw ?_; intro rx hrx) | exact lf | intro _)
              all_goals (try (exfalso; omega))
              all_goals try exact vy
              refine ⟨⟨[], (d + 1, g, _), ⟨by dsimp only; omega, hnext, r3, fun h => q4 (by dsimp only at h; omega), fun h => q5 (by dsimp only at h; omega)⟩, by dsimp only; omega, ?_⟩⟩
              (repeat' first | (intro rx hrx; have hq := hsub1 hrx (by omega); subst hq; clear hrx) | (intro rx hrx; have hq := hsub2 hrx (by omega); subst hq; clear hrx) | (intro rx hrx; have hq := hsub3 hrx (by omega); subst hq; clear hrx) | refine gx hg2 ?_ | (refine eg ?_; conv => whnf) | refine an ?_ ?_ | (refine iw ?_; intro rx hrx) | exact lf | intro _)
              all_goals try exact vy
              all_goals exact ⟨fdL_clo _ _⟩
    · have hde : d = L + 1 := by omega
      subst hde
      obtain ⟨a, rfl, q5'⟩ := q5 (by omega)
      (repeat' first | (intro rx hrx; have hq := hsub1 hrx (by omega); subst hq; clear hrx) | (intro rx hrx; have hq := hsub2 hrx (by omega); subst hq; clear hrx) | (intro rx hrx; have hq := hsub3 hrx (by omega); subst hq; clear hrx) | refine gx hg2 ?_ | (refine eg ?_; conv => whnf) | refine an ?_ ?_ | (refine iw ?_; intro rx hrx) | exact lf | intro _)
      all_goals (try (exfalso; omega))
      all_goals try exact vy
      all_goals (first | exact ⟨fdL_clo _ _⟩ | (rw [q2, q5']; rfl))
end Go.Proofs.YtjadiajfbflghaaGreat
