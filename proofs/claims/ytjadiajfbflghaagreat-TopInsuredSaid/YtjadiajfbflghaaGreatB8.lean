/- Books of parcels: the small functions. Books: all over lists of parcels and of entries (printed by a program). Books: the ranges of a book; the error of a book. Parcels at work: the fields, and what entries do. Parcels at work: swaps and splits. Who is asked; the calls. Books played: what entries do, by their kinds; days, one by one. -/
import Derived.Test.YtjadiajfbflghaaGreatB7
set_option maxHeartbeats 32000000
set_option maxRecDepth 100000
set_option linter.unusedSimpArgs false
set_option linter.unusedVariables false
open Go Go.TV
namespace Go.Proofs.YtjadiajfbflghaaGreat
theorem c167 (n lo hi : Int) : PF Tryz.prog 167 [.int .i64 n, .int .i64 lo, .int .i64 hi] (· = .bool (within n lo hi)) := by
 refine PF.of (TF.ev fn_167 (Ev.at ?_))
 (repeat' first | (refine eg ?_; conv => whnf) | refine an ?_ ?_ | (refine iw ?_; intro rx hrx) | exact lf | intro _)
 all_goals (rw [SV.bool_iff]; simp [within]; omega)
theorem c171 (l : List Int) (h : l ≠ []) (hlen : l.length ≤ 1000000) : PF Tryz.prog 171 [.sl 1 (ints l)] (· = .int .i64 (minL l)) := by
 refine PF.of (TF.ev fn_171 (Ev.at ?_))
 refine e (And.intro ?_ trivial); intros
 refine TSq.pureC (c185 l h hlen) cl rfl (And.intro rfl rfl) ?_
 exact e trivial
theorem c174 (r : Rng) (n : Int) : PF Tryz.prog 174 [encR r, .int .i64 n] (· = .bool (within n r.lo r.hi)) := by
 refine PF.of (TF.ev fn_174 (Ev.at ?_))
 refine e (And.intro ?_ trivial); intros
 refine TSq.pureC (c167 n r.lo r.hi) cl rfl (And.intro rfl rfl) ?_
 exact e trivial
theorem c172 (r : Rng) (h : 0 ≤ r.lo ∧ r.lo ≤ r.hi ∧ r.hi ≤ 1000) : PF Tryz.prog 172 [encR r] (· = .int .i64 (rsize r)) := by
 have hsub1 : ∀ {x : Int}, x = r.hi - r.lo + 1 → (0 : Int) ≤ 0 → x = rsize r := fun h _ => h
 refine PF.of (TF.ev fn_172 (Ev.at ?_))
 refine e (And.intro ?_ trivial); intros
 congr 1; unfold rsize; omega
theorem c104 (b : Bok) (n : Int) (h : 1 ≤ b.owners ∧ b.owners ≤ 4) : PF Tryz.prog 104 [encBok b, .int .i64 n] (· = .bool (within n 0 (b.owners - 1))) := by
 refine PF.of (TF.ev fn_104 (Ev.at ?_))
 refine e (And.intro ?_ trivial); intros
 subst_vars
 refine TSq.pureC (c167 n 0 (b.owners - 1)) cl rfl (And.intro rfl rfl) ?_
 exact e trivial
theorem c105 (b : Bok) (n : Int) : PF Tryz.prog 105 [encBok b, .int .i64 n] (· = .bool (within n 0 b.last)) := by
 refine PF.of (TF.ev fn_105 (Ev.at ?_))
 refine e (And.intro ?_ trivial); intros
 refine TSq.pureC (c167 n 0 b.last) cl rfl (And.intro rfl rfl) ?_
 exact e trivial
def Bok.days (b : Bok) (r : Rng) : Bool := within r.lo 0 b.last && (within r.hi 0 b.last && decide (r.lo ≤ r.hi))
theorem days_iff {b : Bok} {r : Rng} : b.days r = true ↔ OkDays b r := by
 simp only [Bok.days, within, Bool.and_eq_true, decide_eq_true_eq]
 exact ⟨fun h => ⟨by omega, by omega, by omega⟩, fun h => by have := h.lo; have := h.le; have := h.hi; omega⟩
theorem c215 (b : Bok) (r : Rng) : PF Tryz.prog 215 [encBok b, encR r] (· = .bool (b.days r)) := by
 have d1 := c105 b r.lo
 have d2 := c105 b r.hi
 unfold Bok.days
 refine PF.of (TF.ev fn_215 (Ev.at ?_))
 refine e (And.intro ?_ trivial); intros
 refine TSq.pureBC d1 (by simp [cloL, encBok_clo, clo]) rfl (And.intro rfl rfl) ?_ ?_ <;> intro h1
 rotate_left
 ·rw [h1]; exact e trivial
 rw [h1]
 refine e (And.intro ?_ trivial); intros
 refine TSq.pureBC d2 (by simp [cloL, encBok_clo, clo]) rfl (And.intro rfl rfl) ?_ ?_ <;> intro h2
 rotate_left
 ·rw [h2]; exact e trivial
 rw [h2]
 (repeat' first | (refine eg ?_; conv => whnf) | refine an ?_ ?_ | (refine iw ?_; intro rx hrx) | exact lf | intro _)
 all_goals (rw [SV.bool_iff]; simp; try omega)
theorem c113 (b : Bok) (hp : b.pcls.length ≤ 100) (he : b.ents.length ≤ 100) : PF Tryz.prog 113 [encBok b] (· = .int .i64 b.nums) := by
 have hz := encPcls_len b.pcls
 have hw := encEnts_len b.ents
 refine PF.of (TF.ev fn_113 (Ev.at ?_))
 refine e (And.intro ?_ trivial); intros
 refine TWq.loop (fun k : Nat => [(3, .int .i64 ((b.pcls.length + splits (b.ents.take k) : Nat) : Int)), (12, .int .i64 k)]) (fun _ => []) (fun k => k ≤ b.ents.length) (fun k => b.ents.length - k) 0 [] [] ?_ (by omega) ?_
 ·refine e (And.intro ?_ trivial); intros
  refine ⟨?_⟩; simp [splits, hz]
 ·intro k hk
  rcases Nat.lt_or_ge k b.ents.length with hkl | hkl
  ·obtain ⟨v, hv⟩ : ∃ v, b.ents[k]? = some v := ⟨_, List.getElem?_eq_getElem hkl⟩
   have hg1 : ∀ {n : Nat} {e : SV}, n = k → (encEnts b.ents)[n]? = some e → e = encEnt v := by
    rintro n e rfl he
    obtain ⟨x, hx, rfl⟩ := encEnts_at he
    rw [hv] at hx; cases hx; rfl
   have hs := splits_snoc hv
   have hsl := splits_le (b.ents.take k)
   have hsl2 : (b.ents.take k).length ≤ 100 := by simp; omega
   (repeat' first | refine gx hg1 ?_ | (refine eg ?_; conv => whnf) | refine an ?_ ?_ | (refine iw ?_; intro rx hrx) | exact lf | intro _)
   all_goals try exact vy
   all_goals
    refine ⟨⟨k + 1, by omega, by omega, ?_⟩⟩
    (repeat' first | refine gx hg1 ?_ | (refine eg ?_; conv => whnf) | refine an ?_ ?_ | (refine iw ?_; intro rx hrx) | exact lf | intro _)
    all_goals try exact vy
    all_goals (refine ⟨?_⟩; rw [hs]; simp [*]; try omega)
  ·have hke : k = b.ents.length := by omega
   subst hke
   refine e (And.intro ?_ trivial); intros
   simp [Bok.nums]
theorem c216 (b : Bok) (n : Int) (h : OkBok b) : PF Tryz.prog 216 [encBok b, .int .i64 n] (· = .bool (within n 0 (b.nums - 1))) := by
 have h1 := h.plen
 have h2 := h.elen
 have h3 := h.nums_le
 refine PF.of (TF.ev fn_216 (Ev.at ?_))
 refine e (And.intro ?_ trivial); intros
 refine TSq.pureC (c113 b (by omega) (by omega)) (by simp [cloL, encBok_clo]) rfl (And.intro rfl rfl) ?_
 refine e (And.intro ?_ trivial); intros
 subst_vars
 refine TSq.pureC (c167 n 0 (b.nums - 1)) cl rfl (And.intro rfl rfl) ?_
 exact e trivial
theorem OkBok.day_lo {b : Bok} (h : OkBok b) {r : Rng} (hr : OkDays b r) : 0 ≤ r.lo ∧ r.lo ≤ r.hi ∧ r.hi ≤ 1000 := by
 have := h.last; have := hr.lo; have := hr.le; have := hr.hi; omega
theorem c165 (b : Bok) (p : Pcl) (h : OkBok b) (hp : OkPcl b p) : PF Tryz.prog 165 [encBok b, encPcl p] (· = .bool true) := by
 have d1 := c104 b p.owner h.owners
 have d2 := c167 p.value 0 1000
 have d3 := c215 b p.sown
 rw [days_iff.2 hp.sown] at d3
 rw [show within p.owner 0 (b.owners - 1) = true by simp only [within, decide_eq_true_eq]; have := hp.owner; omega] at d1
 rw [show within p.value 0 1000 = true by simp only [within, decide_eq_true_eq]; exact hp.value] at d2
 refine PF.of (TF.ev fn_165 (Ev.at ?_))
 refine e (And.intro ?_ trivial); intros
 refine TSq.pureC d1 (by simp [cloL, encBok_clo, clo]) rfl (And.intro rfl rfl) ?_
 refine e (And.intro ?_ trivial); intros
 refine TSq.pureC d2 cl rfl (And.intro rfl rfl) ?_
 refine e (And.intro ?_ trivial); intros
 refine TSq.pureC d3 (by simp [cloL, encBok_clo, clo, encR]) rfl (And.intro rfl rfl) ?_
 exact e trivial
def shE : TShape := .st [(0, 1, false, .int .i64), (1, 1, false, .int .i64), (2, 1, false, .int .i64), (3, 1, false, .int .i64), (4, 1, false, .int .i64), (5, 1, false, .int .i64), (6, 2, true, .st [(0, 1, false, .int .i64), (1, 1, false, .int .i64)])]
theorem shE_ok (a b c d e f g h : Int) : shOK shE (.agg [.int .i64 a, .int .i64 b, .int .i64 c, .int .i64 d, .int .i64 e, .int .i64 f, .int .i64 g, .int .i64 h]) := by simp [shE, shOK, shF, partK, getK, lenIs, dropK, takeK, andN]
theorem c166 (b : Bok) (x : Ent) (h : OkBok b) (hp : OkEnt b x) : PF Tryz.prog 166 [encBok b, encEnt x] (· = .bool true) := by
 have d1 := c216 b x.parcel h
 have d2 := c215 b x.day
 have d3 := c104 b x.frm h.owners
 have d4 := c104 b x.to h.owners
 have d5 := c167 x.part 1 1000
 have d6 := c216 b x.other h
 rw [days_iff.2 hp.day] at d2
 rw [show within x.parcel 0 (b.nums - 1) = true by simp only [within, decide_eq_true_eq]; have := hp.parcel; omega] at d1
 have hk := hp.kind
 clear hp
 rcases hk with hk | hk | hk | hk
 ·obtain ⟨h0, h1, h2, h3, h4, h5⟩ := hk
  rw [show within x.frm 0 (b.owners - 1) = true by simp only [within, decide_eq_true_eq]; omega] at d3
  rw [show within x.to 0 (b.owners - 1) = true by simp only [within, decide_eq_true_eq]; omega] at d4
  refine PF.of (TF.ev fn_166 (Ev.at ?_))
  refine e (And.intro ?_ trivial); intros
  refine TSq.pureC d1 (by simp [cloL, encBok_clo, clo]) rfl (And.intro rfl rfl) ?_
  refine e (And.intro ?_ trivial); intros
  refine TSq.pureC d2 (by simp [cloL, encBok_clo, clo, encR]) rfl (And.intro rfl rfl) ?_
  (repeat' first | (refine eg ?_; conv => whnf) | refine an ?_ ?_ | (refine iw ?_; intro rx hrx) | exact lf | intro _)
  all_goals try exact vz
  all_goals (try exact ⟨shE_ok _ _ _ _ _ _ _ _⟩)
  all_goals (try (rename_i hne; exact absurd (by simp [h1, h2, h3, h4]) hne))
  refine TSq.pureC d3 (by simp [cloL, encBok_clo, clo]) rfl (And.intro rfl rfl) ?_
  refine e (And.intro ?_ trivial); intros
  refine TSq.pureC d4 (by simp [cloL, encBok_clo, clo]) rfl (And.intro rfl rfl) ?_
  (repeat' first | (refine eg ?_; conv => whnf) | refine an ?_ ?_ | (refine iw ?_; intro rx hrx) | exact lf | intro _)
  all_goals (first | rfl | (exfalso; omega))
 ·obtain ⟨h0, h1, h2, h3, h4⟩ := hk
  rw [show within x.part 1 1000 = true by simp only [within, decide_eq_true_eq]; omega] at d5
  refine PF.of (TF.ev fn_166 (Ev.at ?_))
  refine e (And.intro ?_ trivial); intros
  refine TSq.pureC d1 (by simp [cloL, encBok_clo, clo]) rfl (And.intro rfl rfl) ?_
  refine e (And.intro ?_ trivial); intros
  refine TSq.pureC d2 (by simp [cloL, encBok_clo, clo, encR]) rfl (And.intro rfl rfl) ?_
  (repeat' first | (refine eg ?_; conv => whnf) | refine an ?_ ?_ | (refine iw ?_; intro rx hrx) | exact lf | intro _)
  all_goals try exact vz
  all_goals (try exact ⟨shE_ok _ _ _ _ _ _ _ _⟩)
  all_goals (try (rename_i hne; exact absurd (by simp [h1, h2, h3, h4]) hne))
  refine TSq.pureC d5 cl rfl (And.intro rfl rfl) ?_
  exact e trivial
 ·obtain ⟨h0, h1, h2, h3, h4, h5⟩ := hk
  rw [show within x.other 0 (b.nums - 1) = true by simp only [within, decide_eq_true_eq]; omega] at d6
  refine PF.of (TF.ev fn_166 (Ev.at ?_))
  refine e (And.intro ?_ trivial); intros
  refine TSq.pureC d1 (by simp [cloL, encBok_clo, clo]) rfl (And.intro rfl rfl) ?_
  refine e (And.intro ?_ trivial); intros
  refine TSq.pureC d2 (by simp [cloL, encBok_clo, clo, encR]) rfl (And.intro rfl rfl) ?_
  (repeat' first | (refine eg ?_; conv => whnf) | refine an ?_ ?_ | (refine iw ?_; intro rx hrx) | exact lf | intro _)
  all_goals try exact vz
  all_goals (try exact ⟨shE_ok _ _ _ _ _ _ _ _⟩)
  all_goals (try (rename_i hne; exact absurd (by simp [h1, h2, h3, h4]) hne))
  refine TSq.pureC d6 (by simp [cloL, encBok_clo, clo]) rfl (And.intro rfl rfl) ?_
  (repeat' first | (refine eg ?_; conv => whnf) | refine an ?_ ?_ | (refine iw ?_; intro rx hrx) | exact lf | intro _)
  all_goals (first | rfl | (exfalso; omega))
 ·obtain ⟨h0, h1, h2, h3, h4⟩ := hk
  refine PF.of (TF.ev fn_166 (Ev.at ?_))
  refine e (And.intro ?_ trivial); intros
  refine TSq.pureC d1 (by simp [cloL, encBok_clo, clo]) rfl (And.intro rfl rfl) ?_
  refine e (And.intro ?_ trivial); intros
  refine TSq.pureC d2 (by simp [cloL, encBok_clo, clo, encR]) rfl (And.intro rfl rfl) ?_
  (repeat' first | (refine eg ?_; conv => whnf) | refine an ?_ ?_ | (refine iw ?_; intro rx hrx) | exact lf | intro _)
  all_goals try exact vz
  all_goals (try exact ⟨shE_ok _ _ _ _ _ _ _ _⟩)
  all_goals (try (rename_i hne; exact absurd (by simp [h1, h2, h3, h4]) hne))
end Go.Proofs.YtjadiajfbflghaaGreat
open Go Go.TV
namespace Go.Proofs.YtjadiajfbflghaaGreat
theorem noPcl (b0 : Bok) (y : Pcl) (b : Bool) (h : PF Tryz.prog 165 [encBok b0, encPcl y] (· = .bool b)) : PF Tryz.prog 218 [encPcl y, .iptr (.agg [.fn 165 [encBok b0] []]) 0] (· = .bool !b) := by
 refine PF.of (TF.ev fn_218 (Ev.at ?_))
 (repeat' first | (refine eg ?_; conv => whnf) | refine an ?_ ?_ | (refine iw ?_; intro rx hrx) | exact lf | intro _)
 all_goals try exact vy
 refine TSq.pureBC h (by simp [cloL, clo, encPcl, encEnt, encBok, encPcls_clo, encEnts_clo]) rfl (And.intro rfl rfl) ?_ ?_ <;> intro hb
 all_goals
  subst hb
  (repeat' first | (refine eg ?_; conv => whnf) | refine an ?_ ?_ | (refine iw ?_; intro rx hrx) | exact lf | intro _)
  try rfl
theorem ixPcl (b0 : Bok) (l : List (Pcl)) (p : Pcl → Bool) (hp : ∀ y ∈ l, PF Tryz.prog 165 [encBok b0, encPcl y] (· = .bool (p y))) (hlen : l.length ≤ 1000000) :
  PF Tryz.prog 245 [.sl 4 (encPcls l), .fn 218 [] [.iptr (.agg [.fn 165 [encBok b0] []]) 0]] fun s => ∃ i : Int, s = .int .i64 i ∧ (0 ≤ i ↔ l.any (fun y => !p y) = true) := by
 have hz := encPcls_len l
 refine PF.of (TF.ev fn_245 (Ev.at ?_))
 (repeat' first | refine gx hg1 ?_ | (refine eg ?_; conv => whnf) | refine an ?_ ?_ | (refine iw ?_; intro rx hrx) | exact lf | intro _)
 refine TWq.loop (fun k : Nat => [(8, .int .i64 k)]) (fun _ => []) (fun k => k ≤ l.length ∧ (l.take k).any (fun y => !p y) = false) (fun k => l.length - k) 0 [] [] ?_ ⟨by omega, by simp⟩ ?_
 ·(repeat' first | refine gx hg1 ?_ | (refine eg ?_; conv => whnf) | refine an ?_ ?_ | (refine iw ?_; intro rx hrx) | exact lf | intro _)
  all_goals try exact vy
 ·rintro k ⟨hk, hno⟩
  rcases Nat.lt_or_ge k l.length with hkl | hkl
  ·obtain ⟨v, hv⟩ : ∃ v, l[k]? = some v := ⟨_, List.getElem?_eq_getElem hkl⟩
   have hm := List.mem_of_getElem? hv
   have hg1 : ∀ {n : Nat} {e : SV}, n = k → (encPcls l)[n]? = some e → e = encPcl v := by
    rintro n e rfl he
    obtain ⟨x, hx, rfl⟩ := encPcls_at he
    rw [hv] at hx; cases hx; rfl
   have hno1 := noPcl b0 v _ (hp v hm)
   (repeat' first | refine gx hg1 ?_ | (refine eg ?_; conv => whnf) | refine an ?_ ?_ | (refine iw ?_; intro rx hrx) | exact lf | intro _)
   all_goals try exact vy
   refine TSq.pureBC hno1 (by simp [cloL, clo, encPcl, encEnt, encBok, encPcls_clo, encEnts_clo]) rfl (And.intro rfl rfl) ?_ ?_ <;> intro hb
   ·(repeat' first | refine gx hg1 ?_ | (refine eg ?_; conv => whnf) | refine an ?_ ?_ | (refine iw ?_; intro rx hrx) | exact lf | intro _)
    all_goals try exact vy
    exact ⟨k, rfl, ⟨fun _ => List.any_eq_true.2 ⟨v, hm, hb⟩, fun _ => by omega⟩⟩
   ·(repeat' first | refine gx hg1 ?_ | (refine eg ?_; conv => whnf) | refine an ?_ ?_ | (refine iw ?_; intro rx hrx) | exact lf | intro _)
    all_goals try exact vy
    refine ⟨⟨k + 1, ⟨by omega, by rw [take_snoc hv, List.any_append, hno]; simp_all⟩, by omega, ?_⟩⟩
    (repeat' first | refine gx hg1 ?_ | (refine eg ?_; conv => whnf) | refine an ?_ ?_ | (refine iw ?_; intro rx hrx) | exact lf | intro _)
    all_goals try exact vy
  ·have hke : k = l.length := by omega
   subst hke
   rw [List.take_length] at hno
   (repeat' first | refine gx hg1 ?_ | (refine eg ?_; conv => whnf) | refine an ?_ ?_ | (refine iw ?_; intro rx hrx) | exact lf | intro _)
   all_goals try exact vy
   exact ⟨-1, rfl, by rw [hno]; simp⟩
theorem coPcl (b0 : Bok) (l : List (Pcl)) (p : Pcl → Bool) (hp : ∀ y ∈ l, PF Tryz.prog 165 [encBok b0, encPcl y] (· = .bool (p y))) (hlen : l.length ≤ 1000000) :
  PF Tryz.prog 217 [.sl 4 (encPcls l), .fn 218 [] [.iptr (.agg [.fn 165 [encBok b0] []]) 0]] (· = .bool (l.any fun y => !p y)) := by
 refine PF.of (TF.ev fn_217 (Ev.at ?_))
 (repeat' first | (refine eg ?_; conv => whnf) | refine an ?_ ?_ | (refine iw ?_; intro rx hrx) | exact lf | intro _)
 refine TSq.pureQ rfl (ixPcl b0 l p hp hlen) (by simp [cloL, clo, encPcl, encEnt, encBok, encPcls_clo, encEnts_clo]) rfl (And.intro rfl rfl) ?_
 rintro s ⟨i, rfl, hi⟩ _
 (repeat' first | (refine eg ?_; conv => whnf) | refine an ?_ ?_ | (refine iw ?_; intro rx hrx) | exact lf | intro _)
 all_goals (rw [SV.bool_iff]; rw [← hi]; simp; omega)
theorem alPcl (b0 : Bok) (l : List (Pcl)) (p : Pcl → Bool) (hp : ∀ y ∈ l, PF Tryz.prog 165 [encBok b0, encPcl y] (· = .bool (p y))) (hlen : l.length ≤ 1000000) :
  PF Tryz.prog 168 [.sl 4 (encPcls l), .fn 165 [encBok b0] []] (· = .bool (l.all p)) := by
 refine PF.of (TF.ev fn_168 (Ev.at ?_))
 (repeat' first | (refine eg ?_; conv => whnf) | refine an ?_ ?_ | (refine iw ?_; intro rx hrx) | exact lf | intro _)
 refine TSq.lendBC (coPcl b0 l p hp hlen) rfl (And.intro rfl ?_) ?_ ?_
 ·(repeat' first | (refine eg ?_; conv => whnf) | refine an ?_ ?_ | (refine iw ?_; intro rx hrx) | exact lf | intro _)
  all_goals try exact vy
 all_goals
  intro hb
  (repeat' first | (refine eg ?_; conv => whnf) | refine an ?_ ?_ | (refine iw ?_; intro rx hrx) | exact lf | intro _)
  all_goals try exact vy
  all_goals (rw [SV.bool_iff]; simp_all [List.all_eq_not_any_not])
theorem noEnt (b0 : Bok) (y : Ent) (b : Bool) (h : PF Tryz.prog 166 [encBok b0, encEnt y] (· = .bool b)) : PF Tryz.prog 220 [encEnt y, .iptr (.agg [.fn 166 [encBok b0] []]) 0] (· = .bool !b) := by
 refine PF.of (TF.ev fn_220 (Ev.at ?_))
 (repeat' first | (refine eg ?_; conv => whnf) | refine an ?_ ?_ | (refine iw ?_; intro rx hrx) | exact lf | intro _)
 all_goals try exact vy
 refine TSq.pureBC h (by simp [cloL, clo, encPcl, encEnt, encBok, encPcls_clo, encEnts_clo]) rfl (And.intro rfl rfl) ?_ ?_ <;> intro hb
 all_goals
  subst hb
  (repeat' first | (refine eg ?_; conv => whnf) | refine an ?_ ?_ | (refine iw ?_; intro rx hrx) | exact lf | intro _)
  try rfl
theorem ixEnt (b0 : Bok) (l : List (Ent)) (p : Ent → Bool) (hp : ∀ y ∈ l, PF Tryz.prog 166 [encBok b0, encEnt y] (· = .bool (p y))) (hlen : l.length ≤ 1000000) :
  PF Tryz.prog 246 [.sl 8 (encEnts l), .fn 220 [] [.iptr (.agg [.fn 166 [encBok b0] []]) 0]] fun s => ∃ i : Int, s = .int .i64 i ∧ (0 ≤ i ↔ l.any (fun y => !p y) = true) := by
 have hz := encEnts_len l
 refine PF.of (TF.ev fn_246 (Ev.at ?_))
 (repeat' first | refine gx hg1 ?_ | (refine eg ?_; conv => whnf) | refine an ?_ ?_ | (refine iw ?_; intro rx hrx) | exact lf | intro _)
 refine TWq.loop (fun k : Nat => [(8, .int .i64 k)]) (fun _ => []) (fun k => k ≤ l.length ∧ (l.take k).any (fun y => !p y) = false) (fun k => l.length - k) 0 [] [] ?_ ⟨by omega, by simp⟩ ?_
 ·(repeat' first | refine gx hg1 ?_ | (refine eg ?_; conv => whnf) | refine an ?_ ?_ | (refine iw ?_; intro rx hrx) | exact lf | intro _)
  all_goals try exact vy
 ·rintro k ⟨hk, hno⟩
  rcases Nat.lt_or_ge k l.length with hkl | hkl
  ·obtain ⟨v, hv⟩ : ∃ v, l[k]? = some v := ⟨_, List.getElem?_eq_getElem hkl⟩
   have hm := List.mem_of_getElem? hv
   have hg1 : ∀ {n : Nat} {e : SV}, n = k → (encEnts l)[n]? = some e → e = encEnt v := by
    rintro n e rfl he
    obtain ⟨x, hx, rfl⟩ := encEnts_at he
    rw [hv] at hx; cases hx; rfl
   have hno1 := noEnt b0 v _ (hp v hm)
   (repeat' first | refine gx hg1 ?_ | (refine eg ?_; conv => whnf) | refine an ?_ ?_ | (refine iw ?_; intro rx hrx) | exact lf | intro _)
   all_goals try exact vy
   refine TSq.pureBC hno1 (by simp [cloL, clo, encPcl, encEnt, encBok, encPcls_clo, encEnts_clo]) rfl (And.intro rfl rfl) ?_ ?_ <;> intro hb
   ·(repeat' first | refine gx hg1 ?_ | (refine eg ?_; conv => whnf) | refine an ?_ ?_ | (refine iw ?_; intro rx hrx) | exact lf | intro _)
    all_goals try exact vy
    exact ⟨k, rfl, ⟨fun _ => List.any_eq_true.2 ⟨v, hm, hb⟩, fun _ => by omega⟩⟩
   ·(repeat' first | refine gx hg1 ?_ | (refine eg ?_; conv => whnf) | refine an ?_ ?_ | (refine iw ?_; intro rx hrx) | exact lf | intro _)
    all_goals try exact vy
    refine ⟨⟨k + 1, ⟨by omega, by rw [take_snoc hv, List.any_append, hno]; simp_all⟩, by omega, ?_⟩⟩
    (repeat' first | refine gx hg1 ?_ | (refine eg ?_; conv => whnf) | refine an ?_ ?_ | (refine iw ?_; intro rx hrx) | exact lf | intro _)
    all_goals try exact vy
  ·have hke : k = l.length := by omega
   subst hke
   rw [List.take_length] at hno
   (repeat' first | refine gx hg1 ?_ | (refine eg ?_; conv => whnf) | refine an ?_ ?_ | (refine iw ?_; intro rx hrx) | exact lf | intro _)
   all_goals try exact vy
   exact ⟨-1, rfl, by rw [hno]; simp⟩
theorem coEnt (b0 : Bok) (l : List (Ent)) (p : Ent → Bool) (hp : ∀ y ∈ l, PF Tryz.prog 166 [encBok b0, encEnt y] (· = .bool (p y))) (hlen : l.length ≤ 1000000) :
  PF Tryz.prog 219 [.sl 8 (encEnts l), .fn 220 [] [.iptr (.agg [.fn 166 [encBok b0] []]) 0]] (· = .bool (l.any fun y => !p y)) := by
 refine PF.of (TF.ev fn_219 (Ev.at ?_))
 (repeat' first | (refine eg ?_; conv => whnf) | refine an ?_ ?_ | (refine iw ?_; intro rx hrx) | exact lf | intro _)
 refine TSq.pureQ rfl (ixEnt b0 l p hp hlen) (by simp [cloL, clo, encPcl, encEnt, encBok, encPcls_clo, encEnts_clo]) rfl (And.intro rfl rfl) ?_
 rintro s ⟨i, rfl, hi⟩ _
 (repeat' first | (refine eg ?_; conv => whnf) | refine an ?_ ?_ | (refine iw ?_; intro rx hrx) | exact lf | intro _)
 all_goals (rw [SV.bool_iff]; rw [← hi]; simp; omega)
theorem alEnt (b0 : Bok) (l : List (Ent)) (p : Ent → Bool) (hp : ∀ y ∈ l, PF Tryz.prog 166 [encBok b0, encEnt y] (· = .bool (p y))) (hlen : l.length ≤ 1000000) :
  PF Tryz.prog 169 [.sl 8 (encEnts l), .fn 166 [encBok b0] []] (· = .bool (l.all p)) := by
 refine PF.of (TF.ev fn_169 (Ev.at ?_))
 (repeat' first | (refine eg ?_; conv => whnf) | refine an ?_ ?_ | (refine iw ?_; intro rx hrx) | exact lf | intro _)
 refine TSq.lendBC (coEnt b0 l p hp hlen) rfl (And.intro rfl ?_) ?_ ?_
 ·(repeat' first | (refine eg ?_; conv => whnf) | refine an ?_ ?_ | (refine iw ?_; intro rx hrx) | exact lf | intro _)
  all_goals try exact vy
 all_goals
  intro hb
  (repeat' first | (refine eg ?_; conv => whnf) | refine an ?_ ?_ | (refine iw ?_; intro rx hrx) | exact lf | intro _)
  all_goals try exact vy
  all_goals (rw [SV.bool_iff]; simp_all [List.all_eq_not_any_not])
end Go.Proofs.YtjadiajfbflghaaGreat
open Go Go.TV
namespace Go.Proofs.YtjadiajfbflghaaGreat
theorem TNl.pf {f : FuncId} {args : List SV} {sz : Nat} {es : List SV} (h : PF Tryz.prog f args fun s => s = .sl sz es ∨ (es = [] ∧ s = .nils)) : PF Tryz.prog f args (· = .sl sz es) := by
 refine PF.res h fun v hv _ => ?_
 refine ⟨_, rfl, by simp [clo], ?_⟩
 rcases hv with rfl | ⟨h1, rfl⟩
 ·(repeat' first | (refine eg ?_; conv => whnf) | refine an ?_ ?_ | (refine iw ?_; intro rx hrx) | exact lf | intro _)
  all_goals try exact vy
  rw [Nat.beq_refl]
  exact ⟨⟨rfl⟩, Ev.go trivial⟩
 ·rw [h1]
  (repeat' first | (refine eg ?_; conv => whnf) | refine an ?_ ?_ | (refine iw ?_; intro rx hrx) | exact lf | intro _)
  all_goals try exact vy
def ownR (l : List Rng) : SV := match l with | [] => .nils | _ :: _ => .own 1
def arrR (l : List Rng) : LB := match l with | [] => .dead | _ :: _ => .arr 126 2 (encRs l)
theorem map_take_snoc {α β : Type} {f : α → β} {l : List α} {k : Nat} {x : α} (h : l[k]? = some x) : (l.take (k + 1)).map f = (l.take k).map f ++ [f x] := by
 rw [take_snoc h, List.map_append]; rfl
theorem c170 (b : Bok) (hp : b.pcls.length ≤ 100) (he : b.ents.length ≤ 100) : PF Tryz.prog 170 [encBok b] (· = .sl 2 (encRs b.rngs)) := by
 have hz := encPcls_len b.pcls
 have hw := encEnts_len b.ents
 refine TNl.pf (PF.of (TF.ev fn_170 (Ev.at ?_)))
 (repeat' first | refine gx hg1 ?_ | (refine eg ?_; conv => whnf) | refine an ?_ ?_ | (refine iw ?_; intro rx hrx) | exact lf | intro _)
 all_goals try exact vy
 refine TWq.loopP (fun p : Nat × List Rng => [(10, .int .i64 p.1), (2, ownR p.2)]) (fun p => [(1, arrR p.2)])
  (fun p => p.1 ≤ b.ents.length ∧ p.2 = (b.ents.take p.1).map (·.day)) (fun p => b.ents.length - p.1) (0, []) [] ?_ ⟨by omega, by simp⟩ ?_
 ·(repeat' first | refine gx hg1 ?_ | (refine eg ?_; conv => whnf) | refine an ?_ ?_ | (refine iw ?_; intro rx hrx) | exact lf | intro _)
  all_goals try exact vy
 ·rintro ⟨i, l⟩ ⟨hi, hl⟩
  dsimp only at hi hl ⊢
  have hlen : l.length = i := by rw [hl]; simp; omega
  rcases Nat.lt_or_ge i b.ents.length with hil | hil
  ·obtain ⟨v, hv⟩ : ∃ v, b.ents[i]? = some v := ⟨_, List.getElem?_eq_getElem hil⟩
   have hg1 : ∀ {n : Nat} {x : SV}, n = i → (encEnts b.ents)[n]? = some x → x = encEnt v := by
    rintro n x rfl he
    obtain ⟨y, hy, rfl⟩ := encEnts_at he
    rw [hv] at hy; cases hy; rfl
   rcases l with _ | ⟨r0, l⟩
   all_goals
    simp only [List.length_cons, List.length_nil] at hlen
    (repeat' first | refine gx hg1 ?_ | (refine eg ?_; conv => whnf) | refine an ?_ ?_ | (refine iw ?_; intro rx hrx) | exact lf | intro _)
    all_goals (try (exfalso; omega))
    all_goals try exact vy
    all_goals (try (refine ⟨?_⟩; simp [encRs_len, catS, repl, chunks] <;> omega))
    refine ⟨⟨[(1, 4)], (i + 1, _ ++ [v.day]), ⟨by dsimp only; omega, by dsimp only; rw [map_take_snoc hv, ← hl]⟩, by dsimp only; omega, ?_⟩⟩
    (repeat' first | refine gx hg1 ?_ | (refine eg ?_; conv => whnf) | refine an ?_ ?_ | (refine iw ?_; intro rx hrx) | exact lf | intro _)
    all_goals try exact vy
    all_goals (try (refine ⟨?_⟩; first | exact encRs_clo _ | (simp [encRs, encR, catS, repl, chunks]; done)))
  ·have hie : i = b.ents.length := by omega
   rw [hie, List.take_length] at hl
   subst hie
   rcases l with _ | ⟨r0, l⟩
   all_goals
    (repeat' first | refine gx hg1 ?_ | (refine eg ?_; conv => whnf) | refine an ?_ ?_ | (refine iw ?_; intro rx hrx) | exact lf | intro _)
    all_goals (try (exfalso; omega))
    all_goals try exact vy
    refine TWq.loopP (fun p : Nat × List Rng => [(23, .int .i64 p.1), (2, ownR p.2)]) (fun p => [(1, arrR p.2)])
     (fun p => p.1 ≤ b.pcls.length ∧ p.2 = b.ents.map (·.day) ++ (b.pcls.take p.1).map (·.sown)) (fun p => b.pcls.length - p.1) (0, _) [] ?_ ⟨by omega, by rw [← hl]; simp; rfl⟩ ?_
    ·(repeat' first | refine gx hg1 ?_ | (refine eg ?_; conv => whnf) | refine an ?_ ?_ | (refine iw ?_; intro rx hrx) | exact lf | intro _)
     all_goals try exact vy
     all_goals (try (refine ⟨?_⟩; first | (simp; done) | exact encRs_clo _))
    ·rintro ⟨j, m⟩ ⟨hj, hm⟩
     dsimp only at hj hm ⊢
     have hmlen : m.length = b.ents.length + j := by rw [hm]; simp; omega
     rcases Nat.lt_or_ge j b.pcls.length with hjl | hjl
     ·obtain ⟨v, hv⟩ : ∃ v, b.pcls[j]? = some v := ⟨_, List.getElem?_eq_getElem hjl⟩
      have hg1 : ∀ {n : Nat} {x : SV}, n = j → (encPcls b.pcls)[n]? = some x → x = encPcl v := by
       rintro n x rfl he
       obtain ⟨y, hy, rfl⟩ := encPcls_at he
       rw [hv] at hy; cases hy; rfl
      rcases m with _ | ⟨r1, m⟩
      all_goals
       simp only [List.length_cons, List.length_nil] at hmlen
       (repeat' first | refine gx hg1 ?_ | (refine eg ?_; conv => whnf) | refine an ?_ ?_ | (refine iw ?_; intro rx hrx) | exact lf | intro _)
       all_goals (try (exfalso; omega))
       all_goals try exact vy
       all_goals (try (refine ⟨?_⟩; simp [encRs_len, catS, repl, chunks] <;> omega))
       refine ⟨⟨[(1, 4)], (j + 1, _ ++ [v.sown]), ⟨by dsimp only; omega, by dsimp only; rw [map_take_snoc hv, ← List.append_assoc, ← hm]⟩, by dsimp only; omega, ?_⟩⟩
       (repeat' first | refine gx hg1 ?_ | (refine eg ?_; conv => whnf) | refine an ?_ ?_ | (refine iw ?_; intro rx hrx) | exact lf | intro _)
       all_goals try exact vy
       all_goals (try (refine ⟨?_⟩; first | exact encRs_clo _ | (simp [encRs, encR, catS, repl, chunks]; done)))
     ·have hje : j = b.pcls.length := by omega
      rw [hje, List.take_length] at hm
      have hT : m = b.rngs := hm
      rcases m with _ | ⟨r1, m⟩
      all_goals
       (repeat' first | refine gx hg1 ?_ | (refine eg ?_; conv => whnf) | refine an ?_ ?_ | (refine iw ?_; intro rx hrx) | exact lf | intro _)
       all_goals (try (exfalso; omega))
       all_goals try exact vy
       all_goals (try (refine ⟨?_⟩; exact encRs_clo _))
       first | exact .inr ⟨by rw [← hT]; rfl, rfl⟩ | exact .inl (by rw [← hT])
theorem manyR_snoc {l : List Rng} {k : Nat} {r : Rng} (h : l[k]? = some r) : manyR (l.take (k + 1)) = min (manyR (l.take k) * rsize r) 1001 := by
 rw [take_snoc h]; simp only [manyR, List.foldl_append, List.foldl_cons, List.foldl_nil]
theorem manyR_bd {l : List Rng} (h : ∀ r ∈ l, 1 ≤ rsize r ∧ rsize r ≤ 31) : ∀ k, 1 ≤ manyR (l.take k) ∧ manyR (l.take k) ≤ 1001
 | 0 => by simp [manyR]
 | k + 1 => by
  have ih := manyR_bd h k
  rcases Nat.lt_or_ge k l.length with hk | hk
  ·have hx : l[k]? = some l[k] := List.getElem?_eq_getElem hk
   rw [manyR_snoc hx]
   have hn := h _ (List.mem_of_getElem? hx)
   have := Int.mul_le_mul (a := 1) (b := 1) (c := manyR (l.take k)) (d := rsize l[k]) ih.1 hn.1 (by omega) (by omega)
   omega
  ·rw [List.take_of_length_le (by omega)]
   rw [List.take_of_length_le (by omega)] at ih
   exact ih
theorem OkBok.rlen {b : Bok} (h : OkBok b) : b.rngs.length ≤ 10 := by have := h.plen; have := h.elen; simp [Bok.rngs]; omega
theorem c103 (b : Bok) (h : OkBok b) : PF Tryz.prog 103 [encBok b] (· = .int .i64 (if manyR b.rngs ≤ 1000 then 0 else 3)) := by
 have hz := encPcls_len b.pcls
 have hw := encEnts_len b.ents
 have hpl := h.plen
 have hel := h.elen
 have hla := h.last
 have how := h.owners
 have d1 := c167 b.last 0 30
 rw [show within b.last 0 30 = true by simp only [within, decide_eq_true_eq]; exact h.last] at d1
 have d2 := alPcl b b.pcls (fun _ => true) (fun p hp => c165 b p h (h.pcl p hp)) (by omega)
 rw [show (b.pcls.all fun _ => true) = true from List.all_eq_true.2 fun y hy => rfl] at d2
 have d3 := alEnt b b.ents (fun _ => true) (fun p hp => c166 b p h (h.ent p hp)) (by omega)
 rw [show (b.ents.all fun _ => true) = true from List.all_eq_true.2 fun y hy => rfl] at d3
 have d4 := c170 b (by omega) (by omega)
 have hrl := h.rlen
 have hrs := h.rsize
 have hro := h.rngs_ok
 generalize b.rngs = R at *
 have hrz := encRs_len R
 refine PF.of (TF.ev fn_103 (Ev.at ?_))
 (repeat' first | (intro rx hrx; have hq := hsub1 hrx (by omega); subst hq; clear hrx) | refine gx hg1 ?_ | (refine eg ?_; conv => whnf) | refine an ?_ ?_ | (refine iw ?_; intro rx hrx) | exact lf | intro _)
 all_goals try exact vz
 refine TSq.pureC d1 cl rfl (And.intro rfl rfl) ?_
 (repeat' first | (intro rx hrx; have hq := hsub1 hrx (by omega); subst hq; clear hrx) | refine gx hg1 ?_ | (refine eg ?_; conv => whnf) | refine an ?_ ?_ | (refine iw ?_; intro rx hrx) | exact lf | intro _)
 all_goals try exact vy
 refine TSq.pureC d2 (by simp [cloL, clo, encBok, encPcls_clo, encEnts_clo]) rfl (And.intro rfl rfl) ?_
 (repeat' first | (intro rx hrx; have hq := hsub1 hrx (by omega); subst hq; clear hrx) | refine gx hg1 ?_ | (refine eg ?_; conv => whnf) | refine an ?_ ?_ | (refine iw ?_; intro rx hrx) | exact lf | intro _)
 all_goals try exact vy
 refine TSq.pureC d3 (by simp [cloL, clo, encBok, encPcls_clo, encEnts_clo]) rfl (And.intro rfl rfl) ?_
 (repeat' first | (intro rx hrx; have hq := hsub1 hrx (by omega); subst hq; clear hrx) | refine gx hg1 ?_ | (refine eg ?_; conv => whnf) | refine an ?_ ?_ | (refine iw ?_; intro rx hrx) | exact lf | intro _)
 all_goals try exact vy
 refine TSq.pureC d4 (by simp [cloL, clo, encBok, encPcls_clo, encEnts_clo]) rfl (And.intro rfl rfl) ?_
 (repeat' first | (intro rx hrx; have hq := hsub1 hrx (by omega); subst hq; clear hrx) | refine gx hg1 ?_ | (refine eg ?_; conv => whnf) | refine an ?_ ?_ | (refine iw ?_; intro rx hrx) | exact lf | intro _)
 all_goals try exact vy
 refine TWq.loop (fun k : Nat => [(5, .int .i64 (manyR (R.take k))), (55, .int .i64 k)]) (fun _ => []) (fun k => k ≤ R.length) (fun k => R.length - k) 0 [] [] ?_ (by omega) ?_
 ·(repeat' first | (intro rx hrx; have hq := hsub1 hrx (by omega); subst hq; clear hrx) | refine gx hg1 ?_ | (refine eg ?_; conv => whnf) | refine an ?_ ?_ | (refine iw ?_; intro rx hrx) | exact lf | intro _)
  all_goals try exact vy
 ·intro k hk
  have hb := manyR_bd hrs k
  rcases Nat.lt_or_ge k R.length with hkl | hkl
  ·obtain ⟨v, hv⟩ : ∃ v, R[k]? = some v := ⟨_, List.getElem?_eq_getElem hkl⟩
   have hm := List.mem_of_getElem? hv
   have hg1 : ∀ {n : Nat} {x : SV}, n = k → (encRs R)[n]? = some x → x = encR v := by
    rintro n x rfl he
    obtain ⟨y, hy, rfl⟩ := encRs_at he
    rw [hv] at hy; cases hy; rfl
   have hs := manyR_snoc hv
   have hr := hrs v hm
   have hdl := h.day_lo (hro v hm)
   have hmul : 0 ≤ manyR (R.take k) * rsize v ∧ manyR (R.take k) * rsize v ≤ 40000 := by
    have h1 := Int.mul_nonneg (show 0 ≤ manyR (R.take k) by omega) (show 0 ≤ rsize v by omega)
    have h2 := Int.mul_le_mul (a := manyR (R.take k)) (b := rsize v) (c := 1001) (d := 31) hb.2 hr.2 (by omega) (by omega)
    omega
   (repeat' first | (intro rx hrx; have hq := hsub1 hrx (by omega); subst hq; clear hrx) | refine gx hg1 ?_ | (refine eg ?_; conv => whnf) | refine an ?_ ?_ | (refine iw ?_; intro rx hrx) | exact lf | intro _)
   all_goals try exact vy
   refine TSq.pureC (c172 v hdl) (by simp [cloL, clo, encR]) rfl (And.intro rfl rfl) ?_
   have d5 := c171 [manyR (R.take k) * rsize v, 1001] (by simp) (by simp)
   rw [show minL [manyR (R.take k) * rsize v, 1001] = manyR (R.take (k + 1)) by rw [hs]; simp only [minL, List.foldl_cons, List.foldl_nil]] at d5
   obtain ⟨q, hq⟩ : ∃ q, q = manyR (R.take k) * rsize v := ⟨_, rfl⟩
   rw [← hq] at d5 hmul
   have hsub1 : ∀ {r : Int}, r = IntKind.i64.wrap (manyR (R.take k) * rsize v) → (0 : Int) ≤ 0 → q = r := fun h _ => by rw [h, ← hq, IntWalk.i64_in _ (by omega)]
   clear hq
   (repeat' first | (intro rx hrx; have hq := hsub1 hrx (by omega); subst hq; clear hrx) | refine gx hg1 ?_ | (refine eg ?_; conv => whnf) | refine an ?_ ?_ | (refine iw ?_; intro rx hrx) | exact lf | intro _)
   all_goals try exact vy
   refine TSq.lendC d5 (by simp [scal]) rfl (And.intro rfl ?_) ?_
   ·exact e trivial
   ·(repeat' first | (intro rx hrx; have hq := hsub1 hrx (by omega); subst hq; clear hrx) | refine gx hg1 ?_ | (refine eg ?_; conv => whnf) | refine an ?_ ?_ | (refine iw ?_; intro rx hrx) | exact lf | intro _)
    all_goals try exact vy
    refine ⟨⟨k + 1, by omega, by omega, ?_⟩⟩
    (repeat' first | (intro rx hrx; have hq := hsub1 hrx (by omega); subst hq; clear hrx) | refine gx hg1 ?_ | (refine eg ?_; conv => whnf) | refine an ?_ ?_ | (refine iw ?_; intro rx hrx) | exact lf | intro _)
    all_goals try exact vy
  ·have hke : k = R.length := by omega
   subst hke
   rw [List.take_length] at hb ⊢
   (repeat' first | (intro rx hrx; have hq := hsub1 hrx (by omega); subst hq; clear hrx) | refine gx hg1 ?_ | (refine eg ?_; conv => whnf) | refine an ?_ ?_ | (refine iw ?_; intro rx hrx) | exact lf | intro _)
   all_goals (try (exfalso; omega))
   all_goals try exact vy
   all_goals (first | (rw [if_pos (by omega)]; done) | (rw [if_neg (by omega)]; done))
end Go.Proofs.YtjadiajfbflghaaGreat
open Go Go.TV
namespace Go.Proofs.YtjadiajfbflghaaGreat
structure Fd where
 there : Bool
 gone : Bool
 owner : Int
 value : Int
 sown : Int
abbrev Fds := Nat → Fd
def fd0 : Fd := ⟨false, false, 0, 0, 0⟩
def encFd (x : Fd) : SV := .agg [.bool x.there, .bool x.gone, .int .i64 x.owner, .int .i64 x.value, .int .i64 x.sown]
def fdC (g : Fds) : List SV :=
  .bool (g 0).there :: .bool (g 0).gone :: .int .i64 (g 0).owner :: .int .i64 (g 0).value :: .int .i64 (g 0).sown ::
  .bool (g 1).there :: .bool (g 1).gone :: .int .i64 (g 1).owner :: .int .i64 (g 1).value :: .int .i64 (g 1).sown ::
  .bool (g 2).there :: .bool (g 2).gone :: .int .i64 (g 2).owner :: .int .i64 (g 2).value :: .int .i64 (g 2).sown ::
  .bool (g 3).there :: .bool (g 3).gone :: .int .i64 (g 3).owner :: .int .i64 (g 3).value :: .int .i64 (g 3).sown ::
  .bool (g 4).there :: .bool (g 4).gone :: .int .i64 (g 4).owner :: .int .i64 (g 4).value :: .int .i64 (g 4).sown ::
  .bool (g 5).there :: .bool (g 5).gone :: .int .i64 (g 5).owner :: .int .i64 (g 5).value :: .int .i64 (g 5).sown ::
  .bool (g 6).there :: .bool (g 6).gone :: .int .i64 (g 6).owner :: .int .i64 (g 6).value :: .int .i64 (g 6).sown ::
  .bool (g 7).there :: .bool (g 7).gone :: .int .i64 (g 7).owner :: .int .i64 (g 7).value :: .int .i64 (g 7).sown ::
  .bool (g 8).there :: .bool (g 8).gone :: .int .i64 (g 8).owner :: .int .i64 (g 8).value :: .int .i64 (g 8).sown ::
  .bool (g 9).there :: .bool (g 9).gone :: .int .i64 (g 9).owner :: .int .i64 (g 9).value :: .int .i64 (g 9).sown ::
  []
def wkC (b : Bok) (g : Fds) (m : SV) : List SV := .int .i64 b.last :: .int .i64 b.owners :: .sl 4 (encPcls b.pcls) :: .sl 8 (encEnts b.ents) ::
  .bool (g 0).there :: .bool (g 0).gone :: .int .i64 (g 0).owner :: .int .i64 (g 0).value :: .int .i64 (g 0).sown ::
  .bool (g 1).there :: .bool (g 1).gone :: .int .i64 (g 1).owner :: .int .i64 (g 1).value :: .int .i64 (g 1).sown ::
  .bool (g 2).there :: .bool (g 2).gone :: .int .i64 (g 2).owner :: .int .i64 (g 2).value :: .int .i64 (g 2).sown ::
  .bool (g 3).there :: .bool (g 3).gone :: .int .i64 (g 3).owner :: .int .i64 (g 3).value :: .int .i64 (g 3).sown ::
  .bool (g 4).there :: .bool (g 4).gone :: .int .i64 (g 4).owner :: .int .i64 (g 4).value :: .int .i64 (g 4).sown ::
  .bool (g 5).there :: .bool (g 5).gone :: .int .i64 (g 5).owner :: .int .i64 (g 5).value :: .int .i64 (g 5).sown ::
  .bool (g 6).there :: .bool (g 6).gone :: .int .i64 (g 6).owner :: .int .i64 (g 6).value :: .int .i64 (g 6).sown ::
  .bool (g 7).there :: .bool (g 7).gone :: .int .i64 (g 7).owner :: .int .i64 (g 7).value :: .int .i64 (g 7).sown ::
  .bool (g 8).there :: .bool (g 8).gone :: .int .i64 (g 8).owner :: .int .i64 (g 8).value :: .int .i64 (g 8).sown ::
  .bool (g 9).there :: .bool (g 9).gone :: .int .i64 (g 9).owner :: .int .i64 (g 9).value :: .int .i64 (g 9).sown ::   m :: []
def updF (g : Fds) (p : Nat) (x : Fd) : Fds := fun k => match Nat.beq k p with | true => x | false => g k
theorem updF_self (g : Fds) (p : Nat) (x : Fd) : updF g p x p = x := by unfold updF; rw [Nat.beq_refl]
theorem updF_ne (g : Fds) {p k : Nat} (x : Fd) (h : k ≠ p) : updF g p x k = g k := by
 unfold updF
 have : Nat.beq k p = false := by cases hb : Nat.beq k p with | true => exact absurd (Nat.eq_of_beq_eq_true hb) h | false => rfl
 rw [this]
theorem ten {p : Nat} (h : p < 10) : p = 0 ∨ p = 1 ∨ p = 2 ∨ p = 3 ∨ p = 4 ∨ p = 5 ∨ p = 6 ∨ p = 7 ∨ p = 8 ∨ p = 9 := by omega
theorem spliceK_to {l r : List SV} {n : Nat} {vs : List SV} {k : List SV → Prop} (h : ∀ k', spliceK l n vs k' = k' r) (hk : Ev (k r)) : spliceK l n vs k := by rw [h]; exact hk.at
theorem wk_spl {b : Bok} {g g' : Fds} {m : SV} {n : Nat} {vs : List SV} {k : List SV → Prop} (h : ∀ k', spliceK (wkC b g m) n vs k' = k' (wkC b g' m)) (hk : Ev (k (wkC b g' m))) : Ev (spliceK (wkC b g m) n vs k) := by rw [h]; exact hk
theorem wk_own {b : Bok} {g : Fds} {m : SV} {p : Nat} (hp : p < 10) (o : Int) {n : Nat} {k : List SV → Prop} (hk : Ev (k (wkC b (updF g p { g p with owner := o }) m))) (hn : n = 4 + p * 5 + 2) : Ev (spliceK (wkC b g m) n [.int .i64 o] k) := by
 subst hn; exact wk_spl (fun k' => by rcases ten hp with rfl | rfl | rfl | rfl | rfl | rfl | rfl | rfl | rfl | rfl <;> rfl) hk
theorem wk_val {b : Bok} {g : Fds} {m : SV} {p : Nat} (hp : p < 10) (o : Int) {n : Nat} {k : List SV → Prop} (hk : Ev (k (wkC b (updF g p { g p with value := o }) m))) (hn : n = 4 + p * 5 + 3) : Ev (spliceK (wkC b g m) n [.int .i64 o] k) := by
 subst hn; exact wk_spl (fun k' => by rcases ten hp with rfl | rfl | rfl | rfl | rfl | rfl | rfl | rfl | rfl | rfl <;> rfl) hk
theorem wk_all {b : Bok} {g : Fds} {m : SV} {p : Nat} (hp : p < 10) (x : Fd) {n : Nat} {k : List SV → Prop} (hk : Ev (k (wkC b (updF g p x) m))) (hn : n = 4 + p * 5) : Ev (spliceK (wkC b g m) n [.bool x.there, .bool x.gone, .int .i64 x.owner, .int .i64 x.value, .int .i64 x.sown] k) := by
 subst hn; exact wk_spl (fun k' => by rcases ten hp with rfl | rfl | rfl | rfl | rfl | rfl | rfl | rfl | rfl | rfl <;> rfl) hk
def upF (g : Fds) (p : Nat) : Bool := (g p).there && !(g p).gone
theorem c249 (b : Bok) (g : Fds) (m : SV) (p : Nat) (hp : p < 10) : PF Tryz.prog 249 [.iptr (.agg (wkC b g m)) 0, .int .i64 p] (· = .bool (upF g p)) := by
 have hp10 := ten hp
 refine PF.of (TF.ev fn_249 (Ev.at ?_))
 (repeat' first | (refine eg ?_; conv => whnf) | refine an ?_ ?_ | (refine iw ?_; intro rx hrx) | exact lf | intro _)
 all_goals try exact vy
 refine getK_of (s := .bool (g p).there) (by rcases hp10 with rfl | rfl | rfl | rfl | rfl | rfl | rfl | rfl | rfl | rfl <;> rfl) ?_
 unfold upF
 rcases (g p).there
 ·exact e trivial
 (repeat' first | (refine eg ?_; conv => whnf) | refine an ?_ ?_ | (refine iw ?_; intro rx hrx) | exact lf | intro _)
 all_goals try exact vy
 refine getK_of (s := .bool (g p).gone) (by rcases hp10 with rfl | rfl | rfl | rfl | rfl | rfl | rfl | rfl | rfl | rfl <;> rfl) ?_
 rcases (g p).gone
 ·exact e trivial
 ·exact e trivial
def wkB (b : Bok) (g : Fds) : List LB := [.map [], .cells (wkC b g (.mp 0))]
def OkG (g : Fds) : Prop := ∀ k, 0 ≤ (g k).value ∧ (g k).value ≤ 1000
def sellG (g : Fds) (e : Ent) : Fds := let p := e.parcel.toNat; updF g p { g p with owner := e.to }
def sellB (g : Fds) (e : Ent) : Bool := upF g e.parcel.toNat && (g e.parcel.toNat).owner == e.frm
theorem t223 (b : Bok) (g : Fds) (i : Nat) (d : Int) (x : Ent) (hx : b.ents[i]? = some x) (hp : 0 ≤ x.parcel ∧ x.parcel < 10) :
  TF Tryz.prog 223 [.ptr 1 0, .int .i64 i, .int .i64 d] (wkB b g) (fun r h' => h' = wkB b (sellG g x) ∧ r = .bool (sellB g x)) := by
 obtain ⟨kind, parcel, other, frm, to, part, day⟩ := x
 obtain ⟨p, rfl⟩ : ∃ p : Nat, parcel = (p : Int) := ⟨parcel.toNat, by dsimp only at hp; omega⟩
 have hlt : p < 10 := by dsimp only at hp; omega
 have hp10 := ten hlt
 have d1 := c249 b g (.imap []) p hlt
 have hil := (List.getElem?_eq_some_iff.1 hx).1
 have hw := encEnts_len b.ents
 have hg1 : ∀ {n : Nat} {y : SV}, n = i → (encEnts b.ents)[n]? = some y → y = encEnt ⟨kind, p, other, frm, to, part, day⟩ := by
  rintro n y rfl he
  obtain ⟨z, hz, rfl⟩ := encEnts_at he
  rw [hx] at hz; cases hz; rfl
 rw [show sellG g ⟨kind, p, other, frm, to, part, day⟩ = updF g p { g p with owner := to } by simp only [sellG, Int.toNat_natCast], show sellB g ⟨kind, p, other, frm, to, part, day⟩ = (upF g p && (g p).owner == frm) by simp only [sellB, Int.toNat_natCast]]
 unfold wkB at *
 cases hu : upF g p
 all_goals
  rw [hu] at d1
  refine TF.cutTo (TF.ev fn_223 (Ev.at ?_))
  refine e (And.intro ?_ trivial); intros
  refine TDq.lendC d1 (by simp [scal]) rfl (And.intro rfl ?_)
  (repeat' first | refine gx hg1 ?_ | (refine eg ?_; conv => whnf) | refine an ?_ ?_ | (refine iw ?_; intro rx hrx) | exact lf | intro _)
  all_goals try exact vz
  exact ⟨by simp [cloM]⟩
 ·refine spliceK_to (r := (wkC b (updF g p { g p with owner := to }) (.mp 0)).drop 2) (fun k' => by rcases hp10 with rfl | rfl | rfl | rfl | rfl | rfl | rfl | rfl | rfl | rfl <;> rfl) ?_
  (repeat' first | refine gx hg1 ?_ | (refine eg ?_; conv => whnf) | refine an ?_ ?_ | (refine iw ?_; intro rx hrx) | exact lf | intro _)
  all_goals try exact vz
  all_goals (first | exact ⟨by simp [cloM]⟩ | (show SV.bool _ = SV.bool _; simp_all; done))
 ·refine getK_of (s := .int .i64 (g p).owner) (by rcases hp10 with rfl | rfl | rfl | rfl | rfl | rfl | rfl | rfl | rfl | rfl <;> rfl) ?_
  (repeat' first | refine gx hg1 ?_ | (refine eg ?_; conv => whnf) | refine an ?_ ?_ | (refine iw ?_; intro rx hrx) | exact lf | intro _)
  all_goals try exact vz
  all_goals
   refine spliceK_to (r := (wkC b (updF g p { g p with owner := to }) (.mp 0)).drop 2) (fun k' => by rcases hp10 with rfl | rfl | rfl | rfl | rfl | rfl | rfl | rfl | rfl | rfl <;> rfl) ?_
   (repeat' first | refine gx hg1 ?_ | (refine eg ?_; conv => whnf) | refine an ?_ ?_ | (refine iw ?_; intro rx hrx) | exact lf | intro _)
   all_goals try exact vz
   all_goals (first | exact ⟨by simp [cloM]⟩ | (show SV.bool _ = SV.bool _; simp_all; done))
def harvG (g : Fds) (e : Ent) : Fds := let p := e.parcel.toNat; updF g p { g p with gone := true }
def harvB (g : Fds) (e : Ent) (d : Int) : Bool := upF g e.parcel.toNat && decide ((g e.parcel.toNat).sown ≤ d)
theorem t226 (b : Bok) (g : Fds) (i : Nat) (d : Int) (x : Ent) (hx : b.ents[i]? = some x) (hp : 0 ≤ x.parcel ∧ x.parcel < 10) :
  TF Tryz.prog 226 [.ptr 1 0, .int .i64 i, .int .i64 d] (wkB b g) (fun r h' => h' = wkB b (harvG g x) ∧ r = .bool (harvB g x d)) := by
 obtain ⟨kind, parcel, other, frm, to, part, day⟩ := x
 obtain ⟨p, rfl⟩ : ∃ p : Nat, parcel = (p : Int) := ⟨parcel.toNat, by dsimp only at hp; omega⟩
 have hlt : p < 10 := by dsimp only at hp; omega
 have hp10 := ten hlt
 have d1 := c249 b g (.imap []) p hlt
 have hil := (List.getElem?_eq_some_iff.1 hx).1
 have hw := encEnts_len b.ents
 have hg1 : ∀ {n : Nat} {y : SV}, n = i → (encEnts b.ents)[n]? = some y → y = encEnt ⟨kind, p, other, frm, to, part, day⟩ := by
  rintro n y rfl he
  obtain ⟨z, hz, rfl⟩ := encEnts_at he
  rw [hx] at hz; cases hz; rfl
 rw [show harvG g ⟨kind, p, other, frm, to, part, day⟩ = updF g p { g p with gone := true } by simp only [harvG, Int.toNat_natCast], show harvB g ⟨kind, p, other, frm, to, part, day⟩ d = (upF g p && decide ((g p).sown ≤ d)) by simp only [harvB, Int.toNat_natCast]]
 unfold wkB at *
 cases hu : upF g p
 all_goals
  rw [hu] at d1
  refine TF.cutTo (TF.ev fn_226 (Ev.at ?_))
  refine e (And.intro ?_ trivial); intros
  refine TSq.lendC d1 (by simp [scal]) rfl (And.intro rfl ?_) ?_
  ·(repeat' first | refine gx hg1 ?_ | (refine eg ?_; conv => whnf) | refine an ?_ ?_ | (refine iw ?_; intro rx hrx) | exact lf | intro _)
   all_goals try exact vz
   exact ⟨by simp [cloM]⟩
 ·(repeat' first | refine gx hg1 ?_ | (refine eg ?_; conv => whnf) | refine an ?_ ?_ | (refine iw ?_; intro rx hrx) | exact lf | intro _)
  all_goals try exact vz
  refine spliceK_to (r := (wkC b (updF g p { g p with gone := true }) (.mp 0)).drop 1) (fun k' => by rcases hp10 with rfl | rfl | rfl | rfl | rfl | rfl | rfl | rfl | rfl | rfl <;> rfl) ?_
  (repeat' first | refine gx hg1 ?_ | (refine eg ?_; conv => whnf) | refine an ?_ ?_ | (refine iw ?_; intro rx hrx) | exact lf | intro _)
  all_goals try exact vz
  all_goals (first | exact ⟨by simp [cloM]⟩ | (show SV.bool _ = SV.bool _; simp_all; done) | (show SV.bool _ = SV.bool _; simp_all; omega))
 ·(repeat' first | refine gx hg1 ?_ | (refine eg ?_; conv => whnf) | refine an ?_ ?_ | (refine iw ?_; intro rx hrx) | exact lf | intro _)
  all_goals try exact vz
  refine getK_of (s := .int .i64 (g p).sown) (by rcases hp10 with rfl | rfl | rfl | rfl | rfl | rfl | rfl | rfl | rfl | rfl <;> rfl) ?_
  (repeat' first | refine gx hg1 ?_ | (refine eg ?_; conv => whnf) | refine an ?_ ?_ | (refine iw ?_; intro rx hrx) | exact lf | intro _)
  all_goals try exact vz
  all_goals
   refine spliceK_to (r := (wkC b (updF g p { g p with gone := true }) (.mp 0)).drop 1) (fun k' => by rcases hp10 with rfl | rfl | rfl | rfl | rfl | rfl | rfl | rfl | rfl | rfl <;> rfl) ?_
   (repeat' first | refine gx hg1 ?_ | (refine eg ?_; conv => whnf) | refine an ?_ ?_ | (refine iw ?_; intro rx hrx) | exact lf | intro _)
   all_goals try exact vz
   all_goals (first | exact ⟨by simp [cloM]⟩ | (show SV.bool _ = SV.bool _; simp_all; done) | (show SV.bool _ = SV.bool _; simp_all; omega))
end Go.Proofs.YtjadiajfbflghaaGreat
open Go Go.TV
namespace Go.Proofs.YtjadiajfbflghaaGreat
def swapG (g : Fds) (e : Ent) : Fds := let p := e.parcel.toNat; let o := e.other.toNat; let g1 := updF g p { g p with owner := (g o).owner }; updF g1 o { g1 o with owner := (g p).owner }
def swapB (g : Fds) (e : Ent) : Bool := upF g e.parcel.toNat && (upF g e.other.toNat && (g e.parcel.toNat).owner != (g e.other.toNat).owner)
theorem t225 (b : Bok) (g : Fds) (i : Nat) (d : Int) (x : Ent) (hx : b.ents[i]? = some x) (hp : 0 ≤ x.parcel ∧ x.parcel < 10) (ho : 0 ≤ x.other ∧ x.other < 10) :
  TF Tryz.prog 225 [.ptr 1 0, .int .i64 i, .int .i64 d] (wkB b g) (fun r h' => h' = wkB b (swapG g x) ∧ r = .bool (swapB g x)) := by
 obtain ⟨kind, parcel, other, frm, to, part, day⟩ := x
 obtain ⟨p, rfl⟩ : ∃ p : Nat, parcel = (p : Int) := ⟨parcel.toNat, by dsimp only at hp; omega⟩
 have hlt : p < 10 := by dsimp only at hp; omega
 have hp10 := ten hlt
 have d1 := c249 b g (.imap []) p hlt
 obtain ⟨o, rfl⟩ : ∃ o : Nat, other = (o : Int) := ⟨other.toNat, by dsimp only at ho; omega⟩
 have hlo : o < 10 := by dsimp only at ho; omega
 have ho10 := ten hlo
 have d2 := c249 b g (.imap []) o hlo
 have hil := (List.getElem?_eq_some_iff.1 hx).1
 have hw := encEnts_len b.ents
 have hg1 : ∀ {n : Nat} {y : SV}, n = i → (encEnts b.ents)[n]? = some y → y = encEnt ⟨kind, p, o, frm, to, part, day⟩ := by
  rintro n y rfl he
  obtain ⟨z, hz, rfl⟩ := encEnts_at he
  rw [hx] at hz; cases hz; rfl
 rw [show swapG g ⟨kind, p, o, frm, to, part, day⟩ = updF (updF g p { g p with owner := (g o).owner }) o { (updF g p { g p with owner := (g o).owner }) o with owner := (g p).owner } by simp only [swapG, Int.toNat_natCast], show swapB g ⟨kind, p, o, frm, to, part, day⟩ = (upF g p && (upF g o && (g p).owner != (g o).owner)) by simp only [swapB, Int.toNat_natCast]]
 have hst1 := fun {n : Nat} {k : List SV → Prop} => wk_own (b := b) (g := g) (m := .mp 0) hlt (g o).owner (n := n) (k := k)
 have hst2 := fun {n : Nat} {k : List SV → Prop} => wk_own (b := b) (g := updF g p { g p with owner := (g o).owner }) (m := .mp 0) hlo (g p).owner (n := n) (k := k)
 generalize updF (updF g p { g p with owner := (g o).owner }) o { (updF g p { g p with owner := (g o).owner }) o with owner := (g p).owner } = g2 at hst2 ⊢
 generalize updF g p { g p with owner := (g o).owner } = g1 at hst1 hst2
 unfold wkB at *
 cases hu : upF g p
 ·rw [hu] at d1
  refine TF.cutTo (TF.ev fn_225 (Ev.at ?_))
  refine e (And.intro ?_ trivial); intros
  refine TDq.lendC d1 (by simp [scal]) rfl (And.intro rfl ?_)
  (repeat' first | (refine hst1 ?_ ?_; rotate_left; (first | omega | (dsimp only; omega))) | (refine hst2 ?_ ?_; rotate_left; (first | omega | (dsimp only; omega))) | refine gx hg1 ?_ | (refine eg ?_; conv => whnf) | refine an ?_ ?_ | (refine iw ?_; intro rx hrx) | exact lf | intro _)
  all_goals try exact vz
  all_goals (try exact ⟨by simp [cloM]⟩)
  refine getK_of (s := .int .i64 (g o).owner) (by rcases ho10 with rfl | rfl | rfl | rfl | rfl | rfl | rfl | rfl | rfl | rfl <;> rfl) ?_
  (repeat' first | (refine hst1 ?_ ?_; rotate_left; (first | omega | (dsimp only; omega))) | (refine hst2 ?_ ?_; rotate_left; (first | omega | (dsimp only; omega))) | refine gx hg1 ?_ | (refine eg ?_; conv => whnf) | refine an ?_ ?_ | (refine iw ?_; intro rx hrx) | exact lf | intro _)
  all_goals try exact vz
  refine getK_of (s := .int .i64 (g p).owner) (by rcases hp10 with rfl | rfl | rfl | rfl | rfl | rfl | rfl | rfl | rfl | rfl <;> rfl) ?_
  (repeat' first | (refine hst1 ?_ ?_; rotate_left; (first | omega | (dsimp only; omega))) | (refine hst2 ?_ ?_; rotate_left; (first | omega | (dsimp only; omega))) | refine gx hg1 ?_ | (refine eg ?_; conv => whnf) | refine an ?_ ?_ | (refine iw ?_; intro rx hrx) | exact lf | intro _)
  all_goals try exact vz
  all_goals (first | exact ⟨by simp [cloM]⟩ | (show SV.bool _ = SV.bool _; simp_all; done) | (show SV.bool _ = SV.bool _; simp_all; omega))
 ·rw [hu] at d1
  cases hv : upF g o
  ·rw [hv] at d2
   refine TF.cutTo (TF.ev fn_225 (Ev.at ?_))
   refine e (And.intro ?_ trivial); intros
   refine TDq.lendC d1 (by simp [scal]) rfl (And.intro rfl ?_)
   (repeat' first | (refine hst1 ?_ ?_; rotate_left; (first | omega | (dsimp only; omega))) | (refine hst2 ?_ ?_; rotate_left; (first | omega | (dsimp only; omega))) | refine gx hg1 ?_ | (refine eg ?_; conv => whnf) | refine an ?_ ?_ | (refine iw ?_; intro rx hrx) | exact lf | intro _)
   all_goals try exact vz
   all_goals (try exact ⟨by simp [cloM]⟩)
   refine TDq.lendC d2 (by simp [scal]) rfl (And.intro rfl ?_)
   (repeat' first | (refine hst1 ?_ ?_; rotate_left; (first | omega | (dsimp only; omega))) | (refine hst2 ?_ ?_; rotate_left; (first | omega | (dsimp only; omega))) | refine gx hg1 ?_ | (refine eg ?_; conv => whnf) | refine an ?_ ?_ | (refine iw ?_; intro rx hrx) | exact lf | intro _)
   all_goals try exact vz
   all_goals (try exact ⟨by simp [cloM]⟩)
   refine getK_of (s := .int .i64 (g o).owner) (by rcases ho10 with rfl | rfl | rfl | rfl | rfl | rfl | rfl | rfl | rfl | rfl <;> rfl) ?_
   (repeat' first | (refine hst1 ?_ ?_; rotate_left; (first | omega | (dsimp only; omega))) | (refine hst2 ?_ ?_; rotate_left; (first | omega | (dsimp only; omega))) | refine gx hg1 ?_ | (refine eg ?_; conv => whnf) | refine an ?_ ?_ | (refine iw ?_; intro rx hrx) | exact lf | intro _)
   all_goals try exact vz
   refine getK_of (s := .int .i64 (g p).owner) (by rcases hp10 with rfl | rfl | rfl | rfl | rfl | rfl | rfl | rfl | rfl | rfl <;> rfl) ?_
   (repeat' first | (refine hst1 ?_ ?_; rotate_left; (first | omega | (dsimp only; omega))) | (refine hst2 ?_ ?_; rotate_left; (first | omega | (dsimp only; omega))) | refine gx hg1 ?_ | (refine eg ?_; conv => whnf) | refine an ?_ ?_ | (refine iw ?_; intro rx hrx) | exact lf | intro _)
   all_goals try exact vz
   all_goals (first | exact ⟨by simp [cloM]⟩ | (show SV.bool _ = SV.bool _; simp_all; done) | (show SV.bool _ = SV.bool _; simp_all; omega))
  ·rw [hv] at d2
   refine TF.cutTo (TF.ev fn_225 (Ev.at ?_))
   refine e (And.intro ?_ trivial); intros
   refine TDq.lendC d1 (by simp [scal]) rfl (And.intro rfl ?_)
   (repeat' first | (refine hst1 ?_ ?_; rotate_left; (first | omega | (dsimp only; omega))) | (refine hst2 ?_ ?_; rotate_left; (first | omega | (dsimp only; omega))) | refine gx hg1 ?_ | (refine eg ?_; conv => whnf) | refine an ?_ ?_ | (refine iw ?_; intro rx hrx) | exact lf | intro _)
   all_goals try exact vz
   all_goals (try exact ⟨by simp [cloM]⟩)
   refine TDq.lendC d2 (by simp [scal]) rfl (And.intro rfl ?_)
   (repeat' first | (refine hst1 ?_ ?_; rotate_left; (first | omega | (dsimp only; omega))) | (refine hst2 ?_ ?_; rotate_left; (first | omega | (dsimp only; omega))) | refine gx hg1 ?_ | (refine eg ?_; conv => whnf) | refine an ?_ ?_ | (refine iw ?_; intro rx hrx) | exact lf | intro _)
   all_goals try exact vz
   all_goals (try exact ⟨by simp [cloM]⟩)
   refine getK_of (s := .int .i64 (g p).owner) (by rcases hp10 with rfl | rfl | rfl | rfl | rfl | rfl | rfl | rfl | rfl | rfl <;> rfl) ?_
   (repeat' first | (refine hst1 ?_ ?_; rotate_left; (first | omega | (dsimp only; omega))) | (refine hst2 ?_ ?_; rotate_left; (first | omega | (dsimp only; omega))) | refine gx hg1 ?_ | (refine eg ?_; conv => whnf) | refine an ?_ ?_ | (refine iw ?_; intro rx hrx) | exact lf | intro _)
   all_goals try exact vz
   refine getK_of (s := .int .i64 (g o).owner) (by rcases ho10 with rfl | rfl | rfl | rfl | rfl | rfl | rfl | rfl | rfl | rfl <;> rfl) ?_
   (repeat' first | (refine hst1 ?_ ?_; rotate_left; (first | omega | (dsimp only; omega))) | (refine hst2 ?_ ?_; rotate_left; (first | omega | (dsimp only; omega))) | refine gx hg1 ?_ | (refine eg ?_; conv => whnf) | refine an ?_ ?_ | (refine iw ?_; intro rx hrx) | exact lf | intro _)
   all_goals try exact vz
   all_goals
    (repeat' first | (refine hst1 ?_ ?_; rotate_left; (first | omega | (dsimp only; omega))) | (refine hst2 ?_ ?_; rotate_left; (first | omega | (dsimp only; omega))) | refine gx hg1 ?_ | (refine eg ?_; conv => whnf) | refine an ?_ ?_ | (refine iw ?_; intro rx hrx) | exact lf | intro _)
    all_goals try exact vz
    all_goals (try exact ⟨by simp [cloM]⟩)
    refine getK_of (s := .int .i64 (g o).owner) (by rcases ho10 with rfl | rfl | rfl | rfl | rfl | rfl | rfl | rfl | rfl | rfl <;> rfl) ?_
    (repeat' first | (refine hst1 ?_ ?_; rotate_left; (first | omega | (dsimp only; omega))) | (refine hst2 ?_ ?_; rotate_left; (first | omega | (dsimp only; omega))) | refine gx hg1 ?_ | (refine eg ?_; conv => whnf) | refine an ?_ ?_ | (refine iw ?_; intro rx hrx) | exact lf | intro _)
    all_goals try exact vz
    refine getK_of (s := .int .i64 (g p).owner) (by rcases hp10 with rfl | rfl | rfl | rfl | rfl | rfl | rfl | rfl | rfl | rfl <;> rfl) ?_
    (repeat' first | (refine hst1 ?_ ?_; rotate_left; (first | omega | (dsimp only; omega))) | (refine hst2 ?_ ?_; rotate_left; (first | omega | (dsimp only; omega))) | refine gx hg1 ?_ | (refine eg ?_; conv => whnf) | refine an ?_ ?_ | (refine iw ?_; intro rx hrx) | exact lf | intro _)
    all_goals try exact vz
    all_goals (first | exact ⟨by simp [cloM]⟩ | (show SV.bool _ = SV.bool _; simp_all; done) | (show SV.bool _ = SV.bool _; simp_all; omega))
theorem c250 (b : Bok) (i : Nat) (hp : b.pcls.length ≤ 100) (he : b.ents.length ≤ 100) (hi : i ≤ b.ents.length) : PF Tryz.prog 250 [encBok b, .int .i64 i] (· = .int .i64 (b.made i)) := by
 have hw := encEnts_len b.ents
 have d1 := c113 { b with ents := b.ents.take i } hp (by simp; omega)
 have d2 : PF Tryz.prog 113 [.agg [.int .i64 b.last, .int .i64 b.owners, .sl 4 (encPcls b.pcls), .sl 8 (((encEnts b.ents).drop (0 : Int).toNat).take ((i : Int) - 0).toNat)]] (· = .int .i64 (b.made i)) := by
  rw [show (((encEnts b.ents).drop (0 : Int).toNat).take ((i : Int) - 0).toNat) = encEnts (b.ents.take i) by simp [encEnts, List.map_take]]
  exact d1
 refine PF.of (TF.ev fn_250 (Ev.at ?_))
 refine e (And.intro ?_ trivial); intros
 refine TSq.pureC d2 (by simp [cloL, clo]) rfl (And.intro rfl rfl) ?_
 exact e trivial
def splitG (g : Fds) (e : Ent) (m : Nat) : Fds := let p := e.parcel.toNat; let g1 := updF g p { g p with value := (g p).value - e.part }; updF g1 m ⟨true, false, (g1 p).owner, e.part, (g1 p).sown⟩
def splitB (g : Fds) (e : Ent) : Bool := upF g e.parcel.toNat && decide (e.part < (g e.parcel.toNat).value)
theorem t224 (b : Bok) (g : Fds) (i : Nat) (d : Int) (x : Ent) (hx : b.ents[i]? = some x) (hp : 0 ≤ x.parcel ∧ x.parcel < 10) (hpart : 0 ≤ x.part ∧ x.part ≤ 1000) (hpl : b.pcls.length ≤ 4) (hel : b.ents.length ≤ 6) (hg : OkG g) :
  TF Tryz.prog 224 [.ptr 1 0, .int .i64 i, .int .i64 d] (wkB b g) (fun r h' => h' = wkB b (splitG g x (b.made i)) ∧ r = .bool (splitB g x)) := by
 obtain ⟨kind, parcel, other, frm, to, part, day⟩ := x
 obtain ⟨p, rfl⟩ : ∃ p : Nat, parcel = (p : Int) := ⟨parcel.toNat, by dsimp only at hp; omega⟩
 have hlt : p < 10 := by dsimp only at hp; omega
 have hp10 := ten hlt
 have d1 := c249 b g (.imap []) p hlt
 dsimp only at hpart
 have hil := (List.getElem?_eq_some_iff.1 hx).1
 have d2 := c250 b i (by omega) (by omega) (by omega)
 have hm : b.made i < 10 := by
  have := splits_le (b.ents.take i)
  have : (b.ents.take i).length ≤ i := by simp; omega
  unfold Bok.made; omega
 have hw := encEnts_len b.ents
 have hg1 : ∀ {n : Nat} {y : SV}, n = i → (encEnts b.ents)[n]? = some y → y = encEnt ⟨kind, p, other, frm, to, part, day⟩ := by
  rintro n y rfl he
  obtain ⟨z, hz, rfl⟩ := encEnts_at he
  rw [hx] at hz; cases hz; rfl
 rw [show splitG g ⟨kind, p, other, frm, to, part, day⟩ (b.made i) = updF (updF g p { g p with value := (g p).value - part }) (b.made i) ⟨true, false, (updF g p { g p with value := (g p).value - part } p).owner, part, (updF g p { g p with value := (g p).value - part } p).sown⟩ by simp only [splitG, Int.toNat_natCast], show splitB g ⟨kind, p, other, frm, to, part, day⟩ = (upF g p && decide (part < (g p).value)) by simp only [splitB, Int.toNat_natCast]]
 have hgv := hg p
 have hst1 := fun {n : Nat} {k : List SV → Prop} => wk_val (b := b) (g := g) (m := .mp 0) hlt ((g p).value - part) (n := n) (k := k)
 have hst2 := fun {n : Nat} {k : List SV → Prop} => wk_all (b := b) (g := updF g p { g p with value := (g p).value - part }) (m := .mp 0) hm ⟨true, false, (updF g p { g p with value := (g p).value - part } p).owner, part, (updF g p { g p with value := (g p).value - part } p).sown⟩ (n := n) (k := k)
 generalize b.made i = m at *
 generalize updF (updF g p { g p with value := (g p).value - part }) m ⟨true, false, (updF g p { g p with value := (g p).value - part } p).owner, part, (updF g p { g p with value := (g p).value - part } p).sown⟩ = g2 at hst2 ⊢
 generalize updF g p { g p with value := (g p).value - part } = g1 at hst1 hst2
 have hsub1 : ∀ {r : Int}, r = IntKind.i64.wrap ((g p).value - part) → (0 : Int) ≤ 0 → r = (g p).value - part := fun h _ => by rw [h, IntWalk.i64_in _ (by omega)]
 unfold wkB at *
 cases hu : upF g p
 ·rw [hu] at d1
  refine TF.cutTo (TF.ev fn_224 (Ev.at ?_))
  refine e (And.intro ?_ trivial); intros
  refine TDq.lendC d1 (by simp [scal]) rfl (And.intro rfl ?_)
  (repeat' first | (refine hst1 ?_ ?_; rotate_left; (first | omega | (dsimp only; omega))) | (refine hst2 ?_ ?_; rotate_left; (first | omega | (dsimp only; omega))) | (intro rx hrx; have hq := hsub1 hrx (by omega); subst hq; clear hrx) | refine gx hg1 ?_ | (refine eg ?_; conv => whnf) | refine an ?_ ?_ | (refine iw ?_; intro rx hrx) | exact lf | intro _)
  all_goals try exact vz
  all_goals (try exact ⟨by simp [cloM]⟩)
  refine getK_of (s := .int .i64 (g p).value) (by rcases hp10 with rfl | rfl | rfl | rfl | rfl | rfl | rfl | rfl | rfl | rfl <;> rfl) ?_
  (repeat' first | (refine hst1 ?_ ?_; rotate_left; (first | omega | (dsimp only; omega))) | (refine hst2 ?_ ?_; rotate_left; (first | omega | (dsimp only; omega))) | (intro rx hrx; have hq := hsub1 hrx (by omega); subst hq; clear hrx) | refine gx hg1 ?_ | (refine eg ?_; conv => whnf) | refine an ?_ ?_ | (refine iw ?_; intro rx hrx) | exact lf | intro _)
  all_goals try exact vz
  refine TDq.pureC d2 (by simp [cloL, encBok_clo, clo]) rfl (And.intro rfl rfl) ?_
  (repeat' first | (refine hst1 ?_ ?_; rotate_left; (first | omega | (dsimp only; omega))) | (refine hst2 ?_ ?_; rotate_left; (first | omega | (dsimp only; omega))) | (intro rx hrx; have hq := hsub1 hrx (by omega); subst hq; clear hrx) | refine gx hg1 ?_ | (refine eg ?_; conv => whnf) | refine an ?_ ?_ | (refine iw ?_; intro rx hrx) | exact lf | intro _)
  all_goals try exact vz
  refine getK_of (s := .int .i64 (g1 p).owner) (by rcases hp10 with rfl | rfl | rfl | rfl | rfl | rfl | rfl | rfl | rfl | rfl <;> rfl) ?_
  (repeat' first | (refine hst1 ?_ ?_; rotate_left; (first | omega | (dsimp only; omega))) | (refine hst2 ?_ ?_; rotate_left; (first | omega | (dsimp only; omega))) | (intro rx hrx; have hq := hsub1 hrx (by omega); subst hq; clear hrx) | refine gx hg1 ?_ | (refine eg ?_; conv => whnf) | refine an ?_ ?_ | (refine iw ?_; intro rx hrx) | exact lf | intro _)
  all_goals try exact vz
  refine getK_of (s := .int .i64 (g1 p).sown) (by rcases hp10 with rfl | rfl | rfl | rfl | rfl | rfl | rfl | rfl | rfl | rfl <;> rfl) ?_
  (repeat' first | (refine hst1 ?_ ?_; rotate_left; (first | omega | (dsimp only; omega))) | (refine hst2 ?_ ?_; rotate_left; (first | omega | (dsimp only; omega))) | (intro rx hrx; have hq := hsub1 hrx (by omega); subst hq; clear hrx) | refine gx hg1 ?_ | (refine eg ?_; conv => whnf) | refine an ?_ ?_ | (refine iw ?_; intro rx hrx) | exact lf | intro _)
  all_goals try exact vz
  all_goals (first | exact ⟨by simp [cloM]⟩ | (show SV.bool _ = SV.bool _; simp_all; done) | (show SV.bool _ = SV.bool _; simp_all; omega))
 ·rw [hu] at d1
  refine TF.cutTo (TF.ev fn_224 (Ev.at ?_))
  refine e (And.intro ?_ trivial); intros
  refine TDq.lendC d1 (by simp [scal]) rfl (And.intro rfl ?_)
  (repeat' first | (refine hst1 ?_ ?_; rotate_left; (first | omega | (dsimp only; omega))) | (refine hst2 ?_ ?_; rotate_left; (first | omega | (dsimp only; omega))) | (intro rx hrx; have hq := hsub1 hrx (by omega); subst hq; clear hrx) | refine gx hg1 ?_ | (refine eg ?_; conv => whnf) | refine an ?_ ?_ | (refine iw ?_; intro rx hrx) | exact lf | intro _)
  all_goals try exact vz
  all_goals (try exact ⟨by simp [cloM]⟩)
  refine getK_of (s := .int .i64 (g p).value) (by rcases hp10 with rfl | rfl | rfl | rfl | rfl | rfl | rfl | rfl | rfl | rfl <;> rfl) ?_
  (repeat' first | (refine hst1 ?_ ?_; rotate_left; (first | omega | (dsimp only; omega))) | (refine hst2 ?_ ?_; rotate_left; (first | omega | (dsimp only; omega))) | (intro rx hrx; have hq := hsub1 hrx (by omega); subst hq; clear hrx) | refine gx hg1 ?_ | (refine eg ?_; conv => whnf) | refine an ?_ ?_ | (refine iw ?_; intro rx hrx) | exact lf | intro _)
  all_goals try exact vz
  all_goals
   refine getK_of (s := .int .i64 (g p).value) (by rcases hp10 with rfl | rfl | rfl | rfl | rfl | rfl | rfl | rfl | rfl | rfl <;> rfl) ?_
   (repeat' first | (refine hst1 ?_ ?_; rotate_left; (first | omega | (dsimp only; omega))) | (refine hst2 ?_ ?_; rotate_left; (first | omega | (dsimp only; omega))) | (intro rx hrx; have hq := hsub1 hrx (by omega); subst hq; clear hrx) | refine gx hg1 ?_ | (refine eg ?_; conv => whnf) | refine an ?_ ?_ | (refine iw ?_; intro rx hrx) | exact lf | intro _)
   all_goals try exact vz
   refine TDq.pureC d2 (by simp [cloL, encBok_clo, clo]) rfl (And.intro rfl rfl) ?_
   (repeat' first | (refine hst1 ?_ ?_; rotate_left; (first | omega | (dsimp only; omega))) | (refine hst2 ?_ ?_; rotate_left; (first | omega | (dsimp only; omega))) | (intro rx hrx; have hq := hsub1 hrx (by omega); subst hq; clear hrx) | refine gx hg1 ?_ | (refine eg ?_; conv => whnf) | refine an ?_ ?_ | (refine iw ?_; intro rx hrx) | exact lf | intro _)
   all_goals try exact vz
   refine getK_of (s := .int .i64 (g1 p).owner) (by rcases hp10 with rfl | rfl | rfl | rfl | rfl | rfl | rfl | rfl | rfl | rfl <;> rfl) ?_
   (repeat' first | (refine hst1 ?_ ?_; rotate_left; (first | omega | (dsimp only; omega))) | (refine hst2 ?_ ?_; rotate_left; (first | omega | (dsimp only; omega))) | (intro rx hrx; have hq := hsub1 hrx (by omega); subst hq; clear hrx) | refine gx hg1 ?_ | (refine eg ?_; conv => whnf) | refine an ?_ ?_ | (refine iw ?_; intro rx hrx) | exact lf | intro _)
   all_goals try exact vz
   refine getK_of (s := .int .i64 (g1 p).sown) (by rcases hp10 with rfl | rfl | rfl | rfl | rfl | rfl | rfl | rfl | rfl | rfl <;> rfl) ?_
   (repeat' first | (refine hst1 ?_ ?_; rotate_left; (first | omega | (dsimp only; omega))) | (refine hst2 ?_ ?_; rotate_left; (first | omega | (dsimp only; omega))) | (intro rx hrx; have hq := hsub1 hrx (by omega); subst hq; clear hrx) | refine gx hg1 ?_ | (refine eg ?_; conv => whnf) | refine an ?_ ?_ | (refine iw ?_; intro rx hrx) | exact lf | intro _)
   all_goals try exact vz
   all_goals (first | exact ⟨by simp [cloM]⟩ | (show SV.bool _ = SV.bool _; simp_all; done) | (show SV.bool _ = SV.bool _; simp_all; omega))
end Go.Proofs.YtjadiajfbflghaaGreat
open Go Go.TV
namespace Go.Proofs.YtjadiajfbflghaaGreat
def askU (out : List Int) (k i : Nat) : Bool := decide (i < k) && !out.contains (i : Int)
theorem askU_other {out : List Int} {k i : Nat} (h : i ≠ k) : askU out k i = askU out (k + 1) i := by
 unfold askU
 have : i < k ↔ i < k + 1 := by omega
 simp only [this]
theorem askU_at {out : List Int} {k : Nat} : (!out.contains (k : Int)) = askU out (k + 1) k := by
 unfold askU
 simp
def LN (l : List Int) (o : SV) : Prop := o = .sl 1 (ints l) ∨ (l = [] ∧ o = .nils)
theorem LN.clo {l : List Int} {o : SV} (h : LN l o) : clo o := by
 rcases h with rfl | ⟨_, rfl⟩ <;> simp [TV.clo, ints_clo]
theorem c133n {l : List Int} {o : SV} (h : LN l o) (n : Int) (hlen : l.length ≤ 1000000) : PF Tryz.prog 133 [o, .int .i64 n] (· = .bool (l.contains n)) := by
 rcases h with rfl | ⟨rfl, rfl⟩
 ·exact c133 l n hlen
 ·refine PF.fit (c133 [] n (by simp)) ?_
  (repeat' first | (refine eg ?_; conv => whnf) | refine an ?_ ?_ | (refine iw ?_; intro rx hrx) | exact lf | (intro hcx; exfalso; simp only [lz] at hcx; omega) | intro _)
  all_goals try exact vy
theorem t69 (s : Soc) (out : List Int) (o : SV) (ho : LN out o) (hl : s.members.length ≤ 5) (hol : out.length ≤ 1000000) :
  TF Tryz.prog 69 [encSoc s, o] [.cells (socC s)] (fun r h' => h' = [.cells (socC s), .cells (socC s), .cells (encW s (askF s.members out) .nilm)] ∧ r = .ptr 2 0) := by
 have hz := encYs_len s.members
 obtain ⟨ct, hct⟩ : ∃ ct : Nat → Bool, ∀ k : Nat, out.contains (k : Int) = ct k := ⟨_, fun _ => rfl⟩
 have hd88 : ∀ k : Nat, PF Tryz.prog 133 [o, .int .i64 k] (· = .bool (ct k)) := fun k => by have := c133n ho (k : Int) hol; rw [hct] at this; exact this
 have hask : ∀ k : Nat, (!ct k) = askU out (k + 1) k := fun k => by rw [← hct]; exact askU_at
 clear hct
 obtain ⟨L, hL⟩ : ∃ L, L = out := ⟨_, rfl⟩
 rcases ho with rfl | ⟨rfl, rfl⟩
 all_goals
  refine TF.cutTo (TF.ev fn_69 (Ev.at ?_))
  (repeat' first | (refine eg ?_; conv => whnf) | refine an ?_ ?_ | (refine iw ?_; intro rx hrx) | exact lf | intro _)
  all_goals try exact vy
  refine TWq.loop (fun k : Nat => [(14, .int .i64 k), (6, .junk)]) (fun k => [(2, .cells (encW s (askU L k) .nilm))]) (fun k => k ≤ s.members.length) (fun k => s.members.length - k) 0 [] [] ?_ (by omega) ?_
  ·(repeat' first | (refine eg ?_; conv => whnf) | refine an ?_ ?_ | (refine iw ?_; intro rx hrx) | exact lf | intro _)
   all_goals try exact vy
   all_goals (refine ⟨?_⟩; simp [askU])
  ·subst hL
   intro k hk
   rcases Nat.lt_or_ge k s.members.length with hkl | hkl
   ·have d88 := hd88 k
    obtain ⟨k1, hk1⟩ : ∃ k1, k1 = k + 1 := ⟨_, rfl⟩
    have hcs : k = 0 ∨ k = 1 ∨ k = 2 ∨ k = 3 ∨ k = 4 := by omega
    rcases hcs with rfl | rfl | rfl | rfl | rfl
    all_goals
     have hca := hask (k1 - 1)
     rw [hk1] at hca
     simp only [Nat.add_sub_cancel] at hca
     cases hck : ct (k1 - 1)
     all_goals
      rw [hk1, Nat.add_sub_cancel] at hck
      rw [hck] at d88 hca
      (repeat' first | (refine eg ?_; conv => whnf) | refine an ?_ ?_ | (refine iw ?_; intro rx hrx) | exact lf | intro _)
      all_goals try exact vy
      refine TDq.pureC d88 cl rfl (And.intro rfl rfl) ?_
      (repeat' first | (refine eg ?_; conv => whnf) | refine an ?_ ?_ | (refine iw ?_; intro rx hrx) | exact lf | intro _)
      all_goals try exact vz
      refine ⟨⟨k1, by omega, by omega, ?_⟩⟩
      subst hk1
      (repeat' first | (refine eg ?_; conv => whnf) | refine an ?_ ?_ | (refine iw ?_; intro rx hrx) | exact lf | intro _)
      all_goals try exact vy
      all_goals (first | exact ⟨hca⟩ | exact ⟨askU_other (by decide)⟩ | skip)
   ·have hke : k = s.members.length := by omega
    subst hke
    (repeat' first | (refine eg ?_; conv => whnf) | refine an ?_ ?_ | (refine iw ?_; intro rx hrx) | exact lf | intro _)
    all_goals try exact vy
theorem any5_iff {f : Nat → Bool} : any5 f = false ↔ f 0 = false ∧ f 1 = false ∧ f 2 = false ∧ f 3 = false ∧ f 4 = false := by
 simp [any5]
def capU (ms : List Mem) (f : Nat → Bool) (need : Int) (k i : Nat) : Bool := f i && !(decide (i < k) && capF ms f need i)
def outU (ms : List Mem) (f : Nat → Bool) (need : Int) (o : Nat → Int) (k i : Nat) : Int := if i < k ∧ capF ms f need i = true then mst ms i else o i
def finU (ms : List Mem) (f : Nat → Bool) (need : Int) (o : Nat → Int) (k i : Nat) : Int := if i < k ∧ f i = true then shareF ms f need i else o i
def cntB (f : Nat → Bool) : Nat := (f 0).toNat + (f 1).toNat + (f 2).toNat + (f 3).toNat + (f 4).toNat
end Go.Proofs.YtjadiajfbflghaaGreat
open Go Go.TV
namespace Go.Proofs.YtjadiajfbflghaaGreat
def beginG (b : Bok) (sown : List Int) : Fds := fun k => match b.pcls[k]?, sown[k]? with | some p, some s => ⟨true, false, p.owner, p.value, s⟩ | _, _ => fd0
def actG (b : Bok) (i : Nat) (x : Ent) (g : Fds) : Fds := if x.kind = 0 then sellG g x else if x.kind = 1 then splitG g x (b.made i) else if x.kind = 2 then swapG g x else harvG g x
def actB (x : Ent) (d : Int) (g : Fds) : Bool := if x.kind = 0 then sellB g x else if x.kind = 1 then splitB g x else if x.kind = 2 then swapB g x else harvB g x d
def stepG (b : Bok) (days : List Int) (out : List Int) (d : Nat) (i : Nat) (g : Fds) : Option Fds :=
 match b.ents[i]?, days[i]? with
 | some x, some t => if t = d ∧ out.contains (i : Int) = false then (if actB x d g = true then some (actG b i x g) else none) else some g
 | _, _ => none
def dayG (b : Bok) (days out : List Int) (d : Nat) (g : Fds) : Nat → Option Fds
 | 0 => some g
 | k + 1 => (dayG b days out d g k).bind (stepG b days out d k)
def playG (b : Bok) (days sown out : List Int) : Nat → Option Fds
 | 0 => some (beginG b sown)
 | d + 1 => (playG b days sown out d).bind fun g => dayG b days out d g b.ents.length
def begK (b : Bok) (sown : List Int) (n : Nat) : Fds := fun k => if k < n then beginG b sown k else fd0
theorem begK_step (b : Bok) (sown : List Int) {n : Nat} {p : Pcl} {s : Int} (hp : b.pcls[n]? = some p) (hs : sown[n]? = some s) : updF (begK b sown n) n ⟨true, false, p.owner, p.value, s⟩ = begK b sown (n + 1) := by
 funext k
 by_cases h : k = n
 ·subst h
  rw [updF_self]
  simp only [begK, Nat.lt_succ_self, if_pos, beginG, hp, hs]
 ·rw [updF_ne _ _ h]
  unfold begK
  by_cases h2 : k < n
  ·rw [if_pos h2, if_pos (by omega)]
  ·rw [if_neg h2, if_neg (by omega)]
theorem begK_all (b : Bok) (sown : List Int) (h : b.pcls.length = sown.length) : begK b sown b.pcls.length = beginG b sown := by
 funext k
 unfold begK
 split
 ·rfl
 ·have : b.pcls[k]? = none := List.getElem?_eq_none_iff.2 (by omega)
  simp only [beginG, this]
def begB (b : Bok) (g : Fds) : List LB := [.dead, .map [], .cells (wkC b g (.mp 1))]
theorem t175 (b : Bok) (sown : List Int) (hl : b.pcls.length = sown.length) (hp : b.pcls.length ≤ 4) : TF Tryz.prog 175 [encBok b, .sl 1 (ints sown)] [] (fun r h' => h' = begB b (beginG b sown) ∧ r = .ptr 2 0) := by
 have hz := encPcls_len b.pcls
 have hw := ints_len sown
 have hB := begK_all b sown hl
 refine TF.cutTo (TF.ev fn_175 (Ev.at ?_))
 unfold begB
 refine e (And.intro ?_ trivial); intros
 refine TWq.loop (fun k : Nat => [(16, .int .i64 k)]) (fun k => [(2, .cells (wkC b (begK b sown k) (.mp 1)))]) (fun k => k ≤ b.pcls.length) (fun k => b.pcls.length - k) 0 [] [] ?_ (by omega) ?_
 ·(repeat' first | (refine hst1 ?_ ?_; rotate_left; (first | omega | (dsimp only; omega))) | refine gx hg1 ?_ | refine gx hg2 ?_ | (refine eg ?_; conv => whnf) | refine an ?_ ?_ | (refine iw ?_; intro rx hrx) | exact lf | intro _)
  all_goals try exact vy
  all_goals exact ⟨by simp [cloM]⟩
 ·intro k hk
  rcases Nat.lt_or_ge k b.pcls.length with hkl | hkl
  ·obtain ⟨v, hv⟩ : ∃ v, b.pcls[k]? = some v := ⟨_, List.getElem?_eq_getElem hkl⟩
   obtain ⟨s, hs⟩ : ∃ v, sown[k]? = some v := ⟨_, List.getElem?_eq_getElem (by omega)⟩
   have hg1 : ∀ {n : Nat} {x : SV}, n = k → (encPcls b.pcls)[n]? = some x → x = encPcl v := by
    rintro n x rfl he
    obtain ⟨y, hy, rfl⟩ := encPcls_at he
    rw [hv] at hy; cases hy; rfl
   have hg2 : ∀ {n : Nat} {x : SV}, n = k → (ints sown)[n]? = some x → x = .int .i64 s := by
    rintro n x rfl he
    obtain ⟨y, hy, rfl⟩ := ints_at he
    rw [hs] at hy; cases hy; rfl
   have hst1 := fun {n : Nat} {K : List SV → Prop} => wk_all (b := b) (g := begK b sown k) (m := .mp 1) (p := k) (by omega) ⟨true, false, v.owner, v.value, s⟩ (n := n) (k := K)
   rw [begK_step b sown hv hs] at hst1
   (repeat' first | (refine hst1 ?_ ?_; rotate_left; (first | omega | (dsimp only; omega))) | refine gx hg1 ?_ | refine gx hg2 ?_ | (refine eg ?_; conv => whnf) | refine an ?_ ?_ | (refine iw ?_; intro rx hrx) | exact lf | intro _)
   all_goals try exact vz
   refine ⟨⟨k + 1, by omega, by omega, ?_⟩⟩
   (repeat' first | (refine hst1 ?_ ?_; rotate_left; (first | omega | (dsimp only; omega))) | refine gx hg1 ?_ | refine gx hg2 ?_ | (refine eg ?_; conv => whnf) | refine an ?_ ?_ | (refine iw ?_; intro rx hrx) | exact lf | intro _)
   all_goals try exact vy
   all_goals exact ⟨by simp [cloM]⟩
  ·have hke : k = b.pcls.length := by omega
   subst hke
   rw [hB]
   (repeat' first | (refine hst1 ?_ ?_; rotate_left; (first | omega | (dsimp only; omega))) | refine gx hg1 ?_ | refine gx hg2 ?_ | (refine eg ?_; conv => whnf) | refine an ?_ ?_ | (refine iw ?_; intro rx hrx) | exact lf | intro _)
   all_goals try exact vy
   all_goals (try (exfalso; omega))
   all_goals exact ⟨by simp [cloM]⟩
end Go.Proofs.YtjadiajfbflghaaGreat
