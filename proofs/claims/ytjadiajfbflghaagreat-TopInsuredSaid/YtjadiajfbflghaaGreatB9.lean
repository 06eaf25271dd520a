/- Books played. Cases: the small functions. Cases: all over lists of fields (printed by a program). Cases: the error of a case; lists of counts; the award so far, and the fee. Cases: how a field is settled; the award so far, and the fee. Cases: what a truth comes to. Cases: the iterators over ranges and over the three counts of a field. Lists of days: the iterator that yields one list again and again. Lists of days, and truths: the iterators. -/
import Derived.Test.YtjadiajfbflghaaGreatB8
import Derived.Test.YtjadiajfbflghaaGreatB7
import Derived.Test.YtjadiajfbflghaaGreatB6
set_option maxHeartbeats 32000000
set_option maxRecDepth 100000
set_option linter.unusedSimpArgs false
set_option linter.unusedVariables false
open Go Go.TV
namespace Go.Proofs.YtjadiajfbflghaaGreat
theorem dayG_none {b : Bok} {days out : List Int} {d : Nat} {g : Fds} {k : Nat} (h : dayG b days out d g k = none) : ∀ {j : Nat}, k ≤ j → dayG b days out d g j = none
 | 0, hj => by
   obtain rfl : k = 0 := by omega
   exact h
 | j + 1, hj => by
  rcases Nat.lt_or_ge j k with q | q
  ·obtain rfl : k = j + 1 := by omega
   exact h
  ·rw [dayG, dayG_none h q]; rfl
theorem playG_none {b : Bok} {days sown out : List Int} {k : Nat} (h : playG b days sown out k = none) : ∀ {j : Nat}, k ≤ j → playG b days sown out j = none
 | 0, hj => by
   obtain rfl : k = 0 := by omega
   exact h
 | j + 1, hj => by
  rcases Nat.lt_or_ge j k with q | q
  ·obtain rfl : k = j + 1 := by omega
   exact h
  ·rw [playG, playG_none h q]; rfl
theorem playG_stop {b : Bok} {days sown out : List Int} {d i e : Nat} {g0 g : Fds} (h0 : playG b days sown out d = some g0) (h1 : dayG b days out d g0 i = some g) (h2 : stepG b days out d i g = none) (hi : i < b.ents.length) (hd : d < e) : playG b days sown out e = none := by
 refine playG_none (k := d + 1) ?_ hd
 rw [playG, h0]
 refine dayG_none (k := i + 1) ?_ hi
 rw [dayG, h1]
 exact h2
theorem OkG_begin {b : Bok} (h : OkBok b) (sown : List Int) : OkG (beginG b sown) := by
 intro k
 unfold beginG
 split
 ·rename_i p s hp _
  have := (h.pcl p (List.mem_of_getElem? hp)).value
  exact this
 ·simp [fd0]
theorem OkG_upd {g : Fds} (h : OkG g) (p : Nat) {x : Fd} (hx : 0 ≤ x.value ∧ x.value ≤ 1000) : OkG (updF g p x) := by
 intro k
 by_cases e : k = p
 ·subst e; rw [updF_self]; exact hx
 ·rw [updF_ne _ _ e]; exact h k
theorem OkG_act {b : Bok} {i : Nat} {x : Ent} {d : Int} {g : Fds} (h : OkG g) (hx : OkKind b x) (hB : actB x d g = true) : OkG (actG b i x g) := by
 unfold actG
 unfold actB at hB
 split
 ·exact OkG_upd h _ (h _)
 ·rename_i k0
  rw [if_neg k0] at hB
  split
  ·rename_i k1
   rw [if_pos k1] at hB
   have hp : 1 ≤ x.part ∧ x.part ≤ 1000 := by
    rcases hx with q | q | q | q <;> omega
   simp only [splitB, Bool.and_eq_true, decide_eq_true_eq] at hB
   have := h x.parcel.toNat
   refine OkG_upd (OkG_upd h _ (x := { g x.parcel.toNat with value := (g x.parcel.toNat).value - x.part }) ?_) _ ?_
   ·dsimp only; omega
   ·dsimp only; omega
  ·split
   ·have h1 : OkG (updF g x.parcel.toNat { g x.parcel.toNat with owner := (g x.other.toNat).owner }) := OkG_upd h _ (h x.parcel.toNat)
    exact OkG_upd h1 _ (x := { (updF g x.parcel.toNat { g x.parcel.toNat with owner := (g x.other.toNat).owner }) x.other.toNat with owner := (g x.parcel.toNat).owner }) (h1 x.other.toNat)
   ·exact OkG_upd h _ (h _)
def PlayQ (b : Bok) (days sown out : List Int) (day : Nat) (s : SV) : Prop :=
 ∃ a : Fds, s = .tup [.agg (fdC a), .bool (playG b days sown out (b.last.toNat + 1)).isSome] ∧ ((playG b days sown out (b.last.toNat + 1)).isSome = true → playG b days sown out (day + 1) = some a)
theorem c176 : PF Tryz.prog 176 [] (· = .agg [.fn /-f-/223 [] [], .fn /-f-/224 [] [], .fn /-f-/225 [] [], .fn /-f-/226 [] []]) := by
 refine PF.of (TF.ev fn_176 (Ev.at ?_))
 exact e trivial
theorem c112 (b : Bok) (days sown out : List Int) (day : Nat) (hb : OkBok b) (hds : days.length = b.ents.length) (hsw : sown.length = b.pcls.length) (hol : out.length ≤ 1000) (hday : (day : Int) ≤ b.last) :
  PF Tryz.prog 112 [encBok b, .agg [.sl 1 (ints days), .sl 1 (ints sown)], .int .i64 day, .sl 1 (ints out)] (PlayQ b days sown out day) := by
 have hz := encPcls_len b.pcls
 have hw := encEnts_len b.ents
 have hzd := ints_len days
 have hpl := hb.plen
 have hel := hb.elen
 have hla := hb.last
 have hN := hb.nums_le
 obtain ⟨L, hL⟩ : ∃ L : Nat, b.last = (L : Int) := ⟨b.last.toNat, by omega⟩
 have hLL : b.last.toNat = L := by omega
 have d1 := t175 b sown hsw.symm hpl
 unfold PlayQ
 rw [hLL]
 refine PF.of (TF.ev fn_112 (Ev.at ?_))
 unfold begB at d1
 (repeat' first | refine gx hg1 ?_ | refine gx hg2 ?_ | (refine eg ?_; conv => whnf) | refine an ?_ ?_ | (refine iw ?_; intro rx hrx) | exact lf | intro _)
 all_goals try exact vy
 refine TSq.callD [] [(3, .dead), (4, .map []), (5, .cells (wkC b (beginG b sown) (.mp 4)))] d1 rfl rfl (And.intro rfl rfl) rfl (by decide) (by simp) rfl (by simp) rfl rfl (by simp) rfl (fun a ha => by match a, ha with | 0, _ => exact ⟨rfl, rfl⟩ | 1, _ => exact ⟨rfl, rfl⟩ | 2, _ => exact ⟨rfl, rfl⟩) rfl ?_
 refine e (And.intro ?_ trivial)
 intro rx hrx
 obtain rfl : rx = ((L + 1 : Nat) : Int) := by push_cast; omega
 refine TWq.loop (fun p : Nat × Fds × Fds => [(10, .ptr 5 0), (20, .int .i64 p.1)]) (fun p => [(2, .cells (fdC p.2.2)), (5, .cells (wkC b p.2.1 (.mp 4)))])
  (fun p => p.1 ≤ L + 1 ∧ playG b days sown out p.1 = some p.2.1 ∧ OkG p.2.1 ∧ (day < p.1 → playG b days sown out (day + 1) = some p.2.2)) (fun p => L + 1 - p.1) (0, beginG b sown, fun _ => fd0) [] [] ?_ ⟨by dsimp only; omega, rfl, OkG_begin hb sown, fun h => by dsimp only at h; omega⟩ ?_
 ·(repeat' first | refine gx hg1 ?_ | refine gx hg2 ?_ | (refine eg ?_; conv => whnf) | refine an ?_ ?_ | (refine iw ?_; intro rx hrx) | exact lf | intro _)
  all_goals try exact vy
  all_goals exact ⟨by simp [cloM]⟩
 ·rintro ⟨d, g0, a⟩ ⟨q1, q2, q3, q4⟩
  dsimp only at q1 q2 q3 q4 ⊢
  rcases Nat.lt_or_ge d (L + 1) with hdl | hdl
  ·(repeat' first | refine gx hg1 ?_ | refine gx hg2 ?_ | (refine eg ?_; conv => whnf) | refine an ?_ ?_ | (refine iw ?_; intro rx hrx) | exact lf | intro _)
   all_goals (try (exfalso; omega))
   all_goals try exact vy
   refine TWq.loop (fun p : Nat × Fds => [(10, .ptr 5 0), (11, .int .i64 d), (26, .int .i64 p.1)]) (fun p => [(5, .cells (wkC b p.2 (.mp 4)))])
    (fun p => p.1 ≤ b.ents.length ∧ dayG b days out d g0 p.1 = some p.2 ∧ OkG p.2) (fun p => b.ents.length - p.1) (0, g0) [] [] ?_ ⟨by dsimp only; omega, rfl, q3⟩ ?_
   ·(repeat' first | refine gx hg1 ?_ | refine gx hg2 ?_ | (refine eg ?_; conv => whnf) | refine an ?_ ?_ | (refine iw ?_; intro rx hrx) | exact lf | intro _)
    all_goals try exact vy
    all_goals exact ⟨by simp [cloM]⟩
   ·rintro ⟨i, g⟩ ⟨r1, r2, r3⟩
    dsimp only at r1 r2 r3 ⊢
    rcases Nat.lt_or_ge i b.ents.length with hil | hil
    ·obtain ⟨x, hx⟩ : ∃ v, b.ents[i]? = some v := ⟨_, List.getElem?_eq_getElem hil⟩
     obtain ⟨t, ht⟩ : ∃ v, days[i]? = some v := ⟨_, List.getElem?_eq_getElem (by omega)⟩
     have hok := hb.ent x (List.mem_of_getElem? hx)
     have hgT : ∀ {n : Nat} {y : SV}, n = i → (ints days)[n]? = some y → y = .int .i64 t := by
      rintro n y rfl he
      obtain ⟨z, hz, rfl⟩ := ints_at he
      rw [ht] at hz; cases hz; rfl
     have hg2 := @hgT
     have d2 := c133 out i (by omega)
     have next : ∀ g', stepG b days out d i g = some g' → dayG b days out d g0 (i + 1) = some g' := fun g' h => by rw [dayG, r2]; exact h
     by_cases htd : t = d
     ·subst htd
      cases hc : out.contains (i : Int)
      ·rw [hc] at d2
       have hst : ∀ v, v = actB x d g → stepG b days out d i g = if v = true then some (actG b i x g) else none := fun v hv => by
        simp only [stepG, hx, ht]; rw [if_pos ⟨trivial, hc⟩, hv]
       have hOk : actB x d g = true → OkG (actG b i x g) := OkG_act r3 hok.kind
       have hpc : 0 ≤ x.parcel ∧ x.parcel < 10 := by have := hok.parcel; omega
       rcases hok.kind with hk | hk | hk | hk
       ·obtain ⟨kind, parcel, other, frm, to, part, dy⟩ := x
        dsimp only at hk hpc
        obtain ⟨rfl, hk⟩ := hk
        have hT : TF Tryz.prog 223 [.ptr 1 0, .int .i64 i, .int .i64 d] (wkB b g) (fun r h' => h' = wkB b (actG b i ⟨0, parcel, other, frm, to, part, dy⟩ g) ∧ r = .bool (actB ⟨0, parcel, other, frm, to, part, dy⟩ d g)) := t223 b g i d ⟨0, parcel, other, frm, to, part, dy⟩ hx hpc
        have hg1 : ∀ {n : Nat} {y : SV}, n = i → (encEnts b.ents)[n]? = some y → y = encEnt ⟨0, parcel, other, frm, to, part, dy⟩ := by
         rintro n y rfl he
         obtain ⟨z, hz, rfl⟩ := encEnts_at he
         rw [hx] at hz; cases hz; rfl
        unfold wkB at hT
        generalize actG b i ⟨0, parcel, other, frm, to, part, dy⟩ g = g' at hT hst hOk
        generalize actB ⟨0, parcel, other, frm, to, part, dy⟩ d g = v at hT hst hOk
        have hst := hst v rfl
        cases v
        all_goals
         (repeat' first | refine gx hg1 ?_ | refine gx hg2 ?_ | (refine eg ?_; conv => whnf) | refine an ?_ ?_ | (refine iw ?_; intro rx hrx) | exact lf | intro _)
         all_goals (try (exfalso; omega))
         all_goals try exact vz
         refine TDq.pureC d2 (by simp [cloL, clo]) rfl (And.intro rfl rfl) ?_
         (repeat' first | refine gx hg1 ?_ | refine gx hg2 ?_ | (refine eg ?_; conv => whnf) | refine an ?_ ?_ | (refine iw ?_; intro rx hrx) | exact lf | intro _)
         all_goals try exact vz
         refine TDq.pureC c176 (by simp [cloL, clo]) rfl (And.intro rfl rfl) ?_
         (repeat' first | refine gx hg1 ?_ | refine gx hg2 ?_ | (refine eg ?_; conv => whnf) | refine an ?_ ?_ | (refine iw ?_; intro rx hrx) | exact lf | intro _)
         all_goals try exact vz
         refine TDq.callF [4, 5] [(4, .map []), (5, .cells (wkC b g' (.mp 4)))] hT rfl (And.intro rfl rfl) rfl rfl (by decide) (allLt_iff rfl) (fun _ => rfl) (fun _ => rfl)
          (fun N a ha => by match a, ha with | 0, _ => exact ⟨rfl, rfl⟩ | 1, _ => exact ⟨rfl, rfl⟩) (fun N a ha => by match a, ha with | 0, _ => exact ⟨rfl, rfl⟩ | 1, _ => exact ⟨rfl, rfl⟩) rfl ?_
         (repeat' first | refine gx hg1 ?_ | refine gx hg2 ?_ | (refine eg ?_; conv => whnf) | refine an ?_ ?_ | (refine iw ?_; intro rx hrx) | exact lf | intro _)
         all_goals try exact vz
        ·have hnone := playG_stop q2 r2 hst hil hdl
         all_goals exact ⟨a, by rw [hnone]; rfl, fun h => by rw [hnone] at h; cases h⟩
        ·refine ⟨⟨(i + 1, g'), ⟨by dsimp only; omega, next g' hst, hOk rfl⟩, by dsimp only; omega, ?_⟩⟩
         (repeat' first | refine gx hg1 ?_ | refine gx hg2 ?_ | (refine eg ?_; conv => whnf) | refine an ?_ ?_ | (refine iw ?_; intro rx hrx) | exact lf | intro _)
         all_goals try exact vy
         all_goals exact ⟨by simp [cloM]⟩
       ·obtain ⟨kind, parcel, other, frm, to, part, dy⟩ := x
        dsimp only at hk hpc
        obtain ⟨rfl, hk⟩ := hk
        have hT : TF Tryz.prog 224 [.ptr 1 0, .int .i64 i, .int .i64 d] (wkB b g) (fun r h' => h' = wkB b (actG b i ⟨1, parcel, other, frm, to, part, dy⟩ g) ∧ r = .bool (actB ⟨1, parcel, other, frm, to, part, dy⟩ d g)) := t224 b g i d ⟨1, parcel, other, frm, to, part, dy⟩ hx hpc (by dsimp only at hk ⊢; omega) hpl hel r3
        have hg1 : ∀ {n : Nat} {y : SV}, n = i → (encEnts b.ents)[n]? = some y → y = encEnt ⟨1, parcel, other, frm, to, part, dy⟩ := by
         rintro n y rfl he
         obtain ⟨z, hz, rfl⟩ := encEnts_at he
         rw [hx] at hz; cases hz; rfl
        unfold wkB at hT
        generalize actG b i ⟨1, parcel, other, frm, to, part, dy⟩ g = g' at hT hst hOk
        generalize actB ⟨1, parcel, other, frm, to, part, dy⟩ d g = v at hT hst hOk
        have hst := hst v rfl
        cases v
        all_goals
         (repeat' first | refine gx hg1 ?_ | refine gx hg2 ?_ | (refine eg ?_; conv => whnf) | refine an ?_ ?_ | (refine iw ?_; intro rx hrx) | exact lf | intro _)
         all_goals (try (exfalso; omega))
         all_goals try exact vz
         refine TDq.pureC d2 (by simp [cloL, clo]) rfl (And.intro rfl rfl) ?_
         (repeat' first | refine gx hg1 ?_ | refine gx hg2 ?_ | (refine eg ?_; conv => whnf) | refine an ?_ ?_ | (refine iw ?_; intro rx hrx) | exact lf | intro _)
         all_goals try exact vz
         refine TDq.pureC c176 (by simp [cloL, clo]) rfl (And.intro rfl rfl) ?_
         (repeat' first | refine gx hg1 ?_ | refine gx hg2 ?_ | (refine eg ?_; conv => whnf) | refine an ?_ ?_ | (refine iw ?_; intro rx hrx) | exact lf | intro _)
         all_goals try exact vz
         refine TDq.callF [4, 5] [(4, .map []), (5, .cells (wkC b g' (.mp 4)))] hT rfl (And.intro rfl rfl) rfl rfl (by decide) (allLt_iff rfl) (fun _ => rfl) (fun _ => rfl)
          (fun N a ha => by match a, ha with | 0, _ => exact ⟨rfl, rfl⟩ | 1, _ => exact ⟨rfl, rfl⟩) (fun N a ha => by match a, ha with | 0, _ => exact ⟨rfl, rfl⟩ | 1, _ => exact ⟨rfl, rfl⟩) rfl ?_
         (repeat' first | refine gx hg1 ?_ | refine gx hg2 ?_ | (refine eg ?_; conv => whnf) | refine an ?_ ?_ | (refine iw ?_; intro rx hrx) | exact lf | intro _)
         all_goals try exact vz
        ·have hnone := playG_stop q2 r2 hst hil hdl
         all_goals exact ⟨a, by rw [hnone]; rfl, fun h => by rw [hnone] at h; cases h⟩
        ·refine ⟨⟨(i + 1, g'), ⟨by dsimp only; omega, next g' hst, hOk rfl⟩, by dsimp only; omega, ?_⟩⟩
         (repeat' first | refine gx hg1 ?_ | refine gx hg2 ?_ | (refine eg ?_; conv => whnf) | refine an ?_ ?_ | (refine iw ?_; intro rx hrx) | exact lf | intro _)
         all_goals try exact vy
         all_goals exact ⟨by simp [cloM]⟩
       ·obtain ⟨kind, parcel, other, frm, to, part, dy⟩ := x
        dsimp only at hk hpc
        obtain ⟨rfl, hk⟩ := hk
        have hT : TF Tryz.prog 225 [.ptr 1 0, .int .i64 i, .int .i64 d] (wkB b g) (fun r h' => h' = wkB b (actG b i ⟨2, parcel, other, frm, to, part, dy⟩ g) ∧ r = .bool (actB ⟨2, parcel, other, frm, to, part, dy⟩ d g)) := t225 b g i d ⟨2, parcel, other, frm, to, part, dy⟩ hx hpc (by dsimp only at hk ⊢; omega)
        have hg1 : ∀ {n : Nat} {y : SV}, n = i → (encEnts b.ents)[n]? = some y → y = encEnt ⟨2, parcel, other, frm, to, part, dy⟩ := by
         rintro n y rfl he
         obtain ⟨z, hz, rfl⟩ := encEnts_at he
         rw [hx] at hz; cases hz; rfl
        unfold wkB at hT
        generalize actG b i ⟨2, parcel, other, frm, to, part, dy⟩ g = g' at hT hst hOk
        generalize actB ⟨2, parcel, other, frm, to, part, dy⟩ d g = v at hT hst hOk
        have hst := hst v rfl
        cases v
        all_goals
         (repeat' first | refine gx hg1 ?_ | refine gx hg2 ?_ | (refine eg ?_; conv => whnf) | refine an ?_ ?_ | (refine iw ?_; intro rx hrx) | exact lf | intro _)
         all_goals (try (exfalso; omega))
         all_goals try exact vz
         refine TDq.pureC d2 (by simp [cloL, clo]) rfl (And.intro rfl rfl) ?_
         (repeat' first | refine gx hg1 ?_ | refine gx hg2 ?_ | (refine eg ?_; conv => whnf) | refine an ?_ ?_ | (refine iw ?_; intro rx hrx) | exact lf | intro _)
         all_goals try exact vz
         refine TDq.pureC c176 (by simp [cloL, clo]) rfl (And.intro rfl rfl) ?_
         (repeat' first | refine gx hg1 ?_ | refine gx hg2 ?_ | (refine eg ?_; conv => whnf) | refine an ?_ ?_ | (refine iw ?_; intro rx hrx) | exact lf | intro _)
         all_goals try exact vz
         refine TDq.callF [4, 5] [(4, .map []), (5, .cells (wkC b g' (.mp 4)))] hT rfl (And.intro rfl rfl) rfl rfl (by decide) (allLt_iff rfl) (fun _ => rfl) (fun _ => rfl)
          (fun N a ha => by match a, ha with | 0, _ => exact ⟨rfl, rfl⟩ | 1, _ => exact ⟨rfl, rfl⟩) (fun N a ha => by match a, ha with | 0, _ => exact ⟨rfl, rfl⟩ | 1, _ => exact ⟨rfl, rfl⟩) rfl ?_
         (repeat' first | refine gx hg1 ?_ | refine gx hg2 ?_ | (refine eg ?_; conv => whnf) | refine an ?_ ?_ | (refine iw ?_; intro rx hrx) | exact lf | intro _)
         all_goals try exact vz
        ·have hnone := playG_stop q2 r2 hst hil hdl
         all_goals exact ⟨a, by rw [hnone]; rfl, fun h => by rw [hnone] at h; cases h⟩
        ·refine ⟨⟨(i + 1, g'), ⟨by dsimp only; omega, next g' hst, hOk rfl⟩, by dsimp only; omega, ?_⟩⟩
         (repeat' first | refine gx hg1 ?_ | refine gx hg2 ?_ | (refine eg ?_; conv => whnf) | refine an ?_ ?_ | (refine iw ?_; intro rx hrx) | exact lf | intro _)
         all_goals try exact vy
         all_goals exact ⟨by simp [cloM]⟩
       ·obtain ⟨kind, parcel, other, frm, to, part, dy⟩ := x
        dsimp only at hk hpc
        obtain ⟨rfl, hk⟩ := hk
        have hT : TF Tryz.prog 226 [.ptr 1 0, .int .i64 i, .int .i64 d] (wkB b g) (fun r h' => h' = wkB b (actG b i ⟨3, parcel, other, frm, to, part, dy⟩ g) ∧ r = .bool (actB ⟨3, parcel, other, frm, to, part, dy⟩ d g)) := t226 b g i d ⟨3, parcel, other, frm, to, part, dy⟩ hx hpc
        have hg1 : ∀ {n : Nat} {y : SV}, n = i → (encEnts b.ents)[n]? = some y → y = encEnt ⟨3, parcel, other, frm, to, part, dy⟩ := by
         rintro n y rfl he
         obtain ⟨z, hz, rfl⟩ := encEnts_at he
         rw [hx] at hz; cases hz; rfl
        unfold wkB at hT
        generalize actG b i ⟨3, parcel, other, frm, to, part, dy⟩ g = g' at hT hst hOk
        generalize actB ⟨3, parcel, other, frm, to, part, dy⟩ d g = v at hT hst hOk
        have hst := hst v rfl
        cases v
        all_goals
         (repeat' first | refine gx hg1 ?_ | refine gx hg2 ?_ | (refine eg ?_; conv => whnf) | refine an ?_ ?_ | (refine iw ?_; intro rx hrx) | exact lf | intro _)
         all_goals (try (exfalso; omega))
         all_goals try exact vz
         refine TDq.pureC d2 (by simp [cloL, clo]) rfl (And.intro rfl rfl) ?_
         (repeat' first | refine gx hg1 ?_ | refine gx hg2 ?_ | (refine eg ?_; conv => whnf) | refine an ?_ ?_ | (refine iw ?_; intro rx hrx) | exact lf | intro _)
         all_goals try exact vz
         refine TDq.pureC c176 (by simp [cloL, clo]) rfl (And.intro rfl rfl) ?_
         (repeat' first | refine gx hg1 ?_ | refine gx hg2 ?_ | (refine eg ?_; conv => whnf) | refine an ?_ ?_ | (refine iw ?_; intro rx hrx) | exact lf | intro _)
         all_goals try exact vz
         refine TDq.callF [4, 5] [(4, .map []), (5, .cells (wkC b g' (.mp 4)))] hT rfl (And.intro rfl rfl) rfl rfl (by decide) (allLt_iff rfl) (fun _ => rfl) (fun _ => rfl)
          (fun N a ha => by match a, ha with | 0, _ => exact ⟨rfl, rfl⟩ | 1, _ => exact ⟨rfl, rfl⟩) (fun N a ha => by match a, ha with | 0, _ => exact ⟨rfl, rfl⟩ | 1, _ => exact ⟨rfl, rfl⟩) rfl ?_
         (repeat' first | refine gx hg1 ?_ | refine gx hg2 ?_ | (refine eg ?_; conv => whnf) | refine an ?_ ?_ | (refine iw ?_; intro rx hrx) | exact lf | intro _)
         all_goals try exact vz
        ·have hnone := playG_stop q2 r2 hst hil hdl
         all_goals exact ⟨a, by rw [hnone]; rfl, fun h => by rw [hnone] at h; cases h⟩
        ·refine ⟨⟨(i + 1, g'), ⟨by dsimp only; omega, next g' hst, hOk rfl⟩, by dsimp only; omega, ?_⟩⟩
         (repeat' first | refine gx hg1 ?_ | refine gx hg2 ?_ | (refine eg ?_; conv => whnf) | refine an ?_ ?_ | (refine iw ?_; intro rx hrx) | exact lf | intro _)
         all_goals try exact vy
         all_goals exact ⟨by simp [cloM]⟩
      ·rw [hc] at d2
       have hst := next g (by simp only [stepG, hx, ht]; rw [if_neg (by rw [hc]; simp)])
       (repeat' first | refine gx hg1 ?_ | refine gx hg2 ?_ | (refine eg ?_; conv => whnf) | refine an ?_ ?_ | (refine iw ?_; intro rx hrx) | exact lf | intro _)
       all_goals (try (exfalso; omega))
       all_goals try exact vz
       refine TDq.pureC d2 (by simp [cloL, clo]) rfl (And.intro rfl rfl) ?_
       (repeat' first | refine gx hg1 ?_ | refine gx hg2 ?_ | (refine eg ?_; conv => whnf) | refine an ?_ ?_ | (refine iw ?_; intro rx hrx) | exact lf | intro _)
       all_goals try exact vz
       refine ⟨⟨(i + 1, g), ⟨by dsimp only; omega, hst, r3⟩, by dsimp only; omega, ?_⟩⟩
       (repeat' first | refine gx hg1 ?_ | refine gx hg2 ?_ | (refine eg ?_; conv => whnf) | refine an ?_ ?_ | (refine iw ?_; intro rx hrx) | exact lf | intro _)
       all_goals try exact vy
       all_goals exact ⟨by simp [cloM]⟩
     ·have hst := next g (by simp only [stepG, hx, ht]; rw [if_neg (by omega)])
      (repeat' first | refine gx hg1 ?_ | refine gx hg2 ?_ | (refine eg ?_; conv => whnf) | refine an ?_ ?_ | (refine iw ?_; intro rx hrx) | exact lf | intro _)
      all_goals (try (exfalso; omega))
      all_goals try exact vz
      refine ⟨⟨(i + 1, g), ⟨by dsimp only; omega, hst, r3⟩, by dsimp only; omega, ?_⟩⟩
      (repeat' first | refine gx hg1 ?_ | refine gx hg2 ?_ | (refine eg ?_; conv => whnf) | refine an ?_ ?_ | (refine iw ?_; intro rx hrx) | exact lf | intro _)
      all_goals try exact vy
      all_goals exact ⟨by simp [cloM]⟩
    ·have hie : i = b.ents.length := by omega
     subst hie
     have hnext : playG b days sown out (d + 1) = some g := by rw [playG, q2]; exact r2
     by_cases hdd : d = day
     ·(repeat' first | refine gx hg1 ?_ | refine gx hg2 ?_ | (refine eg ?_; conv => whnf) | refine an ?_ ?_ | (refine iw ?_; intro rx hrx) | exact lf | intro _)
      all_goals (try (exfalso; omega))
      all_goals try exact vy
      refine ⟨⟨(d + 1, g, g), ⟨by dsimp only; omega, hnext, r3, fun _ => by rw [← hdd]; exact hnext⟩, by dsimp only; omega, ?_⟩⟩
      (repeat' first | refine gx hg1 ?_ | refine gx hg2 ?_ | (refine eg ?_; conv => whnf) | refine an ?_ ?_ | (refine iw ?_; intro rx hrx) | exact lf | intro _)
      all_goals try exact vy
      all_goals exact ⟨by simp [cloM]⟩
     ·(repeat' first | refine gx hg1 ?_ | refine gx hg2 ?_ | (refine eg ?_; conv => whnf) | refine an ?_ ?_ | (refine iw ?_; intro rx hrx) | exact lf | intro _)
      all_goals (try (exfalso; omega))
      all_goals try exact vy
      refine ⟨⟨(d + 1, g, a), ⟨by dsimp only; omega, hnext, r3, fun h => q4 (by dsimp only at h; omega)⟩, by dsimp only; omega, ?_⟩⟩
      (repeat' first | refine gx hg1 ?_ | refine gx hg2 ?_ | (refine eg ?_; conv => whnf) | refine an ?_ ?_ | (refine iw ?_; intro rx hrx) | exact lf | intro _)
      all_goals try exact vy
      all_goals exact ⟨by simp [cloM]⟩
  ·have hde : d = L + 1 := by omega
   subst hde
   have q4 := q4 (by omega)
   (repeat' first | refine gx hg1 ?_ | refine gx hg2 ?_ | (refine eg ?_; conv => whnf) | refine an ?_ ?_ | (refine iw ?_; intro rx hrx) | exact lf | intro _)
   all_goals (try (exfalso; omega))
   all_goals try exact vy
   all_goals exact ⟨a, by rw [q2]; rfl, fun _ => q4⟩
end Go.Proofs.YtjadiajfbflghaaGreat
open Go Go.TV
namespace Go.Proofs.YtjadiajfbflghaaGreat
theorem c117 (n lo hi : Int) : PF Tryz.prog 117 [.int .i64 n, .int .i64 lo, .int .i64 hi] (· = .bool (within n lo hi)) := by
 refine PF.of (TF.ev fn_117 (Ev.at ?_))
 (repeat' first | (refine eg ?_; conv => whnf) | refine an ?_ ?_ | (refine iw ?_; intro rx hrx) | exact lf | intro _)
 all_goals (rw [SV.bool_iff]; simp [within]; omega)
theorem c121 (l : List Int) (h : l ≠ []) (hlen : l.length ≤ 1000000) : PF Tryz.prog 121 [.sl 1 (ints l)] (· = .int .i64 (minL l)) := by
 refine PF.of (TF.ev fn_121 (Ev.at ?_))
 (repeat' first | (refine eg ?_; conv => whnf) | refine an ?_ ?_ | (refine iw ?_; intro rx hrx) | exact lf | intro _)
 refine TSq.pureC (c185 l h hlen) cl rfl (And.intro rfl rfl) ?_
 (repeat' first | (refine eg ?_; conv => whnf) | refine an ?_ ?_ | (refine iw ?_; intro rx hrx) | exact lf | intro _)
 try rfl
theorem c123 (n : Int) (h : -1000 ≤ n ∧ n ≤ 1000) : PF Tryz.prog 123 [.int .i64 n] (· = .int .i64 (absI n)) := by
 refine PF.of (TF.ev fn_123 (Ev.at ?_))
 (repeat' first | (refine eg ?_; conv => whnf) | refine an ?_ ?_ | (refine iw ?_; intro rx hrx) | exact lf | intro _)
 all_goals try exact vy
 all_goals (unfold absI; congr 1; split <;> omega)
theorem c180 (r : Rng) (h : r.cntB = true) : PF Tryz.prog 180 [encR r] (· = .bool true) := by
 have h := cnt_of h
 refine PF.of (TF.ev fn_180 (Ev.at ?_))
 (repeat' first | (refine eg ?_; conv => whnf) | refine an ?_ ?_ | (refine iw ?_; intro rx hrx) | exact lf | intro _)
 all_goals (try (exfalso; omega))
 all_goals (try (rw [SV.bool_iff]; simp; omega))
theorem c124 (c : Cas) (f : Fld) (n : Int) : PF Tryz.prog 124 [encCas c, encFld f, .int .i64 n] (· = .tup [encClm ⟨f.crop, f.value, ⟨c.day, c.day⟩, ⟨n, n⟩⟩, .agg [.int .i64 c.day, .int .i64 n]]) := by
 refine PF.of (TF.ev fn_124 (Ev.at ?_))
 (repeat' first | (refine eg ?_; conv => whnf) | refine an ?_ ?_ | (refine iw ?_; intro rx hrx) | exact lf | intro _)
 all_goals try exact vz
 all_goals (try rfl)
theorem c60 (c : Cas) (f : Fld) (n : Int) (a : Tf) (hv : ValidTs c.tfs) (ha : c.tfs[0]? = some a) (hc : 0 ≤ f.crop ∧ f.crop < a.rates.length) (hva : 0 ≤ f.value ∧ f.value ≤ 100000) (hd : 0 ≤ c.day ∧ c.day ≤ 120) (hn : 0 ≤ n ∧ n ≤ 100) :
  PF Tryz.prog 60 [encCas c, encFld f, .int .i64 n] (· = .tup [.int .i64 (payC c f n), .bool true]) := by
 have d1 := c124 c f n
 have d2 := c76 c.tfs a f.crop f.value c.day n hv ha hc hva hd hn
 rw [show payF c.tfs f.crop f.value c.day n = payC c f n from rfl] at d2
 generalize payC c f n = q at *
 refine PF.of (TF.ev fn_60 (Ev.at ?_))
 (repeat' first | (refine eg ?_; conv => whnf) | refine an ?_ ?_ | (refine iw ?_; intro rx hrx) | exact lf | intro _)
 all_goals try exact vy
 refine TSq.pureC d1 (by simp [cloL, encCas_clo, encFld_clo, clo]) rfl (And.intro rfl rfl) ?_
 (repeat' first | (refine eg ?_; conv => whnf) | refine an ?_ ?_ | (refine iw ?_; intro rx hrx) | exact lf | intro _)
 all_goals try exact vy
 refine TSq.pureC d2 (by simp [cloL, encTfs_clo, encClm, clo]) rfl (And.intro rfl rfl) ?_
 (repeat' first | (refine eg ?_; conv => whnf) | refine an ?_ ?_ | (refine iw ?_; intro rx hrx) | exact lf | intro _)
 all_goals try exact vy
 all_goals (try rfl)
theorem c116 (c : Cas) (f : Fld) (a : Tf) (hv : ValidTs c.tfs) (ha : c.tfs[0]? = some a) (hd : 0 ≤ c.day ∧ c.day ≤ 120) (hf : OkF a.rates.length f) : PF Tryz.prog 116 [encCas c, encFld f] (· = .bool true) := by
 have d1 := c60 c f 0 a hv ha hf.crop hf.value hd (by omega)
 have d2 := c117 f.near 0 100
 rw [show within f.near 0 100 = true by simp only [within, decide_eq_true_eq]; exact hf.near] at d2
 have d3 := c180 f.fi hf.fi
 have d4 := c180 f.se hf.se
 have d5 := c180 f.um hf.um
 generalize payC c f 0 = q at *
 refine PF.of (TF.ev fn_116 (Ev.at ?_))
 (repeat' first | (refine eg ?_; conv => whnf) | refine an ?_ ?_ | (refine iw ?_; intro rx hrx) | exact lf | intro _)
 all_goals try exact vy
 refine TSq.pureC d1 (by simp [cloL, encCas_clo, encFld_clo, clo]) rfl (And.intro rfl rfl) ?_
 (repeat' first | (refine eg ?_; conv => whnf) | refine an ?_ ?_ | (refine iw ?_; intro rx hrx) | exact lf | intro _)
 all_goals try exact vy
 refine TSq.pureC d2 cl rfl (And.intro rfl rfl) ?_
 (repeat' first | (refine eg ?_; conv => whnf) | refine an ?_ ?_ | (refine iw ?_; intro rx hrx) | exact lf | intro _)
 refine TSq.pureC d3 cl rfl (And.intro rfl rfl) ?_
 (repeat' first | (refine eg ?_; conv => whnf) | refine an ?_ ?_ | (refine iw ?_; intro rx hrx) | exact lf | intro _)
 refine TSq.pureC d4 cl rfl (And.intro rfl rfl) ?_
 (repeat' first | (refine eg ?_; conv => whnf) | refine an ?_ ?_ | (refine iw ?_; intro rx hrx) | exact lf | intro _)
 refine TSq.pureC d5 cl rfl (And.intro rfl rfl) ?_
 (repeat' first | (refine eg ?_; conv => whnf) | refine an ?_ ?_ | (refine iw ?_; intro rx hrx) | exact lf | intro _)
 try rfl
end Go.Proofs.YtjadiajfbflghaaGreat
open Go Go.TV
namespace Go.Proofs.YtjadiajfbflghaaGreat
theorem noFld (c0 : Cas) (y : Fld) (b : Bool) (h : PF Tryz.prog 116 [encCas c0, encFld y] (· = .bool b)) : PF Tryz.prog 182 [encFld y, .iptr (.agg [.fn 116 [encCas c0] []]) 0] (· = .bool !b) := by
 refine PF.of (TF.ev fn_182 (Ev.at ?_))
 (repeat' first | (refine eg ?_; conv => whnf) | refine an ?_ ?_ | (refine iw ?_; intro rx hrx) | exact lf | intro _)
 all_goals try exact vy
 refine TSq.pureBC h (by simp [cloL, clo, encFld, encCas_clo, encFlds_clo]) rfl (And.intro rfl rfl) ?_ ?_ <;> intro hb
 all_goals
  subst hb
  (repeat' first | (refine eg ?_; conv => whnf) | refine an ?_ ?_ | (refine iw ?_; intro rx hrx) | exact lf | intro _)
  try rfl
theorem ixFld (c0 : Cas) (l : List (Fld)) (p : Fld → Bool) (hp : ∀ y ∈ l, PF Tryz.prog 116 [encCas c0, encFld y] (· = .bool (p y))) (hlen : l.length ≤ 1000000) :
  PF Tryz.prog 232 [.sl 9 (encFlds l), .fn 182 [] [.iptr (.agg [.fn 116 [encCas c0] []]) 0]] fun s => ∃ i : Int, s = .int .i64 i ∧ (0 ≤ i ↔ l.any (fun y => !p y) = true) := by
 have hz := encFlds_len l
 refine PF.of (TF.ev fn_232 (Ev.at ?_))
 (repeat' first | refine gx hg1 ?_ | (refine eg ?_; conv => whnf) | refine an ?_ ?_ | (refine iw ?_; intro rx hrx) | exact lf | intro _)
 refine TWq.loop (fun k : Nat => [(8, .int .i64 k)]) (fun _ => []) (fun k => k ≤ l.length ∧ (l.take k).any (fun y => !p y) = false) (fun k => l.length - k) 0 [] [] ?_ ⟨by omega, by simp⟩ ?_
 ·(repeat' first | refine gx hg1 ?_ | (refine eg ?_; conv => whnf) | refine an ?_ ?_ | (refine iw ?_; intro rx hrx) | exact lf | intro _)
  all_goals try exact vy
 ·rintro k ⟨hk, hno⟩
  rcases Nat.lt_or_ge k l.length with hkl | hkl
  ·obtain ⟨v, hv⟩ : ∃ v, l[k]? = some v := ⟨_, List.getElem?_eq_getElem hkl⟩
   have hm := List.mem_of_getElem? hv
   have hg1 : ∀ {n : Nat} {e : SV}, n = k → (encFlds l)[n]? = some e → e = encFld v := by
    rintro n e rfl he
    obtain ⟨x, hx, rfl⟩ := encFlds_at he
    rw [hv] at hx; cases hx; rfl
   have hno1 := noFld c0 v _ (hp v hm)
   (repeat' first | refine gx hg1 ?_ | (refine eg ?_; conv => whnf) | refine an ?_ ?_ | (refine iw ?_; intro rx hrx) | exact lf | intro _)
   all_goals try exact vy
   refine TSq.pureBC hno1 (by simp [cloL, clo, encFld, encCas_clo, encFlds_clo]) rfl (And.intro rfl rfl) ?_ ?_ <;> intro hb
   ·(repeat' first | refine gx hg1 ?_ | (refine eg ?_; conv => whnf) | refine an ?_ ?_ | (refine iw ?_; intro rx hrx) | exact lf | intro _)
    all_goals try exact vy
    exact ⟨k, rfl, ⟨fun _ => List.any_eq_true.2 ⟨v, hm, hb⟩, fun _ => by omega⟩⟩
   ·(repeat' first | refine gx hg1 ?_ | (refine eg ?_; conv => whnf) | refine an ?_ ?_ | (refine iw ?_; intro rx hrx) | exact lf | intro _)
    all_goals try exact vy
    refine ⟨⟨k + 1, ⟨by omega, by rw [take_snoc hv, List.any_append, hno]; simp_all⟩, by omega, ?_⟩⟩
    (repeat' first | refine gx hg1 ?_ | (refine eg ?_; conv => whnf) | refine an ?_ ?_ | (refine iw ?_; intro rx hrx) | exact lf | intro _)
    all_goals try exact vy
  ·have hke : k = l.length := by omega
   subst hke
   rw [List.take_length] at hno
   (repeat' first | refine gx hg1 ?_ | (refine eg ?_; conv => whnf) | refine an ?_ ?_ | (refine iw ?_; intro rx hrx) | exact lf | intro _)
   all_goals try exact vy
   exact ⟨-1, rfl, by rw [hno]; simp⟩
theorem coFld (c0 : Cas) (l : List (Fld)) (p : Fld → Bool) (hp : ∀ y ∈ l, PF Tryz.prog 116 [encCas c0, encFld y] (· = .bool (p y))) (hlen : l.length ≤ 1000000) :
  PF Tryz.prog 181 [.sl 9 (encFlds l), .fn 182 [] [.iptr (.agg [.fn 116 [encCas c0] []]) 0]] (· = .bool (l.any fun y => !p y)) := by
 refine PF.of (TF.ev fn_181 (Ev.at ?_))
 (repeat' first | (refine eg ?_; conv => whnf) | refine an ?_ ?_ | (refine iw ?_; intro rx hrx) | exact lf | intro _)
 refine TSq.pureQ rfl (ixFld c0 l p hp hlen) (by simp [cloL, clo, encFld, encCas_clo, encFlds_clo]) rfl (And.intro rfl rfl) ?_
 rintro s ⟨i, rfl, hi⟩ _
 (repeat' first | (refine eg ?_; conv => whnf) | refine an ?_ ?_ | (refine iw ?_; intro rx hrx) | exact lf | intro _)
 all_goals (rw [SV.bool_iff]; rw [← hi]; simp; omega)
theorem alFld (c0 : Cas) (l : List (Fld)) (p : Fld → Bool) (hp : ∀ y ∈ l, PF Tryz.prog 116 [encCas c0, encFld y] (· = .bool (p y))) (hlen : l.length ≤ 1000000) :
  PF Tryz.prog 118 [.sl 9 (encFlds l), .fn 116 [encCas c0] []] (· = .bool (l.all p)) := by
 refine PF.of (TF.ev fn_118 (Ev.at ?_))
 (repeat' first | (refine eg ?_; conv => whnf) | refine an ?_ ?_ | (refine iw ?_; intro rx hrx) | exact lf | intro _)
 refine TSq.lendBC (coFld c0 l p hp hlen) rfl (And.intro rfl ?_) ?_ ?_
 ·(repeat' first | (refine eg ?_; conv => whnf) | refine an ?_ ?_ | (refine iw ?_; intro rx hrx) | exact lf | intro _)
  all_goals try exact vy
 all_goals
  intro hb
  (repeat' first | (refine eg ?_; conv => whnf) | refine an ?_ ?_ | (refine iw ?_; intro rx hrx) | exact lf | intro _)
  all_goals try exact vy
  all_goals (rw [SV.bool_iff]; simp_all [List.all_eq_not_any_not])
end Go.Proofs.YtjadiajfbflghaaGreat
open Go Go.TV
namespace Go.Proofs.YtjadiajfbflghaaGreat
theorem first_of {c : Cas} (h : OkC c) : ∃ a, c.tfs[0]? = some a ∧ a.rates.length ≤ 3 := by
 have ha : c.tfs[0]? = some (c.tfs[0]'h.tfs.ne) := List.getElem?_eq_getElem h.tfs.ne
 have hf := h.tfs.few _ (List.mem_of_getElem? ha)
 simp only [Tf.few, Bool.and_eq_true, decide_eq_true_eq] at hf
 exact ⟨_, ha, hf.2.2⟩
theorem c54 (c : Cas) (h : OkC c) : PF Tryz.prog 54 [encCas c] (· = .int .i64 0) := by
 obtain ⟨a, ha, _⟩ := first_of h
 have hz := encFlds_len c.flds
 have hfew := h.few
 have d1 := c115 c.tfs h.tfs
 have d2 := c117 c.day 0 120
 have d3 := c117 c.fee 0 10000
 rw [show within c.day 0 120 = true by simp only [within, decide_eq_true_eq]; exact h.day] at d2
 rw [show within c.fee 0 10000 = true by simp only [within, decide_eq_true_eq]; exact h.fee] at d3
 have d4 := alFld c c.flds (fun _ => true) (fun f hf => c116 c f a h.tfs ha h.day (h.flds a ha f hf)) (by omega)
 rw [show (c.flds.all fun _ => true) = true from List.all_eq_true.2 fun y hy => rfl] at d4
 refine PF.of (TF.ev fn_54 (Ev.at ?_))
 (repeat' first | (refine eg ?_; conv => whnf) | refine an ?_ ?_ | (refine iw ?_; intro rx hrx) | exact lf | intro _)
 all_goals try exact vy
 refine TSq.pureC d1 (by simp [cloL, clo, encTfs_clo]) rfl (And.intro rfl rfl) ?_
 (repeat' first | (refine eg ?_; conv => whnf) | refine an ?_ ?_ | (refine iw ?_; intro rx hrx) | exact lf | intro _)
 all_goals (try (exfalso; omega))
 all_goals try exact vy
 refine TSq.pureC d2 cl rfl (And.intro rfl rfl) ?_
 (repeat' first | (refine eg ?_; conv => whnf) | refine an ?_ ?_ | (refine iw ?_; intro rx hrx) | exact lf | intro _)
 refine TSq.pureC d3 cl rfl (And.intro rfl rfl) ?_
 (repeat' first | (refine eg ?_; conv => whnf) | refine an ?_ ?_ | (refine iw ?_; intro rx hrx) | exact lf | intro _)
 refine TSq.pureC d4 (by simp [cloL, clo, encTfs_clo, encFlds_clo, encCas_clo]) rfl (And.intro rfl rfl) ?_
 (repeat' first | (refine eg ?_; conv => whnf) | refine an ?_ ?_ | (refine iw ?_; intro rx hrx) | exact lf | intro _)
 try rfl
theorem c61 (s : Sm) (x : Int × Int) (h1 : 0 ≤ s.aw ∧ s.aw ≤ 10000000) (h2 : (0 ≤ s.l0 ∧ s.l0 ≤ 1000) ∧ (0 ≤ s.l1 ∧ s.l1 ≤ 1000) ∧ (0 ≤ s.l2 ∧ s.l2 ≤ 1000) ∧ 0 ≤ s.l3 ∧ s.l3 ≤ 1000) (hx1 : 0 ≤ x.1 ∧ x.1 ≤ 10000000) (hx2 : 0 ≤ x.2 ∧ x.2 ≤ 3) :
  PF Tryz.prog 61 [encSm s, .agg [.int .i64 x.1, .int .i64 x.2]] (· = encSm (s.plus x)) := by
 obtain ⟨p, q⟩ := x
 dsimp only at hx1 hx2 ⊢
 have hq : q = 0 ∨ q = 1 ∨ q = 2 ∨ q = 3 := by omega
 rcases hq with rfl | rfl | rfl | rfl
 all_goals
  refine PF.of (TF.ev fn_61 (Ev.at ?_))
  (repeat' first | (refine eg ?_; conv => whnf) | refine an ?_ ?_ | (refine iw ?_; intro rx hrx) | exact lf | intro _)
  all_goals try exact vy
  all_goals (subst_vars; rfl)
end Go.Proofs.YtjadiajfbflghaaGreat
open Go Go.TV
namespace Go.Proofs.YtjadiajfbflghaaGreat
theorem min2 (a b : Int) : minL [a, b] = min a b := by simp only [minL, List.foldl_cons, List.foldl_nil]
theorem c59 (f : Fld) (x : Thr) (ha : 0 ≤ x.a ∧ x.a ≤ 100) (hb : 0 ≤ x.b ∧ x.b ≤ 100) (hu : 0 ≤ x.u ∧ x.u ≤ 100) : PF Tryz.prog 59 [encFld f, encThr x] (· = .tup [.int .i64 (settleF f x).1, .int .i64 (settleF f x).2]) := by
 have d1 := c123 (x.a - x.b) (by omega)
 have d2 := c121 [x.a, x.b] (by simp) (by simp)
 have d3 := c121 [max x.u (min x.a x.b), max x.a x.b] (by simp) (by simp)
 rw [min2] at d2 d3
 have hS : settleF f x = if absI (x.a - x.b) ≤ f.near then ((x.a + x.b) / 2, 0) else
  (if absI (x.a - min (max x.u (min x.a x.b)) (max x.a x.b)) > absI (x.b - min (max x.u (min x.a x.b)) (max x.a x.b)) then (min (max x.u (min x.a x.b)) (max x.a x.b), 2)
   else if absI (x.b - min (max x.u (min x.a x.b)) (max x.a x.b)) > absI (x.a - min (max x.u (min x.a x.b)) (max x.a x.b)) then (min (max x.u (min x.a x.b)) (max x.a x.b), 3) else (min (max x.u (min x.a x.b)) (max x.a x.b), 1)) := rfl
 have hM : 0 ≤ min (max x.u (min x.a x.b)) (max x.a x.b) ∧ min (max x.u (min x.a x.b)) (max x.a x.b) ≤ 100 := by omega
 have d4 := c123 (x.a - min (max x.u (min x.a x.b)) (max x.a x.b)) (by omega)
 have d5 := c123 (x.b - min (max x.u (min x.a x.b)) (max x.a x.b)) (by omega)
 have hL : min x.a x.b = min x.a x.b := rfl
 have hH : max x.a x.b = max x.a x.b := rfl
 have hU : max x.u (min x.a x.b) = max x.u (min x.a x.b) := rfl
 generalize min (max x.u (min x.a x.b)) (max x.a x.b) = m at *
 generalize hlo : min x.a x.b = lo at *
 generalize hhi : max x.a x.b = hi at *
 generalize hml : max x.u lo = ml at *
 generalize settleF f x = w at *
 generalize absI (x.a - x.b) = n1 at *
 generalize absI (x.a - m) = n2 at *
 generalize absI (x.b - m) = n3 at *
 have hsub1 : ∀ {r y : Int}, r = IntKind.i64.wrap (y.tdiv 2) → y = x.a + x.b → r = (x.a + x.b) / 2 := fun h e => by
  rw [h, e, Int.tdiv_eq_ediv_of_nonneg (by omega), IntWalk.i64_in _ (by omega)]
 have hsub2 : ∀ {r : Int}, r = max x.a x.b → (0 : Int) ≤ 0 → hi = r := fun h _ => by rw [h, hhi]
 have hsub3 : ∀ {r : Int}, r = max x.u lo → (0 : Int) ≤ 0 → ml = r := fun h _ => by rw [h, hml]
 refine PF.of (TF.ev fn_59 (Ev.at ?_))
 (repeat' first | (intro rx hrx; have hq := hsub1 hrx (by omega); subst hq; clear hrx) | (intro rx hrx; have hq := hsub2 hrx (by omega); subst hq; clear hrx) | (intro rx hrx; have hq := hsub3 hrx (by omega); subst hq; clear hrx) | (refine eg ?_; conv => whnf) | refine an ?_ ?_ | (refine iw ?_; intro rx hrx) | exact lf | intro _)
 all_goals try exact vz
 obtain rfl : rx = x.a - x.b := by omega
 refine TDq.pureC d1 cl rfl (And.intro rfl rfl) ?_
 (repeat' first | (intro rx hrx; have hq := hsub1 hrx (by omega); subst hq; clear hrx) | (intro rx hrx; have hq := hsub2 hrx (by omega); subst hq; clear hrx) | (intro rx hrx; have hq := hsub3 hrx (by omega); subst hq; clear hrx) | (refine eg ?_; conv => whnf) | refine an ?_ ?_ | (refine iw ?_; intro rx hrx) | exact lf | intro _)
 all_goals try exact vz
 ·rw [if_pos (by omega)] at hS
  rw [hS]
 ·rw [if_neg (by omega)] at hS
  refine TDq.lendC d2 (by simp [scal]) rfl (And.intro rfl ?_)
  (repeat' first | (intro rx hrx; have hq := hsub1 hrx (by omega); subst hq; clear hrx) | (intro rx hrx; have hq := hsub2 hrx (by omega); subst hq; clear hrx) | (intro rx hrx; have hq := hsub3 hrx (by omega); subst hq; clear hrx) | (refine eg ?_; conv => whnf) | refine an ?_ ?_ | (refine iw ?_; intro rx hrx) | exact lf | intro _)
  all_goals try exact vz
  refine TSq.lendC d3 (by simp [scal]) rfl (And.intro rfl ?_) ?_
  ·(repeat' first | (intro rx hrx; have hq := hsub1 hrx (by omega); subst hq; clear hrx) | (intro rx hrx; have hq := hsub2 hrx (by omega); subst hq; clear hrx) | (intro rx hrx; have hq := hsub3 hrx (by omega); subst hq; clear hrx) | (refine eg ?_; conv => whnf) | refine an ?_ ?_ | (refine iw ?_; intro rx hrx) | exact lf | intro _)
   all_goals try exact vy
  ·(repeat' first | (intro rx hrx; have hq := hsub1 hrx (by omega); subst hq; clear hrx) | (intro rx hrx; have hq := hsub2 hrx (by omega); subst hq; clear hrx) | (intro rx hrx; have hq := hsub3 hrx (by omega); subst hq; clear hrx) | (refine eg ?_; conv => whnf) | refine an ?_ ?_ | (refine iw ?_; intro rx hrx) | exact lf | intro _)
   all_goals try exact vz
   obtain rfl : rx = x.a - m := by omega
   refine TDq.pureC d4 cl rfl (And.intro rfl rfl) ?_
   (repeat' first | (intro rx hrx; have hq := hsub1 hrx (by omega); subst hq; clear hrx) | (intro rx hrx; have hq := hsub2 hrx (by omega); subst hq; clear hrx) | (intro rx hrx; have hq := hsub3 hrx (by omega); subst hq; clear hrx) | (refine eg ?_; conv => whnf) | refine an ?_ ?_ | (refine iw ?_; intro rx hrx) | exact lf | intro _)
   all_goals try exact vz
   obtain rfl : rx = x.b - m := by omega
   refine TDq.pureC d5 cl rfl (And.intro rfl rfl) ?_
   (repeat' first | (intro rx hrx; have hq := hsub1 hrx (by omega); subst hq; clear hrx) | (intro rx hrx; have hq := hsub2 hrx (by omega); subst hq; clear hrx) | (intro rx hrx; have hq := hsub3 hrx (by omega); subst hq; clear hrx) | (refine eg ?_; conv => whnf) | refine an ?_ ?_ | (refine iw ?_; intro rx hrx) | exact lf | intro _)
   all_goals try exact vz
   ·rw [if_pos (by omega)] at hS
    rw [hS]
   ·rw [if_neg (by omega), if_pos (by omega)] at hS
    rw [hS]
   ·rw [if_neg (by omega), if_neg (by omega)] at hS
    rw [hS]
end Go.Proofs.YtjadiajfbflghaaGreat
open Go Go.TV
namespace Go.Proofs.YtjadiajfbflghaaGreat
def outF (c : Cas) (f : Fld) (x : Thr) : Int × Int := (payC c f (settleF f x).1, (settleF f x).2)
theorem settle_le {f : Fld} {x : Thr} (ha : 0 ≤ x.a ∧ x.a ≤ 100) (hb : 0 ≤ x.b ∧ x.b ≤ 100) : (0 ≤ (settleF f x).1 ∧ (settleF f x).1 ≤ 100) ∧ 0 ≤ (settleF f x).2 ∧ (settleF f x).2 ≤ 3 := by
 unfold settleF
 split
 ·dsimp only; omega
 ·dsimp only
  split
  ·dsimp only; omega
  ·split <;> (dsimp only; omega)
theorem pay_le {c : Cas} {f : Fld} {n : Int} {a : Tf} (hv : ValidTs c.tfs) (ha : c.tfs[0]? = some a) (hc : 0 ≤ f.crop ∧ f.crop < a.rates.length) (hva : 0 ≤ f.value ∧ f.value ≤ 100000) (hd : 0 ≤ c.day ∧ c.day ≤ 120) (hn : 0 ≤ n ∧ n ≤ 100) : 0 ≤ payC c f n ∧ payC c f n ≤ 100000 := by
 obtain ⟨t, ht⟩ := at_some hv.first hd.1 hv.ne (Nat.le_refl _)
 obtain ⟨i, hi⟩ := at_mem ht
 have hm := List.mem_of_getElem? hi
 have o := okT (hv.few t hm) (hv.valid t hm)
 have hr := hv.crops i a t ha hi
 obtain ⟨p1, p2⟩ := partF_le (day := c.day) o (crop := f.crop) (by omega) hn
 have hP : payC c f n = f.value * partF t f.crop c.day n / 100 := by simp only [payC, payF, ht]
 rw [hP]
 have m1 : 0 ≤ f.value * partF t f.crop c.day n := Int.mul_nonneg hva.1 p1
 have m2 : f.value * partF t f.crop c.day n ≤ 100000 * 100 := Int.mul_le_mul hva.2 p2 p1 (by omega)
 omega
structure OkS (k : Nat) (s : Sm) : Prop where
 aw : 0 ≤ s.aw ∧ s.aw ≤ k * 100000
 l0 : 0 ≤ s.l0 ∧ s.l0 ≤ k
 l1 : 0 ≤ s.l1 ∧ s.l1 ≤ k
 l2 : 0 ≤ s.l2 ∧ s.l2 ≤ k
 l3 : 0 ≤ s.l3 ∧ s.l3 ≤ k
theorem OkS.plus {k : Nat} {s : Sm} (h : OkS k s) {x : Int × Int} (hx : 0 ≤ x.1 ∧ x.1 ≤ 100000) : OkS (k + 1) (s.plus x) := by
 obtain ⟨h1, h2, h3, h4, h5⟩ := h
 refine ⟨?_, ?_, ?_, ?_, ?_⟩ <;> (simp only [Sm.plus]; push_cast) <;> first | omega | (split <;> omega)
theorem okS0 : OkS 0 sm0 := by constructor <;> simp [sm0]
theorem out_ok {c : Cas} (h : OkC c) {f : Fld} (hf : f ∈ c.flds) {x : Thr} (hx : (f.fi.lo ≤ x.a ∧ x.a ≤ f.fi.hi) ∧ (f.se.lo ≤ x.b ∧ x.b ≤ f.se.hi) ∧ f.um.lo ≤ x.u ∧ x.u ≤ f.um.hi) :
  ((0 ≤ x.a ∧ x.a ≤ 100) ∧ (0 ≤ x.b ∧ x.b ≤ 100) ∧ 0 ≤ x.u ∧ x.u ≤ 100) ∧ (0 ≤ (settleF f x).1 ∧ (settleF f x).1 ≤ 100) ∧ (0 ≤ (outF c f x).1 ∧ (outF c f x).1 ≤ 100000) ∧ 0 ≤ (outF c f x).2 ∧ (outF c f x).2 ≤ 3 := by
 obtain ⟨a, ha, _⟩ := first_of h
 have o := h.flds a ha f hf
 have c1 := cnt_of o.fi
 have c2 := cnt_of o.se
 have c3 := cnt_of o.um
 have s1 := settle_le (f := f) (x := x) (by omega) (by omega)
 exact ⟨⟨by omega, by omega, by omega⟩, s1.1, pay_le h.tfs ha o.crop o.value h.day s1.1, s1.2⟩
end Go.Proofs.YtjadiajfbflghaaGreat
open Go Go.TV
namespace Go.Proofs.YtjadiajfbflghaaGreat
theorem c234 (r : Rng) : PF Tryz.prog 234 [encR r] (· = .fn 259 [] [.iptr (encR r) 0]) := by
 refine PF.of (TF.ev fn_234 (Ev.at ?_))
 (repeat' first | (refine eg ?_; conv => whnf) | refine an ?_ ?_ | (refine iw ?_; intro rx hrx) | exact lf | intro _)
theorem it259 (r : Rng) (h : r.cntB = true) : IT Tryz.prog 259 [] [.iptr (encR r) 0] ((every r).map fun n => [.int .i64 n]) := by
 have h := cnt_of h
 refine IT.ev fn_259 cl cl fun Φ Ψ hy => ?_
 have hlen : (every r).length = (r.hi - r.lo + 1).toNat := by simp [every]
 have hget : ∀ k : Nat, k < (r.hi - r.lo + 1).toNat → (every r)[k]? = some (r.lo + k) := fun k hk => by simp [every, List.getElem?_map, List.getElem?_range hk]
 (repeat' first | (refine eg ?_; conv => whnf) | refine an ?_ ?_ | (refine iw ?_; intro rx hrx) | exact lf | intro _)
 subst_vars
 refine TWq.loop (fun k : Nat => [(10, .int .i64 k)]) (fun k => [(0, .tok (Φ k))]) (fun k => k ≤ (r.hi - r.lo + 1).toNat) (fun k => (r.hi - r.lo + 1).toNat - k) 0 [] [] ?_ (by omega) ?_
 ·(repeat' first | (refine eg ?_; conv => whnf) | refine an ?_ ?_ | (refine iw ?_; intro rx hrx) | exact lf | intro _)
  all_goals try exact vy
 ·intro k hk
  (repeat' first | (refine eg ?_; conv => whnf) | refine an ?_ ?_ | (refine iw ?_; intro rx hrx) | exact lf | intro _)
  ·subst hrx
   refine TSq.yield rfl rfl rfl rfl trivial rfl cl (hy k _ (hget k (by omega))) ?_ ?_
   ·(repeat' first | (refine eg ?_; conv => whnf) | refine an ?_ ?_ | (refine iw ?_; intro rx hrx) | exact lf | intro _)
    all_goals try exact vy
    refine ⟨⟨k + 1, by omega, by omega, ?_⟩⟩
    (repeat' first | (refine eg ?_; conv => whnf) | refine an ?_ ?_ | (refine iw ?_; intro rx hrx) | exact lf | intro _)
    all_goals try exact vy
   ·(repeat' first | (refine eg ?_; conv => whnf) | refine an ?_ ?_ | (refine iw ?_; intro rx hrx) | exact lf | intro _)
    exact ⟨.inr rfl⟩
  ·have : k = (every r).length := by omega
   subst this
   exact ⟨.inl rfl⟩
theorem c183 (f : Fld) : PF Tryz.prog 183 [encFld f] (· = .fn 233 [] [.iptr (encFld f) 0]) := by
 refine PF.of (TF.ev fn_183 (Ev.at ?_))
 (repeat' first | (refine eg ?_; conv => whnf) | refine an ?_ ?_ | (refine iw ?_; intro rx hrx) | exact lf | intro _)
def rowU (f : Fld) (a b : Int) : List Thr := (every f.um).map fun u => ⟨a, b, u⟩
def rowB (f : Fld) (a : Int) : List Thr := (every f.se).flatMap (rowU f a)
def truthsL (f : Fld) : List Thr := (every f.fi).flatMap (rowB f)
theorem flat_at {α β : Type} {g : α → List β} {m : Nat} (hm : ∀ x, (g x).length = m) : ∀ {l : List α} {i j : Nat} {x : α} {y : β}, l[i]? = some x → (g x)[j]? = some y → (l.flatMap g)[i * m + j]? = some y
 | [], i, j, x, y, h, _ => by simp at h
 | a :: l, 0, j, x, y, h, hy => by
  simp at h; subst h
  rw [List.flatMap_cons, Nat.zero_mul, Nat.zero_add, List.getElem?_append_left (List.getElem?_eq_some_iff.1 hy).1]
  exact hy
 | a :: l, i + 1, j, x, y, h, hy => by
  have ih := flat_at hm (l := l) (i := i) (j := j) (by simpa using h) hy
  rw [List.flatMap_cons, List.getElem?_append_right (by rw [hm, Nat.succ_mul]; omega), hm, show (i + 1) * m + j - m = i * m + j by rw [Nat.succ_mul]; omega]
  exact ih
theorem flat_len {α β : Type} {g : α → List β} {m : Nat} (hm : ∀ x, (g x).length = m) : ∀ (l : List α), (l.flatMap g).length = l.length * m
 | [] => by simp
 | a :: l => by rw [List.flatMap_cons, List.length_append, hm, flat_len hm l, List.length_cons, Nat.succ_mul]; omega
theorem rowU_len (f : Fld) (a b : Int) : (rowU f a b).length = (every f.um).length := List.length_map _
theorem rowB_len (f : Fld) (a : Int) : (rowB f a).length = (every f.se).length * (every f.um).length := flat_len (rowU_len f a) _
theorem truths_at {f : Fld} {i j k : Nat} {a b u : Int} (ha : (every f.fi)[i]? = some a) (hb : (every f.se)[j]? = some b) (hu : (every f.um)[k]? = some u) :
  (truthsL f)[i * ((every f.se).length * (every f.um).length) + j * (every f.um).length + k]? = some ⟨a, b, u⟩ := by
 rw [Nat.add_assoc]
 refine flat_at (rowB_len f) ha (flat_at (rowU_len f a) hb ?_)
 simp [rowU, hu]
theorem truths_mem {f : Fld} {x : Thr} : x ∈ truthsL f ↔ (f.fi.lo ≤ x.a ∧ x.a ≤ f.fi.hi) ∧ (f.se.lo ≤ x.b ∧ x.b ≤ f.se.hi) ∧ f.um.lo ≤ x.u ∧ x.u ≤ f.um.hi := by
 have he : ∀ (r : Rng) (n : Int), n ∈ every r ↔ r.lo ≤ n ∧ n ≤ r.hi := fun r n => by
  simp only [every, List.mem_map, List.mem_range]
  constructor
  ·rintro ⟨k, h1, rfl⟩; omega
  ·intro h; exact ⟨(n - r.lo).toNat, by omega, by omega⟩
 simp only [truthsL, rowB, rowU, List.mem_flatMap, List.mem_map, he]
 constructor
 ·rintro ⟨a, ha, b, hb, u, hu, rfl⟩; exact ⟨ha, hb, hu⟩
 ·rintro ⟨ha, hb, hu⟩; exact ⟨_, ha, _, hb, _, hu, rfl⟩
theorem it233 (f : Fld) (h1 : f.fi.cntB = true) (h2 : f.se.cntB = true) (h3 : f.um.cntB = true) : IT Tryz.prog 233 [] [.iptr (encFld f) 0] ((truthsL f).map fun x => [encThr x]) := by
 refine IT.ev fn_233 cl (by simp [cloL, clo]) fun Φ Ψ hy => ?_
 have hT := @truths_at f
 have hL : (truthsL f).length = (every f.fi).length * ((every f.se).length * (every f.um).length) := flat_len (rowB_len f) _
 have e1 := it259 f.fi h1
 have e2 := it259 f.se h2
 have e3 := it259 f.um h3
 rw [hL]
 generalize truthsL f = T at *
 (repeat' first | (refine eg ?_; conv => whnf) | refine an ?_ ?_ | (refine iw ?_; intro rx hrx) | exact lf | intro _)
 refine TSq.pureC (c234 f.fi) cl rfl (And.intro rfl rfl) ?_
 (repeat' first | (refine eg ?_; conv => whnf) | refine an ?_ ?_ | (refine iw ?_; intro rx hrx) | exact lf | intro _)
 refine TWq.rng (α := Unit) (β := Unit) true (every f.fi) (fun n => [.int .i64 n]) (fun i _ => [(0, .tok (Φ (i * ((every f.se).length * (every f.um).length))))]) (fun _ _ => True) () (fun _ => .ret) (fun _ => [(0, .tok Ψ)]) (fun _ => True) [] [] [] rfl e1 cl cl (fun _ => rfl) trivial ?_ ?_ ?_ ?_ ?_ ?_
 ·(repeat' first | (refine eg ?_; conv => whnf) | refine an ?_ ?_ | (refine iw ?_; intro rx hrx) | exact lf | intro _)
  all_goals try exact vy
  all_goals (refine ⟨?_⟩; rw [Nat.zero_mul])
 ·(repeat' first | (refine eg ?_; conv => whnf) | refine an ?_ ?_ | (refine iw ?_; intro rx hrx) | exact lf | intro _)
  all_goals try exact vy
 ·intro i _ _
  (repeat' first | (refine eg ?_; conv => whnf) | refine an ?_ ?_ | (refine iw ?_; intro rx hrx) | exact lf | intro _)
 ·intro i a _ ha _
  (repeat' first | (refine eg ?_; conv => whnf) | refine an ?_ ?_ | (refine iw ?_; intro rx hrx) | exact lf | intro _)
  refine TSq.pureC (c234 f.se) cl rfl (And.intro rfl rfl) ?_
  (repeat' first | (refine eg ?_; conv => whnf) | refine an ?_ ?_ | (refine iw ?_; intro rx hrx) | exact lf | intro _)
  refine TWq.rng (α := Unit) (β := Unit) false (every f.se) (fun n => [.int .i64 n]) (fun j _ => [(0, .tok (Φ (i * ((every f.se).length * (every f.um).length) + j * (every f.um).length)))]) (fun _ _ => True) () (fun _ => .ret) (fun _ => [(0, .tok Ψ)]) (fun _ => True) [] [] [] rfl e2 cl cl (fun _ => rfl) trivial ?_ ?_ ?_ ?_ ?_ ?_
  ·(repeat' first | (refine eg ?_; conv => whnf) | refine an ?_ ?_ | (refine iw ?_; intro rx hrx) | exact lf | intro _)
   all_goals try exact vy
   all_goals (refine ⟨?_⟩; rw [Nat.zero_mul]; rfl)
  ·(repeat' first | (refine eg ?_; conv => whnf) | refine an ?_ ?_ | (refine iw ?_; intro rx hrx) | exact lf | intro _)
   all_goals try exact vy
  ·intro j _ _
   (repeat' first | (refine eg ?_; conv => whnf) | refine an ?_ ?_ | (refine iw ?_; intro rx hrx) | exact lf | intro _)
  ·intro j b _ hb _
   (repeat' first | (refine eg ?_; conv => whnf) | refine an ?_ ?_ | (refine iw ?_; intro rx hrx) | exact lf | intro _)
   refine TSq.pureC (c234 f.um) cl rfl (And.intro rfl rfl) ?_
   (repeat' first | (refine eg ?_; conv => whnf) | refine an ?_ ?_ | (refine iw ?_; intro rx hrx) | exact lf | intro _)
   refine TWq.rng (α := Unit) (β := Unit) false (every f.um) (fun n => [.int .i64 n]) (fun k _ => [(0, .tok (Φ (i * ((every f.se).length * (every f.um).length) + j * (every f.um).length + k)))]) (fun _ _ => True) () (fun _ => .ret) (fun _ => [(0, .tok Ψ)]) (fun _ => True) [] [] [] rfl e3 cl cl (fun _ => rfl) trivial ?_ ?_ ?_ ?_ ?_ ?_
   ·(repeat' first | (refine eg ?_; conv => whnf) | refine an ?_ ?_ | (refine iw ?_; intro rx hrx) | exact lf | intro _)
    all_goals try exact vy
   ·(repeat' first | (refine eg ?_; conv => whnf) | refine an ?_ ?_ | (refine iw ?_; intro rx hrx) | exact lf | intro _)
    all_goals try exact vy
   ·intro k _ _
    (repeat' first | (refine eg ?_; conv => whnf) | refine an ?_ ?_ | (refine iw ?_; intro rx hrx) | exact lf | intro _)
   ·intro k u _ hu _
    (repeat' first | (refine eg ?_; conv => whnf) | refine an ?_ ?_ | (refine iw ?_; intro rx hrx) | exact lf | intro _)
    refine TSq.yield rfl rfl rfl rfl trivial rfl (by simp [cloL, clo]) (hy _ _ (hT ha hb hu)) ?_ ?_
    ·(repeat' first | (refine eg ?_; conv => whnf) | refine an ?_ ?_ | (refine iw ?_; intro rx hrx) | exact lf | intro _)
     all_goals try exact vy
     refine ⟨⟨(), trivial, ?_⟩⟩
     (repeat' first | (refine eg ?_; conv => whnf) | refine an ?_ ?_ | (refine iw ?_; intro rx hrx) | exact lf | intro _)
     all_goals try exact vy
    ·(repeat' first | (refine eg ?_; conv => whnf) | refine an ?_ ?_ | (refine iw ?_; intro rx hrx) | exact lf | intro _)
     all_goals try exact vy
     refine ⟨⟨(), rfl, trivial, ?_⟩⟩
     (repeat' first | (refine eg ?_; conv => whnf) | refine an ?_ ?_ | (refine iw ?_; intro rx hrx) | exact lf | intro _)
     all_goals try exact vy
   ·intro _ _
    (repeat' first | (refine eg ?_; conv => whnf) | refine an ?_ ?_ | (refine iw ?_; intro rx hrx) | exact lf | intro _)
    all_goals try exact vy
    refine ⟨⟨(), trivial, ?_⟩⟩
    (repeat' first | (refine eg ?_; conv => whnf) | refine an ?_ ?_ | (refine iw ?_; intro rx hrx) | exact lf | intro _)
    all_goals try exact vy
    all_goals (refine ⟨?_⟩; rw [Nat.succ_mul, Nat.add_assoc])
   ·intro _ _
    (repeat' first | (refine eg ?_; conv => whnf) | refine an ?_ ?_ | (refine iw ?_; intro rx hrx) | exact lf | intro _)
    all_goals try exact vy
    refine ⟨⟨(), rfl, trivial, ?_⟩⟩
    (repeat' first | (refine eg ?_; conv => whnf) | refine an ?_ ?_ | (refine iw ?_; intro rx hrx) | exact lf | intro _)
    all_goals try exact vy
  ·intro _ _
   (repeat' first | (refine eg ?_; conv => whnf) | refine an ?_ ?_ | (refine iw ?_; intro rx hrx) | exact lf | intro _)
   all_goals try exact vy
   refine ⟨⟨(), trivial, ?_⟩⟩
   (repeat' first | (refine eg ?_; conv => whnf) | refine an ?_ ?_ | (refine iw ?_; intro rx hrx) | exact lf | intro _)
   all_goals try exact vy
   all_goals (refine ⟨?_⟩; rw [Nat.succ_mul])
  ·intro _ _
   (repeat' first | (refine eg ?_; conv => whnf) | refine an ?_ ?_ | (refine iw ?_; intro rx hrx) | exact lf | intro _)
   all_goals try exact vy
   refine ⟨⟨(), rfl, trivial, ?_⟩⟩
   (repeat' first | (refine eg ?_; conv => whnf) | refine an ?_ ?_ | (refine iw ?_; intro rx hrx) | exact lf | intro _)
   all_goals try exact vy
 ·intro _ _
  (repeat' first | (refine eg ?_; conv => whnf) | refine an ?_ ?_ | (refine iw ?_; intro rx hrx) | exact lf | intro _)
  exact ⟨.inl rfl⟩
 ·intro _ _
  (repeat' first | (refine eg ?_; conv => whnf) | refine an ?_ ?_ | (refine iw ?_; intro rx hrx) | exact lf | intro _)
  exact ⟨.inr rfl⟩
end Go.Proofs.YtjadiajfbflghaaGreat
open Go Go.TV
namespace Go.Proofs.YtjadiajfbflghaaGreat
theorem TO.cutX {P : Program} {α : Type} {pr : α → Prop} {h0 : α → List LB} {R : α → SV → Prop} {f : FuncId} {args : List SV} {h : List LB} (hT : TO P f args h fun s h' => Vc (∃ x, pr x ∧ Ev (fitS h.length [] ⟨[s], h', []⟩ ⟨[s], h0 x, []⟩) ∧ R x s)) : TO P f args h (fun s h' => ∃ x, pr x ∧ h' = h0 x ∧ R x s) := by
 refine ⟨hT.ok, fun hm g w vals h1 h2 h3 h4 => (hT.run hm g w vals h1 h2 h3 h4).mono ?_⟩
 rintro _ w' ⟨v, s, h', g', rfl, q, k1, k2, k3, k4, k5⟩
 obtain ⟨x, q0, q1, q2⟩ := q.h
 obtain ⟨g2, s2, e2⟩ := Wk.fit (P := P) [] q1.at g' ⟨#[v], []⟩ w' ⟨k1, k2, by simp only [Gh.denL, denL]; exact ⟨v, [], rfl, k3, rfl⟩, k4, by simp [dfden]⟩
 have d2 := s2.tm
 simp only [Gh.denL, denL] at d2
 obtain ⟨u, us, e, d2, _⟩ := d2
 have : u = v := by simpa using (List.cons.inj e).1.symm
 subst this
 exact ⟨u, s, h0 x, g2, rfl, ⟨x, q0, rfl, q2⟩, s2.ok, s2.lt, d2, s2.hp, k5.trans e2⟩
def dayL (r : Rng) : List Int := (List.range (rsize r).toNat).map fun (k : Nat) => r.lo + k
def listsL : List Rng → List (List Int)
 | [] => [[]]
 | r :: rs => (dayL r).flatMap fun n => (listsL rs).map (n :: ·)
theorem dayL_len (r : Rng) : (dayL r).length = (rsize r).toNat := by simp [dayL]
theorem dayL_at {r : Rng} {q : Nat} (h : (q : Int) < rsize r) : (dayL r)[q]? = some (r.lo + q) := by
 have : q < (rsize r).toNat := by omega
 simp [dayL, List.getElem?_map, List.getElem?_range this]
theorem listsL_len {l : List Rng} : ∀ v ∈ listsL l, v.length = l.length := by
 induction l with
 | nil => intro v hv; simp [listsL] at hv; subst hv; rfl
 | cons r rs ih =>
  intro v hv
  simp only [listsL, List.mem_flatMap, List.mem_map] at hv
  obtain ⟨n, _, w, hw, rfl⟩ := hv
  simp [ih w hw]
def lstB (l : List Rng) (o : List Int) (Φ : TokP) : List LB := [.tok Φ, .arr 3 1 (ints o), .cells [.yield 0], .cells [.own 1], .cells [.fn 248 [] [.iptr (.agg [.sl 2 (encRs l)]) 0, .ptr 2 0, .ptr 3 0, .ptr 4 0]]]
def tokX (b : Bool) (Φ Ψ : TokP) : TokP := match b with | true => Φ | false => Ψ
theorem sml1 : smlS 1 [.own 1] := fun N => trivial
theorem ints_set (o : List Int) (i : Nat) (n : Int) : (ints o).set i (.int .i64 n) = ints (o.set i n) := by simp [ints, List.map_set]
theorem take_set {α : Type} {o : List α} {i : Nat} {n : α} (h : i < o.length) : (o.set i n).take (i + 1) = o.take i ++ [n] := by
 rw [List.take_add_one, List.take_set_of_le (by omega), List.getElem?_set_self h]; rfl
theorem t248 (l : List Rng) (hl : l.length ≤ 10) (hr : ∀ r ∈ l, 0 ≤ r.lo ∧ r.lo ≤ r.hi ∧ r.hi ≤ 1000) (Φ : Nat → TokP) (Ψ : TokP) (hy : ∀ (i : Nat) (v : List Int), (listsL l)[i]? = some v → YN Tryz.prog 1 [.arr 3 1 (ints v)] (Φ i) [.own 1] (Φ (i + 1)) Ψ) :
  ∀ (n i : Nat) (o : List Int) (k : Nat), i + n = l.length → o.length = l.length → (∀ j v, (listsL (l.drop i))[j]? = some v → (listsL l)[k + j]? = some (o.take i ++ v)) →
  TO Tryz.prog 248 [.int .i64 i, .iptr (.agg [.sl 2 (encRs l)]) 0, .ptr 2 0, .ptr 3 0, .ptr 4 0] (lstB l o (Φ k)) (fun r h' => ∃ x : Bool × List Int, (x.2.length = l.length ∧ x.2.take i = o.take i) ∧ h' = lstB l x.2 (tokX x.1 (Φ (k + (listsL (l.drop i)).length)) Ψ) ∧ r = .bool x.1) := by
 intro n
 have hz := encRs_len l
 induction n with
 | zero =>
  intro i o k hi ho hp
  obtain rfl : i = l.length := by omega
  have e1 : listsL (l.drop l.length) = [[]] := by rw [List.drop_length]; rfl
  rw [e1] at hp
  rw [e1]
  have hy0 := hy k o (by have := hp 0 [] rfl; rw [Nat.add_zero, List.append_nil, ← ho, List.take_length] at this; exact this)
  refine TO.cutX (TO.ev fn_248 (Ev.at ?_))
  unfold lstB
  (repeat' first | (intro ex hex; obtain ⟨mx, hmx, rfl⟩ := hgx1 hex; clear hex) | (intro rx hrx; have hq := hsub1 hrx (by omega); subst hq; clear hrx) | (intro rx hrx; have hq := hsub2 hrx (by omega); subst hq; clear hrx) | refine gx hg1 ?_ | (refine eg ?_; conv => whnf) | refine an ?_ ?_ | (refine iw ?_; intro rx hrx) | exact lf | intro _)
  all_goals (try (exfalso; omega))
  all_goals try exact vy
  refine TSq.yieldN (m := 1) rfl rfl rfl rfl rfl rfl sml1 (fun i hi => by match i, hi with | 0, _ => rfl) (fun i hi => by match i, hi with | 0, _ => exact ints_clo o) hy0 ?_ ?_
  ·(repeat' first | (intro ex hex; obtain ⟨mx, hmx, rfl⟩ := hgx1 hex; clear hex) | (intro rx hrx; have hq := hsub1 hrx (by omega); subst hq; clear hrx) | (intro rx hrx; have hq := hsub2 hrx (by omega); subst hq; clear hrx) | refine gx hg1 ?_ | (refine eg ?_; conv => whnf) | refine an ?_ ?_ | (refine iw ?_; intro rx hrx) | exact lf | intro _)
   all_goals try exact vy
   refine ⟨⟨(true, o), ⟨ho, rfl⟩, ?_, rfl⟩⟩
   (repeat' first | (intro ex hex; obtain ⟨mx, hmx, rfl⟩ := hgx1 hex; clear hex) | (intro rx hrx; have hq := hsub1 hrx (by omega); subst hq; clear hrx) | (intro rx hrx; have hq := hsub2 hrx (by omega); subst hq; clear hrx) | refine gx hg1 ?_ | (refine eg ?_; conv => whnf) | refine an ?_ ?_ | (refine iw ?_; intro rx hrx) | exact lf | intro _)
   all_goals try exact vy
  ·(repeat' first | (intro ex hex; obtain ⟨mx, hmx, rfl⟩ := hgx1 hex; clear hex) | (intro rx hrx; have hq := hsub1 hrx (by omega); subst hq; clear hrx) | (intro rx hrx; have hq := hsub2 hrx (by omega); subst hq; clear hrx) | refine gx hg1 ?_ | (refine eg ?_; conv => whnf) | refine an ?_ ?_ | (refine iw ?_; intro rx hrx) | exact lf | intro _)
   all_goals try exact vy
   refine ⟨⟨(false, o), ⟨ho, rfl⟩, ?_, rfl⟩⟩
   (repeat' first | (intro ex hex; obtain ⟨mx, hmx, rfl⟩ := hgx1 hex; clear hex) | (intro rx hrx; have hq := hsub1 hrx (by omega); subst hq; clear hrx) | (intro rx hrx; have hq := hsub2 hrx (by omega); subst hq; clear hrx) | refine gx hg1 ?_ | (refine eg ?_; conv => whnf) | refine an ?_ ?_ | (refine iw ?_; intro rx hrx) | exact lf | intro _)
   all_goals try exact vy
 | succ n ih =>
  intro i o k hi ho hp
  obtain ⟨v, hv⟩ : ∃ v, l[i]? = some v := ⟨_, List.getElem?_eq_getElem (by omega)⟩
  have hvr := hr v (List.mem_of_getElem? hv)
  have hsz : 1 ≤ rsize v ∧ rsize v ≤ 1001 := by unfold rsize; omega
  have d1 := c172 v hvr
  have hg1 : ∀ {n : Nat} {x : SV}, n = i → (encRs l)[n]? = some x → x = encR v := by
   rintro n x rfl he
   obtain ⟨y, hy, rfl⟩ := encRs_at he
   rw [hv] at hy; cases hy; rfl
  have e1 : l.drop i = v :: l.drop (i + 1) := by
   rw [List.drop_eq_getElem_cons (by omega)]
   congr 1
   exact (List.getElem?_eq_some_iff.1 hv).2
  have hm : ∀ x : Int, ((listsL (l.drop (i + 1))).map (x :: ·)).length = (listsL (l.drop (i + 1))).length := fun x => List.length_map _
  have hcnt : (listsL (l.drop i)).length = (rsize v).toNat * (listsL (l.drop (i + 1))).length := by
   rw [e1, listsL, flat_len hm, dayL_len]
  rw [hcnt]
  obtain ⟨C, hC⟩ : ∃ C, C = (listsL (l.drop (i + 1))).length := ⟨_, rfl⟩
  rw [← hC] at hm ⊢
  refine TO.cutX (TO.ev fn_248 (Ev.at ?_))
  unfold lstB
  (repeat' first | (intro ex hex; obtain ⟨mx, hmx, rfl⟩ := hgx1 hex; clear hex) | (intro rx hrx; have hq := hsub1 hrx (by omega); subst hq; clear hrx) | (intro rx hrx; have hq := hsub2 hrx (by omega); subst hq; clear hrx) | refine gx hg1 ?_ | (refine eg ?_; conv => whnf) | refine an ?_ ?_ | (refine iw ?_; intro rx hrx) | exact lf | intro _)
  all_goals (try (exfalso; omega))
  all_goals try exact vy
  refine TSq.pureC d1 (by simp [cloL, clo, encR]) rfl (And.intro rfl rfl) ?_
  (repeat' first | (intro ex hex; obtain ⟨mx, hmx, rfl⟩ := hgx1 hex; clear hex) | (intro rx hrx; have hq := hsub1 hrx (by omega); subst hq; clear hrx) | (intro rx hrx; have hq := hsub2 hrx (by omega); subst hq; clear hrx) | refine gx hg1 ?_ | (refine eg ?_; conv => whnf) | refine an ?_ ?_ | (refine iw ?_; intro rx hrx) | exact lf | intro _)
  all_goals try exact vy
  refine TWq.loop (fun p : Nat × List Int => [(20, .int .i64 p.1)]) (fun p => [(0, .tok (Φ (k + p.1 * C))), (1, .arr 3 1 (ints p.2))])
   (fun p => (p.1 : Int) ≤ rsize v ∧ p.2.length = l.length ∧ p.2.take i = o.take i) (fun p => (rsize v).toNat - p.1) (0, o) [] [] ?_ ⟨by dsimp only; omega, ho, rfl⟩ ?_
  ·(repeat' first | (intro ex hex; obtain ⟨mx, hmx, rfl⟩ := hgx1 hex; clear hex) | (intro rx hrx; have hq := hsub1 hrx (by omega); subst hq; clear hrx) | (intro rx hrx; have hq := hsub2 hrx (by omega); subst hq; clear hrx) | refine gx hg1 ?_ | (refine eg ?_; conv => whnf) | refine an ?_ ?_ | (refine iw ?_; intro rx hrx) | exact lf | intro _)
   all_goals try exact vy
   all_goals (first | exact ⟨ints_clo _⟩ | exact ⟨by rw [Nat.zero_mul]; rfl⟩ | skip)
   all_goals trace_state
  ·rintro ⟨q, o1⟩ ⟨r1, r2, r3⟩
   dsimp only at r1 r2 r3 ⊢
   have hzo := ints_len o1
   have hgx1 : ∀ {n : Nat} {x : SV}, (ints o1)[n]? = some x → ∃ y, o1[n]? = some y ∧ x = .int .i64 y := fun h => ints_at h
   by_cases hq : (q : Int) < rsize v
   ·have hsub1 : ∀ {r : Int}, r = IntKind.i64.wrap (v.lo + (q : Int)) → (0 : Int) ≤ 0 → r = v.lo + (q : Int) := fun h _ => by rw [h, IntWalk.i64_in _ (by omega)]
    have hsub2 : ∀ {r : Int}, r = IntKind.i64.wrap ((i : Int) + 1) → (0 : Int) ≤ 0 → r = ((i + 1 : Nat) : Int) := fun h _ => by rw [h, IntWalk.i64_in _ (by omega)]; push_cast; rfl
    have hset : (o1.set i (v.lo + (q : Int))).length = l.length := by simp [r2]
    have htk : (o1.set i (v.lo + (q : Int))).take (i + 1) = o.take i ++ [v.lo + (q : Int)] := by rw [take_set (by omega), r3]
    have d2 := (ih (i + 1) (o1.set i (v.lo + (q : Int))) (k + q * C) (by omega) hset (fun j w hw => by
     have h1 := flat_at hm (dayL_at hq) (by rw [List.getElem?_map, hw]; rfl : ((listsL (l.drop (i + 1))).map ((v.lo + (q : Int)) :: ·))[j]? = some ((v.lo + (q : Int)) :: w))
     have h2 := hp (q * C + j) ((v.lo + (q : Int)) :: w) (by rw [e1]; exact h1)
     rw [htk, Nat.add_assoc, h2]; simp)).mono (Q' := fun s h' => ∃ x : Bool × List Int, (x.2.length = l.length ∧ x.2.take (i + 1) = (o1.set i (v.lo + (q : Int))).take (i + 1)) ∧ s = .bool x.1 ∧ h' = lstB l x.2 (tokX x.1 (Φ (k + q * C + (listsL (l.drop (i + 1))).length)) Ψ)) fun s h' ⟨x, x1, x2, x3⟩ => ⟨x, x1, x3, x2⟩
    rw [← hC] at d2
    unfold lstB at d2
    (repeat' first | (intro ex hex; obtain ⟨mx, hmx, rfl⟩ := hgx1 hex; clear hex) | (intro rx hrx; have hq := hsub1 hrx (by omega); subst hq; clear hrx) | (intro rx hrx; have hq := hsub2 hrx (by omega); subst hq; clear hrx) | refine gx hg1 ?_ | (refine eg ?_; conv => whnf) | refine an ?_ ?_ | (refine iw ?_; intro rx hrx) | exact lf | intro _)
    all_goals (try (exfalso; omega))
    all_goals try exact vz
    refine TSq.callY (α := Bool × List Int) (fun x => x.2.length = l.length ∧ x.2.take (i + 1) = (o1.set i (v.lo + (q : Int))).take (i + 1)) [0, 1, 2, 3, 4]
     (fun x => [(0, .tok (tokX x.1 (Φ (k + q * C + C)) Ψ)), (1, .arr 3 1 (ints x.2)), (2, .cells [.yield 0]), (3, .cells [.own 1]), (4, .cells [.fn 248 [] [.iptr (.agg [.sl 2 (encRs l)]) 0, .ptr 2 0, .ptr 3 0, .ptr 4 0]])])
     (s1 := fun x => .bool x.1) (s' := fun x => .bool x.1) d2 rfl 0 (fun i hi => by match i, hi with | 0, _ => rfl) rfl (And.intro rfl rfl) rfl (by decide) (allLt_iff rfl) rfl
     (fun a ha => by match a, ha with | 0, _ => exact ⟨rfl, Nat.le_refl _, rfl⟩ | 1, _ => exact ⟨rfl, Nat.le_refl _, (by show LB.arr 3 1 ((ints o1).set i (.int .i64 (v.lo + (q : Int)))) = LB.arr 3 1 (renL _ (ints (o1.set i (v.lo + (q : Int))))); rw [cloL_ren _ _ (ints_clo _), ints_set])⟩ | 2, _ => exact ⟨rfl, Nat.le_refl _, rfl⟩ | 3, _ => exact ⟨rfl, Nat.le_refl _, rfl⟩ | 4, _ => exact ⟨rfl, Nat.le_refl _, rfl⟩) rfl rfl (fun _ _ => Nat.le_refl _) (fun _ _ => rfl)
     (fun x _ a ha => by match a, ha with | 0, _ => exact ⟨rfl, Nat.le_refl _, rfl⟩ | 1, _ => exact ⟨rfl, Nat.le_refl _, congrArg (fun e => some (1, LB.arr 3 1 e)) (cloL_ren _ _ (ints_clo _)).symm⟩ | 2, _ => exact ⟨rfl, Nat.le_refl _, rfl⟩ | 3, _ => exact ⟨rfl, Nat.le_refl _, rfl⟩ | 4, _ => exact ⟨rfl, Nat.le_refl _, rfl⟩) (fun _ _ => rfl) ?_
    rintro ⟨b, o3⟩ ⟨p1, p2⟩
    dsimp only at p1 p2 ⊢
    have htk3 : o3.take i = o.take i := by
     have h1 := congrArg (List.take i) (p2.trans htk)
     rw [List.take_take, Nat.min_eq_left (Nat.le_succ i)] at h1
     rw [h1, List.take_append_of_le_length (by simp; omega), List.take_take, Nat.min_self]
    cases b
    ·(repeat' first | (intro ex hex; obtain ⟨mx, hmx, rfl⟩ := hgx1 hex; clear hex) | (intro rx hrx; have hq := hsub1 hrx (by omega); subst hq; clear hrx) | (intro rx hrx; have hq := hsub2 hrx (by omega); subst hq; clear hrx) | refine gx hg1 ?_ | (refine eg ?_; conv => whnf) | refine an ?_ ?_ | (refine iw ?_; intro rx hrx) | exact lf | intro _)
     all_goals try exact vy
     refine ⟨⟨(false, o3), ⟨p1, htk3⟩, ?_, rfl⟩⟩
     (repeat' first | (intro ex hex; obtain ⟨mx, hmx, rfl⟩ := hgx1 hex; clear hex) | (intro rx hrx; have hq := hsub1 hrx (by omega); subst hq; clear hrx) | (intro rx hrx; have hq := hsub2 hrx (by omega); subst hq; clear hrx) | refine gx hg1 ?_ | (refine eg ?_; conv => whnf) | refine an ?_ ?_ | (refine iw ?_; intro rx hrx) | exact lf | intro _)
     all_goals try exact vy
     all_goals exact ⟨ints_clo _⟩
    ·(repeat' first | (intro ex hex; obtain ⟨mx, hmx, rfl⟩ := hgx1 hex; clear hex) | (intro rx hrx; have hq := hsub1 hrx (by omega); subst hq; clear hrx) | (intro rx hrx; have hq := hsub2 hrx (by omega); subst hq; clear hrx) | refine gx hg1 ?_ | (refine eg ?_; conv => whnf) | refine an ?_ ?_ | (refine iw ?_; intro rx hrx) | exact lf | intro _)
     all_goals try exact vy
     refine ⟨⟨(q + 1, o3), ⟨by dsimp only; omega, p1, htk3⟩, by dsimp only; omega, ?_⟩⟩
     (repeat' first | (intro ex hex; obtain ⟨mx, hmx, rfl⟩ := hgx1 hex; clear hex) | (intro rx hrx; have hq := hsub1 hrx (by omega); subst hq; clear hrx) | (intro rx hrx; have hq := hsub2 hrx (by omega); subst hq; clear hrx) | refine gx hg1 ?_ | (refine eg ?_; conv => whnf) | refine an ?_ ?_ | (refine iw ?_; intro rx hrx) | exact lf | intro _)
     all_goals try exact vy
     all_goals (first | exact ⟨ints_clo _⟩ | exact ⟨by show Φ _ = Φ _; rw [Nat.succ_mul, Nat.add_assoc]⟩)
   ·(repeat' first | (intro ex hex; obtain ⟨mx, hmx, rfl⟩ := hgx1 hex; clear hex) | (intro rx hrx; have hq := hsub1 hrx (by omega); subst hq; clear hrx) | (intro rx hrx; have hq := hsub2 hrx (by omega); subst hq; clear hrx) | refine gx hg1 ?_ | (refine eg ?_; conv => whnf) | refine an ?_ ?_ | (refine iw ?_; intro rx hrx) | exact lf | intro _)
    all_goals (try (exfalso; omega))
    all_goals try exact vy
    have hqe : (rsize v).toNat = q := by omega
    refine ⟨⟨(true, o1), ⟨r2, r3⟩, ?_, rfl⟩⟩
    rw [hqe]
    (repeat' first | (intro ex hex; obtain ⟨mx, hmx, rfl⟩ := hgx1 hex; clear hex) | (intro rx hrx; have hq := hsub1 hrx (by omega); subst hq; clear hrx) | (intro rx hrx; have hq := hsub2 hrx (by omega); subst hq; clear hrx) | refine gx hg1 ?_ | (refine eg ?_; conv => whnf) | refine an ?_ ?_ | (refine iw ?_; intro rx hrx) | exact lf | intro _)
    all_goals try exact vy
    all_goals exact ⟨ints_clo _⟩
end Go.Proofs.YtjadiajfbflghaaGreat
open Go Go.TV
namespace Go.Proofs.YtjadiajfbflghaaGreat
theorem c222 (l : List Rng) : PF Tryz.prog 222 [.sl 2 (encRs l)] (· = .fn 247 [] [.iptr (.agg [.sl 2 (encRs l)]) 0]) := by
 refine PF.of (TF.ev fn_222 (Ev.at ?_))
 exact e trivial
theorem it247 (l : List Rng) (hl : l.length ≤ 10) (hr : ∀ r ∈ l, 0 ≤ r.lo ∧ r.lo ≤ r.hi ∧ r.hi ≤ 1000) : ITN Tryz.prog 247 1 [] [.iptr (.agg [.sl 2 (encRs l)]) 0] (listsL l) (fun _ => [.own 1]) (fun v => [.arr 3 1 (ints v)]) := by
 have hz := encRs_len l
 refine ITN.ev fn_247 cl (by simp [cloL, clo]) fun Φ Ψ hy => ?_
 have d1 := (t248 l hl hr Φ Ψ hy l.length 0 (List.replicate l.length 0) 0 (by omega) (by simp) (fun j v hv => by simpa using hv)).mono (Q' := fun s h' => ∃ x : Bool × List Int, x.2.length = l.length ∧ s = .bool x.1 ∧ h' = lstB l x.2 (tokX x.1 (Φ (listsL l).length) Ψ)) fun s h' ⟨x, x1, x2, x3⟩ => ⟨x, x1.1, x3, by simpa using x2⟩
 unfold lstB at d1
 (repeat' first | (refine eg ?_; conv => whnf) | refine an ?_ ?_ | (refine iw ?_; intro rx hrx) | exact lf | intro _)
 all_goals try exact vy
 refine TSq.callY (α := Bool × List Int) (fun x => x.2.length = l.length) [0, 2, 1, 3, 4]
  (fun x => [(0, .tok (tokX x.1 (Φ (listsL l).length) Ψ)), (2, .arr 3 1 (ints x.2)), (1, .cells [.yield 0]), (3, .cells [.own 2]), (4, .cells [.fn 248 [] [.iptr (.agg [.sl 2 (encRs l)]) 0, .ptr 1 0, .ptr 3 0, .ptr 4 0]])])
  (s1 := fun x => .bool x.1) (s' := fun x => .bool x.1) d1 rfl 0 (fun i hi => by match i, hi with | 0, _ => rfl) rfl (And.intro rfl rfl) rfl (by decide) (allLt_iff rfl) rfl
  (fun a ha => by match a, ha with | 0, _ => exact ⟨rfl, Nat.le_refl _, rfl⟩ | 1, _ => exact ⟨rfl, Nat.le_refl _, (by show LB.arr 3 1 _ = LB.arr 3 1 (renL _ (ints (List.replicate l.length 0))); rw [cloL_ren _ _ (ints_clo _)]; simp [ints, hz])⟩ | 2, _ => exact ⟨rfl, Nat.le_refl _, rfl⟩ | 3, _ => exact ⟨rfl, Nat.le_refl _, rfl⟩ | 4, _ => exact ⟨rfl, Nat.le_refl _, rfl⟩) rfl rfl (fun _ _ => Nat.le_refl _) (fun _ _ => rfl)
  (fun x _ a ha => by match a, ha with | 0, _ => exact ⟨rfl, Nat.le_refl _, rfl⟩ | 1, _ => exact ⟨rfl, Nat.le_refl _, congrArg (fun e => some (2, LB.arr 3 1 e)) (cloL_ren _ _ (ints_clo _)).symm⟩ | 2, _ => exact ⟨rfl, Nat.le_refl _, rfl⟩ | 3, _ => exact ⟨rfl, Nat.le_refl _, rfl⟩ | 4, _ => exact ⟨rfl, Nat.le_refl _, rfl⟩) (fun _ _ => rfl) ?_
 rintro ⟨b, o3⟩ p1
 cases b
 ·(repeat' first | (refine eg ?_; conv => whnf) | refine an ?_ ?_ | (refine iw ?_; intro rx hrx) | exact lf | intro _)
  all_goals try exact vy
  exact ⟨.inr rfl⟩
 ·(repeat' first | (refine eg ?_; conv => whnf) | refine an ?_ ?_ | (refine iw ?_; intro rx hrx) | exact lf | intro _)
  all_goals try exact vy
  exact ⟨.inl rfl⟩
def seenF (b : Bok) (out : List Int) (day : Nat) (v : List Int) : Option Fds :=
 match playG b (v.take b.ents.length) (v.drop b.ents.length) out (b.last.toNat + 1) with
 | none => none
 | some _ => playG b (v.take b.ents.length) (v.drop b.ents.length) out (day + 1)
def seenL (b : Bok) (out : List Int) (day : Nat) (l : List (List Int)) : List Fds := l.filterMap (seenF b out day)
theorem seenL_snoc {b : Bok} {out : List Int} {day : Nat} {l : List (List Int)} {i : Nat} {v : List Int} (h : l[i]? = some v) : seenL b out day (l.take (i + 1)) = seenL b out day (l.take i) ++ (seenF b out day v).toList := by
 rw [take_snoc h, seenL, List.filterMap_append]
 simp only [seenL, List.filterMap_cons, List.filterMap_nil]
 cases seenF b out day v <;> rfl
theorem seenL_at {b : Bok} {out : List Int} {day : Nat} {l : List (List Int)} {i : Nat} {v : List Int} {a : Fds} (h : l[i]? = some v) (ha : seenF b out day v = some a) : (seenL b out day l)[(seenL b out day (l.take i)).length]? = some a := by
 have h1 := seenL_snoc (b := b) (out := out) (day := day) h
 rw [ha] at h1
 have h2 : l = l.take (i + 1) ++ l.drop (i + 1) := (List.take_append_drop _ _).symm
 have h3 : seenL b out day l = seenL b out day (l.take i) ++ (a :: seenL b out day (l.drop (i + 1))) := by
  conv => lhs; rw [h2]
  rw [seenL, List.filterMap_append, ← seenL, h1]
  simp [seenL]
 rw [h3, List.getElem?_append_right (Nat.le_refl _)]
 simp
theorem shf_own (nl : Nat) : Shf 1 nl [.own 1] [.own (nl + 1)] := ⟨rfl, fun hD hι h => by
 simp only [denL, den] at h ⊢
 obtain ⟨u, us, rfl, ⟨h1, h2, h3⟩, rfl⟩ := h
 exact ⟨u, [], rfl, ⟨hD 0 (by omega) h1, h2, fun l hl => h3 l (hι 0 l (by omega) hl)⟩, rfl⟩⟩
theorem PlayQ.scal {b : Bok} {days sown out : List Int} {day : Nat} {s : SV} (h : PlayQ b days sown out day s) : scal s := by
 obtain ⟨a, rfl, _⟩ := h
 simp [TV.scal, scalL, fdC]
theorem it221 (b : Bok) (out : List Int) (day : Nat) (hb : OkBok b) (hol : out.length ≤ 1000) (hday : (day : Int) ≤ b.last) :
  IT Tryz.prog 221 [] [.iptr (encBok b) 0, .iptr (.agg [.int .i64 day]) 0, .iptr (.agg [.sl 1 (ints out)]) 0] ((seenL b out day (listsL b.rngs)).map fun a => [.agg [.one, .one], .agg (fdC a)]) := by
 have hz := encPcls_len b.pcls
 have hw := encEnts_len b.ents
 have hpl := hb.plen
 have hel := hb.elen
 have d1 := c170 b (by omega) (by omega)
 have hR : b.rngs.length = b.ents.length + b.pcls.length := by simp [Bok.rngs]
 have d2 := c222 b.rngs
 have e1 := it247 b.rngs hb.rlen (fun r hr => hb.day_lo (hb.rngs_ok r hr))
 have hlen : ∀ v ∈ listsL b.rngs, v.length = b.ents.length + b.pcls.length := fun v hv => (listsL_len v hv).trans hR
 generalize b.rngs = R at *
 generalize hLL : listsL R = LL at *
 refine IT.ev fn_221 cl (by simp [cloL, clo, encBok]) fun Φ Ψ hy => ?_
 (repeat' first | (refine eg ?_; conv => whnf) | refine an ?_ ?_ | (refine iw ?_; intro rx hrx) | exact lf | intro _)
 all_goals try exact vy
 refine TSq.pureC d1 (by simp [cloL, clo, encBok]) rfl (And.intro rfl rfl) ?_
 (repeat' first | (refine eg ?_; conv => whnf) | refine an ?_ ?_ | (refine iw ?_; intro rx hrx) | exact lf | intro _)
 refine TSq.pureC d2 (by simp [cloL, clo]) rfl (And.intro rfl rfl) ?_
 (repeat' first | (refine eg ?_; conv => whnf) | refine an ?_ ?_ | (refine iw ?_; intro rx hrx) | exact lf | intro _)
 all_goals try exact vy
 refine TWq.rngN (α := Unit) (β := Unit) true 1 (fun v => [.arr 3 1 (ints v)]) (fun _ => [.own 4]) LL (fun _ => [.own 1]) (fun i _ => [(0, .tok (Φ (seenL b out day (LL.take i)).length))]) (fun _ _ => True) () (fun _ => .ret) (fun _ => [(0, .tok Ψ)]) (fun _ => True) [] [] [] rfl e1 cl (by simp [cloL, clo]) (fun _ => rfl) ?_ ?_ trivial ?_ ?_ ?_ ?_ ?_ ?_ ?_
 ·exact fun _ => shf_own 3
 ·exact fun v => ⟨rfl, fun i hi => by match i, hi with | 0, _ => exact ints_clo v⟩
 ·(repeat' first | (refine eg ?_; conv => whnf) | refine an ?_ ?_ | (refine iw ?_; intro rx hrx) | exact lf | intro _)
  all_goals try exact vy
 ·(repeat' first | (refine eg ?_; conv => whnf) | refine an ?_ ?_ | (refine iw ?_; intro rx hrx) | exact lf | intro _)
  all_goals try exact vy
 ·intro i _ _
  (repeat' first | (refine eg ?_; conv => whnf) | refine an ?_ ?_ | (refine iw ?_; intro rx hrx) | exact lf | intro _)
 ·intro i _ _
  (repeat' first | (refine eg ?_; conv => whnf) | refine an ?_ ?_ | (refine iw ?_; intro rx hrx) | exact lf | intro _)
 ·intro i v _ hv _
  have hvl := hlen v (List.mem_of_getElem? hv)
  have d3 := c112 b (v.take b.ents.length) (v.drop b.ents.length) out day hb (by simp <;> omega) (by simp <;> omega) hol hday
  have hs := seenL_snoc (b := b) (out := out) (day := day) hv
  have hsa := fun a => seenL_at (b := b) (out := out) (day := day) (a := a) hv
  have hzv := ints_len v
  have d4 : PF Tryz.prog 112 [encBok b, .agg [.sl 1 (((ints v).drop (0 : Int).toNat).take (((encEnts b.ents).length : Int) - 0).toNat), .sl 1 (((ints v).drop ((encEnts b.ents).length : Int).toNat).take (((ints v).length : Int) - ((encEnts b.ents).length : Int)).toNat)], .int .i64 day, .sl 1 (ints out)] (PlayQ b (v.take b.ents.length) (v.drop b.ents.length) out day) := by
   rw [show ((ints v).drop (0 : Int).toNat).take (((encEnts b.ents).length : Int) - 0).toNat = ints (v.take b.ents.length) by simp [ints, List.map_take, hw], show ((ints v).drop ((encEnts b.ents).length : Int).toNat).take (((ints v).length : Int) - ((encEnts b.ents).length : Int)).toNat = ints (v.drop b.ents.length) by
    rw [hw, hzv, List.take_of_length_le (by simp [ints])]; simp [ints, List.map_drop]]
   exact d3
  (repeat' first | (refine eg ?_; conv => whnf) | refine an ?_ ?_ | (refine iw ?_; intro rx hrx) | exact lf | intro _)
  all_goals try exact vz
  refine TSq.lendQ rfl d4 (fun s h => h.scal) rfl (And.intro rfl ?_) ?_
  ·(repeat' first | (refine eg ?_; conv => whnf) | refine an ?_ ?_ | (refine iw ?_; intro rx hrx) | exact lf | intro _)
   all_goals try exact vy
  ·rintro s ⟨a, rfl, ha⟩
   cases hsome : playG b (v.take b.ents.length) (v.drop b.ents.length) out (b.last.toNat + 1) with
   | none =>
    have hsf : seenF b out day v = none := by simp only [seenF, hsome]
    rw [hsf, Option.toList_none, List.append_nil] at hs
    simp only [Option.isSome_none]
    (repeat' first | (refine eg ?_; conv => whnf) | refine an ?_ ?_ | (refine iw ?_; intro rx hrx) | exact lf | intro _)
    all_goals try exact vy
    refine ⟨⟨(), trivial, ?_⟩⟩
    (repeat' first | (refine eg ?_; conv => whnf) | refine an ?_ ?_ | (refine iw ?_; intro rx hrx) | exact lf | intro _)
    all_goals try exact vy
    all_goals (first | exact ⟨by rw [hs]⟩ | exact ⟨by simp only [List.map, cloL, ints_clo]⟩ | exact ⟨ints_clo _⟩)
   | some z =>
    rw [hsome] at ha
    have hsf : seenF b out day v = some a := by simp only [seenF, hsome]; exact ha rfl
    rw [hsf, Option.toList_some] at hs
    simp only [Option.isSome_some]
    (repeat' first | (refine eg ?_; conv => whnf) | refine an ?_ ?_ | (refine iw ?_; intro rx hrx) | exact lf | intro _)
    all_goals try exact vy
    refine TSq.weak [] [(35, .agg [.one, .one])] [] ?_
    (repeat' first | (refine eg ?_; conv => whnf) | refine an ?_ ?_ | (refine iw ?_; intro rx hrx) | exact lf | intro _)
    all_goals try exact vy
    all_goals (try exact ⟨ints_clo _⟩)
    refine TSq.yield rfl rfl rfl rfl trivial rfl (by simp [cloL, clo, fdC]) (hy _ _ (hsa a hsf)) ?_ ?_
    ·(repeat' first | (refine eg ?_; conv => whnf) | refine an ?_ ?_ | (refine iw ?_; intro rx hrx) | exact lf | intro _)
     all_goals try exact vy
     refine ⟨⟨(), trivial, ?_⟩⟩
     (repeat' first | (refine eg ?_; conv => whnf) | refine an ?_ ?_ | (refine iw ?_; intro rx hrx) | exact lf | intro _)
     all_goals try exact vy
     all_goals (first | exact ⟨by rw [hs, List.length_append]; rfl⟩ | exact ⟨ints_clo _⟩)
    ·(repeat' first | (refine eg ?_; conv => whnf) | refine an ?_ ?_ | (refine iw ?_; intro rx hrx) | exact lf | intro _)
     all_goals try exact vy
     refine ⟨⟨(), trivial, trivial, ?_⟩⟩
     (repeat' first | (refine eg ?_; conv => whnf) | refine an ?_ ?_ | (refine iw ?_; intro rx hrx) | exact lf | intro _)
     all_goals try exact vy
     all_goals (try exact ⟨ints_clo _⟩)
 ·intro _ _
  (repeat' first | (refine eg ?_; conv => whnf) | refine an ?_ ?_ | (refine iw ?_; intro rx hrx) | exact lf | intro _)
  exact ⟨.inl (by rw [List.take_length]; rfl)⟩
 ·intro _ _
  (repeat' first | (refine eg ?_; conv => whnf) | refine an ?_ ?_ | (refine iw ?_; intro rx hrx) | exact lf | intro _)
  exact ⟨.inr rfl⟩
end Go.Proofs.YtjadiajfbflghaaGreat
