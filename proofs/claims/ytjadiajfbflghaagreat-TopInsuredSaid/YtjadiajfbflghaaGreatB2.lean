/- The value calculus, second part: regions, code and functions. -/
import Derived.Test.YtjadiajfbflghaaGreatB1
import Derived.Laws.OwnMore
set_option linter.unusedSimpArgs false
set_option linter.unusedVariables false
/- The value calculus, part Q: stores in maps; and all operations together. -/
namespace Go.TV
open Go.RowKit
section
variable {P : Program}
theorem noIter_spec : ∀ {h : List LB} {b : Nat} {k : Prop}, noIter h b k → k ∧ ∀ i, b ∉ (hget h i).deps
 | [], b, k, h => ⟨h, fun i => by simp [hget, LB.deps]⟩
 | lb :: hs, b, k, h => by
  have h' : noIter hs b k ∧ b ∉ lb.deps := by
   cases lb <;> first | exact ⟨h, by simp [LB.deps]⟩ | skip
   rename_i src left cur
   cases src <;> first
    | exact ⟨h, by simp [LB.deps]⟩
    | (obtain ⟨h1, h2⟩ := h; exact ⟨h2, by simp [LB.deps]; exact fun e => h1 e.symm⟩)
  obtain ⟨h1, h2⟩ := noIter_spec h'.1
  refine ⟨h1, fun i => ?_⟩
  cases i with
  | zero => exact h'.2
  | succ i => exact h2 i
end
section ops
variable {P : Program} {σ : List SV} {h : List LB} {nid : Nat} {K : EvK} {dst : Option Tmp} {ty : TypeId} {pos : String} {aft : Array Edge} {gd : Option (Nat × Bool)}
theorem run_pick {q : Question} (hf : q.forced = false) (f : Nat → Value) (w : World) : (do pure (f (← choose q)) : Sem Value).run P w = .ok (f (q.cut (w.tape w.drawn q))) w.drew := by
 simp only [choose, Sem.run_bind, Sem.run, hf, Bool.false_eq_true, if_false, Result.andThen]
 rfl
theorem run_keyThatStays (old new : Value) (w : World) : ∃ k w', (Instr.keyThatStays old new).run P w = .ok k w' ∧ (k = old ∨ k = new) ∧ (w' = w ∨ w' = w.drew) := by
 unfold Instr.keyThatStays
 split
 ·exact ⟨new, w, rfl, .inr rfl, .inl rfl⟩
 ·refine ⟨_, w.drew, run_pick rfl (fun i => if i = 0 then new else old) w, ?_, .inr rfl⟩
  split
  ·exact .inr rfl
  ·exact .inl rfl
theorem ev_mapUpd {t kt et : TypeId} {sh : TShape} {m k v : Operand} {op : Op} (hop : op = .mapUpdate t m k v ∨ op = .insert t m k v) (hu : P.underlying t = some (.map kt et)) (hs : shapeT P 8 kt = some sh)
  (hK : ev σ h nid (.mapUpd sh (cOpd m) (cOpd k) (cOpd v)) K) : EvOK P ⟨dst, op, ty, pos, aft, gd⟩ σ h nid K := by
 simp only [ev, forceK_iff, eqK_iff, posK_iff, outK_iff, shK_iff, updE, Ev_iff, Vc_iff] at hK
 split at hK
 case h_2 => exact hK.elim
 rename_i b e1
 split at hK
 case h_2 => exact hK.elim
 rename_i es hcs
 obtain ⟨⟨o1, o2, hK⟩, hni⟩ := noIter_spec hK
 have hops : op.operands = #[m, k, v] := by rcases hop with rfl | rfl <;> rfl
 have hexec : ∀ (a : Act) (w w' : World), (Instr.mapUpdate t (a.eval m) (a.eval k) (a.eval v)).run P w = .ok () w' → (execOp a.eval ⟨dst, op, ty, pos, aft, gd⟩).run P w = .ok .skip w' := by
  intro a w w' hr
  rcases hop with rfl | rfl <;> simp [execOp, hr]
 have core : ∀ es' : List (SV × SV), K (.tup []) [(b, .map es')] [b] →
   (∀ (g : Gh) (a : Act) (w : World), GOk g w → g.den w (gv σ (cOpd k)) (a.eval k) → g.den w (gv σ (cOpd v)) (a.eval v) → ∀ (l : Loc) (ents : Array MapEntry) (idx : List Nat), g.ι b = some l → w.heap[l.blk]? = some (.map ents ents.size) →
    idx.Perm (List.range ents.size) → borns ents → g.denM w es ents idx → a.eval m = .map (some l.blk) →
    ∃ (w1 : World) (ents' : Array MapEntry) (idx' : List Nat), (w1 = w ∨ w1 = w.drew) ∧ (Instr.mapUpdate t (a.eval m) (a.eval k) (a.eval v)).run P w = .ok () (w1.putObj l.blk (.map ents' ents'.size)) ∧
     idx'.Perm (List.range ents'.size) ∧ borns ents' ∧ g.denM w es' ents' idx') →
   EvOK P ⟨dst, op, ty, pos, aft, gd⟩ σ h nid K := by
  intro es' hK' hh
  refine ⟨_, _, _, hK', ?_, by intro p hp; simp at hp; subst hp; exact .inr ⟨by simp, by simp only [Safe, hcs]; exact hni⟩⟩
  intro g a w hg _ hx hbl
  have hcm := hx m (by simp [hops])
  have hck := hx k (by simp [hops])
  have hcv := hx v (by simp [hops])
  rw [e1] at hcm; simp only [Gh.den, den] at hcm
  have hl := hbl b (by simp)
  rw [hcs] at hl
  obtain ⟨l, ents, idx, hi, hheap, hp, hb', hd⟩ := hl
  obtain ⟨w1, ents', idx', hw1, hr, hp', hb'', hd'⟩ := hh g a w hg hck hcv l ents idx hi hheap hp hb' hd (hcm.2.2 l hi)
  have hlt : l.blk < w.heap.size := (Array.getElem?_eq_some_iff.1 hheap).1
  have hww : (w1.putObj l.blk (.map ents' ents'.size)).os = w.os ∧ (w1.putObj l.blk (.map ents' ents'.size)).tape = w.tape ∧ (w1.putObj l.blk (.map ents' ents'.size)).output = w.output ∧
    (w1.putObj l.blk (.map ents' ents'.size)).heap.size = w.heap.size ∧ (∀ r, r ≠ l.blk → (w1.putObj l.blk (.map ents' ents'.size)).heap[r]? = w.heap[r]?) ∧
    (w1.putObj l.blk (.map ents' ents'.size)).heap[l.blk]? = some (.map ents' ents'.size) := by
   rcases hw1 with rfl | rfl
   ·exact ⟨rfl, rfl, rfl, by simp, fun r hr => World.putObj_heap_other hr, World.putObj_heap_same hlt⟩
   ·exact ⟨rfl, rfl, rfl, by simp [World.putObj_size], fun r hr => World.putObj_heap_other hr, World.putObj_heap_same hlt⟩
  obtain ⟨q1, q2, q3, q4, q5, q6⟩ := hww
  obtain ⟨g1, g2⟩ := ext_set (U := ids [(b, LB.map es')]) hg hi (by simp [ids]) q1 q2 q3 q4 q5
  refine ⟨undef, _, g, .inr ⟨hexec a w _ hr, rfl⟩, g1, g2, by simp [den, denL, undef], ?_, fun b hb => .inl hb⟩
  intro p hp''
  simp at hp''
  subst hp''
  exact ⟨l, ents', idx', hi, q6, hp', hb'', g2.denM hg hd'⟩
 have hgo : ∀ {w : World} {r : Nat} {ents : Array MapEntry}, w.heap[r]? = some (.map ents ents.size) → (getObj r).run P w = .ok (.map ents ents.size) w := by
  intro w r ents hh; simp [getObj, Sem.run, hh]
 have hso : ∀ {w : World} {r : Nat} {ents : Array MapEntry} (o : Obj), w.heap[r]? = some (.map ents ents.size) → (setObj r o).run P w = .ok () (w.putObj r o) := by
  intro w r ents o hh; simp [setObj, Sem.run, hh, World.putObj]
 rcases hK with ⟨pre, v0, post, he, hpre, hpost, hK⟩ | ⟨hno, hK⟩
 ·refine core _ hK fun g a w hg hck hcv l ents idx hi hh hp hb' hd hm => ?_
  obtain ⟨r, f1, _, f3⟩ := find_told hs hck o1 hp hd o2
  obtain ⟨j, en, rfl, h1, h2, h3, ipre, ipost, e2, h6, h7⟩ := f3 pre v0 post he hpre hpost
  have hch := checkKey_run 8 kt sh hs false 10000 (by omega) hck o1
  obtain ⟨kk, w1, hk1, hk2, hk3⟩ := run_keyThatStays (P := P) en.key (a.eval k) w
  have hw1 : w1.heap[l.blk]? = some (.map ents ents.size) := by rcases hk3 with rfl | rfl <;> exact hh
  let ents' := ents.modify j fun e => { e with key := kk, val := a.eval v }
  have hsz : ents'.size = ents.size := by simp [ents']
  refine ⟨w1, ents', idx, hk3, ?_, by rw [hsz]; exact hp, ?_, ?_⟩
  ·have hk1' : (Instr.keyThatStays (((ents[j]?).map (·.key)).getD (a.eval k)) (a.eval k)).run P w = .ok kk w1 := by simpa [h1] using hk1
   rw [hm]
   simp only [Instr.mapUpdate, Sem.run_bind, run_underlying hu, Result.andThen, hgo hh, hch, f1, hk1']
   rw [hso _ hw1, hsz]
  ·intro i e hie
   simp only [ents', Array.getElem?_modify] at hie
   split at hie
   ·rename_i hij
    simp only [Option.map_eq_some_iff] at hie
    obtain ⟨e', h8, rfl⟩ := hie
    exact hb' i e' h8
   ·exact hb' i e hie
  ·have hnd : idx.Nodup := hp.nodup_iff.2 List.nodup_range
   rw [e2] at hnd
   have hne : ∀ i ∈ ipre ++ ipost, i ≠ j := by
    intro i hi' e
    subst e
    rw [List.nodup_append] at hnd
    rcases List.mem_append.1 hi' with hi' | hi'
    ·exact hnd.2.2 i hi' i (by simp) rfl
    ·exact (List.nodup_cons.1 hnd.2.1).1 hi'
   have keep : ∀ i ∈ ipre ++ ipost, ∀ e, ents[i]? = some e → ∃ e', ents'[i]? = some e' ∧ e'.key = e.key ∧ e'.val = e.val := by
    intro i hi' e hie
    exact ⟨e, by simp only [ents', Array.getElem?_modify]; rw [if_neg (fun e => hne i hi' e.symm)]; exact hie, rfl, rfl⟩
   rw [e2]
   refine denM_append (denM_ents h6 fun i hi' => keep i (by simp [hi'])) ?_
   simp only [denM]
   refine ⟨j, ipost, { en with key := kk, val := a.eval v }, rfl, ?_, ?_, hcv, denM_ents h7 fun i hi' => keep i (by simp [hi'])⟩
   ·simp [ents', Array.getElem?_modify, h1]
   ·rcases hk2 with rfl | rfl
    ·exact h2
    ·exact hck
 ·refine core _ hK fun g a w hg hck hcv l ents idx hi hh hp hb' hd hm => ?_
  obtain ⟨r, f1, f2, _⟩ := find_told hs hck o1 hp hd o2
  obtain rfl := f2 hno
  have hch := checkKey_run 8 kt sh hs false 10000 (by omega) hck o1
  let ents' := ents.push { key := a.eval k, val := a.eval v, born := ents.size }
  have hsz : ents'.size = ents.size + 1 := by simp [ents']
  refine ⟨w, ents', idx ++ [ents.size], .inl rfl, ?_, ?_, ?_, ?_⟩
  ·rw [hm]
   simp only [Instr.mapUpdate, Sem.run_bind, run_underlying hu, Result.andThen, hgo hh, hch, f1]
   rw [hso _ hh, hsz]
  ·rw [hsz, List.range_succ]
   exact hp.append_right _
  ·intro i e hie
   simp only [ents', Array.getElem?_push] at hie
   split at hie
   ·rename_i hlt
    cases hie
    exact hlt.symm
   ·exact hb' i e hie
  ·have hlt : ∀ i ∈ idx, i < ents.size := fun i hi' => by simpa using hp.mem_iff.1 hi'
   refine denM_append (denM_ents hd fun i hi' e hie => ⟨e, ?_, rfl, rfl⟩) ?_
   ·simp only [ents', Array.getElem?_push]
    rw [if_neg (by have := hlt i hi'; omega)]
    exact hie
   ·simp only [denM]
    exact ⟨ents.size, [], { key := a.eval k, val := a.eval v, born := ents.size }, rfl, by simp [ents'], hck, hcv, rfl⟩
theorem denL_replicate {w : World} {imm D : Nat → Prop} {ι : Env} {s : SV} {v : Value} (h : den w imm s D ι v) : ∀ n, denL w imm (List.replicate n s) D ι (List.replicate n v)
 | 0 => by simp [denL]
 | n + 1 => by
  simp only [List.replicate_succ, denL]
  exact ⟨v, _, rfl, h, denL_replicate h n⟩
theorem ev_mkslice {t e : TypeId} {i : TypeInfo} {z : SV} {l c : Operand} (hu : P.underlying t = some (.slice e)) (hi : P.info? e = some i) (hz : zeroT P e = some z) (hzl : z.cells.length = i.size) (h0 : 0 < i.size)
  (hK : ev σ h nid (.mkslice e i.size i.bytes z (cOpd l) (cOpd c)) K) : EvOK P ⟨dst, .makeSlice t l c, ty, pos, aft, gd⟩ σ h nid K := by
 simp only [ev] at hK
 split at hK
 case h_2 => exact hK.elim
 rename_i kl n kc m el ec
 obtain ⟨hone, hK⟩ : (∀ {w : World} {imm D : Nat → Prop} {ι : Env} {us : List Value}, denL w imm z.cells D ι us → ∀ u ∈ us, u.oneCell' = true) ∧ _ := ⟨fun hd => (onesK_iff hK).2 hd, (onesK_iff (w := default) (imm := fun _ => False) (D := fun _ => False) (ι := fun _ => none) hK).1⟩
 simp only [Ev_iff, Vc_iff] at hK
 obtain ⟨rfl, hn, hb, h63, hK⟩ := hK
 obtain ⟨n, rfl⟩ := Int.eq_ofNat_of_zero_le hn
 simp only [Int.toNat_natCast] at hK
 obtain ⟨i', v, hi', hv, hsv, hnt⟩ := zeroT_spec hz
 rw [hi] at hi'; cases hi'
 refine ⟨_, _, _, hK, ?_, by simp⟩
 intro g a w hg hfr hx hbl
 have hcl := hx l (by simp [Op.operands])
 have hcc := hx c (by simp [Op.operands])
 rw [el] at hcl; rw [ec] at hcc
 simp only [Gh.den, den] at hcl hcc
 have hvd := toSV_den (w := w) (imm := g.imm) (D := g.dom) (ι := g.ι) 8 v z hsv
 have hvc := toSV_cells (w := w) (imm := g.imm) (D := g.dom) (ι := g.ι) hsv hnt
 have hvs : v.cells.size = i.size := by have := denL_len hvc; simp at this; omega
 have hbn : i.bytes * n ≤ 281474976710656 := by
  have : ((i.bytes * n : Nat) : Int) ≤ 281474976710656 := by rw [Int.natCast_mul]; exact hb
  omega
 have hcells : (madeCells v.cells (n * i.size)).toList = (List.replicate n v).flatMap (·.cells.toList) := by
  have h3 := range_mod v.cells n (by omega)
  rw [hvs] at h3
  rw [show (madeCells v.cells (n * i.size)).toList = ((Array.range (n * i.size)).map (v.cells[· % v.cells.size]!)).toList from rfl, hvs, h3]
  simp [List.flatMap]
 have hr := run_make (P := P) w t e i v hu hi hv kl kc (n : Int) (n : Int) (by omega) (Int.le_refl _) hb (by omega)
 simp only [Int.toNat_natCast] at hr
 obtain ⟨g1, g2⟩ := ext_alloc (U := ids [(nid, .arr e i.size (List.replicate n z))]) hg (hfr (nid, .arr e i.size (List.replicate n z)) (by simp) (Nat.le_refl _)) (.cells (madeCells v.cells (n * i.size)) e) n n
 refine ⟨.slice (some ⟨w.heap.size, 0, none⟩) n n, _, _, .inl ?_, g1, g2, ?_, ?_, ?_⟩
 ·simp only [execOp, hcl, hcc, hr, Sem.run_bind, Result.andThen, Sem.run_pure]
 ·simp only [Gh.den, den]
  refine ⟨.inr rfl, ⟨_, _, _, rfl⟩, fun l hl => ?_⟩
  rw [Gh.add_ι_self] at hl
  obtain rfl := Option.some.inj hl
  rfl
 ·intro p hp
  simp at hp
  subst hp
  have hms : (madeCells v.cells (n * i.size)).size = n * i.size := size_madeCells _ _
  refine ⟨_, List.replicate n v, Gh.add_ι_self _ _ _, by simp, g2.denL hg (denL_replicate hvd n), fun u hu' => ?_, ⟨?_, .inr ⟨w.heap.size, n, _, rfl, Nat.zero_le _, heap_alloc_new w _, Nat.le_refl _, ?_, hms, ?_⟩⟩⟩
  ·obtain ⟨_, rfl⟩ := List.mem_replicate.1 hu'
   exact ⟨hvs, hone hvc⟩
  ·rw [← hcells]; simp [hms]
  ·unfold maxLen; omega
  ·rw [← hcells]; exact List.take_of_length_le (by simp [hms])
 ·intro b hb
  rcases hb with hb | hb
  ·exact .inl hb
  ·exact .inr (by simp [ids, hb])
end ops
end Go.TV
/- The value calculus, part R: what the evaluator tells of any operation is so. -/
namespace Go.TV
open Go.RowKit
variable {P : Program} {σ : List SV} {h : List LB} {nid : Nat} {K : EvK} {dst : Option Tmp} {ty : TypeId} {pos : String} {aft : Array Edge} {gd : Option (Nat × Bool)}
theorem ev_sound_call (c : Call) (hK : ev σ h nid (cCall P c) K) : EvOK P ⟨dst, .call c, ty, pos, aft, gd⟩ σ h nid K := by
 obtain ⟨callee, args, ats⟩ := c
 simp only [cCall] at hK
 split at hK
 ·exact hK.elim
 ·exact hK.elim
 ·exact hK.elim
 rename_i b
 split at hK
 ·rename_i x t ea et
  have ea' : args = #[x] := Array.ext' (by simpa using ea)
  have et' : ats = #[t] := Array.ext' (by simpa using et)
  subst ea'; subst et'
  split at hK
  ·rename_i hu; exact ev_lenS hu hK
  ·rename_i hu; exact ev_lenStr hu hK
  ·rename_i hu; exact ev_lenM hu hK
  ·rename_i hu; exact ev_lenA hu hK
  ·exact hK.elim
 ·rename_i x y t u ea et
  have ea' : args = #[x, y] := Array.ext' (by simpa using ea)
  have et' : ats = #[t, u] := Array.ext' (by simpa using et)
  subst ea'; subst et'
  split at hK
  case isFalse => exact hK.elim
  rename_i htu
  subst htu
  split at hK
  case h_2 => exact hK.elim
  rename_i e hu
  split at hK
  case h_2 => exact hK.elim
  rename_i i hi
  split at hK
  case h_2 => exact hK.elim
  rename_i z hz
  split at hK
  case isFalse => exact hK.elim
  rename_i hc
  exact ev_append hu hi hz hc.1 hc.2 hK
 ·rename_i x y t u ea et
  have ea' : args = #[x, y] := Array.ext' (by simpa using ea)
  subst ea'
  have et' : ats = #[t, u] := Array.ext' (by simpa using et)
  subst et'
  split at hK
  case h_2 => exact hK.elim
  rename_i e hu
  split at hK
  case isFalse => exact hK.elim
  rename_i hc
  exact ev_copy hu hc hK
 ·rename_i x y ea
  have ea' : args = #[x, y] := Array.ext' (by simpa using ea)
  subst ea'
  exact ev_minmax (mx := false) hK
 ·rename_i x y ea
  have ea' : args = #[x, y] := Array.ext' (by simpa using ea)
  subst ea'
  exact ev_minmax (mx := true) hK
 ·exact hK.elim
theorem ev_sound_bin {op : BinOp} {t yt : TypeId} {x y : Operand} (hK : ev σ h nid (cBin P op t x y) K) : EvOK P ⟨dst, .binOp op t x y yt, ty, pos, aft, gd⟩ σ h nid K := by
 simp only [cBin] at hK
 split at hK
 ·rename_i k hu
  split at hK
  all_goals first | exact ev_arith hK | exact ev_cmp hK
 ·exact hK.elim
 ·split at hK <;> exact hK.elim
 ·rename_i d hni hns _ hu
  split at hK
  ·exact hK.elim
  rename_i hg
  have h1 : ∀ k, P.underlying t ≠ some (.int k) := fun k e => hni k (by rw [hu] at e; exact Option.some.inj e)
  have h2 : P.underlying t ≠ some .string := fun e => hns (by rw [hu] at e; exact Option.some.inj e)
  split at hK
  ·rename_i sh hs
   exact ev_eqv (.inl ⟨rfl, rfl⟩) hs (by simpa using hg) h1 h2 hK
  ·rename_i sh hs
   exact ev_eqv (.inr ⟨rfl, rfl⟩) hs (by simpa using hg) h1 h2 hK
  ·exact hK.elim
 ·exact hK.elim
theorem ev_sound (o : Oper) (hK : ev σ h nid (cOp P o.op) K) : EvOK P o σ h nid K := by
 obtain ⟨dst, op, ty, pos, aft, gd⟩ := o
 simp only at hK
 cases op <;> simp only [cOp] at hK
 case move x => exact ev_move hK
 case assign x => exact ev_assign hK
 case pick c a b => exact ev_pick hK
 case alloc t =>
  split at hK
  ·rename_i z hz; exact ev_alloc hz hK
  ·exact hK.elim
 case box t x => exact ev_box hK
 case build t parts =>
  split at hK
  ·rename_i z fs hz hu
   split at hK
   case isFalse => exact hK.elim
   rename_i hall
   split at hK
   ·rename_i r hr
    exact ev_build_st hz hu (fun f hf => by
     have := List.all_eq_true.1 hall f hf
     exact Option.isSome_iff_exists.1 this) hr hK
   ·exact hK.elim
  ·rename_i z n e hz hu
   split at hK
   ·rename_i s hs
    split at hK
    ·rename_i r hr
     exact ev_build_arr hz hu hs hr hK
    ·exact hK.elim
   ·exact hK.elim
  ·exact hK.elim
 case buildSlice t n parts =>
  split at hK
  ·rename_i e hu
   split at hK
   ·rename_i b s z hb hs hz
    split at hK
    case isFalse => exact hK.elim
    rename_i hc
    split at hK
    ·rename_i r hr
     exact ev_bslice hu hb hs hz hc.1 hc.2.1 hc.2.2.1 hc.2.2.2 hr hK
    ·exact hK.elim
   ·exact hK.elim
  ·exact hK.elim
 case mapEntry t x k =>
  split at hK
  ·split at hK <;> exact hK.elim
  ·exact hK.elim
 case entryStore t x s v => exact hK.elim
 case insert t m k v =>
  split at hK
  ·rename_i kt et hu
   split at hK
   ·rename_i sh hs; exact ev_mapUpd (.inr rfl) hu hs hK
   ·exact hK.elim
  ·exact hK.elim
 case load t x =>
  split at hK
  ·rename_i b s hb hs; exact ev_load hb hs hK
  ·exact hK.elim
 case store t x v =>
  split at hK
  ·rename_i s hs; exact ev_store hs hK
  ·exact hK.elim
 case nilCheck x => exact ev_nilck hK
 case binOp op t x y yt => exact ev_sound_bin hK
 case unOp op t x =>
  cases op <;> simp only at hK <;> first | exact ev_not hK | exact ev_neg hK | exact hK.elim
 case convert src dt x =>
  split at hK
  ·rename_i ks k h1 h2; exact ev_conv h1 h2 hK
  ·exact hK.elim
 case makeInterface t x =>
  split at hK
  ·rename_i hc; exact ev_mkiface hc (by simp only [ev, forceK_iff, eqK_iff, posK_iff, outK_iff, shK_iff, Ev_iff, Vc_iff] at hK; exact hK)
  ·exact hK.elim
 case makeFunc fn first caps =>
  cases fn <;> first | exact ev_mkfn hK | exact hK.elim
 case makeMap t r =>
  cases r with
  | none => exact ev_mkmap hK
  | some r => exact hK.elim
 case makeSlice t l c =>
  split at hK
  ·rename_i e hu
   split at hK
   ·rename_i i z hi hz
    split at hK
    case isFalse => exact hK.elim
    rename_i hc
    exact ev_mkslice hu hi hz hc.1 hc.2 hK
   ·exact hK.elim
  ·exact hK.elim
 case slice t x lo hi mx =>
  cases mx with
  | some m => exact hK.elim
  | none =>
   dsimp only at hK
   split at hK
   ·rename_i e hu
    split at hK
    ·rename_i s hs; exact ev_slice hu hs hK
    ·exact hK.elim
   ·rename_i n e hu
    split at hK
    ·rename_i s hs; exact ev_sliceA hu hs hK
    ·exact hK.elim
   ·exact hK.elim
 case fieldAddr s x f =>
  split at hK
  ·rename_i fs hu
   split at hK
   ·rename_i off n hf
    split at hK
    ·exact hK.elim
    ·rename_i hn; exact ev_faddr hu hf hn hK
   ·exact hK.elim
  ·exact hK.elim
 case field s x f =>
  split at hK
  ·rename_i fs hu
   split at hK
   ·rename_i fd hf
    split at hK
    ·rename_i b n hb hs; exact ev_field hu hf hb hs hK
    ·exact hK.elim
   ·exact hK.elim
  ·exact hK.elim
 case indexAddr t x i =>
  split at hK
  ·rename_i e hu
   split at hK
   ·rename_i s hs; exact ev_idxS hu hs hK
   ·exact hK.elim
  ·rename_i n e hu
   split at hK
   ·rename_i s hs; exact ev_idxA hu hs hK
   ·exact hK.elim
  ·exact hK.elim
 case index t x i =>
  split at hK
  ·rename_i n e hu
   split at hK
   ·rename_i b s hb hs; exact ev_idxV hu hb hs hK
   ·exact hK.elim
  ·exact hK.elim
  ·exact hK.elim
 case lookup t x k ok =>
  split at hK
  ·rename_i kt et hu
   split at hK
   ·rename_i z sh hz hs; exact ev_lookup hu hz hs hK
   ·exact hK.elim
  ·exact hK.elim
 case mapUpdate t m k v =>
  split at hK
  ·rename_i kt et hu
   split at hK
   ·rename_i sh hs; exact ev_mapUpd (.inl rfl) hu hs hK
   ·exact hK.elim
  ·exact hK.elim
 case range t x =>
  split at hK
  ·rename_i kt et hu; exact ev_range hu hK
  ·exact hK.elim
 case next x b =>
  cases b <;> exact hK.elim
 case entry x => exact ev_entry hK
 case extract x i => exact ev_extract hK
 case call c => exact ev_sound_call c hK
 all_goals exact hK.elim
end Go.TV
/- The value calculus, part S: states, and regions carried out in the order of their text. -/
namespace Go.TV
open Go.RowKit
structure St where
 σ : List SV
 h : List LB
 mks : List Nat
def markOf (r : Nat) : Deferred := { target := .collected r, args := #[] }
def dfden (g : Gh) (w : World) (ds : List Deferred) : Prop := ∃ rs : List Nat, ds = rs.map markOf ∧ rs.Nodup ∧ ∀ r ∈ rs, g.flr ≤ r ∧ w.heap[r]? = some (.deferred (some [])) ∧ (∀ b l, g.ι b = some l → l.blk ≠ r) ∧ ¬ g.hd r ∧ ¬ g.imm r
structure Sim (P : Program) (g : Gh) (S : St) (a : Act) (w : World) : Prop where
 ok : GOk g w
 lt : ∀ b, g.dom b → b < S.h.length
 tm : g.denL w S.σ a.tmps.toList
 hp : ∀ b, lbden P w g b (hget S.h b)
 df : dfden g w a.defers
def Fn (ro : Option Nat) : Fence := { Fence.wide with round := ro }
structure Fr where
 lp : Option Nat
 base : Nat
 opn : Bool
 pan : Value → St → Prop
def frm (lp : Option Nat) (base : Nat) (opn : Bool) : Fr := ⟨lp, base, opn, fun _ _ => False⟩
def panE (v : Value) : List PanicEntry := [{ v, recovered := false }]
def roOK (g : Gh) (r : Fr) (ro : Option Nat) : Prop :=
 (r.opn = false → g.hid = none) ∧ match r.lp with
 | none => ro = none
 | some b => b < r.base ∧ g.dom b ∧ ∃ q, ro = some q ∧ ∀ l, g.ι b = some l → q = l.blk
structure Exw (B : Nat) (g : Gh) (w : World) (g' : Gh) (w' : World) : Prop where
 os : w'.os = w.os
 tape : w'.tape = w.tape
 output : w'.output = w.output
 size : w.heap.size ≤ w'.heap.size
 dom : ∀ b, b < B → g.dom b → g'.dom b
 ι : ∀ b, b < B → g.dom b → (g'.ι b = g.ι b ∨ g'.ι b = none)
 imm : ∀ r, g.imm r → g'.imm r
 hno : g.hid = none → g'.hid = none
 flr : g'.flr = g.flr
 newhid : ∀ r, g'.hd r → g.hd r ∨ w.heap.size ≤ r
 old : ∀ r, r < w.heap.size → ¬ g.hd r → (∀ b l, g.ι b = some l → l.blk ≠ r) → w'.heap[r]? = w.heap[r]?
 newι : ∀ b l, g'.ι b = some l → w.heap.size ≤ l.blk ∨ ∃ b0 l0, g.ι b0 = some l0 ∧ l0.blk = l.blk
 newimm : ∀ r, g'.imm r → g.imm r ∨ w.heap.size ≤ r ∨ (∃ b l, g.ι b = some l ∧ l.blk = r) ∨ g.hd r
section
variable {P : Program} {g g' g'' : Gh} {w w' w'' : World} {U : Nat → Prop}
theorem Ext.exw (h : Ext g w g' w' U) (B : Nat) : Exw B g w g' w' :=
 ⟨h.os, h.tape, h.output, h.size, fun b _ => h.dom b, fun b _ hb => (h.ι b hb).2, h.imm, fun hn => h.hid.trans hn, h.flr, fun r hr => .inl ((Gh.hd_of h.hid).1 hr), fun r hr _ hn => h.old r hr fun b l _ => hn b l,
  fun b l hl => (h.newι b l hl).elim (fun h => .inr ⟨b, l, h, rfl⟩) (Or.imp id fun ⟨b0, l0, _, h1, h2⟩ => ⟨b0, l0, h1, h2⟩),
  fun r hr => (h.newimm r hr).imp id (Or.imp id fun ⟨b, l, _, h1, h2⟩ => .inl ⟨b, l, h1, h2⟩)⟩
theorem Exw.refl (B : Nat) (g : Gh) (w : World) : Exw B g w g w := (Ext.refl g w All).exw B
theorem Exw.trans {B : Nat} (h : Exw B g w g' w') (k : Exw B g' w' g'' w'') : Exw B g w g'' w'' := by
 refine ⟨k.os.trans h.os, k.tape.trans h.tape, k.output.trans h.output, Nat.le_trans h.size k.size, fun b hB hb => k.dom b hB (h.dom b hB hb), fun b hB hb => ?_,
  fun r hr => k.imm r (h.imm r hr), fun hn => k.hno (h.hno hn), k.flr.trans h.flr, fun r hr => ?_, fun r hr hh hn => ?_, fun b l hl => ?_, fun r hr => ?_⟩
 ·rcases k.ι b hB (h.dom b hB hb) with e | e
  ·rw [e]; exact h.ι b hB hb
  ·exact .inr e
 ·rcases k.newhid r hr with q | q
  ·exact h.newhid r q
  ·exact .inr (Nat.le_trans h.size q)
 ·rw [k.old r (Nat.lt_of_lt_of_le hr h.size) ?_ ?_, h.old r hr hh hn]
  ·intro q
   rcases h.newhid r q with q | q
   ·exact hh q
   ·omega
  intro b l hl e
  rcases h.newι b l hl with h1 | ⟨b0, l0, h1, h2⟩
  ·omega
  ·exact hn b0 l0 h1 (h2.trans e)
 ·rcases k.newι b l hl with h1 | ⟨b0, l0, h1, h2⟩
  ·exact .inl (Nat.le_trans h.size h1)
  ·rcases h.newι b0 l0 h1 with h3 | ⟨b1, l1, h3, h4⟩
   ·exact .inl (h2 ▸ h3)
   ·exact .inr ⟨b1, l1, h3, h4.trans h2⟩
 ·rcases k.newimm r hr with h1 | h1 | ⟨b0, l0, h1, h2⟩ | h1
  ·exact h.newimm r h1
  ·exact .inr (.inl (Nat.le_trans h.size h1))
  ·rcases h.newι b0 l0 h1 with h3 | ⟨b1, l1, h3, h4⟩
   ·exact .inr (.inl (h2 ▸ h3))
   ·exact .inr (.inr (.inl ⟨b1, l1, h3, h4.trans h2⟩))
  ·rcases h.newhid r h1 with q | q
   ·exact .inr (.inr (.inr q))
   ·exact .inr (.inl q)
theorem Exw.df {B : Nat} (h : Exw B g w g' w') {ds : List Deferred} (hd : dfden g w ds) : dfden g' w' ds := by
 obtain ⟨rs, h1, h2, h3⟩ := hd
 refine ⟨rs, h1, h2, fun r hr => ?_⟩
 obtain ⟨k1, k2, k3, k4, k5⟩ := h3 r hr
 have hlt : r < w.heap.size := (Array.getElem?_eq_some_iff.1 k2).1
 refine ⟨by rw [h.flr]; exact k1, (h.old r hlt k4 fun b l hl => k3 b l hl).trans k2, fun b l hl e => ?_, fun hh => ?_, fun hh => ?_⟩
 ·rcases h.newι b l hl with q | ⟨b0, l0, q1, q2⟩
  ·omega
  ·exact k3 b0 l0 q1 (q2.trans e)
 ·rcases h.newhid r hh with q | q
  ·exact k4 q
  ·omega
 ·rcases h.newimm r hh with q | q | ⟨b, l, q1, q2⟩ | q
  ·exact k5 q
  ·omega
  ·exact k3 b l q1 q2
  ·exact k4 q
theorem Ext.df (h : Ext g w g' w' U) {ds : List Deferred} (hd : dfden g w ds) : dfden g' w' ds := (h.exw 0).df hd
theorem Exw.ext {B : Nat} (h : Exw B g w g' w') (hB : ∀ b, g.dom b → b < B) (hno : g.hid = none) : Ext g w g' w' All :=
 ⟨h.os, h.tape, h.output, h.size, fun b hb => h.dom b (hB b hb) hb, fun b hb => ⟨fun hn => (hn trivial).elim, h.ι b (hB b hb) hb⟩, h.imm, (h.hno hno).trans hno.symm, h.flr,
  fun r hr hn => h.old r hr (fun ⟨H, e, _⟩ => by rw [hno] at e; cases e) fun b l hl => hn b l trivial hl,
  fun b l hl => .inr ((h.newι b l hl).imp id fun ⟨b0, l0, h1, h2⟩ => ⟨b0, l0, trivial, h1, h2⟩),
  fun r hr => (h.newimm r hr).imp id (Or.imp id fun q => q.elim (fun ⟨b, l, h1, h2⟩ => ⟨b, l, trivial, h1, h2⟩) fun ⟨H, e, _⟩ => by rw [hno] at e; cases e)⟩
theorem Exw.ro {r : Fr} {ro : Option Nat} (h : Exw r.base g w g' w') (hr : roOK g r ro) : roOK g' r ro := by
 unfold roOK at hr ⊢
 obtain ⟨hr0, hr⟩ := hr
 refine ⟨fun q => h.hno (hr0 q), ?_⟩
 cases hlp : r.lp with
 | none => rw [hlp] at hr; exact hr
 | some b =>
  rw [hlp] at hr
  obtain ⟨h0, h1, q, h2, h3⟩ := hr
  refine ⟨h0, h.dom b h0 h1, q, h2, fun l hl => h3 l ?_⟩
  rcases h.ι b h0 h1 with e | e
  ·exact e ▸ hl
  ·rw [e] at hl; cases hl
theorem Ext.ro (h : Ext g w g' w' U) {r : Fr} {ro : Option Nat} (hr : roOK g r ro) : roOK g' r ro := (h.exw r.base).ro hr
end
def PanOK (P : Program) (r : Fr) (g : Gh) (w : World) (Q : Exit → Act → World → Prop) : Prop := ∀ v S' g' a' w', r.pan v S' → Sim P g' S' a' w' → Exw r.base g w g' w' → Q (.panic (panE v)) a' w'
theorem PanOK.trans {P : Program} {r : Fr} {g g' : Gh} {w w' : World} {Q : Exit → Act → World → Prop} (h : PanOK P r g w Q) (e : Exw r.base g w g' w') : PanOK P r g' w' Q := fun v S' g'' a' w'' h1 h2 h3 => h v S' g'' a' w'' h1 h2 (e.trans h3)
theorem PanOK.as {P : Program} {r : Fr} {g : Gh} {w : World} {Q Q' : Exit → Act → World → Prop} (h : PanOK P r g w Q) (hq : ∀ c a w, Q (.panic c) a w → Q' (.panic c) a w) : PanOK P r g w Q' := fun v S' g' a' w' h1 h2 h3 => hq _ _ _ (h v S' g' a' w' h1 h2 h3)
theorem PanOK.frm {P : Program} {lp : Option Nat} {n : Nat} {o : Bool} {g : Gh} {w : World} {Q : Exit → Act → World → Prop} : PanOK P (frm lp n o) g w Q := fun _ _ _ _ _ h => h.elim
def updGo : List LB → Nat → LB → (List LB → Prop) → Prop
 | [], 0, lb, k => k [lb]
 | [], _ + 1, _, _ => False
 | _ :: h, 0, lb, k => k (lb :: h)
 | x :: h, n + 1, lb, k => updGo h n lb fun r => k (x :: r)
def updK : List LB → List (Nat × LB) → (List LB → Prop) → Prop
 | h, [], k => k h
 | h, (b, lb) :: us, k => updGo h b lb fun h' => updK h' us k
theorem updGo_spec : ∀ {h : List LB} {b : Nat} {lb : LB} {k : List LB → Prop}, updGo h b lb k →
  ∃ h', k h' ∧ h.length ≤ h'.length ∧ b < h'.length ∧ hget h' b = lb ∧ ∀ c, c ≠ b → hget h' c = hget h c
 | [], 0, lb, k, hk => ⟨[lb], hk, by simp, by simp, rfl, fun c hc => by cases c with | zero => exact absurd rfl hc | succ c => simp [hget]⟩
 | x :: h, 0, lb, k, hk => ⟨lb :: h, hk, by simp, by simp, rfl, fun c hc => by cases c with | zero => exact absurd rfl hc | succ c => simp [hget]⟩
 | x :: h, n + 1, lb, k, hk => by
  obtain ⟨h', h1, h2, h3, h4, h5⟩ := updGo_spec (h := h) hk
  refine ⟨x :: h', h1, by simpa using h2, by simpa using h3, h4, fun c hc => ?_⟩
  cases c with
  | zero => rfl
  | succ c => exact h5 c (by omega)
theorem updK_spec : ∀ {us : List (Nat × LB)} {h : List LB} {k : List LB → Prop}, updK h us k →
  ∃ h', k h' ∧ h.length ≤ h'.length ∧ (∀ p ∈ us, p.1 < h'.length) ∧ ∀ c, (∃ p ∈ us, p.1 = c ∧ hget h' c = p.2) ∨ ((∀ p ∈ us, p.1 ≠ c) ∧ hget h' c = hget h c)
 | [], h, k, hk => ⟨h, hk, Nat.le_refl _, by simp, fun c => .inr ⟨by simp, rfl⟩⟩
 | (b, lb) :: us, h, k, hk => by
  obtain ⟨h1, k1, l1, l2, e1, e2⟩ := updGo_spec hk
  obtain ⟨h2, k2, l3, l4, e3⟩ := updK_spec (us := us) k1
  refine ⟨h2, k2, by omega, ?_, fun c => ?_⟩
  ·intro p hp
   rcases List.mem_cons.1 hp with rfl | hp
   ·simp only; omega
   ·exact l4 p hp
  ·rcases e3 c with ⟨p, hp, hpc, hh⟩ | ⟨hno, hh⟩
   ·exact .inl ⟨p, by simp [hp], hpc, hh⟩
   ·by_cases hc : c = b
    ·subst hc
     exact .inl ⟨(c, lb), by simp, rfl, by rw [hh, e1]⟩
    ·refine .inr ⟨fun p hp => ?_, by rw [hh, e2 c hc]⟩
     rcases List.mem_cons.1 hp with rfl | hp
     ·exact fun e => hc e.symm
     ·exact hno p hp
def setD (σ : List SV) (d : Option Nat) (s : SV) (k : List SV → Prop) : Prop :=
 match d with
 | none => k σ
 | some n => forceK s fun s => setK σ n s k
theorem put_tm {g : Gh} {w : World} {σ : List SV} {a : Act} {d : Option Nat} {s : SV} {v : Value} {k : List SV → Prop} (hk : setD σ d s k) (h : g.denL w σ a.tmps.toList) (hv : g.den w s v) :
  ∃ σ', k σ' ∧ g.denL w σ' (a.put d v).tmps.toList := by
 cases d with
 | none => exact ⟨σ, hk, h⟩
 | some n =>
  simp only [setD, forceK_iff] at hk
  refine ⟨_, (setK_iff σ n s k).1 hk, ?_⟩
  have := denL_set (n := n) h hv
  simpa [Act.put] using this
theorem Sim.rest {P : Program} {g g' : Gh} {w w' : World} {S : St} {a : Act} {upd : List (Nat × LB)} (hs : Sim P g S a w) (he : Ext g w g' w' (ids upd))
  (hsafe : ∀ p ∈ upd, S.h.length ≤ p.1 ∨ Safe S.h p.1) (c : Nat) (hc : ∀ p ∈ upd, p.1 ≠ c) : lbden P w' g' c (hget S.h c) := by
 refine he.lb hs.ok (fun h => ?_) (fun d hd h => ?_) (hs.hp c)
 ·obtain ⟨p, hp, e⟩ := List.mem_map.1 h
  exact hc p hp e
 ·obtain ⟨p, hp, rfl⟩ := List.mem_map.1 h
  have hcd := hs.hp c
  cases hlb : hget S.h c with
  | iter src left cur =>
   rw [hlb] at hd hcd
   cases src <;> simp only [LB.deps, List.mem_singleton] at hd <;> try (cases hd; done)
   rename_i mb
   subst hd
   obtain ⟨l, m, seen, ents, idx, h1, h2, h3, h4, _⟩ := hcd
   rcases h3 with ⟨mb', lm, e, h3, rfl⟩ | ⟨⟨es, e⟩, _⟩
   ·cases e
    rcases hsafe p hp with hlt | hsf
    ·have := hs.lt _ (hs.ok.own _ _ h3).1
     omega
    ·have hpd := hs.hp p.1
     unfold Safe at hsf
     cases hlp : hget S.h p.1 with
     | dead => rw [hlp] at hsf; exact hsf
     | tok Φ => rw [hlp] at hsf; exact hsf.elim
     | tokp m ls Φ => rw [hlp] at hsf; exact hsf.elim
     | map es =>
      rw [hlp] at hsf
      have := hsf c
      rw [hlb] at this
      simp [LB.deps] at this
     | cells cs =>
      rw [hlp] at hpd
      obtain ⟨l', vs, t, k1, k2, _⟩ := hpd
      rw [h3] at k1; cases k1
      rw [h4] at k2; cases k2
     | arr e sz es =>
      rw [hlp] at hpd
      obtain ⟨l', vs, k1, k2, k3, k4, k5⟩ := hpd
      rw [h3] at k1; cases k1
      obtain ⟨_, k6⟩ := k5
      rcases k6 with ⟨k6, _⟩ | ⟨r, cp, cur, k6, _, k7, _⟩
      ·cases k6
      ·have : r = lm.blk := by cases k6; rfl
       rw [this, h4] at k7; cases k7
     | iter src' left' cur' =>
      rw [hlp] at hpd
      obtain ⟨l', m', seen', ents', idx', k1, k2, _⟩ := hpd
      rw [h3] at k1; cases k1
      rw [h4] at k2; cases k2
     | loop st pend σ' ps as bd =>
      rw [hlp] at hpd
      obtain ⟨l', fn, tmps, ac, bc, d, k1, k2, _⟩ := hpd
      rw [h3] at k1; cases k1
      rw [h4] at k2; cases k2
     | dcol =>
      rw [hlp] at hpd
      obtain ⟨l', k1, k2⟩ := hpd
      rw [h3] at k1; cases k1
      rw [h4] at k2; cases k2
   ·cases e
  | _ => rw [hlb] at hd; simp [LB.deps] at hd
theorem Sim.step {P : Program} {g : Gh} {w : World} {σ : List SV} {h : List LB} {mk : List Nat} {a : Act} {o : Oper} {sv : SV} {upd : List (Nat × LB)} {nb : List Nat} {K : St → Prop}
  (hs : Sim P g ⟨σ, h, mk⟩ a w) (hr : LRun P o σ h h.length sv upd nb) (hnb : ∀ p ∈ upd, p.1 = h.length ∨ (p.1 ∈ nb ∧ Safe h p.1))
  (hK : setD σ o.dst sv fun σ' => updK h upd fun h' => K ⟨σ', h', mk⟩) :
  ∃ (v : Value) (w' : World) (g' : Gh) (S' : St), ((execOp a.eval o).run P w = .ok (.value v) w' ∨ ((execOp a.eval o).run P w = .ok .skip w' ∧ v = undef)) ∧
   Sim P g' S' (a.put o.dst v) w' ∧ Ext g w g' w' All ∧ K S' := by
 have hx : ∀ x ∈ o.op.operands.toList, g.den w (gv σ (cOpd x)) (a.eval x) := by
  intro x _
  cases x with
  | tmp t => exact (by have := getS_den hs.tm t; simpa [gv, cOpd, Act.eval] using this)
  | const v =>
   simp only [cOpd, gv, Act.eval, Gh.den]
   cases hv : toSV 8 v with
   | none => simp only [Option.getD_none, den]
   | some s => simpa using toSV_den 8 v s hv
  | global n => simp only [cOpd, gv, Gh.den, den]
  | func f => simp only [cOpd, gv, Act.eval, Gh.den, den]; exact ⟨[], [], rfl, by simp only [denL], by simp only [denL]⟩
 obtain ⟨v, w', g', h1, h2, h3, h4, h5, h6⟩ := hr g a w hs.ok (fun p hp hle hd => by have := hs.lt _ hd; simp at this; omega) hx (fun b _ => hs.hp b)
 obtain ⟨σ', hk, htm⟩ := put_tm hK (h3.denL hs.ok hs.tm) h4
 obtain ⟨h', hk', hlen, hlt, hget'⟩ := updK_spec hk
 refine ⟨v, w', g', ⟨σ', h', mk⟩, h1, ⟨h2, fun b hb => ?_, htm, fun c => ?_, ?_⟩, h3.more fun _ _ => trivial, hk'⟩
 ·rcases h6 b hb with hb | hb
  ·exact Nat.lt_of_lt_of_le (hs.lt b hb) hlen
  ·obtain ⟨p, hp, rfl⟩ := List.mem_map.1 hb
   exact hlt p hp
 ·rcases hget' c with ⟨p, hp, rfl, e⟩ | ⟨hno, e⟩
  ·simp only at e ⊢
   rw [e]; exact h5 p hp
  ·simp only at e ⊢
   rw [e]
   exact hs.rest h3 (fun p hp => (hnb p hp).imp (fun e => by rw [e]; exact Nat.le_refl _) (·.2)) c hno
 ·have : (a.put o.dst v).defers = a.defers := by cases o.dst <;> rfl
  rw [this]
  exact h3.df hs.df
end Go.TV
/- The value calculus, part T: regions that are carried out in the order of their text. -/
namespace Go.TV
open Go.RowKit
def guardK (σ : List SV) (g : Option (Nat × Bool)) (k : Bool → Prop) : Prop :=
 match g with
 | none => k true
 | some (s, want) => match getS σ s with
  | .bool b => match b, want with
   | true, true => k true
   | true, false => k false
   | false, true => k false
   | false, false => k true
  | .tup _ => k false
  | _ => False
def isStop : TOp → Bool
 | .call _ _ => true
 | .callv _ _ => true
 | .next _ => true
 | .isnil _ _ => true
 | _ => false
def lenK2 : List LB → (Nat → Prop) → Prop
 | [], k => k 30
 | [_], k => k 31
 | [_, _], k => k 32
 | [_, _, _], k => k 33
 | [_, _, _, _], k => k 34
 | [_, _, _, _, _], k => k 35
 | [_, _, _, _, _, _], k => k 36
 | [_, _, _, _, _, _, _], k => k 37
 | [_, _, _, _, _, _, _, _], k => k 38
 | [_, _, _, _, _, _, _, _, _], k => k 39
 | [_, _, _, _, _, _, _, _, _, _], k => k 40
 | [_, _, _, _, _, _, _, _, _, _, _], k => k 41
 | [_, _, _, _, _, _, _, _, _, _, _, _], k => k 42
 | [_, _, _, _, _, _, _, _, _, _, _, _, _], k => k 43
 | [_, _, _, _, _, _, _, _, _, _, _, _, _, _], k => k 44
 | [_, _, _, _, _, _, _, _, _, _, _, _, _, _, _], k => k 45
 | [_, _, _, _, _, _, _, _, _, _, _, _, _, _, _, _], k => k 46
 | [_, _, _, _, _, _, _, _, _, _, _, _, _, _, _, _, _], k => k 47
 | [_, _, _, _, _, _, _, _, _, _, _, _, _, _, _, _, _, _], k => k 48
 | [_, _, _, _, _, _, _, _, _, _, _, _, _, _, _, _, _, _, _], k => k 49
 | [_, _, _, _, _, _, _, _, _, _, _, _, _, _, _, _, _, _, _, _], k => k 50
 | [_, _, _, _, _, _, _, _, _, _, _, _, _, _, _, _, _, _, _, _, _], k => k 51
 | [_, _, _, _, _, _, _, _, _, _, _, _, _, _, _, _, _, _, _, _, _, _], k => k 52
 | [_, _, _, _, _, _, _, _, _, _, _, _, _, _, _, _, _, _, _, _, _, _, _], k => k 53
 | [_, _, _, _, _, _, _, _, _, _, _, _, _, _, _, _, _, _, _, _, _, _, _, _], k => k 54
 | [_, _, _, _, _, _, _, _, _, _, _, _, _, _, _, _, _, _, _, _, _, _, _, _, _], k => k 55
 | [_, _, _, _, _, _, _, _, _, _, _, _, _, _, _, _, _, _, _, _, _, _, _, _, _, _], k => k 56
 | [_, _, _, _, _, _, _, _, _, _, _, _, _, _, _, _, _, _, _, _, _, _, _, _, _, _, _], k => k 57
 | [_, _, _, _, _, _, _, _, _, _, _, _, _, _, _, _, _, _, _, _, _, _, _, _, _, _, _, _], k => k 58
 | [_, _, _, _, _, _, _, _, _, _, _, _, _, _, _, _, _, _, _, _, _, _, _, _, _, _, _, _, _], k => k 59
 | h, k => k (h.length + 30)
def lenK : List LB → (Nat → Prop) → Prop
 | [], k => k 0
 | [_], k => k 1
 | [_, _], k => k 2
 | [_, _, _], k => k 3
 | [_, _, _, _], k => k 4
 | [_, _, _, _, _], k => k 5
 | [_, _, _, _, _, _], k => k 6
 | [_, _, _, _, _, _, _], k => k 7
 | [_, _, _, _, _, _, _, _], k => k 8
 | [_, _, _, _, _, _, _, _, _], k => k 9
 | [_, _, _, _, _, _, _, _, _, _], k => k 10
 | [_, _, _, _, _, _, _, _, _, _, _], k => k 11
 | [_, _, _, _, _, _, _, _, _, _, _, _], k => k 12
 | [_, _, _, _, _, _, _, _, _, _, _, _, _], k => k 13
 | [_, _, _, _, _, _, _, _, _, _, _, _, _, _], k => k 14
 | [_, _, _, _, _, _, _, _, _, _, _, _, _, _, _], k => k 15
 | [_, _, _, _, _, _, _, _, _, _, _, _, _, _, _, _], k => k 16
 | [_, _, _, _, _, _, _, _, _, _, _, _, _, _, _, _, _], k => k 17
 | [_, _, _, _, _, _, _, _, _, _, _, _, _, _, _, _, _, _], k => k 18
 | [_, _, _, _, _, _, _, _, _, _, _, _, _, _, _, _, _, _, _], k => k 19
 | [_, _, _, _, _, _, _, _, _, _, _, _, _, _, _, _, _, _, _, _], k => k 20
 | [_, _, _, _, _, _, _, _, _, _, _, _, _, _, _, _, _, _, _, _, _], k => k 21
 | [_, _, _, _, _, _, _, _, _, _, _, _, _, _, _, _, _, _, _, _, _, _], k => k 22
 | [_, _, _, _, _, _, _, _, _, _, _, _, _, _, _, _, _, _, _, _, _, _, _], k => k 23
 | [_, _, _, _, _, _, _, _, _, _, _, _, _, _, _, _, _, _, _, _, _, _, _, _], k => k 24
 | [_, _, _, _, _, _, _, _, _, _, _, _, _, _, _, _, _, _, _, _, _, _, _, _, _], k => k 25
 | [_, _, _, _, _, _, _, _, _, _, _, _, _, _, _, _, _, _, _, _, _, _, _, _, _, _], k => k 26
 | [_, _, _, _, _, _, _, _, _, _, _, _, _, _, _, _, _, _, _, _, _, _, _, _, _, _, _], k => k 27
 | [_, _, _, _, _, _, _, _, _, _, _, _, _, _, _, _, _, _, _, _, _, _, _, _, _, _, _, _], k => k 28
 | [_, _, _, _, _, _, _, _, _, _, _, _, _, _, _, _, _, _, _, _, _, _, _, _, _, _, _, _, _], k => k 29
 | _ :: _ :: _ :: _ :: _ :: _ :: _ :: _ :: _ :: _ :: _ :: _ :: _ :: _ :: _ :: _ :: _ :: _ :: _ :: _ :: _ :: _ :: _ :: _ :: _ :: _ :: _ :: _ :: _ :: _ :: h, k => lenK2 h k
theorem lenK2_iff : ∀ (h : List LB) (k : Nat → Prop), lenK2 h k → k (h.length + 30) := by
 intro h k hk
 unfold lenK2 at hk
 split at hk <;> first | exact hk | simpa using hk
theorem lenK_iff : ∀ (h : List LB) (k : Nat → Prop), lenK h k → k h.length := by
 intro h k hk
 unfold lenK at hk
 split at hk <;> first | exact hk | exact lenK2_iff _ _ hk | simpa using hk
def TS (P : Program) (r : Fr) (ts : List TOper) (S : St) (K : St → Prop) : Prop :=
 P.follows .mixedOrders = true → ∀ (A : Array Oper) (i : Nat) (g : Gh) (a : Act) (w : World) (ro : Option Nat) (Q : Exit → Act → World → Prop), ts <+: (A.toList.map (cOper P A false)).drop i → Sim P g S a w → roOK g r ro →
  (∀ S' g' a' w', K S' → Sim P g' S' a' w' → Exw r.base g w g' w' → Q .normal a' w') → PanOK P r g w Q → wpOpsIn (Fn ro) 0 P A Q (List.range' i ts.length) a w
@[irreducible] def TSq (P : Program) (r : Fr) (ts : List TOper) (S : St) (K : St → Prop) : Prop := TS P r ts S K
theorem TSq_iff {P : Program} {r : Fr} {ts : List TOper} {S : St} {K : St → Prop} : TSq P r ts S K ↔ TS P r ts S K := by
 unfold TSq; exact Iff.rfl
def evRn (S : St) (K : St → Prop) : Prop := K S
def evRc (P : Program) (r : Fr) (t : TOper) (ts : List TOper) (ih : St → (St → Prop) → Prop) (S : St) (K : St → Prop) : Prop :=
 match S with
 | ⟨σ, h, mks⟩ => guardK σ t.guard fun b => match b with
  | true => match isStop t.op with
   | true => TSq P r (t :: ts) ⟨σ, h, mks⟩ K
   | false => lenK h fun nid => ev σ h nid t.op fun sv upd _ => setD σ t.dst sv fun σ' => updK h upd fun h' => ih ⟨σ', h', mks⟩ K
  | false => setD σ t.dst (.tup []) fun σ' => ih ⟨σ', h, mks⟩ K
noncomputable def evR (P : Program) (r : Fr) (ts : List TOper) : St → (St → Prop) → Prop :=
 List.rec (motive := fun _ => St → (St → Prop) → Prop) evRn (evRc P r) ts
theorem evR_cons (P : Program) (r : Fr) (t : TOper) (ts : List TOper) (σ : List SV) (h : List LB) (mks : List Nat) (K : St → Prop) : evR P r (t :: ts) ⟨σ, h, mks⟩ K = (guardK σ t.guard fun b => match b with
   | true => match isStop t.op with
    | true => TSq P r (t :: ts) ⟨σ, h, mks⟩ K
    | false => lenK h fun nid => ev σ h nid t.op fun sv upd _ => setD σ t.dst sv fun σ' => updK h upd fun h' => evR P r ts ⟨σ', h', mks⟩ K
   | false => setD σ t.dst (.tup []) fun σ' => evR P r ts ⟨σ', h, mks⟩ K) := rfl
section
variable {P : Program} {r : Fr}
theorem undef_den {w : World} {imm D : Nat → Prop} {ι : Env} : den w imm (.tup []) D ι undef := by
 simp only [den, denL]
 exact ⟨[], rfl, rfl⟩
theorem Fn_about (P : Program) (w : World) (ro : Option Nat) (ρ : Operand → Value) (o : Oper) : ∀ f, o.about P w ρ = some f → (Fn ro).fn f := fun _ _ => trivial
theorem ev_nodefer {o : Oper} {σ : List SV} {h : List LB} {nid : Nat} {K : EvK} (hK : ev σ h nid (cOp P o.op) K) : ∀ c, o.op ≠ .defer c := by
 intro c e
 rw [e] at hK
 exact hK
theorem cOper_cases (P : Program) (A : Array Oper) (d : Bool) (o : Oper) : (cOper P A d o).dst = o.dst ∧
    (((cOper P A d o).op = cOp P o.op ∧ ((o.guard = none ∧ (cOper P A d o).guard = none) ∨
      ∃ j want s, o.guard = some (j, want) ∧ (A[j]?).bind (·.dst) = some s ∧ (cOper P A d o).guard = some (s, want))) ∨
     ((cOper P A d o).op = .bad ∧ (cOper P A d o).guard = none)) := by
  unfold cOper
  cases hg : o.guard with
  | none => exact ⟨rfl, .inl ⟨rfl, .inl ⟨rfl, rfl⟩⟩⟩
  | some jw =>
    obtain ⟨j, want⟩ := jw
    simp only
    cases hs : (A[j]?).bind (·.dst) with
    | none => exact ⟨rfl, .inr ⟨rfl, rfl⟩⟩
    | some s => exact ⟨rfl, .inl ⟨rfl, .inr ⟨j, want, s, rfl, hs, rfl⟩⟩⟩
theorem guard_wanted {A : Array Oper} {d : Bool} {o : Oper} {σ : List SV} {tmps : Array Value} {w : World} {g : Gh} {k : Bool → Prop} (hk : guardK σ (cOper P A d o).guard k)
  (hc : (o.guard = none ∧ (cOper P A d o).guard = none) ∨ ∃ j want s, o.guard = some (j, want) ∧ (A[j]?).bind (·.dst) = some s ∧ (cOper P A d o).guard = some (s, want))
  (ht : ∀ j want s, o.guard = some (j, want) → (A[j]?).bind (·.dst) = some s → g.den w (getS σ s) (tmps.toList.getD s undef)) :
  k (Region.wanted o (yielded A tmps)) := by
 rcases hc with ⟨h1, h2⟩ | ⟨j, want, s, h1, h2, h3⟩
 ·rw [h2] at hk
  simp only [guardK] at hk
  simpa [Region.wanted, h1] using hk
 ·rw [h3] at hk
  simp only [guardK] at hk
  have hd := ht j want s h1 h2
  split at hk
  ·rename_i b hb
   rw [hb] at hd
   simp only [Gh.den, den] at hd
   have hy : yielded A tmps j = some b := by
    unfold yielded
    rw [h2]
    have hlt : s < tmps.size := by
     rcases Nat.lt_or_ge s tmps.size with h | h
     ·exact h
     ·simp [List.getD, Array.getElem?_eq_none h] at hd
      cases hd
    simp [List.getD, hlt] at hd
    simp [hlt, hd]
   have e : Region.wanted o (yielded A tmps) = (some b == some want) := by
    unfold Region.wanted
    simp only [h1, hy]
   rw [e]
   revert hk
   cases b <;> cases want <;> exact fun h => h
  ·rename_i l hb
   rw [hb] at hd
   simp only [Gh.den, den] at hd
   obtain ⟨vs, hd, _⟩ := hd
   have hy : yielded A tmps j = none := by
    unfold yielded
    rw [h2]
    rcases Nat.lt_or_ge s tmps.size with hlt | h
    ·simp [List.getD, hlt] at hd
     simp [hlt, hd]
    ·simp [Array.getElem?_eq_none h]
   have e : Region.wanted o (yielded A tmps) = false := by
    unfold Region.wanted
    simp only [h1, hy]
    rfl
   rw [e]
   exact hk
  ·exact hk.elim
theorem drop_cons {α β : Type} {f : α → β} {l : List α} {i : Nat} {t : β} {ts : List β} (h : t :: ts <+: (l.map f).drop i) : ∃ o, l[i]? = some o ∧ f o = t ∧ ts <+: (l.map f).drop (i + 1) := by
 obtain ⟨post, h⟩ := h
 rw [List.cons_append] at h
 have h0 : (l.map f)[i]? = some t := by
  have := congrArg (·[0]?) h.symm
  simpa using this
 rw [List.getElem?_map, Option.map_eq_some_iff] at h0
 obtain ⟨o, h1, h2⟩ := h0
 refine ⟨o, h1, h2, post, ?_⟩
 rw [← List.drop_drop, ← h]
 rfl
theorem wpOps_cons {A : Array Oper} {i n : Nat} {o : Oper} {a : Act} {w : World} {ro : Option Nat} {Q : Exit → Act → World → Prop} (h1 : A[i]? = some o)
  (hh : if Region.wanted o (yielded A a.tmps) then o.uponIn (Fn ro) 0 P a (wpOpsIn (Fn ro) 0 P A Q (List.range' (i + 1) n)) Q ((o.semAt ro a.eval).run P w)
   else wpOpsIn (Fn ro) 0 P A Q (List.range' (i + 1) n) (a.put o.dst undef) w) : wpOpsIn (Fn ro) 0 P A Q (List.range' i (n + 1)) a w := by
 rw [List.range'_succ]
 simp only [wpOpsIn, h1]
 split
 ·rename_i hw
  rw [if_pos hw] at hh
  exact ⟨Fn_about P w ro a.eval o, hh⟩
 ·rename_i hw
  rw [if_neg hw] at hh
  exact ⟨Fn_about P w ro a.eval o, hh⟩
theorem Sim.skip {g : Gh} {w : World} {S : St} {a : Act} {d : Option Nat} {k : List SV → Prop} (hs : Sim P g S a w) (hK : setD S.σ d (.tup []) k) :
  ∃ σ', k σ' ∧ Sim P g ⟨σ', S.h, S.mks⟩ (a.put d undef) w := by
 obtain ⟨σ', hk, htm⟩ := put_tm hK hs.tm (undef_den (w := w) (imm := g.imm) (D := g.dom) (ι := g.ι))
 refine ⟨σ', hk, hs.ok, hs.lt, htm, hs.hp, ?_⟩
 have : (a.put d undef).defers = a.defers := by cases d <;> rfl
 rw [this]
 exact hs.df
theorem evR_sound : ∀ {ts : List TOper} {S : St} {K : St → Prop}, evR P r ts S K → TS P r ts S K
 | [], S, K, hK => fun _ A i g a w ro Q _ hs _ hq _ => by
  simp only [List.length_nil, List.range'_zero, wpOpsIn]
  exact hq S g a w hK hs (Exw.refl _ g w)
 | t :: ts, ⟨σ, h, mks⟩, K, hK => by
  intro hm A i g a w ro Q hd hs hr hq hp
  obtain ⟨o, hget, e, hdrop⟩ := drop_cons hd
  subst e
  have hget : A[i]? = some o := by simpa using hget
  rw [List.length_cons]
  rw [evR_cons] at hK
  obtain ⟨hdst, hc⟩ := cOper_cases P A false o
  rcases hc with ⟨hop, hgd⟩ | ⟨hbad, hgd⟩
  ·have hK := guard_wanted hK hgd fun _ _ _ _ _ => getS_den hs.tm _
   cases hw : Region.wanted o (yielded A a.tmps) with
   | true =>
    simp only [hw] at hK
    cases hst : isStop (cOper P A false o).op with
    | true =>
     simp only [hst] at hK
     exact TSq_iff.1 hK hm A i g a w ro Q hd hs hr hq hp
    | false =>
     simp only [hst] at hK
     have hK := lenK_iff _ _ hK
     rw [hop, hdst] at hK
     obtain ⟨sv, upd, nb, h1, h2, h3⟩ := ev_sound o hK
     refine wpOps_cons hget ?_
     obtain ⟨v, w', g', S', k1, k2, k3, k4⟩ := hs.step (K := fun S' => evR P r ts S' K) h2 h3 h1
     rw [Oper.semAt_eq ro a.eval o (ev_nodefer hK)]
     have hnext := evR_sound (ts := ts) k4 hm A (i + 1) g' (a.put o.dst v) w' ro Q hdrop k2 (k3.ro hr) (fun S'' g'' a'' w'' q1 q2 q3 => hq S'' g'' a'' w'' q1 q2 ((k3.exw _).trans q3)) (hp.trans (k3.exw _))
     rw [if_pos hw]
     rcases k1 with k1 | ⟨k1, rfl⟩
     ·rw [k1, Oper.uponIn_value]; exact hnext
     ·rw [k1, Oper.uponIn_skip]; exact hnext
   | false =>
    simp only [hw] at hK
    refine wpOps_cons hget ?_
    rw [if_neg (by simp [hw])]
    rw [hdst] at hK
    obtain ⟨σ', k1, k2⟩ := hs.skip hK
    exact evR_sound (ts := ts) k1 hm A (i + 1) g (a.put o.dst undef) w ro Q hdrop k2 hr hq hp
  ·rw [hgd] at hK
   simp only [guardK, hbad, isStop] at hK
   exact (lenK_iff _ _ hK).elim
end
end Go.TV
/- The value calculus, part U: regions that are carried out in any order: one order is told; who stands in whose way is checked. -/
namespace Go.TV
open Go.RowKit
def ORun (P : Program) (o : Oper) (σ : List SV) (h : List LB) (nid : Nat) (sv : SV) (upd : List (Nat × LB)) (nb : List Nat) : Prop :=
 ∀ (g : Gh) (a : Act) (w : World) (ro : Option Nat) (next : Act → World → Prop) (Q : Exit → Act → World → Prop), GOk g w → (∃ N, ∀ b, g.dom b → b < N) → (∀ p ∈ upd, nid ≤ p.1 → ¬ g.dom p.1) →
  (∀ x ∈ o.op.operands.toList, g.den w (gv σ (cOpd x)) (a.eval x)) → (∀ b ∈ nb, lbden P w g b (hget h b)) →
  (∀ v w' g', GOk g' w' → Ext g w g' w' (ids upd) → g'.den w' sv v → (∀ p ∈ upd, lbden P w' g' p.1 p.2) → (∀ b, g'.dom b → g.dom b ∨ ids upd b) → next (a.put o.dst v) w') →
  o.uponIn (Fn ro) 0 P a next Q ((o.semAt ro a.eval).run P w)
theorem LRun.orun {P : Program} {o : Oper} {σ : List SV} {h : List LB} {nid : Nat} {sv : SV} {upd : List (Nat × LB)} {nb : List Nat} (hr : LRun P o σ h nid sv upd nb) (hd : ∀ c, o.op ≠ .defer c) :
  ORun P o σ h nid sv upd nb := by
 intro g a w ro next Q h1 _ h2 h3 h4 h5
 obtain ⟨v, w', g', k1, k2, k3, k4, k5, k6⟩ := hr g a w h1 h2 h3 h4
 rw [Oper.semAt_eq ro a.eval o hd]
 rcases k1 with k1 | ⟨k1, rfl⟩
 ·rw [k1, Oper.uponIn_value]; exact h5 v w' g' k2 k3 k4 k5 k6
 ·rw [k1, Oper.uponIn_skip]; exact h5 undef w' g' k2 k3 k4 k5 k6
section writes
variable {α : Type}
def wr : List (Nat × α) → (Nat → α) → Nat → α
 | [], f => f
 | (n, v) :: ws, f => wr ws fun m => if m = n then v else f m
def runW (E : Nat → Bool) : Nat → List (List (Nat × α)) → (Nat → α) → Nat → α
 | _, [], f => f
 | i, W :: Ws, f => runW E (i + 1) Ws (if E i then wr W f else f)
def keys (W : List (Nat × α)) (s : Nat) : Prop := s ∈ W.map (·.1)
theorem wr_out : ∀ {W : List (Nat × α)} {f : Nat → α} {s : Nat}, ¬ keys W s → wr W f s = f s
 | [], _, _, _ => rfl
 | (n, v) :: ws, f, s, h => by
  simp only [keys, List.map_cons, List.mem_cons, not_or] at h
  simp only [wr]
  rw [wr_out (by exact h.2)]
  simp [h.1]
theorem wr_in : ∀ {W : List (Nat × α)} {s : Nat} (f : Nat → α), keys W s → ∃ v, (s, v) ∈ W ∧ ∀ f', wr W f' s = v
 | [], s, _, h => by simp [keys] at h
 | (n, v) :: ws, s, f, h => by
  by_cases hk : keys ws s
  ·obtain ⟨u, h1, h2⟩ := wr_in (W := ws) f hk
   exact ⟨u, by simp [h1], fun f' => h2 _⟩
  ·have hsn : s = n := by
    simp only [keys, List.map_cons, List.mem_cons] at h hk
    exact h.resolve_right hk
   subst hsn
   exact ⟨v, by simp, fun f' => by simp only [wr]; rw [wr_out hk]; simp⟩
theorem runW_append (E : Nat → Bool) : ∀ (pre : List (List (Nat × α))) (i : Nat) (post : List (List (Nat × α))) (f : Nat → α), runW E i (pre ++ post) f = runW E (i + pre.length) post (runW E i pre f)
 | [], _, _, _ => rfl
 | W :: pre, i, post, f => by
  simp only [List.cons_append, runW, List.length_cons]
  rw [runW_append E pre (i + 1) post, Nat.add_assoc, Nat.add_comm 1]
theorem runW_stay {E : Nat → Bool} {s : Nat} : ∀ {Ws : List (List (Nat × α))} {i : Nat} {f : Nat → α}, (∀ (j : Nat) (W : List (Nat × α)), Ws[j]? = some W → keys W s → E (i + j) = false) → runW E i Ws f s = f s
 | [], _, _, _ => rfl
 | W :: Ws, i, f, h => by
  simp only [runW]
  rw [runW_stay (Ws := Ws) fun j W' hj hk => by have := h (j + 1) W' (by simpa using hj) hk; rwa [Nat.add_assoc, Nat.add_comm 1]]
  by_cases hk : keys W s
  ·have := h 0 W (by simp) hk
   simp at this
   simp [this]
  ·split
   ·exact wr_out hk
   ·rfl
theorem runW_congr {E E' : Nat → Bool} {s : Nat} : ∀ {Ws : List (List (Nat × α))} {i : Nat} {f f' : Nat → α}, f s = f' s → (∀ (j : Nat) (W : List (Nat × α)), Ws[j]? = some W → keys W s → E (i + j) = E' (i + j)) →
  runW E i Ws f s = runW E' i Ws f' s
 | [], _, _, _, hf, _ => hf
 | W :: Ws, i, f, f', hf, h => by
  simp only [runW]
  refine runW_congr (Ws := Ws) ?_ fun j W' hj hk => by have := h (j + 1) W' (by simpa using hj) hk; rwa [Nat.add_assoc, Nat.add_comm 1]
  by_cases hk : keys W s
  ·have := h 0 W (by simp) hk
   simp only [Nat.add_zero] at this
   rw [this]
   split
   ·obtain ⟨v, _, h2⟩ := wr_in f hk
    rw [h2 f, h2 f']
   ·exact hf
  ·have e : ∀ (b : Bool) (f : Nat → α), (if b = true then wr W f else f) s = f s := by
    intro b f
    split
    ·exact wr_out hk
    ·rfl
   rw [e, e]; exact hf
theorem runW_from {E : Nat → Bool} {s : Nat} : ∀ {Ws : List (List (Nat × α))} {i : Nat} {f : Nat → α}, runW E i Ws f s = f s ∨ ∃ (j : Nat) (W : List (Nat × α)), Ws[j]? = some W ∧ E (i + j) = true ∧ (s, runW E i Ws f s) ∈ W
 | [], _, _ => .inl rfl
 | W :: Ws, i, f => by
  simp only [runW]
  rcases runW_from (E := E) (s := s) (Ws := Ws) (i := i + 1) (f := if E i then wr W f else f) with h | ⟨j, W', h1, h2, h3⟩
  ·rw [h]
   cases hE : E i with
   | false => exact .inl rfl
   | true =>
    simp only [if_true]
    by_cases hk : keys W s
    ·obtain ⟨v, h1, h2⟩ := wr_in f hk
     exact .inr ⟨0, W, by simp, by simpa using hE, by rw [h2 f]; exact h1⟩
    ·exact .inl (wr_out hk)
  ·exact .inr ⟨j + 1, W', by simpa using h1, by rw [← h2, Nat.add_assoc, Nat.add_comm 1], h3⟩
theorem runW_add {E E' : Nat → Bool} {Ws : List (List (Nat × α))} {i : Nat} {W : List (Nat × α)} {f : Nat → α} {s : Nat} (hi : Ws[i]? = some W) (hE : E i = false) (hE' : ∀ j, E' j = (E j || j == i))
  (hlate : ∀ (j : Nat) (W' : List (Nat × α)), i < j → Ws[j]? = some W' → keys W s → keys W' s → E j = false) :
  (¬ keys W s → runW E' 0 Ws f s = runW E 0 Ws f s) ∧ (keys W s → ∃ v, (s, v) ∈ W ∧ runW E' 0 Ws f s = v) := by
 constructor
 ·intro hk
  refine runW_congr rfl fun j W' hj hk' => ?_
  rw [hE']
  by_cases e : j = i
  ·subst e; rw [hi] at hj; cases hj; exact absurd hk' hk
  ·simp [e]
 ·intro hk
  have hlt : i < Ws.length := (List.getElem?_eq_some_iff.1 hi).1
  have hsplit : Ws = Ws.take i ++ W :: Ws.drop (i + 1) := by
   have e : W = Ws[i] := (List.getElem?_eq_some_iff.1 hi).2.symm
   rw [e]; simp
  obtain ⟨v, h1, h2⟩ := wr_in f hk
  refine ⟨v, h1, ?_⟩
  rw [hsplit, runW_append, runW, List.length_take, Nat.min_eq_left (Nat.le_of_lt hlt)]
  have hi' : E' i = true := by rw [hE']; simp
  simp only [Nat.zero_add, hi', if_true]
  rw [runW_stay, h2]
  intro j W' hj hk'
  rw [List.getElem?_drop] at hj
  rw [hE', hlate (i + 1 + j) W' (by omega) hj hk hk']
  simp
  omega
theorem runW_read {E : Nat → Bool} {Ws : List (List (Nat × α))} {i : Nat} {f : Nat → α} {s : Nat} (hi : i ≤ Ws.length)
  (hpre : ∀ (j : Nat) (W' : List (Nat × α)), j < i → Ws[j]? = some W' → keys W' s → E j = true)
  (hpost : ∀ (j : Nat) (W' : List (Nat × α)), i ≤ j → Ws[j]? = some W' → keys W' s → E j = false) :
  runW E 0 Ws f s = runW (fun _ => true) 0 (Ws.take i) f s := by
 have hsplit : Ws = Ws.take i ++ Ws.drop i := by simp
 rw [hsplit, runW_append, runW_stay, ← hsplit]
 ·refine runW_congr rfl fun j W' hj hk => ?_
  rw [List.getElem?_take] at hj
  split at hj
  ·rename_i hlt
   rw [Nat.zero_add]; exact hpre j W' hlt hj hk
  ·cases hj
 ·intro j W' hj hk
  rw [List.getElem?_drop] at hj
  rw [List.length_take, Nat.min_eq_left hi, Nat.zero_add]
  exact hpost (i + j) W' (by omega) hj hk
end writes
end Go.TV
/- The value calculus, part V: the check, the chain of steps, and that any order ends as the told one. -/
namespace Go.TV
open Go.RowKit
structure Lg where
 dst : Option Nat
 reads : List Nat
 nb : List Nat
 upd : List Nat
 deps : List Nat
 iter : Bool
def memB : List Nat → Nat → Bool
 | [], _ => false
 | x :: xs, n => Nat.beq x n || memB xs n
theorem memB_iff : ∀ {l : List Nat} {n : Nat}, memB l n = true ↔ n ∈ l
 | [], n => by simp [memB]
 | x :: xs, n => by
  simp only [memB, Bool.or_eq_true, memB_iff (l := xs), List.mem_cons]
  constructor
  ·rintro (h | h)
   ·exact .inl (Nat.eq_of_beq_eq_true h).symm
   ·exact .inr h
  ·rintro (h | h)
   ·subst h; exact .inl (Nat.beq_refl n)
   ·exact .inr h
def meets : List Nat → List Nat → Bool
 | [], _ => false
 | x :: xs, l => memB l x || meets xs l
theorem meets_iff : ∀ {l l' : List Nat}, meets l l' = true ↔ ∃ n, n ∈ l ∧ n ∈ l'
 | [], l' => by simp [meets]
 | x :: xs, l' => by
  simp only [meets, Bool.or_eq_true, memB_iff, meets_iff (l := xs), List.mem_cons]
  constructor
  ·rintro (h | ⟨n, h1, h2⟩)
   ·exact ⟨x, .inl rfl, h⟩
   ·exact ⟨n, .inr h1, h2⟩
  ·rintro ⟨n, rfl | h1, h2⟩
   ·exact .inl h2
   ·exact .inr ⟨n, h1, h2⟩
def dstIn (d : Option Nat) (l : List Nat) : Bool :=
 match d with
 | none => false
 | some n => memB l n
def clash (x y : Lg) : Bool :=
 dstIn x.dst y.reads || (dstIn y.dst x.reads || (dstIn x.dst y.dst.toList || (meets x.upd y.nb || (meets y.upd x.nb || meets x.upd y.upd))))
def needsGo : List Nat → List Nat → Nat
 | [], _ => 0
 | j :: js, acc => Nat.lor (Nat.lor (2 ^ j) (acc.getD j 0)) (needsGo js acc)
def allLt : List Nat → Nat → Bool
 | [], _ => true
 | x :: xs, n => Nat.blt x n && allLt xs n
def apartAll (y : Lg) (need : Nat) : List Lg → Nat → Bool
 | [], _ => true
 | x :: xs, j => (!clash x y || need.testBit j) && apartAll y need xs (j + 1)
def chkGo (iters : List Nat) : List Lg → Nat → List Lg → List Nat → Bool
 | [], _, _, _ => true
 | y :: ys, i, done, acc =>
  !y.iter && (!meets y.upd iters && (allLt y.deps i && (apartAll y (needsGo y.deps acc) done 0 && chkGo iters ys (i + 1) (done ++ [y]) (acc ++ [needsGo y.deps acc]))))
inductive Before (ls : List Lg) : Nat → Nat → Prop
 | one {i j : Nat} {x : Lg} (h : ls[i]? = some x) (hj : j ∈ x.deps) : Before ls j i
 | more {i j k : Nat} {x : Lg} (h : ls[i]? = some x) (hj : j ∈ x.deps) (hk : Before ls k j) : Before ls k i
structure Chk (iters : List Nat) (ls : List Lg) : Prop where
 iter : ∀ x ∈ ls, x.iter = false
 free : ∀ x ∈ ls, ∀ b ∈ x.upd, b ∉ iters
 lt : ∀ (i : Nat) (x : Lg), ls[i]? = some x → ∀ j ∈ x.deps, j < i
 apart : ∀ (i j : Nat) (x y : Lg), j < i → ls[j]? = some x → ls[i]? = some y → clash x y = true → Before ls j i
theorem needsGo_bit {ls : List Lg} {i : Nat} {x : Lg} (hx : ls[i]? = some x) {acc : List Nat} (hacc : ∀ (j m : Nat), acc[j]? = some m → ∀ k, m.testBit k = true → Before ls k j) :
  ∀ (js : List Nat), (∀ j ∈ js, j ∈ x.deps) → ∀ k, (needsGo js acc).testBit k = true → Before ls k i
 | [], _, k, h => by simp [needsGo] at h
 | j :: js, hjs, k, h => by
  have h : ((2 ^ j ||| acc.getD j 0) ||| needsGo js acc).testBit k = true := h
  rw [Nat.testBit_or, Nat.testBit_or, Bool.or_eq_true, Bool.or_eq_true] at h
  rcases h with (h | h) | h
  ·rw [Nat.testBit_two_pow] at h
   obtain rfl := of_decide_eq_true h
   exact .one hx (hjs j (by simp))
  ·cases e : acc[j]? with
   | none => simp [List.getD, e] at h
   | some m =>
    simp [List.getD, e] at h
    exact .more hx (hjs j (by simp)) (hacc j m e k h)
  ·exact needsGo_bit hx hacc js (fun j' hj' => hjs j' (by simp [hj'])) k h
theorem allLt_iff : ∀ {l : List Nat} {n : Nat}, allLt l n = true → ∀ j ∈ l, j < n
 | [], _, _, j, hj => by cases hj
 | x :: xs, n, h, j, hj => by
  simp only [allLt, Bool.and_eq_true] at h
  rcases List.mem_cons.1 hj with rfl | hj
  ·exact Nat.le_of_ble_eq_true h.1
  ·exact allLt_iff h.2 j hj
theorem apartAll_iff {y : Lg} {need : Nat} : ∀ {xs : List Lg} {k : Nat}, apartAll y need xs k = true → ∀ (j : Nat) (x : Lg), xs[j]? = some x → clash x y = true → need.testBit (k + j) = true
 | [], _, _, j, x, hj, _ => by simp at hj
 | x0 :: xs, k, h, j, x, hj, hc => by
  simp only [apartAll, Bool.and_eq_true, Bool.or_eq_true, Bool.not_eq_true'] at h
  cases j with
  | zero =>
   simp at hj; subst hj
   rcases h.1 with h | h
   ·rw [h] at hc; cases hc
   ·exact h
  | succ j =>
   have := apartAll_iff h.2 j x (by simpa using hj) hc
   rwa [Nat.add_assoc, Nat.add_comm 1] at this
theorem chkGo_spec {iters : List Nat} {ls : List Lg} : ∀ {ys : List Lg} {done : List Lg} {acc : List Nat}, ls = done ++ ys → acc.length = done.length → (∀ (j m : Nat), acc[j]? = some m → ∀ k, m.testBit k = true → Before ls k j) →
  chkGo iters ys done.length done acc = true →
  (∀ x ∈ ys, x.iter = false) ∧ (∀ x ∈ ys, ∀ b ∈ x.upd, b ∉ iters) ∧ (∀ (i : Nat) (x : Lg), ys[i]? = some x → ∀ j ∈ x.deps, j < done.length + i) ∧
   (∀ (i j : Nat) (x y : Lg), j < done.length + i → ls[j]? = some x → ys[i]? = some y → clash x y = true → Before ls j (done.length + i))
 | [], done, acc, _, _, _, _ => by simp
 | y :: ys, done, acc, hls, hlen, hacc, h => by
  simp only [chkGo, Bool.and_eq_true, Bool.not_eq_true'] at h
  obtain ⟨h1, h2, h3, h4, h5⟩ := h
  have hy : ls[done.length]? = some y := by rw [hls]; simp
  have hneed := needsGo_bit hy hacc y.deps (fun _ h => h)
  obtain ⟨k1, k2, k3, k4⟩ := chkGo_spec (ls := ls) (ys := ys) (done := done ++ [y]) (acc := acc ++ [needsGo y.deps acc]) (by rw [hls]; simp) (by simp [hlen])
   (by
    intro j m hj k hk
    rw [List.getElem?_append] at hj
    split at hj
    ·exact hacc j m hj k hk
    ·rename_i hge
     have : j = done.length := by
      have := (List.getElem?_eq_some_iff.1 hj).1
      simp at this; omega
     subst this
     rw [hlen] at hj
     simp at hj
     subst hj
     exact hneed k hk)
   (by rw [List.length_append]; exact h5)
  refine ⟨fun x hx => ?_, fun x hx b hb hbi => ?_, fun i x hi j hj => ?_, fun i j x y' hji hx hy' hc => ?_⟩
  ·rcases List.mem_cons.1 hx with rfl | hx
   ·exact h1
   ·exact k1 x hx
  ·rcases List.mem_cons.1 hx with rfl | hx
   ·have : meets x.upd iters = true := meets_iff.2 ⟨b, hb, hbi⟩
    rw [this] at h2; cases h2
   ·exact k2 x hx b hb hbi
  ·cases i with
   | zero => simp at hi; subst hi; exact allLt_iff h3 j hj
   | succ i =>
    have := k3 i x (by simpa using hi) j hj
    simp at this; omega
  ·cases i with
   | zero =>
    simp at hy' hji; subst hy'
    have hx' : done[j]? = some x := by
     rw [hls, List.getElem?_append_left hji] at hx; exact hx
    have := apartAll_iff h4 j x hx' hc
    rw [Nat.zero_add] at this
    exact hneed j this
   | succ i =>
    have := k4 i j x y' (by simp; omega) hx (by simpa using hy') hc
    simpa [Nat.add_assoc, Nat.add_comm 1] using this
theorem chk_spec {iters : List Nat} {ls : List Lg} (h : chkGo iters ls 0 [] [] = true) : Chk iters ls := by
 obtain ⟨h1, h2, h3, h4⟩ := chkGo_spec (ls := ls) (done := []) (acc := []) rfl rfl (by simp) h
 exact ⟨h1, h2, fun i x hi j hj => by simpa using h3 i x hi j hj, fun i j x y hji hx hy hc => by simpa using h4 i j x y (by simpa using hji) hx hy hc⟩
end Go.TV
/- The value calculus, part W: a region in any order ends as the told one. -/
namespace Go.TV
open Go.RowKit
def readsOf (t : TOper) : List Nat :=
 match t.guard with
 | some (s, _) => s :: t.reads
 | none => t.reads
def anyIter : List (Nat × LB) → Bool
 | [] => false
 | p :: ps => (match p.2 with
  | .iter (.mp _) _ _ => true
  | _ => false) || anyIter ps
def fsts : List (Nat × LB) → List Nat
 | [] => []
 | p :: ps => p.1 :: fsts ps
theorem fsts_eq : ∀ (l : List (Nat × LB)), fsts l = l.map (·.1)
 | [] => rfl
 | p :: ps => by simp [fsts, fsts_eq ps]
def lgOf (t : TOper) (upd : List (Nat × LB)) (nb : List Nat) : Lg := ⟨t.dst, readsOf t, nb, fsts upd, t.deps, anyIter upd⟩
structure DS where
 lg : Lg
 sv : SV
 upd : List (Nat × LB)
def StepV (P : Program) (t : TOper) (o : Oper) (S : St) (d : DS) : Prop :=
 (∃ nb, d.lg = lgOf t d.upd nb ∧ guardK S.σ t.guard (· = true) ∧ t.op ≠ .bad ∧ ORun P o S.σ S.h S.h.length d.sv d.upd nb ∧
  ∀ p ∈ d.upd, p.1 = S.h.length ∨ (p.1 ∈ nb ∧ p.1 < S.h.length)) ∨
 (guardK S.σ t.guard (· = false) ∧ d = ⟨lgOf t [] [], .tup [], []⟩)
structure Applies (d : DS) (S S' : St) : Prop where
 σ : S'.σ = match d.lg.dst with
  | none => S.σ
  | some n => S.σ.set n d.sv
 len : S.h.length ≤ S'.h.length
 lt : ∀ p ∈ d.upd, p.1 < S'.h.length
 h : ∀ c, hget S'.h c = wr d.upd (hget S.h) c
 mks : S'.mks = S.mks
def Chain (P : Program) (A : Array Oper) : List Oper → St → List DS → St → Prop
 | [], S, ds, Sf => ds = [] ∧ Sf = S
 | o :: os, S, ds, Sf => ∃ d rest S', ds = d :: rest ∧ StepV P (cOper P A true o) o S d ∧ Applies d S S' ∧ Chain P A os S' rest Sf
def itersOf : List LB → List Nat
 | [] => []
 | .iter (.mp b) _ _ :: h => b :: itersOf h
 | _ :: h => itersOf h
def slotW (d : DS) : List (Nat × SV) :=
 match d.lg.dst with
 | none => []
 | some n => [(n, d.sv)]
section
variable {P : Program}
theorem itersOf_mem : ∀ {h : List LB} {c b : Nat}, b ∈ (hget h c).deps → b ∈ itersOf h
 | [], c, b, hb => by simp [hget, LB.deps] at hb
 | x :: h, c, b, hb => by
  cases c with
  | zero =>
   simp only [hget] at hb
   cases x with
   | iter src left cur =>
    cases src <;> simp [LB.deps] at hb
    subst hb
    simp [itersOf]
   | _ => simp [LB.deps] at hb
  | succ c =>
   simp only [hget] at hb
   have := itersOf_mem hb
   unfold itersOf
   split
   ·cases ‹_ = _›
   ·rename_i e; cases e; exact List.mem_cons_of_mem _ this
   ·rename_i e; cases e; exact this
theorem anyIter_deps : ∀ {l : List (Nat × LB)}, anyIter l = false → ∀ p ∈ l, p.2.deps = []
 | [], _, p, hp => by cases hp
 | q :: l, h, p, hp => by
  simp only [anyIter, Bool.or_eq_false_iff] at h
  rcases List.mem_cons.1 hp with rfl | hp
  ·obtain ⟨n, lb⟩ := p
   cases lb with
   | iter src left cur => cases src <;> first | rfl | (simp at h)
   | _ => rfl
  ·exact anyIter_deps h.2 p hp
theorem getS_set : ∀ {σ : List SV} {n s : Nat} {v : SV}, n < σ.length → getS (σ.set n v) s = if s = n then v else getS σ s
 | [], n, s, v, h => by simp at h
 | x :: σ, 0, s, v, _ => by cases s <;> simp [getS]
 | x :: σ, n + 1, s, v, h => by
  cases s with
  | zero => simp [getS]
  | succ s =>
   simp only [List.set_cons_succ, getS]
   rw [getS_set (by simpa using h)]
   simp
theorem getS_out : ∀ {σ : List SV} {s : Nat}, σ.length ≤ s → getS σ s = .junk
 | [], s, _ => rfl
 | x :: σ, 0, h => by simp at h
 | x :: σ, s + 1, h => by simp only [getS]; exact getS_out (by simpa using h)
theorem getS_set_out {σ : List SV} {n s : Nat} {v : SV} (h : σ.length ≤ n) : getS (σ.set n v) s = getS σ s := by rw [List.set_eq_of_length_le h]
theorem Chain.at {A : Array Oper} : ∀ {ts : List Oper} {S : St} {ds : List DS} {Sf : St}, Chain P A ts S ds Sf → ∀ (i : Nat) (t : Oper), ts[i]? = some t →
  ∃ Si d, ds[i]? = some d ∧ StepV P (cOper P A true t) t Si d ∧ Si.σ.length = S.σ.length ∧ S.h.length ≤ Si.h.length ∧ Si.mks = S.mks ∧ (∀ j d' , j < i → ds[j]? = some d' → ∀ p ∈ d'.upd, p.1 < Si.h.length) ∧
   (∀ s, s < S.σ.length → getS Si.σ s = runW (fun _ => true) 0 ((ds.map slotW).take i) (getS S.σ) s) ∧
   (∀ c, hget Si.h c = runW (fun _ => true) 0 ((ds.map (·.upd)).take i) (hget S.h) c)
 | [], _, _, _, _, i, t, h => by simp at h
 | t0 :: ts, S, ds, Sf, hc, i, t, h => by
  obtain ⟨d, rest, S', rfl, h1, h2, h3⟩ := hc
  cases i with
  | zero =>
   simp at h; subst h
   exact ⟨S, d, by simp, h1, rfl, Nat.le_refl _, rfl, fun j d' hj => by omega, fun s _ => by simp [runW], fun c => by simp [runW]⟩
  | succ i =>
   obtain ⟨Si, di, e1, e2, e3, e4, e5, e6, e7, e8⟩ := Chain.at h3 i t (by simpa using h)
   have hσl : S'.σ.length = S.σ.length := by rw [h2.σ]; cases d.lg.dst <;> simp
   refine ⟨Si, di, by simpa using e1, e2, e3.trans hσl, Nat.le_trans h2.len e4, e5.trans h2.mks, fun j d' hj hd p hp => ?_, fun s hs => ?_, fun c => ?_⟩
   ·cases j with
    | zero => simp at hd; subst hd; exact Nat.lt_of_lt_of_le (h2.lt p hp) e4
    | succ j => exact e6 j d' (by omega) (by simpa using hd) p hp
   ·rw [e7 s (by omega)]
    simp only [List.map_cons, List.take_succ_cons, runW, Nat.zero_add, if_true]
    have shift : ∀ (Ws : List (List (Nat × SV))) (k k' : Nat) (f f' : Nat → SV), f s = f' s → runW (fun _ => true) k Ws f s = runW (fun _ => true) k' Ws f' s := by
     intro Ws
     induction Ws with
     | nil => exact fun _ _ _ _ h => h
     | cons W Ws ih =>
      intro k k' f f' hf
      simp only [runW, if_true]
      refine ih _ _ _ _ ?_
      by_cases hk : keys W s
      ·obtain ⟨v, _, h2⟩ := wr_in f hk
       rw [h2 f, h2 f']
      ·rw [wr_out hk, wr_out hk]; exact hf
    refine shift _ _ _ _ _ ?_
    rw [h2.σ]
    unfold slotW
    cases hd : d.lg.dst with
    | none => rfl
    | some n =>
     simp only [wr]
     by_cases hn : n < S.σ.length
     ·exact getS_set hn
     ·rw [getS_set_out (by omega)]
      rw [if_neg (by omega)]
   ·rw [e8 c]
    simp only [List.map_cons, List.take_succ_cons, runW, Nat.zero_add, if_true]
    have shift : ∀ (Ws : List (List (Nat × LB))) (k k' : Nat) (f f' : Nat → LB), f c = f' c → runW (fun _ => true) k Ws f c = runW (fun _ => true) k' Ws f' c := by
     intro Ws
     induction Ws with
     | nil => exact fun _ _ _ _ h => h
     | cons W Ws ih =>
      intro k k' f f' hf
      simp only [runW, if_true]
      refine ih _ _ _ _ ?_
      by_cases hk : keys W c
      ·obtain ⟨v, _, h2⟩ := wr_in f hk
       rw [h2 f, h2 f']
      ·rw [wr_out hk, wr_out hk]; exact hf
    exact shift _ _ _ _ _ (h2.h c)
theorem Chain.end {A : Array Oper} : ∀ {ts : List Oper} {S : St} {ds : List DS} {Sf : St}, Chain P A ts S ds Sf → ds.length = ts.length ∧ Sf.σ.length = S.σ.length ∧ S.h.length ≤ Sf.h.length ∧ Sf.mks = S.mks ∧
   (∀ d' ∈ ds, ∀ p ∈ d'.upd, p.1 < Sf.h.length) ∧
   (∀ s, s < S.σ.length → getS Sf.σ s = runW (fun _ => true) 0 (ds.map slotW) (getS S.σ) s) ∧
   (∀ c, hget Sf.h c = runW (fun _ => true) 0 (ds.map (·.upd)) (hget S.h) c)
 | [], S, ds, Sf, hc => by
  obtain ⟨rfl, rfl⟩ := hc
  exact ⟨rfl, rfl, Nat.le_refl _, rfl, by simp, fun s _ => by simp [runW], fun c => by simp [runW]⟩
 | t0 :: ts, S, ds, Sf, hc => by
  obtain ⟨d, rest, S', rfl, h1, h2, h3⟩ := hc
  obtain ⟨e1, e2, e3, e4, e5, e6, e7⟩ := Chain.end h3
  have hσl : S'.σ.length = S.σ.length := by rw [h2.σ]; cases d.lg.dst <;> simp
  have shift : ∀ {α : Type} (c : Nat) (Ws : List (List (Nat × α))) (k k' : Nat) (f f' : Nat → α), f c = f' c → runW (fun _ => true) k Ws f c = runW (fun _ => true) k' Ws f' c := by
   intro α c Ws
   induction Ws with
   | nil => exact fun _ _ _ _ h => h
   | cons W Ws ih =>
    intro k k' f f' hf
    simp only [runW, if_true]
    refine ih _ _ _ _ ?_
    by_cases hk : keys W c
    ·obtain ⟨v, _, h2⟩ := wr_in f hk
     rw [h2 f, h2 f']
    ·rw [wr_out hk, wr_out hk]; exact hf
  refine ⟨by simp [e1], e2.trans hσl, Nat.le_trans h2.len e3, e4.trans h2.mks, fun d' hd p hp => ?_, fun s hs => ?_, fun c => ?_⟩
  ·rcases List.mem_cons.1 hd with rfl | hd
   ·exact Nat.lt_of_lt_of_le (h2.lt p hp) e3
   ·exact e5 d' hd p hp
  ·rw [e6 s (by omega)]
   simp only [List.map_cons, runW, if_true]
   refine shift _ _ _ _ _ _ ?_
   rw [h2.σ]
   unfold slotW
   cases hd : d.lg.dst with
   | none => rfl
   | some n =>
    simp only [wr]
    by_cases hn : n < S.σ.length
    ·exact getS_set hn
    ·rw [getS_set_out (by omega)]
     rw [if_neg (by omega)]
  ·rw [e7 c]
   simp only [List.map_cons, runW, if_true]
   exact shift _ _ _ _ _ _ (h2.h c)
theorem rds_mem : ∀ {l : List Operand} {t : Nat}, .tmp t ∈ l → t ∈ rds l
 | x :: l, t, h => by
  rcases List.mem_cons.1 h with h | h
  ·subst h; simp [rds]
  ·have := rds_mem h
   cases x <;> simp [rds, this]
theorem opd_den {g : Gh} {w : World} {σ : List SV} {a : Act} (x : Operand) (h : ∀ t, x = .tmp t → g.den w (getS σ t) (a.tmps.toList.getD t undef)) : g.den w (gv σ (cOpd x)) (a.eval x) := by
 cases x with
 | tmp t => simpa [gv, cOpd, Act.eval] using h t rfl
 | const v =>
  simp only [cOpd, gv, Act.eval, Gh.den]
  cases hv : toSV 8 v with
  | none => simp only [Option.getD_none, den]
  | some s => simpa using toSV_den 8 v s hv
 | global n => simp only [cOpd, gv, Gh.den, den]
 | func f => simp only [cOpd, gv, Act.eval, Gh.den, den]; exact ⟨[], [], rfl, by simp only [denL], by simp only [denL]⟩
end
end Go.TV
/- The value calculus, part X: regions in any order, the end of it. -/
namespace Go.TV
open Go.RowKit
structure DInv (P : Program) (S0 : St) (ds : List DS) (E : Nat → Bool) (g0 : Gh) (w0 : World) (g : Gh) (a : Act) (w : World) : Prop where
 ok : GOk g w
 ext : Ext g0 w0 g w All
 dom : ∀ b, g.dom b → b < S0.h.length ∨ ∃ i d, ds[i]? = some d ∧ E i = true ∧ ids d.upd b
 sz : a.tmps.size = S0.σ.length
 tm : ∀ s, s < S0.σ.length → g.den w (runW E 0 (ds.map slotW) (getS S0.σ) s) (a.tmps.toList.getD s undef)
 hp : ∀ b, lbden P w g b (runW E 0 (ds.map (·.upd)) (hget S0.h) b)
 df : dfden g w a.defers
theorem clash_dst {x y : Lg} {s : Nat} (h1 : x.dst = some s) (h2 : s ∈ y.reads) : clash x y = true := by
 simp [clash, dstIn, h1, memB_iff.2 h2]
theorem clash_dst' {x y : Lg} {s : Nat} (h1 : y.dst = some s) (h2 : s ∈ x.reads) : clash x y = true := by
 simp [clash, dstIn, h1, memB_iff.2 h2]
theorem clash_dd {x y : Lg} {s : Nat} (h1 : x.dst = some s) (h2 : y.dst = some s) : clash x y = true := by
 simp [clash, dstIn, h1, h2, memB_iff.2 (List.mem_singleton.2 rfl)]
theorem clash_nb {x y : Lg} {b : Nat} (h1 : b ∈ x.upd) (h2 : b ∈ y.nb) : clash x y = true := by
 have : meets x.upd y.nb = true := meets_iff.2 ⟨b, h1, h2⟩
 simp [clash, this]
theorem clash_nb' {x y : Lg} {b : Nat} (h1 : b ∈ y.upd) (h2 : b ∈ x.nb) : clash x y = true := by
 have : meets y.upd x.nb = true := meets_iff.2 ⟨b, h1, h2⟩
 simp [clash, this]
theorem clash_uu {x y : Lg} {b : Nat} (h1 : b ∈ x.upd) (h2 : b ∈ y.upd) : clash x y = true := by
 have : meets x.upd y.upd = true := meets_iff.2 ⟨b, h1, h2⟩
 simp [clash, this]
section
variable {P : Program} {S0 Sf : St} {ds : List DS} {E : Nat → Bool}
def Down (ds : List DS) (E : Nat → Bool) : Prop := ∀ (i : Nat) (d : DS), ds[i]? = some d → E i = true → ∀ j ∈ d.lg.deps, E j = true
theorem Down.before (h : Down ds E) {i j : Nat} (hb : Before (ds.map (·.lg)) j i) : E i = true → E j = true := by
 induction hb with
 | one hx hj =>
  intro hi
  rw [List.getElem?_map, Option.map_eq_some_iff] at hx
  obtain ⟨d, h1, rfl⟩ := hx
  exact h _ d h1 hi _ hj
 | more hx hj _ ih =>
  intro hi
  rw [List.getElem?_map, Option.map_eq_some_iff] at hx
  obtain ⟨d, h1, rfl⟩ := hx
  exact ih (h _ d h1 hi _ hj)
theorem before_deps (h : Down ds E) {i j : Nat} {d : DS} (hd : ds[i]? = some d) (hdeps : ∀ k ∈ d.lg.deps, E k = true) (hb : Before (ds.map (·.lg)) j i) : E j = true := by
 cases hb with
 | one hx hj =>
  rw [List.getElem?_map, hd] at hx
  obtain rfl := Option.some.inj hx
  exact hdeps _ hj
 | more hx hj hk =>
  rw [List.getElem?_map, hd] at hx
  obtain rfl := Option.some.inj hx
  exact h.before hk (hdeps _ hj)
theorem keys_slotW {d : DS} {s : Nat} : keys (slotW d) s ↔ d.lg.dst = some s := by
 unfold keys slotW
 cases d.lg.dst <;> simp [eq_comm]
theorem lg_upd {t : TOper} {o : Oper} {S : St} {d : DS} (h : StepV P t o S d) : d.lg.upd = d.upd.map (·.1) ∧ d.lg.dst = t.dst ∧ d.lg.deps = t.deps ∧ d.lg.iter = anyIter d.upd := by
 rcases h with ⟨nb, h, _⟩ | ⟨_, rfl⟩
 ·rw [h]; exact ⟨fsts_eq _, rfl, rfl, rfl⟩
 ·exact ⟨rfl, rfl, rfl, rfl⟩
theorem draw_step {A : Array Oper} {ts : List Oper} (hch : Chain P A ts S0 ds Sf) (hck : Chk (itersOf S0.h) (ds.map (·.lg))) {g0 g : Gh} {w0 w : World} {a : Act} (hI : DInv P S0 ds E g0 w0 g a w) (hdown : Down ds E)
  {i : Nat} {o : Oper} (ho : A[i]? = some o) (hti : ts[i]? = some o) (hE : E i = false) (hdeps : ∀ k ∈ cDeps o, E k = true) {E' : Nat → Bool} (hE' : ∀ j, E' j = (E j || j == i))
  {ro : Option Nat} {Q : Exit → Act → World → Prop} {K : Act → World → Prop} (hK : ∀ g' a' w', DInv P S0 ds E' g0 w0 g' a' w' → K a' w') :
  wpOpIn (Fn ro) 0 P A Q i K a w := by
 obtain ⟨Si, d, e1, e2, e3, e4, e5, e6, e7, e8⟩ := hch.at i _ hti
 obtain ⟨u1, u2, u3, u4⟩ := lg_upd e2
 have hcd : (cOper P A true o).deps = cDeps o := by
  unfold cOper
  cases hg : o.guard with
  | none => rfl
  | some jw =>
   obtain ⟨j, want⟩ := jw
   simp only
   cases hs : (A[j]?).bind (·.dst) <;> rfl
 have hcr : (cOper P A true o).reads = rds o.op.operands.toList := by
  unfold cOper
  cases hg : o.guard with
  | none => rfl
  | some jw =>
   obtain ⟨j, want⟩ := jw
   simp only
   cases hs : (A[j]?).bind (·.dst) <;> rfl
 have hdd : ∀ k ∈ d.lg.deps, E k = true := by rw [u3, hcd]; exact hdeps
 have hilt : i < ds.length := (List.getElem?_eq_some_iff.1 e1).1
 have hlg : (ds.map (·.lg))[i]? = some d.lg := by rw [List.getElem?_map, e1]; rfl
 -- who clashes and stands before is done; who clashes and stands behind is not
 have early : ∀ (j : Nat) (d' : DS), j < i → ds[j]? = some d' → clash d'.lg d.lg = true → E j = true := fun j d' hji hd' hc =>
  before_deps hdown e1 hdd (hck.apart i j d'.lg d.lg hji (by rw [List.getElem?_map, hd']; rfl) hlg hc)
 have late : ∀ (j : Nat) (d' : DS), i < j → ds[j]? = some d' → clash d.lg d'.lg = true → E j = false := fun j d' hij hd' hc => by
  cases hj : E j with
  | false => rfl
  | true =>
   have := hdown.before (hck.apart j i d.lg d'.lg hij hlg (by rw [List.getElem?_map, hd']; rfl) hc) hj
   rw [hE] at this; cases this
 -- a slot that is read
 have hread : ∀ s, s ∈ d.lg.reads → g.den w (getS Si.σ s) (a.tmps.toList.getD s undef) := by
  intro s hs
  by_cases hlt : s < S0.σ.length
  ·rw [e7 s hlt, ← runW_read (E := E) (by simpa using Nat.le_of_lt hilt)]
   ·exact hI.tm s hlt
   ·intro j W hj hW hk
    rw [List.getElem?_map, Option.map_eq_some_iff] at hW
    obtain ⟨d', h1, rfl⟩ := hW
    exact early j d' hj h1 (clash_dst (keys_slotW.1 hk) hs)
   ·intro j W hj hW hk
    rw [List.getElem?_map, Option.map_eq_some_iff] at hW
    obtain ⟨d', h1, rfl⟩ := hW
    rcases Nat.lt_or_eq_of_le hj with hj | rfl
    ·exact late j d' hj h1 (clash_dst' (keys_slotW.1 hk) hs)
    ·exact hE
  ·rw [getS_out (by omega)]
   simp only [Gh.den, den]
 -- a block that is needed
 have hblk : ∀ b, b ∈ d.lg.nb → lbden P w g b (hget Si.h b) := by
  intro b hb
  rw [e8 b, ← runW_read (E := E) (by simpa using Nat.le_of_lt hilt)]
  ·exact hI.hp b
  ·intro j W hj hW hk
   rw [List.getElem?_map, Option.map_eq_some_iff] at hW
   obtain ⟨d', h1, rfl⟩ := hW
   obtain ⟨_, d2, q1, q2, _⟩ := hch.at j _ (show ts[j]? = some (ts[j]'(by rw [← hch.end.1]; exact (List.getElem?_eq_some_iff.1 h1).1)) by simp)
   rw [h1] at q1; cases q1
   exact early j d' hj h1 (clash_nb (by rw [(lg_upd q2).1]; exact hk) hb)
  ·intro j W hj hW hk
   rw [List.getElem?_map, Option.map_eq_some_iff] at hW
   obtain ⟨d', h1, rfl⟩ := hW
   rcases Nat.lt_or_eq_of_le hj with hj | rfl
   ·obtain ⟨_, d2, q1, q2, _⟩ := hch.at j _ (show ts[j]? = some (ts[j]'(by rw [← hch.end.1]; exact (List.getElem?_eq_some_iff.1 h1).1)) by simp)
    rw [h1] at q1; cases q1
    exact late j d' hj h1 (clash_nb' (by rw [(lg_upd q2).1]; exact hk) hb)
   ·exact hE
 -- the step's effect on the slots and the blocks that are told
 have slots : ∀ s, s < S0.σ.length → (d.lg.dst ≠ some s → runW E' 0 (ds.map slotW) (getS S0.σ) s = runW E 0 (ds.map slotW) (getS S0.σ) s) ∧ (d.lg.dst = some s → runW E' 0 (ds.map slotW) (getS S0.σ) s = d.sv) := by
  intro s hs
  have hWi : (ds.map slotW)[i]? = some (slotW d) := by rw [List.getElem?_map, e1]; rfl
  obtain ⟨h1, h2⟩ := runW_add (f := getS S0.σ) (s := s) hWi hE hE' (fun j W' hij hW hk hk' => by
   rw [List.getElem?_map, Option.map_eq_some_iff] at hW
   obtain ⟨d', q1, rfl⟩ := hW
   exact late j d' hij q1 (clash_dd (keys_slotW.1 hk) (keys_slotW.1 hk')))
  refine ⟨fun hne => h1 fun hk => hne (keys_slotW.1 hk), fun he => ?_⟩
  obtain ⟨v, q1, q2⟩ := h2 (keys_slotW.2 he)
  rw [q2]
  unfold slotW at q1
  rw [he] at q1
  simpa using q1
 have blocks : ∀ b, (¬ ids d.upd b → runW E' 0 (ds.map (·.upd)) (hget S0.h) b = runW E 0 (ds.map (·.upd)) (hget S0.h) b) ∧ (ids d.upd b → ∃ lb, (b, lb) ∈ d.upd ∧ runW E' 0 (ds.map (·.upd)) (hget S0.h) b = lb) := by
  intro b
  have hWi : (ds.map (·.upd))[i]? = some d.upd := by rw [List.getElem?_map, e1]; rfl
  exact runW_add (f := hget S0.h) (s := b) hWi hE hE' (fun j W' hij hW hk hk' => by
   rw [List.getElem?_map, Option.map_eq_some_iff] at hW
   obtain ⟨d', q1, rfl⟩ := hW
   obtain ⟨_, d2, r1, r2, _⟩ := hch.at j _ (show ts[j]? = some (ts[j]'(by rw [← hch.end.1]; exact (List.getElem?_eq_some_iff.1 q1).1)) by simp)
   rw [q1] at r1; cases r1
   exact late j d' hij q1 (clash_uu (by rw [u1]; exact hk) (by rw [(lg_upd r2).1]; exact hk')))
 -- nothing that is told hangs on a block that the step turns
 have hdepfree : ∀ b, ∀ c ∈ (runW E 0 (ds.map (·.upd)) (hget S0.h) b).deps, ¬ ids d.upd c := by
  intro b c hc hcu
  rcases runW_from (E := E) (s := b) (Ws := ds.map (·.upd)) (i := 0) (f := hget S0.h) with h | ⟨j, W, hW, _, hin⟩
  ·rw [h] at hc
   refine hck.free d.lg (List.mem_of_getElem? hlg) c ?_ (itersOf_mem hc)
   rw [u1]; exact hcu
  ·rw [List.getElem?_map, Option.map_eq_some_iff] at hW
   obtain ⟨d', q1, rfl⟩ := hW
   obtain ⟨_, d2, r1, r2, _⟩ := hch.at j _ (show ts[j]? = some (ts[j]'(by rw [← hch.end.1]; exact (List.getElem?_eq_some_iff.1 q1).1)) by simp)
   rw [q1] at r1; cases r1
   have hit := hck.iter d'.lg (List.mem_map.2 ⟨d', List.mem_of_getElem? q1, rfl⟩)
   rw [(lg_upd r2).2.2.2] at hit
   have := anyIter_deps hit _ hin
   simp only at this
   rw [this] at hc
   cases hc
 -- the step itself
 have fin : ∀ (v : Value) (w' : World) (g' : Gh), GOk g' w' → Ext g w g' w' (ids d.upd) → g'.den w' d.sv v → (∀ p ∈ d.upd, lbden P w' g' p.1 p.2) → (∀ b, g'.dom b → g.dom b ∨ ids d.upd b) → K (a.put o.dst v) w' := by
  intro v w' g' k1 k2 k3 k4 k5
  have hdst : d.lg.dst = o.dst := u2.trans (cOper_cases P A true o).1
  refine hK g' _ w' ⟨k1, hI.ext.trans (k2.more fun _ _ => trivial), fun b hb => ?_, ?_, fun s hs => ?_, fun b => ?_, ?_⟩
  ·rcases k5 b hb with hb | hb
   ·rcases hI.dom b hb with hb | ⟨j, d', q1, q2, q3⟩
    ·exact .inl hb
    ·exact .inr ⟨j, d', q1, by rw [hE', q2]; rfl, q3⟩
   ·exact .inr ⟨i, d, e1, by rw [hE']; simp, hb⟩
  ·have : (a.put o.dst v).tmps.size = a.tmps.size := by cases o.dst <;> simp [Act.put]
   rw [this]; exact hI.sz
  ·obtain ⟨h1, h2⟩ := slots s hs
   by_cases hds : d.lg.dst = some s
   ·rw [h2 hds]
    rw [hdst] at hds
    have : (a.put o.dst v).tmps.toList.getD s undef = v := by
     have hlt : s < a.tmps.size := by rw [hI.sz]; exact hs
     rw [hds]
     simp [Act.put, List.getD, hlt]
    rw [this]
    exact k3
   ·rw [h1 hds]
    rw [hdst] at hds
    have : (a.put o.dst v).tmps.toList.getD s undef = a.tmps.toList.getD s undef := by
     cases hd : o.dst with
     | none => rfl
     | some n =>
      have hne : n ≠ s := fun e => hds (by rw [hd, e])
      simp only [Act.put, Array.set!, Array.toList_setIfInBounds, List.getD]
      rw [List.getElem?_set_ne hne]
    rw [this]
    exact k2.den hI.ok (hI.tm s hs)
  ·obtain ⟨h1, h2⟩ := blocks b
   by_cases hb : ids d.upd b
   ·obtain ⟨lb, q1, q2⟩ := h2 hb
    rw [q2]
    exact k4 (b, lb) q1
   ·rw [h1 hb]
    exact k2.lb hI.ok hb (hdepfree b) (hI.hp b)
  ·have : (a.put o.dst v).defers = a.defers := by cases o.dst <;> rfl
   rw [this]
   exact k2.df hI.df
 unfold wpOpIn
 simp only [ho]
 obtain ⟨_, hcc⟩ := cOper_cases P A true o
 have hgr : ∀ s want, (cOper P A true o).guard = some (s, want) → s ∈ readsOf (cOper P A true o) := fun s want h => by simp [readsOf, h]
 rcases e2 with ⟨nb, f1, f2, f3, f4, f5⟩ | ⟨f1, f2⟩
 ·rcases hcc with ⟨hop, hgd⟩ | ⟨hbad, _⟩
  ·have hw := guard_wanted f2 hgd (tmps := a.tmps) (w := w) (g := g) fun j want s h1 h2 => by
    refine hread s ?_
    rw [f1]
    rcases hgd with ⟨h3, _⟩ | ⟨j', want', s', h3, h4, h5⟩
    ·rw [h3] at h1; cases h1
    ·rw [h3] at h1; cases h1
     rw [h4] at h2; cases h2
     exact hgr _ _ h5
   rw [if_pos hw]
   refine ⟨Fn_about P w ro a.eval o, ?_⟩
   refine f4 g a w ro K Q hI.ok ⟨Sf.h.length, fun b hb => ?_⟩ (fun p hp hle hdom => ?_) (fun x hx => ?_) (fun b hb => ?_) fin
   ·obtain ⟨_, _, n1, _, n2, _⟩ := hch.end
    rcases hI.dom b hb with h | ⟨j, d', q1, _, q3⟩
    ·omega
    ·obtain ⟨p', hp', hpe⟩ := List.mem_map.1 q3
     have := n2 d' (List.mem_of_getElem? q1) p' hp'
     omega
   ·rcases hI.dom p.1 hdom with h | ⟨j, d', q1, q2, q3⟩
    ·omega
    ·rcases Nat.lt_trichotomy j i with hji | rfl | hij
     ·obtain ⟨p', hp', hpe⟩ := List.mem_map.1 q3
      have := e6 j d' hji q1 p' hp'
      omega
     ·rw [hE] at q2; cases q2
     ·obtain ⟨_, d2, r1, r2, _⟩ := hch.at j _ (show ts[j]? = some (ts[j]'(by rw [← hch.end.1]; exact (List.getElem?_eq_some_iff.1 q1).1)) by simp)
      rw [q1] at r1; cases r1
      have := late j d' hij q1 (clash_uu (b := p.1) (by rw [u1]; exact List.mem_map.2 ⟨p, hp, rfl⟩) (by rw [(lg_upd r2).1]; exact q3))
      rw [q2] at this; cases this
   ·refine opd_den x fun t ht => hread t ?_
    subst ht
    rw [f1]
    simp only [lgOf, readsOf]
    have hm : t ∈ (cOper P A true o).reads := by rw [hcr]; exact rds_mem hx
    split
    ·exact List.mem_cons_of_mem _ hm
    ·exact hm
   ·exact hblk b (by rw [f1]; exact hb)
  ·exact absurd hbad f3
 ·rcases hcc with ⟨hop, hgd⟩ | ⟨_, hgn⟩
  ·have hw := guard_wanted f1 hgd (tmps := a.tmps) (w := w) (g := g) fun j want s h1 h2 => by
    refine hread s ?_
    rw [f2]
    rcases hgd with ⟨h3, _⟩ | ⟨j', want', s', h3, h4, h5⟩
    ·rw [h3] at h1; cases h1
    ·rw [h3] at h1; cases h1
     rw [h4] at h2; cases h2
     exact hgr _ _ h5
   rw [if_neg (by simp [hw])]
   refine ⟨Fn_about P w ro a.eval o, ?_⟩
   refine fin undef w g hI.ok (Ext.refl _ _ _) ?_ ?_ (fun b hb => .inl hb)
   ·rw [f2]; exact undef_den
   ·rw [f2]; simp
  ·rw [hgn] at f1
   simp [guardK] at f1
end
end Go.TV
/- The value calculus, part Y: the evaluator of regions in any order. -/
namespace Go.TV
open Go.RowKit
theorem denL_points {w : World} {imm D : Nat → Prop} {ι : Env} : ∀ {σ : List SV} {vs : List Value}, vs.length = σ.length → (∀ s, s < σ.length → den w imm (getS σ s) D ι (vs.getD s undef)) → denL w imm σ D ι vs
 | [], vs, hl, _ => by
  simp only [denL]
  exact List.length_eq_zero_iff.1 hl
 | x :: σ, [], hl, _ => by simp at hl
 | x :: σ, v :: vs, hl, h => by
  simp only [denL]
  refine ⟨v, vs, rfl, by simpa [getS] using h 0 (by simp), denL_points (by simpa using hl) fun s hs => ?_⟩
  simpa [getS] using h (s + 1) (by simpa using hs)
theorem count_one {E E' : Nat → Bool} {i : Nat} (hE : E i = false) (hE' : ∀ j, E' j = (E j || j == i)) : ∀ n, ((List.range n).countP fun j => !E' j) + (if i < n then 1 else 0) = (List.range n).countP fun j => !E j
 | 0 => by simp
 | n + 1 => by
  have ih := count_one hE hE' n
  rw [List.range_succ, List.countP_append, List.countP_append]
  have h1 : ∀ (F : Nat → Bool), [n].countP (fun j => !F j) = if F n then 0 else 1 := fun F => by
   cases h : F n <;> simp [h]
  rw [h1 E', h1 E]
  by_cases hn : n = i
  ·subst hn
   have e : E' n = true := by rw [hE']; simp
   rw [hE, e]
   simp only [Nat.lt_irrefl, if_false, Nat.lt_succ_self, if_true, Bool.false_eq_true] at ih ⊢
   omega
  ·have e : E' n = E n := by
    have : (n == i) = false := by simpa using hn
    rw [hE', this, Bool.or_false]
   rw [e]
   by_cases hlt : i < n
   ·rw [if_pos hlt] at ih
    rw [if_pos (show i < n + 1 by omega)]
    omega
   ·rw [if_neg hlt] at ih
    rw [if_neg (show ¬ i < n + 1 by omega)]
    omega
theorem count_zero {E : Nat → Bool} : ∀ {n : Nat}, ((List.range n).countP fun j => !E j) = 0 → ∀ j, j < n → E j = true := by
 intro n h j hj
 rw [List.countP_eq_zero] at h
 have := h j (List.mem_range.2 hj)
 simpa using this
section
variable {P : Program} {S0 Sf : St} {ds : List DS}
theorem DInv.done {A : Array Oper} {ts : List Oper} (hch : Chain P A ts S0 ds Sf) {E : Nat → Bool} {g0 g : Gh} {w0 w : World} {a : Act} (hI : DInv P S0 ds E g0 w0 g a w) (hall : ∀ j, j < ds.length → E j = true) : Sim P g Sf a w := by
 obtain ⟨h1, h2, h3, h4, h5, h6, h7⟩ := hch.end
 have hr : ∀ {α : Type} (Ws : List (List (Nat × α))) (f : Nat → α) (s : Nat), Ws.length = ds.length → runW E 0 Ws f s = runW (fun _ => true) 0 Ws f s := by
  intro α Ws f s hl
  refine runW_congr rfl fun j W hj _ => ?_
  rw [Nat.zero_add]
  exact hall j (by rw [← hl]; exact (List.getElem?_eq_some_iff.1 hj).1)
 refine ⟨hI.ok, fun b hb => ?_, ?_, fun b => ?_, ?_⟩
 ·rcases hI.dom b hb with hb | ⟨i, d, q1, _, q3⟩
  ·omega
  ·obtain ⟨p, hp, rfl⟩ := List.mem_map.1 q3
   exact h5 d (List.mem_of_getElem? q1) p hp
 ·refine denL_points (by rw [h2]; simpa using hI.sz) fun s hs => ?_
  rw [h2] at hs
  rw [h6 s hs, ← hr _ _ _ (by simp)]
  exact hI.tm s hs
 ·rw [h7 b, ← hr _ _ _ (by simp)]
  exact hI.hp b
 ·exact hI.df
theorem draw_any {A : Array Oper} {ts : List Oper} (hch : Chain P A ts S0 ds Sf) (hck : Chk (itersOf S0.h) (ds.map (·.lg))) (hts : ts = A.toList) {g0 : Gh} {w0 : World}
  {ro : Option Nat} {Q : Exit → Act → World → Prop} (hQ : ∀ g' a' w', Sim P g' Sf a' w' → Ext g0 w0 g' w' All → Q .normal a' w') :
  ∀ (fuel : Nat) (listed : Array Bool) (g : Gh) (a : Act) (w : World), listed.size = A.size → Down ds (fun j => listed.getD j false) → DInv P S0 ds (fun j => listed.getD j false) g0 w0 g a w →
   ((List.range A.size).countP fun j => !listed.getD j false) = fuel → wpAnyIn (Fn ro) 0 P .any A Q fuel listed a w := by
 have hlen : ds.length = A.size := by rw [hch.end.1, hts]; simp
 intro fuel
 induction fuel with
 | zero =>
  intro listed g a w hsz hdown hI hc
  have hall := count_zero (E := fun j => listed.getD j false) hc
  refine ⟨?_, hQ g a w (hI.done hch fun j hj => hall j (by omega)) hI.ext⟩
  rw [List.eq_nil_iff_forall_not_mem]
  intro i hi
  obtain ⟨h0, o, ho, _⟩ := mem_ready.1 hi
  have hlt : i < A.size := (Array.getElem?_eq_some_iff.1 ho).1
  have := hall i hlt
  simp [hsz, hlt] at this h0
  rw [this] at h0; cases h0
 | succ fuel ih =>
  intro listed g a w hsz hdown hI hc
  refine ⟨fun hnil => ?_, fun i hi => ?_⟩
  ·refine hQ g a w (hI.done hch ?_) hI.ext
   intro j
   induction j using Nat.strongRecOn with
   | _ j ihj =>
    intro hj
    cases hE : listed.getD j false with
    | true => rfl
    | false =>
     exfalso
     have hlt : j < A.size := by omega
     have hm : j ∈ Region.ready .any A listed := by
      refine mem_ready.2 ⟨?_, A[j], by simp [hlt], fun e he hb => ?_⟩
      ·simp [hsz, hlt] at hE ⊢; exact hE
      ·obtain ⟨Si, d, e1, e2, _⟩ := hch.at j A[j] (by rw [hts]; simp [hlt])
       have hd : d.lg.deps = cDeps A[j] := by
        rw [(lg_upd e2).2.2.1]
        unfold cOper
        cases hg : A[j].guard with
        | none => rfl
        | some jw =>
         obtain ⟨j', want⟩ := jw
         simp only
         cases hs : (A[j']?).bind (·.dst) <;> rfl
       have hin : e.on ∈ d.lg.deps := by
        rw [hd]
        simp only [cDeps, List.mem_map, List.mem_filter]
        exact ⟨e, ⟨by simpa using he, hb⟩, rfl⟩
       have hltj := hck.lt j d.lg (by rw [List.getElem?_map, e1]; rfl) _ hin
       exact ihj e.on hltj (by omega)
     rw [hnil] at hm; cases hm
  ·obtain ⟨h0, o, ho, hall⟩ := mem_ready.1 hi
   have hlt : i < A.size := (Array.getElem?_eq_some_iff.1 ho).1
   have hE : listed.getD i false = false := by simp [hsz, hlt] at h0 ⊢; exact h0
   have hE' : ∀ j, (listed.setIfInBounds i true).getD j false = (listed.getD j false || j == i) := by
    intro j
    by_cases e : i = j
    ·subst e; simp [hsz, hlt]
    ·rw [getD_set_ne false e]
     have : (j == i) = false := by simpa using fun h => e h.symm
     rw [this, Bool.or_false]
   refine draw_step hch hck hI hdown ho (by rw [hts]; simpa using ho) hE (fun k hk => ?_) hE' fun g' a' w' hI' => ?_
   ·simp only [cDeps, List.mem_map, List.mem_filter] at hk
    obtain ⟨e, ⟨he, hb⟩, rfl⟩ := hk
    exact hall e (by simpa using he) hb
   ·refine ih _ g' a' w' (by simpa using hsz) (fun k d hk hEk j hj => ?_) hI' ?_
    ·simp only [hE'] at hEk ⊢
     by_cases e : k = i
     ·subst e
      obtain ⟨Si, d', e1, e2, _⟩ := hch.at k A[k] (by rw [hts]; simp [hlt])
      rw [hk] at e1; cases e1
      have hd : d.lg.deps = cDeps A[k] := by
       rw [(lg_upd e2).2.2.1]
       unfold cOper
       cases hg : A[k].guard with
       | none => rfl
       | some jw =>
        obtain ⟨j', want⟩ := jw
        simp only
        cases hs : (A[j']?).bind (·.dst) <;> rfl
      rw [hd] at hj
      simp only [cDeps, List.mem_map, List.mem_filter] at hj
      obtain ⟨e, ⟨he, hb⟩, rfl⟩ := hj
      have ho' : A[k] = o := by
       have := (Array.getElem?_eq_some_iff.1 ho).2; exact this
      rw [ho'] at he
      rw [hall e (by simpa using he) hb]
      rfl
     ·have e' : (k == i) = false := by simpa using e
      rw [e', Bool.or_false] at hEk
      have := hdown k d hk hEk j hj
      simp only at this
      rw [this]
      rfl
    ·have := count_one (E := fun j => listed.getD j false) (E' := fun j => (listed.setIfInBounds i true).getD j false) hE hE' A.size
     rw [if_pos hlt, hc] at this
     omega
def covGo : List Lg → List Nat → Bool
 | [], _ => true
 | x :: xs, m => memB m xs.length && covGo xs (x.deps ++ m)
def covers (rl : List Lg) (m : List Nat) : Bool := allLt m rl.length && covGo rl m
theorem covGo_spec {E : Nat → Bool} : ∀ {rl : List Lg} {m : List Nat}, covGo rl m = true → (∀ (i : Nat) (x : Lg), rl.reverse[i]? = some x → E i = true → ∀ j ∈ x.deps, E j = true) → (∀ j ∈ m, E j = true) → ∀ j, j < rl.length → E j = true
 | [], _, _, _, _, j, hj => by simp at hj
 | x :: xs, m, h, hd, hm, j, hj => by
  simp only [covGo, Bool.and_eq_true] at h
  have h1 := hm _ (memB_iff.1 h.1)
  have hx : (x :: xs).reverse[xs.length]? = some x := by simp
  rcases Nat.lt_or_eq_of_le (Nat.lt_succ_iff.1 (by simpa using hj)) with hlt | rfl
  ·refine covGo_spec h.2 (fun i y hy => hd i y ?_) (fun k hk => ?_) j hlt
   ·rw [List.reverse_cons, List.getElem?_append_left (by simpa using (List.getElem?_eq_some_iff.1 hy).1)]; exact hy
   ·rcases List.mem_append.1 hk with hk | hk
    ·exact hd _ x hx h1 k hk
    ·exact hm k hk
  ·exact h1
theorem draw_last {A : Array Oper} {ts : List Oper} (hch : Chain P A ts S0 ds Sf) (hck : Chk (itersOf S0.h) (ds.map (·.lg))) {o : Oper} (hts : A.toList = ts ++ [o])
  (hcov : covers (ds.map (·.lg)).reverse (cDeps o) = true) {g0 : Gh} {w0 : World}
  {ro : Option Nat} {Q : Exit → Act → World → Prop} (hlast : ∀ g a w, Sim P g Sf a w → Ext g0 w0 g w All → wpOpIn (Fn ro) 0 P A Q ts.length (fun a w => Q .normal a w) a w) :
  ∀ (fuel : Nat) (listed : Array Bool) (g : Gh) (a : Act) (w : World), listed.size = A.size → listed.getD ts.length false = false → Down ds (fun j => listed.getD j false) → DInv P S0 ds (fun j => listed.getD j false) g0 w0 g a w →
   ((List.range A.size).countP fun j => !listed.getD j false) = fuel → wpAnyIn (Fn ro) 0 P .any A Q fuel listed a w := by
 have hn : ds.length = ts.length := hch.end.1
 have hsz' : A.size = ts.length + 1 := by rw [← Array.length_toList, hts]; simp
 have hget : ∀ j, j < ts.length → ∀ x, A[j]? = some x → ts[j]? = some x := fun j hj x hx => by
  rw [← Array.getElem?_toList, hts, List.getElem?_append_left hj] at hx; exact hx
 have hgetl : A[ts.length]? = some o := by rw [← Array.getElem?_toList, hts]; simp
 obtain ⟨hc1, hc2⟩ := Bool.and_eq_true_iff.1 hcov
 have hlt1 : ∀ j ∈ cDeps o, j < ts.length := fun j hj => by have := allLt_iff hc1 j hj; simpa [hn] using this
 have hall : ∀ E : Nat → Bool, Down ds E → (∀ j ∈ cDeps o, E j = true) → ∀ j, j < ds.length → E j = true := fun E hd hm j hj => by
  refine covGo_spec hc2 (fun i x hx => ?_) hm j (by simpa using hj)
  rw [List.reverse_reverse, List.getElem?_map, Option.map_eq_some_iff] at hx
  obtain ⟨d, h1, rfl⟩ := hx
  exact hd i d h1
 have deps_eq : ∀ (j : Nat) (x : Oper), ts[j]? = some x → ∀ d : DS, ds[j]? = some d → d.lg.deps = cDeps x := fun j x hx d hd => by
  obtain ⟨Si, d', e1, e2, _⟩ := hch.at j x hx
  rw [hd] at e1; cases e1
  rw [(lg_upd e2).2.2.1]
  unfold cOper
  cases hg : x.guard with
  | none => rfl
  | some jw =>
   obtain ⟨j', want⟩ := jw
   simp only
   cases hs : (A[j']?).bind (·.dst) <;> rfl
 intro fuel
 induction fuel with
 | zero =>
  intro listed g a w hsz hl hdown hI hc
  have := count_zero (E := fun j => listed.getD j false) hc ts.length (by omega)
  rw [hl] at this; cases this
 | succ fuel ih =>
  intro listed g a w hsz hl hdown hI hc
  have rdy : ∀ j, j < A.size → listed.getD j false = false → ∀ x, A[j]? = some x → (∀ e ∈ cDeps x, listed.getD e false = true) → j ∈ Region.ready .any A listed := fun j hj hE x hx hd => by
   refine mem_ready.2 ⟨?_, x, hx, fun e he hb => ?_⟩
   ·simp [hsz, hj] at hE ⊢; exact hE
   ·refine hd e.on ?_
    simp only [cDeps, List.mem_map, List.mem_filter]
    exact ⟨e, ⟨by simpa using he, hb⟩, rfl⟩
  refine ⟨fun hnil => ?_, fun i hi => ?_⟩
  ·exfalso
   have hdone : ∀ j, j < ts.length → listed.getD j false = true := by
    intro j
    induction j using Nat.strongRecOn with
    | _ j ihj =>
     intro hj
     cases hE : listed.getD j false with
     | true => rfl
     | false =>
      exfalso
      have hx : A[j]? = some A[j] := by simp
      have hm := rdy j (by omega) hE _ hx fun e he => by
       have hd : ds[j]? = some (ds[j]'(by omega)) := by simp
       have := hck.lt j _ (by rw [List.getElem?_map, hd]; rfl) e (by rw [deps_eq j _ (hget j hj _ hx) _ hd]; exact he)
       exact ihj e this (by omega)
      rw [hnil] at hm; cases hm
   have hm := rdy ts.length (by omega) hl o hgetl fun e he => hdone e (hlt1 e he)
   rw [hnil] at hm; cases hm
  ·obtain ⟨h0, x, hx, hdp⟩ := mem_ready.1 hi
   have hlt : i < A.size := (Array.getElem?_eq_some_iff.1 hx).1
   have hE : listed.getD i false = false := by simp [hsz, hlt] at h0 ⊢; exact h0
   have hE' : ∀ j, (listed.setIfInBounds i true).getD j false = (listed.getD j false || j == i) := by
    intro j
    by_cases e : i = j
    ·subst e; simp [hsz, hlt]
    ·rw [getD_set_ne false e]
     have : (j == i) = false := by simpa using fun h => e h.symm
     rw [this, Bool.or_false]
   have hdeps : ∀ k ∈ cDeps x, listed.getD k false = true := fun k hk => by
    simp only [cDeps, List.mem_map, List.mem_filter] at hk
    obtain ⟨e, ⟨he, hb⟩, rfl⟩ := hk
    exact hdp e (by simpa using he) hb
   have hcnt := count_one (E := fun j => listed.getD j false) (E' := fun j => (listed.setIfInBounds i true).getD j false) hE hE' A.size
   rw [if_pos hlt, hc] at hcnt
   by_cases hin : i = ts.length
   ·subst hin
    rw [hgetl] at hx; cases hx
    have hd := hall _ hdown hdeps
    refine wpOpIn_mono (fun a' w' hq => ?_) (hlast g a w (hI.done hch hd) hI.ext)
    have hall' : ∀ j, j < A.size → (listed.setIfInBounds ts.length true).getD j false = true := fun j hj => by
     rw [hE']
     by_cases e : j = ts.length
     ·subst e; simp
     ·rw [show listed.getD j false = true from hd j (by omega)]; rfl
    have h0 : fuel = 0 := by
     have : ((List.range A.size).countP fun j => !(listed.setIfInBounds ts.length true).getD j false) = 0 := by
      rw [List.countP_eq_zero]
      intro j hj
      rw [hall' j (List.mem_range.1 hj)]; simp
     omega
    subst h0
    refine ⟨?_, hq⟩
    rw [List.eq_nil_iff_forall_not_mem]
    intro j hj
    obtain ⟨q0, y, hy, _⟩ := mem_ready.1 hj
    have hjl : j < A.size := (Array.getElem?_eq_some_iff.1 hy).1
    have := hall' j hjl
    simp [hsz, hjl] at this q0
    rw [this] at q0; cases q0
   ·have hil : i < ts.length := by omega
    refine draw_step hch hck hI hdown hx (hget i hil x hx) hE hdeps hE' fun g' a' w' hI' => ?_
    refine ih _ g' a' w' (by simpa using hsz) ?_ (fun k d hk hEk j hj => ?_) hI' (by omega)
    ·rw [hE', hl]; simpa using fun h => hin h.symm
    ·simp only [hE'] at hEk ⊢
     by_cases e : k = i
     ·subst e
      rw [deps_eq k x (hget k hil x hx) d hk] at hj
      rw [hdeps j hj]; rfl
     ·have e' : (k == i) = false := by simpa using e
      rw [e', Bool.or_false] at hEk
      have := hdown k d hk hEk j hj
      simp only at this
      rw [this]; rfl
def TD (P : Program) (r : Fr) (ts : List TOper) (S : St) (log : List Lg) (it : List Nat) (K : St → Prop) : Prop :=
 P.follows .mixedOrders = true → ∀ (A : Array Oper) (os : List Oper), os.map (cOper P A true) = ts → ∃ os1 os2 ds Sf, os = os1 ++ os2 ∧ Chain P A os1 S ds Sf ∧ chkGo it (log.reverse ++ ds.map (·.lg)) 0 [] [] = true ∧
  ((os2 = [] ∧ K Sf) ∨ ∃ o, os2 = [o] ∧ covers (log.reverse ++ ds.map (·.lg)).reverse (cDeps o) = true ∧ TS P r [cOper P A false o] Sf K)
@[irreducible] def TDq (P : Program) (r : Fr) (ts : List TOper) (S : St) (log : List Lg) (it : List Nat) (K : St → Prop) : Prop := TD P r ts S log it K
theorem TDq_iff {r : Fr} {ts : List TOper} {S : St} {log : List Lg} {it : List Nat} {K : St → Prop} : TDq P r ts S log it K ↔ TD P r ts S log it K := by
 unfold TDq; exact Iff.rfl
def evDn (S : St) (log : List Lg) (it : List Nat) (K : St → Prop) : Prop := Vc (chkGo it log.reverse 0 [] [] = true) ∧ Ev (K S)
def evDc (P : Program) (r : Fr) (t : TOper) (ts : List TOper) (ih : St → List Lg → List Nat → (St → Prop) → Prop) (S : St) (log : List Lg) (it : List Nat) (K : St → Prop) : Prop :=
 match S with
 | ⟨σ, h, mks⟩ => guardK σ t.guard fun b => match b with
  | true => match isStop t.op with
   | true => TDq P r (t :: ts) ⟨σ, h, mks⟩ log it K
   | false => lenK h fun nid => ev σ h nid t.op fun sv upd nb => setD σ t.dst sv fun σ' => updK h upd fun h' => ih ⟨σ', h', mks⟩ (lgOf t upd nb :: log) it K
  | false => setD σ t.dst (.tup []) fun σ' => ih ⟨σ', h, mks⟩ (lgOf t [] [] :: log) it K
noncomputable def evD (P : Program) (r : Fr) (ts : List TOper) : St → List Lg → List Nat → (St → Prop) → Prop :=
 List.rec (motive := fun _ => St → List Lg → List Nat → (St → Prop) → Prop) evDn (evDc P r) ts
theorem evD_nil (P : Program) (r : Fr) (S : St) (log : List Lg) (it : List Nat) (K : St → Prop) : evD P r [] S log it K = (Vc (chkGo it log.reverse 0 [] [] = true) ∧ Ev (K S)) := rfl
theorem evD_cons (P : Program) (r : Fr) (t : TOper) (ts : List TOper) (σ : List SV) (h : List LB) (mks : List Nat) (log : List Lg) (it : List Nat) (K : St → Prop) : evD P r (t :: ts) ⟨σ, h, mks⟩ log it K = (guardK σ t.guard fun b => match b with
   | true => match isStop t.op with
    | true => TDq P r (t :: ts) ⟨σ, h, mks⟩ log it K
    | false => lenK h fun nid => ev σ h nid t.op fun sv upd nb => setD σ t.dst sv fun σ' => updK h upd fun h' => evD P r ts ⟨σ', h', mks⟩ (lgOf t upd nb :: log) it K
   | false => setD σ t.dst (.tup []) fun σ' => evD P r ts ⟨σ', h, mks⟩ (lgOf t [] [] :: log) it K) := rfl
theorem setD_iff {σ : List SV} {d : Option Nat} {s : SV} {k : List SV → Prop} : setD σ d s k ↔ k (match d with | none => σ | some n => σ.set n s) := by
 cases d with
 | none => exact Iff.rfl
 | some n => simp only [setD, forceK_iff]; exact setK_iff σ n s k
theorem updK_wr : ∀ {us : List (Nat × LB)} {h : List LB} {k : List LB → Prop}, updK h us k → ∃ h', k h' ∧ h.length ≤ h'.length ∧ (∀ p ∈ us, p.1 < h'.length) ∧ ∀ c, hget h' c = wr us (hget h) c
 | [], h, k, hk => ⟨h, hk, Nat.le_refl _, by simp, fun _ => rfl⟩
 | (b, lb) :: us, h, k, hk => by
  obtain ⟨h1, k1, l1, l2, e1, e2⟩ := updGo_spec hk
  obtain ⟨h2, k2, l3, l4, e3⟩ := updK_wr (us := us) k1
  refine ⟨h2, k2, by omega, ?_, fun c => ?_⟩
  ·intro p hp
   rcases List.mem_cons.1 hp with rfl | hp
   ·simp only; omega
   ·exact l4 p hp
  ·rw [e3 c]
   simp only [wr]
   have hf : hget h1 = fun m => if m = b then lb else hget h m := by
    funext m
    by_cases e : m = b
    ·subst e; simp [e1]
    ·simp [e, e2 m e]
   rw [hf]
theorem guardK_true {σ : List SV} {g : Option (Nat × Bool)} {k : Bool → Prop} (h : guardK σ g k) : ∃ b, guardK σ g (· = b) ∧ k b := by
 unfold guardK at h ⊢
 cases g with
 | none => exact ⟨true, rfl, h⟩
 | some p =>
  obtain ⟨s, want⟩ := p
  simp only at h ⊢
  cases hs : getS σ s <;> simp only [hs] at h
  ·rename_i b
   cases b <;> cases want <;> simp at h ⊢ <;> exact h
  ·exact ⟨false, rfl, h⟩
theorem TD.step {r : Fr} {t : TOper} {ts : List TOper} {S : St} {log : List Lg} {it : List Nat} {K : St → Prop} (hg : guardK S.σ t.guard (· = true)) (hb : t.op ≠ .bad)
  (hh : P.follows .mixedOrders = true → ∀ o, o.dst = t.dst → cOp P o.op = t.op → ∃ sv upd nb, ORun P o S.σ S.h S.h.length sv upd nb ∧ (∀ p ∈ upd, p.1 = S.h.length ∨ (p.1 ∈ nb ∧ p.1 < S.h.length)) ∧
   setD S.σ t.dst sv fun σ' => updK S.h upd fun h' => TD P r ts ⟨σ', h', S.mks⟩ (lgOf t upd nb :: log) it K) : TD P r (t :: ts) S log it K := by
 intro hm A os hos
 cases os with
 | nil => cases hos
 | cons o os =>
  simp only [List.map_cons, List.cons.injEq] at hos
  obtain ⟨rfl, hos⟩ := hos
  obtain ⟨c1, c2⟩ := cOper_cases P A true o
  rcases c2 with ⟨c2, _⟩ | ⟨c2, _⟩
  ·obtain ⟨sv, upd, nb, hr, hnb, hK⟩ := hh hm o c1.symm c2.symm
   rw [setD_iff] at hK
   obtain ⟨h', hTD, l1, l2, l3⟩ := updK_wr hK
   obtain ⟨os1, os2, ds, Sf, k0, k1, k2, k3⟩ := hTD hm A os hos
   refine ⟨o :: os1, os2, ⟨lgOf (cOper P A true o) upd nb, sv, upd⟩ :: ds, Sf, by rw [k0]; rfl, ⟨_, ds, ⟨match (cOper P A true o).dst with | none => S.σ | some n => S.σ.set n sv, h', S.mks⟩, rfl, .inl ⟨nb, rfl, hg, hb, hr, hnb⟩, ⟨rfl, l1, l2, l3, rfl⟩, k1⟩, by simpa using k2, by simpa using k3⟩
  ·exact absurd c2 hb
theorem TD.skip {r : Fr} {t : TOper} {ts : List TOper} {S : St} {log : List Lg} {it : List Nat} {K : St → Prop} (hg : guardK S.σ t.guard (· = false))
  (hK : setD S.σ t.dst (.tup []) fun σ' => TD P r ts ⟨σ', S.h, S.mks⟩ (lgOf t [] [] :: log) it K) : TD P r (t :: ts) S log it K := by
 intro hm A os hos
 cases os with
 | nil => cases hos
 | cons o os =>
  simp only [List.map_cons, List.cons.injEq] at hos
  obtain ⟨rfl, hos⟩ := hos
  rw [setD_iff] at hK
  obtain ⟨os1, os2, ds, Sf, k0, k1, k2, k3⟩ := hK hm A os hos
  refine ⟨o :: os1, os2, ⟨lgOf (cOper P A true o) [] [], .tup [], []⟩ :: ds, Sf, by rw [k0]; rfl, ⟨_, ds, ⟨match (cOper P A true o).dst with | none => S.σ | some n => S.σ.set n (.tup []), S.h, S.mks⟩, rfl, .inr ⟨hg, rfl⟩, ⟨rfl, Nat.le_refl _, by simp, fun _ => rfl, rfl⟩, k1⟩, by simpa using k2, by simpa using k3⟩
theorem hget_out : ∀ {h : List LB} {b : Nat}, h.length ≤ b → hget h b = .dead
 | [], _, _ => rfl
 | _ :: _, 0, h => by simp at h
 | _ :: h, b + 1, hl => by simp only [hget]; exact hget_out (by simpa using hl)
theorem Safe.lt {h : List LB} {b : Nat} (hs : Safe h b) : b < h.length := by
 rcases Nat.lt_or_ge b h.length with hl | hl
 ·exact hl
 ·unfold Safe at hs
  rw [hget_out hl] at hs
  exact hs.elim
theorem evD_sound {r : Fr} : ∀ {ts : List TOper} {S : St} {log : List Lg} {it : List Nat} {K : St → Prop}, evD P r ts S log it K → TD P r ts S log it K
 | [], S, log, it, K, hK => fun _ A os hos => by
  have : os = [] := by cases os with | nil => rfl | cons o os => cases hos
  subst this
  rw [evD_nil, Ev_iff, Vc_iff] at hK
  exact ⟨[], [], [], S, rfl, ⟨rfl, rfl⟩, by simpa using hK.1, .inl ⟨rfl, hK.2⟩⟩
 | t :: ts, ⟨σ, h, mks⟩, log, it, K, hK => by
  rw [evD_cons] at hK
  obtain ⟨b, hg, hK⟩ := guardK_true hK
  cases b with
  | true =>
   simp only at hK
   cases hst : isStop t.op with
   | true =>
    simp only [hst] at hK
    exact TDq_iff.1 hK
   | false =>
    simp only [hst] at hK
    have hK := lenK_iff _ _ hK
    have hb : t.op ≠ .bad := fun e => by rw [e] at hK; exact hK
    refine TD.step hg hb fun _ o ho1 ho2 => ?_
    rw [← ho2] at hK
    obtain ⟨sv, upd, nb, h1, h2, h3⟩ := ev_sound o hK
    refine ⟨sv, upd, nb, h2.orun (ev_nodefer hK), fun p hp => (h3 p hp).imp id fun h => ⟨h.1, h.2.lt⟩, ?_⟩
    rw [setD_iff] at h1 ⊢
    have mono : ∀ {us : List (Nat × LB)} {h : List LB} {k k' : List LB → Prop}, (∀ h', k h' → k' h') → updK h us k → updK h us k' := by
     intro us
     induction us with
     | nil => exact fun hk h => hk _ h
     | cons p us ih =>
      intro h k k' hk hu
      obtain ⟨b, lb⟩ := p
      simp only [updK] at hu ⊢
      have mono1 : ∀ {h : List LB} {b : Nat} {k k' : List LB → Prop}, (∀ h', k h' → k' h') → updGo h b lb k → updGo h b lb k' := by
       intro h
       induction h with
       | nil => intro b k k' hk hu; cases b <;> first | exact hk _ hu | exact hu
       | cons x h ih => intro b k k' hk hu; cases b with
        | zero => exact hk _ hu
        | succ b => exact ih (fun h' hh => hk _ hh) hu
      exact mono1 (fun h' hh => ih hk hh) hu
    exact mono (fun h' hh => evD_sound hh) h1
  | false =>
   simp only at hK
   refine TD.skip hg ?_
   rw [setD_iff] at hK ⊢
   exact evD_sound hK
theorem TD.region {r : Fr} {ts : List TOper} {S : St} {K : St → Prop} (hT : TD P r ts S [] (itersOf S.h) K) {id : Nat} {A : Array Oper} (hm : P.follows .mixedOrders = true) (hts : A.toList.map (cOper P A true) = ts)
  {g : Gh} {a : Act} {w : World} {ro : Option Nat} {Q : Exit → Act → World → Prop} (hs : Sim P g S a w) (hr : roOK g r ro)
  (hQ : ∀ S' g' a' w', K S' → Sim P g' S' a' w' → Exw r.base g w g' w' → Q .normal a' w') (hp : PanOK P r g w Q) : (Code.region id A true).wpIn (Fn ro) 0 P Q a w := by
 obtain ⟨os1, os2, ds, Sf, h0, h1, h2, h3⟩ := hT hm A A.toList hts
 have hck := chk_spec (by simpa using h2)
 refine wpIn_region_any hm ?_
 obtain ⟨d1, d2⟩ := ext_drew (U := All) hs.ok
 have hd : w.drew = { w with drawn := w.drawn + 1 } := rfl
 rw [← hd]
 have hf : ∀ j, (Array.replicate A.size false).getD j false = false := by
  intro j
  simp only [Array.getD_eq_getD_getElem?, Array.getElem?_replicate]
  split <;> rfl
 have hdn : Down ds (fun j => (Array.replicate A.size false).getD j false) := by
  intro i d _ hE
  simp only [hf] at hE; cases hE
 have hI : DInv P S ds (fun j => (Array.replicate A.size false).getD j false) g w g a w.drew := by
  refine ⟨d1, d2, fun b hb => .inl (hs.lt b hb), ?_, fun s hs' => ?_, fun b => ?_, d2.df hs.df⟩
  ·have := denL_len hs.tm; simpa using this
  ·rw [runW_stay fun j W _ _ => hf _]
   exact d2.den hs.ok (getS_den hs.tm s)
  ·rw [runW_stay fun j W _ _ => hf _]
   exact (ext_drew (U := fun _ => False) hs.ok).2.lb hs.ok (fun h => h) (fun _ _ h => h) (hs.hp b)
 have hc : ((List.range A.size).countP fun j => !(Array.replicate A.size false).getD j false) = A.size := by simp [hf]
 rcases h3 with ⟨rfl, h3⟩ | ⟨o, rfl, h3, h4⟩
 ·exact draw_any (g0 := g) (w0 := w) h1 hck (by simpa using h0.symm) (fun g' a' w' q1 q2 => hQ Sf g' a' w' h3 q1 (q2.exw _)) A.size (Array.replicate A.size false) g a w.drew (by simp) hdn hI hc
 ·refine draw_last (g0 := g) (w0 := w) h1 hck h0 (by simpa using h3) (fun g' a' w' q1 q2 => ?_) A.size (Array.replicate A.size false) g a w.drew (by simp) (hf _) hdn hI hc
  have hd : (A.toList.map (cOper P A false)).drop os1.length = [cOper P A false o] := by rw [h0]; simp
  have := h4 hm A os1.length g' a' w' ro Q (hd ▸ List.prefix_rfl) q1 (q2.ro hr) (fun S'' g'' a'' w'' r1 r2 r3 => hQ S'' g'' a'' w'' r1 r2 ((q2.exw _).trans r3)) (hp.trans (q2.exw _))
  rw [List.length_singleton, List.range'_succ, List.range'_zero, wpOpsIn_cons] at this
  exact this
end
end Go.TV
/- The value calculus, part Z: code, functions and calls. -/
namespace Go.TV
open Go.RowKit
def exitOf : Option Jump → Exit
 | none => .normal
 | some .ret => .ret
 | some (.exit id) => .exit id
section
variable {F : Fence} {n : Nat} {P : Program} {Q : Exit → Act → World → Prop} {a : Act} {w : World}
def noGoto (Q : Exit → Act → World → Prop) : Exit → Act → World → Prop
 | .goto _, _, _ => False
 | e, a, w => Q e a w
theorem stepR_scope {b : Frame} {k : List Item} {cs : List Frame} {c : Code} : step P (lone (b.atR a (.code (.scope c) :: k)) cs w) = .next (lone (b.atR a (.code c :: .inScope c :: k)) cs w) :=
 step_lone_go (by simp [stepG, stepG.exec, Frame.atR])
theorem stepR_inScope {b : Frame} {k : List Item} {cs : List Frame} {c : Code} : step P (lone (b.atR a (.inScope c :: k)) cs w) = .next (lone (b.atR a k) cs w) :=
 step_lone_go (by simp [stepG, stepG.exec, Frame.atR])
theorem wpIn_scope_straight {c : Code} (h : c.wpIn F n P (noGoto Q) a w) : (Code.scope c).wpIn F n P Q a w := by
 intro b k cs hro hb hr
 have h0 : (lone (b.atR a (.code (.scope c) :: k)) cs w).fenced P F := fenced_calm hb hr rfl
 obtain ⟨e, a₁, w₁, hq, harr⟩ := h b (.inScope c :: k) cs hro hb hr
 cases e with
 | normal => exact ⟨.normal, a₁, w₁, hq, .head h0 stepR_scope (StepsIn.trans harr (.one (fenced_calm hb hr rfl) stepR_inScope))⟩
 | exit id =>
  have hx : exitTo id (.inScope c :: k) = exitTo id k := by simp [exitTo]
  exact ⟨.exit id, a₁, w₁, hq, fun k' hk => .head h0 stepR_scope (harr.1 k' (by rw [hx]; exact hk)),
   fun hr' hk => let ⟨k₁, h1, h2⟩ := harr.2 hr' (by rw [hx]; exact hk); ⟨k₁, h1, .head h0 stepR_scope h2⟩⟩
 | goto l => exact hq.elim
 | ret => exact ⟨_, a₁, w₁, hq, .of_steps (.one h0 stepR_scope) harr⟩
 | panic ch => exact ⟨_, a₁, w₁, hq, .of_steps (.one h0 stepR_scope) harr⟩
 | outgrown => exact ⟨_, a₁, w₁, hq, .of_steps (.one h0 stepR_scope) harr⟩
end
def TW (P : Program) (r : Fr) (c : TCode) (S : St) (Q : Option Jump → St → Prop) : Prop :=
 P.follows .mixedOrders = true → ∀ (k : Code) (g : Gh) (a : Act) (w : World) (ro : Option Nat) (Q' : Exit → Act → World → Prop), comp P k = c → Sim P g S a w → roOK g r ro →
  (∀ j S' g' a' w', Q j S' → Sim P g' S' a' w' → Exw r.base g w g' w' → Q' (exitOf j) a' w') → PanOK P r g w Q' → k.wpIn (Fn ro) 0 P Q' a w
@[irreducible] def TWq (P : Program) (r : Fr) (c : TCode) (S : St) (Q : Option Jump → St → Prop) : Prop := TW P r c S Q
theorem TWq_iff {P : Program} {r : Fr} {c : TCode} {S : St} {Q : Option Jump → St → Prop} : TWq P r c S Q ↔ TW P r c S Q := by
 unfold TWq; exact Iff.rfl
abbrev EvC := St → (Option Jump → St → Prop) → Prop
def evBad : EvC := fun _ _ => False
def evSkip : EvC := fun S Q => Q none S
def anyEnt : List TOper → Bool
 | [] => false
 | t :: ts => match t.op with
  | .mapEnt _ _ _ _ => true
  | _ => anyEnt ts
noncomputable def evReg (P : Program) (r : Fr) (draw : Bool) (ops : List TOper) : EvC := fun S Q =>
 match draw with
 | false => evR P r ops S (Q none)
 | true => match anyEnt ops with
  | true => TWq P r (.region true ops) S Q
  | false => evD P r ops S [] (itersOf S.h) (Q none)
def evSeq (_ _ : TCode) (iha ihb : EvC) : EvC := fun S Q => iha S fun j S' => match j with
 | none => ihb S' Q
 | some j => Q (some j) S'
def evCond (c : TOpd) (_ _ : TCode) (iha ihb : EvC) : EvC := fun S Q => match gv S.σ c with
 | .bool b' => match b' with
  | true => iha S Q
  | false => ihb S Q
 | _ => False
def evBlock (id : Nat) (_ : TCode) (ih : EvC) : EvC := fun S Q => ih S fun j S' => match j with
 | some (.exit id') => match Nat.beq id' id with
  | true => Q none S'
  | false => Q (some (.exit id')) S'
 | none => Q none S'
 | some .ret => Q (some .ret) S'
def evLoop (P : Program) (r : Fr) (c : TCode) (_ : EvC) : EvC := fun S Q => TWq P r (.loop c) S Q
def evRfunc (P : Program) (r : Fr) (f : TOpd) (ps : List Nat) (a b : TCode) (_ _ : EvC) : EvC := fun S Q => TWq P r (.rfunc f ps a b) S Q
def evExit (id : Nat) : EvC := fun S Q => Q (some (.exit id)) S
def evScope (_ : TCode) (ih : EvC) : EvC := fun S Q => ih S Q
def evRet : EvC := fun S Q => Q (some .ret) S
noncomputable def evC (P : Program) (r : Fr) (c : TCode) : EvC :=
 TCode.rec (motive := fun _ => EvC) evBad evSkip (evReg P r) evSeq evCond evBlock (evLoop P r) (evRfunc P r) evExit evScope evRet c
section
variable {P : Program} {r : Fr}
theorem TW.mono {c : TCode} {S : St} {Q Q' : Option Jump → St → Prop} (h : TW P r c S Q) (hq : ∀ j S, Q j S → Q' j S) : TW P r c S Q' :=
 fun hm k g a w ro q hk hs hr hh hp => h hm k g a w ro q hk hs hr (fun j S' g' a' w' q1 => hh j S' g' a' w' (hq j S' q1)) hp
theorem evC_sound : ∀ {c : TCode} {S : St} {Q : Option Jump → St → Prop}, evC P r c S Q → TW P r c S Q := by
 intro c
 induction c with
 | bad => exact fun h => h.elim
 | skip =>
  intro S Q hK hm k g a w ro Q' hk hs hr hh hp
  have hq := hh none S g a w hK hs (Exw.refl _ _ _)
  cases k <;> first | exact wpIn_skip hq | exact wpIn_label hq | cases hk
 | ret =>
  intro S Q hK hm k g a w ro Q' hk hs hr hh hp
  have hq := hh (some .ret) S g a w hK hs (Exw.refl _ _ _)
  cases k <;> first | exact wpIn_ret hq | cases hk
 | exit id =>
  intro S Q hK hm k g a w ro Q' hk hs hr hh hp
  have hq := hh (some (.exit id)) S g a w hK hs (Exw.refl _ _ _)
  cases k <;> first | (cases hk; done) | skip
  cases hk
  exact wpIn_exit hq
 | region draw ops =>
  intro S Q hK hm k g a w ro Q' hk hs hr hh hp
  cases k <;> first | (cases hk; done) | skip
  rename_i id A d
  simp only [comp, TCode.region.injEq] at hk
  obtain ⟨rfl, rfl⟩ := hk
  cases d with
  | false =>
   refine wpIn_region ?_
   have := evR_sound hK hm A 0 g a w ro Q' (by simp) hs hr (fun S' g' a' w' q1 q2 q3 => hh none S' g' a' w' q1 q2 q3) hp
   have e : (A.toList.map (cOper P A false)).length = A.size := by simp
   rw [e] at this
   rw [List.range_eq_range']
   exact this
  | true =>
   have hK' : (match anyEnt (A.toList.map (cOper P A true)) with
    | true => TWq P r (.region true (A.toList.map (cOper P A true))) S Q
    | false => evD P r (A.toList.map (cOper P A true)) S [] (itersOf S.h) (Q none)) := hK
   split at hK'
   ·exact TWq_iff.1 hK' hm (.region id A true) g a w ro Q' rfl hs hr hh hp
   ·exact (evD_sound hK').region hm rfl hs hr (fun S' g' a' w' q1 q2 q3 => hh none S' g' a' w' q1 q2 q3) hp
 | seq x y ihx ihy =>
  intro S Q hK hm k g a w ro Q' hk hs hr hh hp
  cases k <;> first | (cases hk; done) | skip
  rename_i kx ky
  simp only [comp, TCode.seq.injEq] at hk
  refine wpIn_seq (ihx (show evC P r x S (fun j S' => match j with | none => evC P r y S' Q | some j => Q (some j) S') from hK) hm kx g a w ro _ hk.1 hs hr (fun j S' g' a' w' q1 q2 q3 => ?_) (hp.as fun _ _ _ h => h))
  cases j with
  | none => exact ihy q1 hm ky g' a' w' ro Q' hk.2 q2 (q3.ro hr) (fun j S'' g'' a'' w'' r1 r2 r3 => hh j S'' g'' a'' w'' r1 r2 (q3.trans r3)) (hp.trans q3)
  | some j =>
   have := hh (some j) S' g' a' w' q1 q2 q3
   cases j <;> exact this
 | cond c x y ihx ihy =>
  intro S Q hK hm k g a w ro Q' hk hs hr hh hp
  cases k <;> first | (cases hk; done) | skip
  rename_i kc kx ky
  simp only [comp, TCode.cond.injEq] at hk
  obtain ⟨rfl, hk1, hk2⟩ := hk
  have hK : (match gv S.σ (cOpd kc) with
   | .bool b' => match b' with
    | true => evC P r x S Q
    | false => evC P r y S Q
   | _ => False) := hK
  have hd := opd_den (σ := S.σ) (a := a) (g := g) (w := w) kc fun t _ => getS_den hs.tm t
  split at hK
  ·rename_i b hb
   rw [hb] at hd
   simp only [Gh.den, den] at hd
   refine wpIn_cond hd ?_
   cases b with
   | true => exact ihx hK hm kx g a w ro Q' hk1 hs hr hh hp
   | false => exact ihy hK hm ky g a w ro Q' hk2 hs hr hh hp
  ·exact hK.elim
 | block id c ih =>
  intro S Q hK hm k g a w ro Q' hk hs hr hh hp
  cases k <;> first | (cases hk; done) | skip
  rename_i kid kc
  simp only [comp, TCode.block.injEq] at hk
  obtain ⟨rfl, hk⟩ := hk
  refine wpIn_block (ih (show evC P r c S (fun j S' => match j with
   | some (.exit id') => match Nat.beq id' kid with
    | true => Q none S'
    | false => Q (some (.exit id')) S'
   | none => Q none S'
   | some .ret => Q (some .ret) S') from hK) hm kc g a w ro _ hk hs hr (fun j S' g' a' w' q1 q2 q3 => ?_) (hp.as fun _ _ _ h => h))
  cases j with
  | none => exact hh none S' g' a' w' q1 q2 q3
  | some j =>
   cases j with
   | ret => exact hh (some .ret) S' g' a' w' q1 q2 q3
   | exit id' =>
    simp only at q1
    cases he : Nat.beq id' kid with
    | true =>
     rw [he] at q1
     have := Nat.eq_of_beq_eq_true he
     subst this
     simp only [exitOf, Exit.inBlock, if_true]
     exact hh none S' g' a' w' q1 q2 q3
    | false =>
     rw [he] at q1
     have : ¬ id' = kid := fun e => by subst e; rw [Nat.beq_refl] at he; cases he
     simp only [exitOf, Exit.inBlock, this, if_false]
     exact hh (some (.exit id')) S' g' a' w' q1 q2 q3
 | scope c ih =>
  intro S Q hK hm k g a w ro Q' hk hs hr hh hp
  cases k <;> first | (cases hk; done) | skip
  rename_i kc
  simp only [comp, TCode.scope.injEq] at hk
  refine wpIn_scope_straight (ih (show evC P r c S Q from hK) hm kc g a w ro _ hk hs hr (fun j S' g' a' w' q1 q2 q3 => ?_) (hp.as fun _ _ _ h => h))
  have := hh j S' g' a' w' q1 q2 q3
  cases j with
  | none => exact this
  | some j => cases j <;> exact this
 | loop c ih => exact fun hK => TWq_iff.1 hK
 | rfunc f ps x y _ _ => exact fun hK => TWq_iff.1 hK
theorem least {p : Nat → Prop} (h : ∃ n, p n) : ∃ n, p n ∧ ∀ m, p m → n ≤ m := by
 obtain ⟨n, hn⟩ := h
 induction n using Nat.strongRecOn with
 | _ n ih =>
  by_cases hx : ∃ m, m < n ∧ p m
  ·obtain ⟨m, h1, h2⟩ := hx
   exact ih m h1 h2
  ·exact ⟨n, hn, fun m hm => by
    rcases Nat.lt_or_ge m n with h | h
    ·exact absurd ⟨m, h, hm⟩ hx
    ·exact h⟩
theorem wpIn_loop_ex {F : Fence} {n : Nat} {P : Program} {c : Code} {Q : Exit → Act → World → Prop} {a : Act} {w : World} (I : Nat → Act → World → Prop) (h₀ : ∃ m, I m a w)
  (round : ∀ m a w, I m a w → c.wpIn F n P (Exit.then (fun a' w' => ∃ k, k < m ∧ I k a' w') Q) a w) : (Code.loop c).wpIn F n P Q a w := by
 have hch : ∀ a w, ∃ m, (∃ k, I k a w) → (I m a w ∧ ∀ k, I k a w → m ≤ k) := by
  intro a w
  by_cases h : ∃ k, I k a w
  ·obtain ⟨m, h1, h2⟩ := least h
   exact ⟨m, fun _ => ⟨h1, h2⟩⟩
  ·exact ⟨0, fun h' => absurd h' h⟩
 refine wpIn_loop (fun a w => ∃ m, I m a w) (fun a w => Classical.choose (hch a w)) h₀ fun a w hI => ?_
 obtain ⟨h1, _⟩ := Classical.choose_spec (hch a w) hI
 refine wpIn_mono (round _ a w h1) fun e a' w' he => ?_
 cases e <;> first | exact he | skip
 obtain ⟨k, hk, hIk⟩ := he
 refine ⟨⟨k, hIk⟩, ?_⟩
 exact Nat.lt_of_le_of_lt ((Classical.choose_spec (hch a' w') ⟨k, hIk⟩).2 k hIk) hk
def Wk (P : Program) (B : Nat) (S S' : St) : Prop := ∀ g a w, Sim P g S a w → ∃ g', Sim P g' S' a w ∧ Exw B g w g' w
theorem Wk.refl (B : Nat) (S : St) : Wk P B S S := fun g _ w hs => ⟨g, hs, Exw.refl _ _ _⟩
theorem Wk.trans {B : Nat} {S S' S'' : St} (h : Wk P B S S') (h' : Wk P B S' S'') : Wk P B S S'' := fun g a w hs =>
 let ⟨g1, s1, e1⟩ := h g a w hs
 let ⟨g2, s2, e2⟩ := h' g1 a w s1
 ⟨g2, s2, e1.trans e2⟩
theorem TW.wk {c : TCode} {S S' : St} {Q : Option Jump → St → Prop} (hw : Wk P r.base S S') (h : TW P r c S' Q) : TW P r c S Q := by
 intro hm k g a w ro Q' hk hs hr hh hp
 obtain ⟨g1, s1, e1⟩ := hw g a w hs
 exact h hm k g1 a w ro Q' hk s1 (e1.ro hr) (fun j S'' g' a' w' q1 q2 q3 => hh j S'' g' a' w' q1 q2 (e1.trans q3)) (hp.trans e1)
theorem TW.loop {α : Type} (st : α → St) (pre : α → Prop) (μ : α → Nat) {c : TCode} {S : St} {Q : Option Jump → St → Prop} (x0 : α) (h0 : Wk P r.base S (st x0)) (hp : pre x0)
  (step : ∀ x, pre x → TW P r c (st x) fun j S' => match j with
   | none => ∃ y, Wk P r.base S' (st y) ∧ pre y ∧ μ y < μ x
   | some j => Q (some j) S') : TW P r (.loop c) S Q := by
 intro hm k g a w ro Q' hk hs hr hh hpan
 cases k <;> first | (cases hk; done) | skip
 rename_i kc
 simp only [comp, TCode.loop.injEq] at hk
 refine wpIn_loop_ex (fun m a' w' => ∃ x g', μ x = m ∧ pre x ∧ Sim P g' (st x) a' w' ∧ Exw r.base g w g' w') ?_ ?_
 ·obtain ⟨g1, s1, e1⟩ := h0 g a w hs
  exact ⟨_, x0, g1, rfl, hp, s1, e1⟩
 ·rintro m a1 w1 ⟨x, g1, rfl, hx, s1, e1⟩
  refine step x hx hm kc g1 a1 w1 ro _ hk s1 (e1.ro hr) (fun j S' g' a' w' q1 q2 q3 => ?_) ((hpan.trans e1).as fun _ _ _ h => h)
  cases j with
  | none =>
   obtain ⟨y, hy, hpy, hlt⟩ := q1
   obtain ⟨g2, s2, e2⟩ := hy g' a' w' q2
   exact ⟨μ y, hlt, y, g2, rfl, hpy, s2, (e1.trans q3).trans e2⟩
  | some j =>
   have := hh (some j) S' g' a' w' q1 q2 (e1.trans q3)
   cases j <;> exact this
end
end Go.TV
/- The value calculus, part 2A: functions and calls. -/
namespace Go.TV
open Go.RowKit
inductive TRes where
 | tmp (t : Nat)
 | cell (t : Nat) (agg : Bool) (sz : Nat)
 | bad
structure TFn where
 ntmps : Nat
 results : List TRes
 body : TCode
def cRes (P : Program) : ResultVar → TRes
 | .tmp t => .tmp t
 | .cell t ty => match isAggT P ty, sizeT P ty with
  | some b, some s => .cell t b s
  | _, _ => .bad
def cFn (P : Program) (fn : Func) : Option TFn :=
 match fn.name == "runtime.NumGoroutine" with
 | true => none
 | false => match fn.body with
  | some k => some ⟨fn.ntmps, fn.results.toList.map (cRes P), comp P k⟩
  | none => none
def fnOf (P : Program) (f : FuncId) : Option TFn := (P.funcs[f]?).bind (cFn P)
def res1 (σ : List SV) (h : List LB) : TRes → (SV → Prop) → Prop
 | .tmp t, k => k (getS σ t)
 | .cell t agg sz, k => match getS σ t with
  | .ptr b off => match hget h b with
   | .cells cs => partK agg off sz (.agg cs) k
   | _ => False
  | _ => False
 | .bad, _ => False
def resL (σ : List SV) (h : List LB) : List TRes → (List SV → Prop) → Prop
 | [], k => k []
 | r :: rs, k => res1 σ h r fun s => resL σ h rs fun l => k (s :: l)
def resK (σ : List SV) (h : List LB) (rs : List TRes) (k : SV → Prop) : Prop :=
 match rs with
 | [r] => res1 σ h r k
 | rs => resL σ h rs fun l => k (.tup l)
def endK (rs : List TRes) (Q : SV → List LB → Prop) (j : Option Jump) (S : St) : Prop :=
 match j with
 | none => resK S.σ S.h rs fun s => Q s S.h
 | some .ret => resK S.σ S.h rs fun s => Q s S.h
 | some (.exit _) => False
def junks : Nat → List SV
 | 0 => []
 | n + 1 => .junk :: junks n
def fillJ : List SV → Nat → List SV
 | [], n => junks n
 | s :: ss, n => match n with
  | 0 => s :: fillJ ss 0
  | n + 1 => s :: fillJ ss n
noncomputable def evF (P : Program) (t : TFn) (args : List SV) (h : List LB) (Q : SV → List LB → Prop) : Prop :=
 evC P (frm none h.length false) t.body ⟨fillJ args t.ntmps, h, []⟩ (endK t.results Q)
structure TF (P : Program) (f : FuncId) (args : List SV) (h : List LB) (Q : SV → List LB → Prop) : Prop where
 ok : ∃ t, fnOf P f = some t
 run : P.follows .mixedOrders = true → ∀ (g : Gh) (w : World) (vals : List Value), g.hid = none → GOk g w → (∀ b, g.dom b → b < h.length) → g.denL w args vals → (∀ b, lbden P w g b (hget h b)) →
  CallsIn (Fn none) 0 P f vals.toArray w fun e w' => ∃ v s h' g', e = .returned v ∧ Q s h' ∧ GOk g' w' ∧ (∀ b, g'.dom b → b < h'.length) ∧ g'.den w' s v ∧ (∀ b, lbden P w' g' b (hget h' b)) ∧ Ext g w g' w' All
def catK : List SV → List SV → (List SV → Prop) → Prop
 | [], l, k => k l
 | x :: xs, l, k => catK xs l fun r => k (x :: r)
def calleeK (σ : List SV) (op : TOp) (k : FuncId → List SV → Prop) : Prop :=
 match op with
 | .call f xs => mapK σ xs fun as => k f as
 | .callv x xs => match gv σ x with
  | .fn f fs cs => mapK σ xs fun as => catK as cs fun r => catK fs r fun r => k f r
  | _ => False
 | _ => False
section
variable {P : Program} {r : Fr}
theorem TF.mono {f : FuncId} {args : List SV} {h : List LB} {Q Q' : SV → List LB → Prop} (hT : TF P f args h Q) (hq : ∀ s h, Q s h → Q' s h) : TF P f args h Q' :=
 ⟨hT.ok, fun hm g w vals h0 h1 h2 h3 h4 => (hT.run hm g w vals h0 h1 h2 h3 h4).mono fun _ _ ⟨v, s, h', g', e, q, rest⟩ => ⟨v, s, h', g', e, hq s h' q, rest⟩⟩
theorem junks_den {w : World} {imm D : Nat → Prop} {ι : Env} : ∀ (n : Nat), denL w imm (junks n) D ι (List.replicate n undef)
 | 0 => by simp [junks, denL]
 | n + 1 => by
  simp only [junks, denL]
  exact ⟨undef, List.replicate n undef, by simp [List.replicate_succ], by simp only [den], junks_den n⟩
theorem fillJ_den {w : World} {imm D : Nat → Prop} {ι : Env} : ∀ {args : List SV} {n : Nat} {vals : List Value}, denL w imm args D ι vals → denL w imm (fillJ args n) D ι (vals ++ List.replicate (n - vals.length) undef)
 | [], n, vals, h => by
  simp only [denL] at h; subst h
  simpa [fillJ] using junks_den n
 | s :: ss, n, vals, h => by
  simp only [denL] at h
  obtain ⟨u, us, rfl, h1, h2⟩ := h
  cases n with
  | zero =>
   simp only [fillJ, denL]
   refine ⟨u, us ++ List.replicate (0 - us.length) undef, by simp, h1, fillJ_den h2⟩
  | succ n =>
   simp only [fillJ, denL]
   refine ⟨u, us ++ List.replicate (n - us.length) undef, by simp, h1, fillJ_den h2⟩
def readRes (tmps : Array Value) : ResultVar → Sem Value
 | .tmp t => pure (tmps.getD t undef)
 | .cell a t => do loadVar t (← asAddr (tmps.getD a undef))
theorem res1_run {x : ResultVar} {σ : List SV} {h : List LB} {g : Gh} {w : World} {tmps : Array Value} {k : SV → Prop} (hk : res1 σ h (cRes P x) k) (ht : g.denL w σ tmps.toList) (hh : ∀ b, lbden P w g b (hget h b)) :
  ∃ s v, k s ∧ g.den w s v ∧ (readRes tmps x).run P w = .ok v w := by
 cases x with
 | tmp t =>
  refine ⟨_, tmps.getD t undef, hk, ?_, rfl⟩
  have := getS_den ht t
  simpa using this
 | cell a t =>
  simp only [cRes] at hk
  cases hb : isAggT P t with
  | none => rw [hb] at hk; exact hk.elim
  | some b =>
   cases hs : sizeT P t with
   | none => rw [hb, hs] at hk; exact hk.elim
   | some s =>
    rw [hb, hs] at hk
    simp only [res1] at hk
    have hd := getS_den ht a
    split at hk
    ·rename_i blk off e
     rw [e] at hd
     split at hk
     ·rename_i cs e2
      have hl := hh blk
      rw [e2] at hl
      obtain ⟨l, vs, ty, h1, h2, h3⟩ := hl
      simp only [Gh.den, den] at hd
      have hv := hd.2.2 l h1
      obtain ⟨s', hk', hspec⟩ := partK_spec hk
      have hsp := hspec (w := w) (imm := g.imm) (D := g.dom) (ι := g.ι) (v := .agg vs) (by simp only [den]; exact ⟨vs.toList, by simp, h3⟩)
      obtain ⟨k1, k2⟩ := run_loadVar_at (P := P) hb hs w l.blk 0 off vs (fun j c hc => by
       have := cell_of_cells h2 j c hc
       simpa using this)
      have hv' : tmps.getD a undef = .pointer (some ⟨l.blk, 0 + off, none⟩) := by
       have : tmps.toList.getD a undef = tmps.getD a undef := by simp
       rw [← this, hv]; simp
      cases b with
      | true =>
       obtain ⟨h5, h6⟩ := hsp.1 rfl
       refine ⟨s', _, hk', h6, ?_⟩
       simp only [Value.cells] at h5 ⊢
       have := k1 rfl h5
       simp only [readRes, hv', asAddr, Sem.run_bind, Sem.run_pure, Result.andThen]
       exact this
      | false =>
       obtain ⟨u, h5, h6⟩ := hsp.2 rfl
       refine ⟨s', u, hk', h6, ?_⟩
       simp only [Value.cells] at h5
       have := k2 rfl u h5
       simp only [readRes, hv', asAddr, Sem.run_bind, Sem.run_pure, Result.andThen]
       exact this
     ·exact hk.elim
    ·exact hk.elim
theorem resL_run {σ : List SV} {h : List LB} {g : Gh} {w : World} {tmps : Array Value} (ht : g.denL w σ tmps.toList) (hh : ∀ b, lbden P w g b (hget h b)) :
  ∀ (rs : List ResultVar) {k : List SV → Prop}, resL σ h (rs.map (cRes P)) k → ∃ l vs, k l ∧ g.denL w l vs ∧ (rs.mapM (readRes tmps)).run P w = .ok vs w
 | [], k, hk => ⟨[], [], hk, by simp only [Gh.denL, denL], by simp⟩
 | x :: rs, k, hk => by
  simp only [List.map_cons, resL] at hk
  obtain ⟨s, v, h1, h2, h3⟩ := res1_run hk ht hh
  obtain ⟨l, vs, h4, h5, h6⟩ := resL_run ht hh rs h1
  refine ⟨s :: l, v :: vs, h4, by simp only [Gh.denL, denL]; exact ⟨v, vs, rfl, h2, h5⟩, ?_⟩
  simp only [List.mapM_cons, Sem.run_bind, h3, Result.andThen, h6, Sem.run_pure]
theorem results_eq (fn : Func) (tmps : Array Value) : results fn tmps = (do
  let vs ← fn.results.mapM (readRes tmps)
  pure (if h : vs.size = 1 then vs[0] else .tuple vs)) := by
 have : (readRes tmps) = fun x => (match x with
   | .tmp t => pure (tmps.getD t undef)
   | .cell a t => do loadVar t (← asAddr (tmps.getD a undef)) : Sem Value) := by
  funext x; cases x <;> rfl
 rw [this]
 rfl
theorem results_run {fn : Func} {w : World} {tmps : Array Value} {vs : List Value} (h : (fn.results.toList.mapM (readRes tmps)).run P w = .ok vs w) :
  (results fn tmps).run P w = .ok (if h : vs.length = 1 then vs[0] else .tuple vs.toArray) w := by
 rw [results_eq, ← Array.toArray_toList (xs := fn.results), List.mapM_toArray]
 simp only [map_eq_pure_bind, Sem.run_bind, h, Result.andThen, Sem.run_pure]
 rfl
theorem mapM_len {f : ResultVar → Sem Value} {w w' : World} : ∀ (rs : List ResultVar) {vs : List Value}, (rs.mapM f).run P w = .ok vs w' → vs.length = rs.length
 | [], vs, h => by
  simp at h
  obtain ⟨rfl, _⟩ := h
  rfl
 | x :: rs, vs, h => by
  simp only [List.mapM_cons, Sem.run_bind, Sem.run_pure] at h
  cases h1 : (f x).run P w with
  | halt x' w1 => rw [h1] at h; simp [Result.andThen] at h
  | ok v w1 =>
   rw [h1] at h
   simp only [Result.andThen] at h
   cases h2 : (rs.mapM f).run P w1 with
   | halt x' w2 => rw [h2] at h; simp at h
   | ok us w2 =>
    rw [h2] at h
    simp only [Result.ok.injEq] at h
    obtain ⟨rfl, rfl⟩ := h
    simp [mapM_len rs h2]
theorem resK_run {fn : Func} {σ : List SV} {h : List LB} {g : Gh} {w : World} {tmps : Array Value} {k : SV → Prop} (hk : resK σ h (fn.results.toList.map (cRes P)) k) (ht : g.denL w σ tmps.toList) (hh : ∀ b, lbden P w g b (hget h b)) :
  ∃ s v, k s ∧ g.den w s v ∧ (results fn tmps).run P w = .ok v w := by
 cases hrs : fn.results.toList with
 | nil =>
  rw [hrs] at hk
  obtain ⟨l, vs, h1, h2, h3⟩ := resL_run ht hh fn.results.toList (k := fun l => k (.tup l)) (by rw [hrs]; exact hk)
  have hr := results_run h3
  have hl := mapM_len _ h3
  rw [hrs] at hl
  rw [dif_neg (by simp [hl])] at hr
  exact ⟨_, _, h1, by simp only [Gh.den, den]; exact ⟨vs, rfl, h2⟩, hr⟩
 | cons x rs =>
  cases rs with
  | nil =>
   rw [hrs] at hk
   obtain ⟨s, v, h1, h2, h3⟩ := res1_run (x := x) hk ht hh
   have h3' : (fn.results.toList.mapM (readRes tmps)).run P w = .ok [v] w := by
    rw [hrs]
    simp only [List.mapM_cons, List.mapM_nil, Sem.run_bind, h3, Result.andThen, Sem.run_pure]
   have hr := results_run h3'
   exact ⟨s, v, h1, h2, hr⟩
  | cons y rs =>
   rw [hrs] at hk
   obtain ⟨l, vs, h1, h2, h3⟩ := resL_run ht hh fn.results.toList (k := fun l => k (.tup l)) (by rw [hrs]; exact hk)
   have hr := results_run h3
   have hl := mapM_len _ h3
   rw [hrs] at hl
   rw [dif_neg (by simp [hl])] at hr
   exact ⟨_, _, h1, by simp only [Gh.den, den]; exact ⟨vs, rfl, h2⟩, hr⟩
structure Bk (P : Program) (g : Gh) (h : List LB) (w : World) : Prop where
 ok : GOk g w
 lt : ∀ b, g.dom b → b < h.length
 hp : ∀ b, lbden P w g b (hget h b)
structure Mk (g : Gh) (w w' : World) : Prop where
 os : w'.os = w.os
 tape : w'.tape = w.tape
 output : w'.output = w.output
 size : w'.heap.size = w.heap.size
 low : ∀ r, r < g.flr → w'.heap[r]? = w.heap[r]?
 ι : ∀ b l, g.ι b = some l → w'.heap[l.blk]? = w.heap[l.blk]?
 imm : ∀ r, g.imm r → w'.heap[r]? = w.heap[r]?
 hd : ∀ r, g.hd r → w'.heap[r]? = w.heap[r]?
theorem marks_run {fn : Func} {tmps : Array Value} {R : Ending → World → Prop} {g : Gh} {w0 : World} {u : FrameMode} (hu : u ≠ .run) : ∀ {rs : List Nat} {w : World}, Mk g w0 w → rs.Nodup → (∀ r ∈ rs, g.flr ≤ r ∧ w.heap[r]? = some (.deferred (some [])) ∧ (∀ b l, g.ι b = some l → l.blk ≠ r) ∧ ¬ g.hd r ∧ ¬ g.imm r) →
  (∀ w', Mk g w0 w' → LeavesInM (Fn none) 0 P fn tmps R [] u w') → LeavesInM (Fn none) 0 P fn tmps R (rs.map markOf) u w
 | [], w, hmk, _, _, hfin => hfin w hmk
 | r :: rs, w, hmk, hnd, hr, hfin => by
  obtain ⟨k1, k2, k3, k4, k5⟩ := hr r (by simp)
  have hnd := List.nodup_cons.1 hnd
  have ho : ∀ q, q ≠ r → (w.putObj r (.deferred none)).heap[q]? = w.heap[q]? := fun q hq => by rw [World.putObj_heap_other hq]
  refine ⟨hu, .inl ⟨r, w.putObj r (.deferred none), rfl, run_takeDeferred k2, ?_⟩⟩
  refine marks_run hu ⟨hmk.os, hmk.tape, hmk.output, by simpa [World.putObj] using hmk.size, fun q hq => (ho q (by omega)).trans (hmk.low q hq), fun b l hl => (ho _ (k3 b l hl)).trans (hmk.ι b l hl), fun q hq => (ho q fun e => k5 (e ▸ hq)).trans (hmk.imm q hq),
   fun q hq => (ho q fun e => k4 (e ▸ hq)).trans (hmk.hd q hq)⟩ hnd.2 (fun q hq => ?_) hfin
  obtain ⟨q1, q2, q3⟩ := hr q (by simp [hq])
  exact ⟨q1, (ho q fun e => hnd.1 (e ▸ hq)).trans q2, q3⟩
theorem Mk.den {g : Gh} {w w' : World} (h : Mk g w w') {s : SV} {v : Value} (hd : g.den w s v) : g.den w' s v := den.mono (fun _ h => h) h.imm s (fun _ h => h) (fun _ _ _ h => h) hd
theorem Mk.ok {g : Gh} {w w' : World} (h : Mk g w w') (hg : GOk g w) : GOk g w' :=
 ⟨fun b l hl => let ⟨x, y, z⟩ := hg.own b l hl; ⟨x, h.size ▸ y, z⟩, hg.inj, fun r hr => h.size ▸ hg.immlt r hr, fun r hr => h.size ▸ hg.hlt r hr, hg.himm, hg.hown, h.size ▸ hg.flr⟩
theorem Mk.lb {g : Gh} {w w' : World} (h : Mk g w w') {b : Nat} {lb : LB} (hd : lbden P w g b lb) : lbden P w' g b lb := by
 have kd : ∀ {s v}, g.den w s v → g.den w' s v := fun hd => h.den hd
 have kL : ∀ {s v}, g.denL w s v → g.denL w' s v := fun hd => denL.mono (fun _ h => h) h.imm _ (fun _ h => h) (fun _ _ _ h => h) hd
 have kM : ∀ {es ents idx}, g.denM w es ents idx → g.denM w' es ents idx := fun hd => denM.mono (fun _ h => h) h.imm _ (fun _ h => h) (fun _ _ _ h => h) hd
 cases lb with
 | dead => trivial
 | cells cs =>
  obtain ⟨l, vs, t, h1, h2, h3⟩ := hd
  exact ⟨l, vs, t, h1, (h.ι b l h1).trans h2, kL h3⟩
 | arr e sz es =>
  obtain ⟨l, vs, h1, hn, h2, h3, h4⟩ := hd
  exact ⟨l, vs, h1, hn, kL h2, h3, ownsRow_block h4 (h.ι b l h1)⟩
 | map es =>
  obtain ⟨l, ents, idx, h1, h2, h3, h4, h5⟩ := hd
  exact ⟨l, ents, idx, h1, (h.ι b l h1).trans h2, h3, h4, kM h5⟩
 | iter src left cur =>
  obtain ⟨l, m, seen, ents, idx, h1, h2, h3, h4, h5, h6, h7, h8, h9⟩ := hd
  have hm : w'.heap[m]? = w.heap[m]? := by
   rcases h3 with ⟨mb, lm, rfl, h3, rfl⟩ | ⟨_, hi⟩
   ·exact h.ι mb lm h3
   ·exact h.imm m hi
  refine ⟨l, m, seen, ents, idx, h1, (h.ι b l h1).trans h2, h3, hm.trans h4, h5, h6, h7, kM h8, fun k v e => ?_⟩
  obtain ⟨i, en, e1, e2, e3, e4⟩ := h9 k v e
  exact ⟨i, en, e1, e2, kd e3, kd e4⟩
 | loop st pend σ ps as bd =>
  obtain ⟨l, fn, tmps, ac, bc, d, h1, h2, h3, h4, h5⟩ := hd
  exact ⟨l, fn, tmps, ac, bc, d, h1, (h.ι b l h1).trans h2, kL h3, h4, h5⟩
 | dcol =>
  obtain ⟨l, h1, h2⟩ := hd
  exact ⟨l, h1, (h.ι b l h1).trans h2⟩
 | tok Φ =>
  obtain ⟨h0, l, H, h1, h2, h3⟩ := hd
  refine ⟨h0, l, H, h1, h2, h3.step ⟨h.os, h.tape, h.output, Nat.le_of_eq h.size.symm, fun _ h => h, fun r hr => ?_, fun r hr => .inl hr⟩⟩
  rcases hr with rfl | hr | hr
  ·exact h.ι b l h1
  ·exact h.hd r ⟨H, h2, hr⟩
  ·exact h.imm r hr
 | tokp m ls Φ =>
  obtain ⟨h0, hp, l, H, h1, h2, h3⟩ := hd
  refine ⟨h0, hp, l, H, h1, h2, h3.step ⟨h.os, h.tape, h.output, Nat.le_of_eq h.size.symm, fun _ h => h, fun r hr => ?_, fun r hr => .inl hr⟩⟩
  rcases hr with rfl | hr | hr
  ·exact h.ι b l h1
  ·exact h.hd r ⟨H, h2, hr⟩
  ·exact h.imm r hr
def Gh.floor (g : Gh) (n : Nat) : Gh := { g with flr := n }
theorem lb_floor {g : Gh} {w : World} (n : Nat) {b : Nat} {lb : LB} : lbden P w (g.floor n) b lb ↔ lbden P w g b lb := by cases lb <;> exact Iff.rfl
theorem ok_floor {g : Gh} {w : World} (hg : GOk g w) {n : Nat} (hn : n ≤ w.heap.size) : GOk (g.floor n) w := ⟨hg.own, hg.inj, hg.immlt, hg.hlt, hg.himm, hg.hown, hn⟩
theorem cFn_spec {f : FuncId} {t : TFn} (h : fnOf P f = some t) : ∃ fn k, P.funcs[f]? = some fn ∧ (fn.name == "runtime.NumGoroutine") = false ∧ fn.body = some k ∧ t = ⟨fn.ntmps, fn.results.toList.map (cRes P), comp P k⟩ := by
 unfold fnOf at h
 cases hf : P.funcs[f]? with
 | none => rw [hf] at h; cases h
 | some fn =>
  rw [hf] at h
  simp only [Option.bind_some] at h
  unfold cFn at h
  split at h
  ·cases h
  ·rename_i hn
   split at h
   ·rename_i k hk
    exact ⟨fn, k, rfl, hn, hk, (Option.some.inj h).symm⟩
   ·cases h
theorem body_run {f : FuncId} {t : TFn} (o : Bool) (hf : fnOf P f = some t) {args : List SV} {h : List LB} {Q : SV → List LB → Prop} (hb : TW P (frm none h.length o) t.body ⟨fillJ args t.ntmps, h, []⟩ (endK t.results Q))
  (hm : P.follows .mixedOrders = true) (g : Gh) (w : World) (vals : List Value) (hno : o = false → g.hid = none) (hg : GOk g w) (hlt : ∀ b, g.dom b → b < h.length) (hd : g.denL w args vals) (hh : ∀ b, lbden P w g b (hget h b)) :
  CallsIn (Fn none) 0 P f vals.toArray w fun e w' => ∃ v s h' g', e = .returned v ∧ Q s h' ∧ GOk g' w' ∧ (∀ b, g'.dom b → b < h'.length) ∧ g'.den w' s v ∧ (∀ b, lbden P w' g' b (hget h' b)) ∧ Exw h.length g w g' w' := by
 obtain ⟨fn, k, h1, h2, h3, rfl⟩ := cFn_spec hf
 refine callsIn_of_wp_marks h1 h3 trivial ?_
 have hs : Sim P (g.floor w.heap.size) ⟨fillJ args fn.ntmps, h, []⟩ { tmps := vals.toArray ++ Array.replicate (fn.ntmps - vals.toArray.size) undef, defers := [] } w := by
  refine ⟨ok_floor hg (Nat.le_refl _), hlt, ?_, fun b => (lb_floor _).2 (hh b), ⟨[], rfl, List.nodup_nil, by simp⟩⟩
  have := fillJ_den (n := fn.ntmps) hd
  show g.denL w _ _
  simpa using this
 refine hb hm k (g.floor w.heap.size) _ w none _ rfl hs ⟨hno, rfl⟩ (fun j S' g' a' w' q1 q2 q3 => ?_) PanOK.frm
 have fin : (resK S'.σ S'.h (fn.results.toList.map (cRes P)) fun s => Q s S'.h) → LeavesInM (Fn none) 0 P fn a'.tmps (fun e w' => ∃ v s h' g', e = .returned v ∧ Q s h' ∧ GOk g' w' ∧ (∀ b, g'.dom b → b < h'.length) ∧ g'.den w' s v ∧ (∀ b, lbden P w' g' b (hget h' b)) ∧ Exw h.length g w g' w') a'.defers .returning w' := by
  intro q
  obtain ⟨rs, e1, e2, e3⟩ := q2.df
  rw [e1]
  refine marks_run (by simp) ⟨rfl, rfl, rfl, rfl, fun _ _ => rfl, fun _ _ _ => rfl, fun _ _ => rfl, fun _ _ => rfl⟩ e2 e3 fun w'' hmk => ?_
  obtain ⟨s, v, t1, t2, t3⟩ := resK_run q (denL.mono (fun _ h => h) hmk.imm _ (fun _ h => h) (fun _ _ _ h => h) q2.tm) fun b => hmk.lb (q2.hp b)
  have hfl : g'.flr = w.heap.size := q3.flr
  refine ⟨v, t3, v, s, S'.h, g'.floor g.flr, rfl, t1, ok_floor (hmk.ok q2.ok) (Nat.le_trans hg.flr (by rw [hmk.size]; exact q3.size)), q2.lt, t2, fun b => (lb_floor _).2 (hmk.lb (q2.hp b)), ?_⟩
  exact ⟨hmk.os.trans q3.os, hmk.tape.trans q3.tape, hmk.output.trans q3.output, by rw [hmk.size]; exact q3.size, q3.dom, q3.ι, q3.imm, q3.hno, rfl, q3.newhid, fun r hr hh hn => (hmk.low r (by rw [hfl]; exact hr)).trans (q3.old r hr hh hn), q3.newι, q3.newimm⟩
 cases j with
 | none => exact fin q1
 | some j =>
  cases j with
  | ret => exact fin q1
  | exit id => exact q1.elim
theorem TF.of {f : FuncId} {t : TFn} (hf : fnOf P f = some t) {args : List SV} {h : List LB} {Q : SV → List LB → Prop} (hb : TW P (frm none h.length false) t.body ⟨fillJ args t.ntmps, h, []⟩ (endK t.results Q)) : TF P f args h Q :=
 ⟨⟨t, hf⟩, fun hm g w vals hno hg hlt hd hh => (body_run false hf hb hm g w vals (fun _ => hno) hg hlt hd hh).mono fun _ _ ⟨v, s, h', g', e, q, k1, k2, k3, k4, k5⟩ => ⟨v, s, h', g', e, q, k1, k2, k3, k4, k5.ext hlt hno⟩⟩
theorem TF.ev {f : FuncId} {t : TFn} (hf : fnOf P f = some t) {args : List SV} {h : List LB} {Q : SV → List LB → Prop} (hb : evF P t args h Q) : TF P f args h Q := .of hf (evC_sound hb)
theorem run_callFunc {f : FuncId} {t : TFn} (hf : fnOf P f = some t) (args : Array Value) (w : World) : (callFunc f args).run P w = .ok (.enter f args) w := by
 obtain ⟨fn, k, h1, h2, h3, _⟩ := cFn_spec hf
 simp only [callFunc, Sem.run_bind, Result.andThen]
 simp [h1, h2, h3]
theorem CallsIn_ro (ro : Option Nat) {n : Nat} {f : FuncId} {args : Array Value} {w : World} {R : Ending → World → Prop} (h : CallsIn (Fn none) n P f args w R) : CallsIn (Fn ro) n P f args w R := h
def isCallT : TOp → Bool
 | .call _ _ => true
 | .callv _ _ => true
 | _ => false
theorem cBin_call {op : BinOp} {t : TypeId} {x y : Operand} : isCallT (cBin P op t x y) = false := by
 unfold cBin
 (repeat' split) <;> rfl
theorem cOp_nocall {op : Op} (h : ∀ c, op ≠ .call c) : isCallT (cOp P op) = false := by
 cases op
 case call c => exact absurd rfl (h c)
 case binOp => exact cBin_call
 all_goals
  unfold cOp
  (repeat' split) <;> first | rfl | (simp_all; done)
theorem cOp_call {op : Op} (h : isCallT (cOp P op) = true) : ∃ c y, op = .call c ∧ c.callee = .value y ∧
  ((∃ f, y = .func f ∧ cOp P op = .call f (c.args.toList.map cOpd)) ∨ cOp P op = .callv (cOpd y) (c.args.toList.map cOpd)) := by
 by_cases hc : ∃ c, op = .call c
 ·obtain ⟨c, rfl⟩ := hc
  have e : cOp P (.call c) = cCall P c := rfl
  rw [e] at h ⊢
  unfold cCall at h ⊢
  cases hcc : c.callee with
  | value y =>
   refine ⟨c, y, rfl, hcc, ?_⟩
   cases y with
   | func f => exact .inl ⟨f, rfl, rfl⟩
   | _ => exact .inr rfl
  | invoke a b => rw [hcc] at h; cases h
  | builtin b =>
   rw [hcc] at h
   exfalso
   simp only at h
   (repeat' split at h) <;> cases h
 ·rw [cOp_nocall fun c e => hc ⟨c, e⟩] at h
  cases h
theorem catK_iff : ∀ {xs l : List SV} {k : List SV → Prop}, catK xs l k → k (xs ++ l)
 | [], _, _, h => h
 | x :: xs, l, k, h => by simpa using catK_iff (xs := xs) h
theorem denL_cat {w : World} {imm D : Nat → Prop} {ι : Env} {xs ys : List SV} {us vs : List Value} (h : denL w imm xs D ι us) (h' : denL w imm ys D ι vs) : denL w imm (xs ++ ys) D ι (us ++ vs) := denL_append h h'
theorem callee_run {o : Oper} {σ : List SV} {k : FuncId → List SV → Prop} (hK : calleeK σ (cOp P o.op) k) :
  ∃ f args, k f args ∧ (∀ c, o.op ≠ .defer c) ∧ ∀ (g : Gh) (a : Act) (w : World), (∃ t, fnOf P f = some t) → (∀ x ∈ o.op.operands.toList, g.den w (gv σ (cOpd x)) (a.eval x)) →
   ∃ vals, g.denL w args vals ∧ (execOp a.eval o).run P w = .ok (.enter f vals.toArray) w := by
 have hop : isCallT (cOp P o.op) = true := by
  unfold calleeK at hK
  cases h : cOp P o.op <;> rw [h] at hK <;> first | rfl | exact hK.elim
 obtain ⟨dst, op, ty, pos, aft, gd⟩ := o
 obtain ⟨c, y, rfl, hy, h⟩ := cOp_call hop
 have hmem : ∀ x ∈ c.args.toList, x ∈ (Op.call c).operands.toList := by
  intro x hx
  simp only [Op.operands, Call.operands, hy]
  simp
  exact .inr (by simpa using hx)
 rcases h with ⟨f, rfl, h⟩ | h
 ·rw [h] at hK
  obtain ⟨r, h1, h2⟩ := mapK_spec hK
  refine ⟨f, r, h1, by simp, fun g a w ⟨t, ht⟩ hx => ⟨c.args.toList.map a.eval, h2 a.eval fun x hx' => hx x (hmem x hx'), ?_⟩⟩
  simp only [execOp, resolve, hy, Act.eval, Deferred.ofValue, Sem.run_bind, Sem.run_pure, Result.andThen, invoke]
  rw [run_callFunc ht]
  simp
  apply Array.ext'
  simp
 ·rw [h] at hK
  simp only [calleeK] at hK
  split at hK
  ·rename_i f fs cs e
   obtain ⟨r, h1, h2⟩ := mapK_spec hK
   have h1 := catK_iff (catK_iff h1)
   refine ⟨f, _, h1, by simp, fun g a w ⟨t, ht⟩ hx => ?_⟩
   have hyd := hx y (by simp [Op.operands, Call.operands, hy])
   rw [e] at hyd
   simp only [Gh.den, den] at hyd
   obtain ⟨vf, vc, hv, d1, d2⟩ := hyd
   refine ⟨vf ++ (c.args.toList.map a.eval ++ vc), denL_cat d1 (denL_cat (h2 a.eval fun x hx' => hx x (hmem x hx')) d2), ?_⟩
   simp only [execOp, resolve, hy, hv, Deferred.ofValue, Sem.run_bind, Sem.run_pure, Result.andThen, invoke]
   rw [run_callFunc ht]
   congr 2
   apply Array.ext'
   simp
  ·exact hK.elim
theorem calleeK_ne {σ : List SV} {k : FuncId → List SV → Prop} {op : TOp} (hK : calleeK σ op k) : op ≠ .bad := fun e => by rw [e] at hK; exact hK
theorem TS.call {t : TOper} {ts : List TOper} {S : St} {K : St → Prop} (ho : r.opn = false) (hg : guardK S.σ t.guard (· = true))
  (hF : calleeK S.σ t.op fun f args => TF P f args S.h fun s h' => setD S.σ t.dst s fun σ' => TS P r ts ⟨σ', h', S.mks⟩ K) : TS P r (t :: ts) S K := by
 intro hm A i g a w ro Q hd hs hr hq hp
 obtain ⟨o, hget, e, hdrop⟩ := drop_cons hd
 subst e
 have hget : A[i]? = some o := by simpa using hget
 rw [List.length_cons]
 obtain ⟨hdst, hc⟩ := cOper_cases P A false o
 rcases hc with ⟨hop, hgd⟩ | ⟨hbad, hgd⟩
 ·have hw := guard_wanted hg hgd fun _ _ _ _ _ => getS_den hs.tm _
  rw [hop] at hF
  obtain ⟨f, args, h1, h2, h3⟩ := callee_run hF
  obtain ⟨vals, d1, d2⟩ := h3 g a w h1.ok fun x _ => opd_den x fun t _ => getS_den hs.tm t
  refine wpOps_cons hget ?_
  rw [if_pos hw, Oper.semAt_eq ro a.eval o h2, d2, Oper.uponIn_enter]
  refine ⟨fun h => by simp [Fn, Fence.wide] at h, CallsIn_ro ro ((h1.run hm g w vals (hr.1 ho) hs.ok hs.lt d1 hs.hp).mono ?_)⟩
  rintro _ w' ⟨v, s, h', g', rfl, q, k1, k2, k3, k4, k5⟩
  rw [hdst] at q
  obtain ⟨σ', q1, q2⟩ := put_tm q (k5.denL hs.ok hs.tm) k3
  refine q1 hm A (i + 1) g' (a.put o.dst v) w' ro Q hdrop ⟨k1, k2, q2, k4, ?_⟩ (k5.ro hr) (fun S'' g'' a'' w'' r1 r2 r3 => hq S'' g'' a'' w'' r1 r2 ((k5.exw _).trans r3)) (hp.trans (k5.exw _))
  have : (a.put o.dst v).defers = a.defers := by cases o.dst <;> rfl
  rw [this]
  exact k5.df hs.df
 ·exact absurd hbad (calleeK_ne hF)
theorem TSq.call {t : TOper} {ts : List TOper} {S : St} {K : St → Prop} (ho : r.opn = false) (hg : guardK S.σ t.guard (· = true))
  (hF : calleeK S.σ t.op fun f args => TF P f args S.h fun s h' => setD S.σ t.dst s fun σ' => evR P r ts ⟨σ', h', S.mks⟩ K) : TSq P r (t :: ts) S K := by
 rw [TSq_iff]
 refine TS.call ho hg ?_
 have mono : ∀ {op : TOp} {k k' : FuncId → List SV → Prop}, (∀ f a, k f a → k' f a) → calleeK S.σ op k → calleeK S.σ op k' := by
  intro op k k' hk h
  have mm : ∀ {xs : List TOpd} {k k' : List SV → Prop}, (∀ l, k l → k' l) → mapK S.σ xs k → mapK S.σ xs k' := by
   intro xs
   induction xs with
   | nil => exact fun hk h => hk _ h
   | cons x xs ih => exact fun hk h => forceK_iff.2 (ih (fun l => hk _) (forceK_iff.1 h))
  have mc : ∀ {xs l : List SV} {k k' : List SV → Prop}, (∀ l, k l → k' l) → catK xs l k → catK xs l k' := by
   intro xs
   induction xs with
   | nil => exact fun hk h => hk _ h
   | cons x xs ih => exact fun hk h => ih (fun l => hk _) h
  cases op with
  | call f xs => exact mm (fun l => hk _ l) h
  | callv x xs =>
   simp only [calleeK] at h ⊢
   cases e : gv S.σ x with
   | fn f fs cs => rw [e] at h; exact mm (fun l => mc fun l => mc fun l => hk _ l) h
   | _ => rw [e] at h; exact h.elim
  | _ => exact h.elim
 refine mono (fun f a h => h.mono fun s h' hq => ?_) hF
 rw [setD_iff] at hq ⊢
 exact evR_sound hq
end
end Go.TV
/- The value calculus, part 2B: closed trees; what is published; functions that touch nothing. -/
namespace Go.TV
open Go.RowKit
mutual
def clo : SV → Prop
 | .ptr _ _ => False
 | .eptr _ _ _ _ => False
 | .own _ => False
 | .osl _ _ _ _ => False
 | .csl _ _ _ _ => False
 | .mp _ => False
 | .yield _ => False
 | .fn _ fs cs => cloL fs ∧ cloL cs
 | .agg cs => cloL cs
 | .tup cs => cloL cs
 | .iface _ v => clo v
 | _ => True
def cloL : List SV → Prop
 | [] => True
 | s :: ss => clo s ∧ cloL ss
end
mutual
def scal : SV → Prop
 | .ptr _ _ => False
 | .eptr _ _ _ _ => False
 | .own _ => False
 | .osl _ _ _ _ => False
 | .csl _ _ _ _ => False
 | .mp _ => False
 | .yield _ => False
 | .sl _ _ => False
 | .iptr _ _ => False
 | .imap _ => False
 | .fn _ fs cs => scalL fs ∧ scalL cs
 | .agg cs => scalL cs
 | .tup cs => scalL cs
 | .iface _ v => scal v
 | _ => True
def scalL : List SV → Prop
 | [] => True
 | s :: ss => scal s ∧ scalL ss
end
theorem cloL_iff : ∀ {l : List SV}, cloL l ↔ ∀ s ∈ l, clo s
 | [] => by simp [cloL]
 | s :: l => by simp [cloL, cloL_iff (l := l)]
mutual
theorem clo_den {w : World} {imm : Nat → Prop} : ∀ (s : SV) {D D' : Nat → Prop} {ι ι' : Env} {v : Value}, clo s → den w imm s D ι v → den w imm s D' ι' v
 | .junk, _, _, _, _, _, _, h => h
 | .one, _, _, _, _, _, _, h => h
 | .int _ _, _, _, _, _, _, _, h => h
 | .bool _, _, _, _, _, _, _, h => h
 | .str _, _, _, _, _, _, _, h => h
 | .nilp, _, _, _, _, _, _, h => h
 | .nils, _, _, _, _, _, _, h => h
 | .nilm, _, _, _, _, _, _, h => h
 | .nilfn, _, _, _, _, _, _, h => h
 | .niface, _, _, _, _, _, _, h => h
 | .ptr _ _, _, _, _, _, _, c, _ => c.elim
 | .eptr _ _ _ _, _, _, _, _, _, c, _ => c.elim
 | .own _, _, _, _, _, _, c, _ => c.elim
 | .osl _ _ _ _, _, _, _, _, _, c, _ => c.elim
 | .csl _ _ _ _, _, _, _, _, _, c, _ => c.elim
 | .mp _, _, _, _, _, _, c, _ => c.elim
 | .yield _, _, _, _, _, _, c, _ => c.elim
 | .fn f fs cs, _, _, _, _, _, c, h => by
  simp only [den] at h ⊢
  obtain ⟨vf, vc, e, h1, h2⟩ := h
  exact ⟨vf, vc, e, cloL_den fs c.1 h1, cloL_den cs c.2 h2⟩
 | .agg cs, _, _, _, _, _, c, h => by
  simp only [den] at h ⊢
  obtain ⟨vs, e, h1⟩ := h
  exact ⟨vs, e, cloL_den cs c h1⟩
 | .tup cs, _, _, _, _, _, c, h => by
  simp only [den] at h ⊢
  obtain ⟨vs, e, h1⟩ := h
  exact ⟨vs, e, cloL_den cs c h1⟩
 | .iface t s, _, _, _, _, _, c, h => by
  simp only [den] at h ⊢
  obtain ⟨u, e, h1⟩ := h
  exact ⟨u, e, clo_den s c h1⟩
 | .sl _ _, _, _, _, _, _, _, h => by simp only [den] at h ⊢; exact h
 | .iptr _ _, _, _, _, _, _, _, h => by simp only [den] at h ⊢; exact h
 | .imap _, _, _, _, _, _, _, h => by simp only [den] at h ⊢; exact h
theorem cloL_den {w : World} {imm : Nat → Prop} : ∀ (ss : List SV) {D D' : Nat → Prop} {ι ι' : Env} {vs : List Value}, cloL ss → denL w imm ss D ι vs → denL w imm ss D' ι' vs
 | [], _, _, _, _, _, _, h => h
 | s :: ss, _, _, _, _, _, c, h => by
  simp only [denL] at h ⊢
  obtain ⟨u, us, e, h1, h2⟩ := h
  exact ⟨u, us, e, clo_den s c.1 h1, cloL_den ss c.2 h2⟩
end
mutual
theorem scal_den {w w' : World} {imm imm' : Nat → Prop} : ∀ (s : SV) {D D' : Nat → Prop} {ι ι' : Env} {v : Value}, scal s → den w imm s D ι v → den w' imm' s D' ι' v
 | .junk, _, _, _, _, _, _, _ => trivial
 | .one, _, _, _, _, _, _, h => by simp only [den] at h ⊢; exact h
 | .int _ _, _, _, _, _, _, _, h => h
 | .bool _, _, _, _, _, _, _, h => h
 | .str _, _, _, _, _, _, _, h => h
 | .nilp, _, _, _, _, _, _, h => h
 | .nils, _, _, _, _, _, _, h => h
 | .nilm, _, _, _, _, _, _, h => h
 | .nilfn, _, _, _, _, _, _, h => h
 | .niface, _, _, _, _, _, _, h => h
 | .ptr _ _, _, _, _, _, _, c, _ => c.elim
 | .eptr _ _ _ _, _, _, _, _, _, c, _ => c.elim
 | .own _, _, _, _, _, _, c, _ => c.elim
 | .osl _ _ _ _, _, _, _, _, _, c, _ => c.elim
 | .csl _ _ _ _, _, _, _, _, _, c, _ => c.elim
 | .mp _, _, _, _, _, _, c, _ => c.elim
 | .yield _, _, _, _, _, _, c, _ => c.elim
 | .fn f fs cs, _, _, _, _, _, c, h => by
  simp only [den] at h ⊢
  obtain ⟨vf, vc, e, h1, h2⟩ := h
  exact ⟨vf, vc, e, scalL_den fs c.1 h1, scalL_den cs c.2 h2⟩
 | .agg cs, _, _, _, _, _, c, h => by
  simp only [den] at h ⊢
  obtain ⟨vs, e, h1⟩ := h
  exact ⟨vs, e, scalL_den cs c h1⟩
 | .tup cs, _, _, _, _, _, c, h => by
  simp only [den] at h ⊢
  obtain ⟨vs, e, h1⟩ := h
  exact ⟨vs, e, scalL_den cs c h1⟩
 | .iface t s, _, _, _, _, _, c, h => by
  simp only [den] at h ⊢
  obtain ⟨u, e, h1⟩ := h
  exact ⟨u, e, scal_den s c h1⟩
 | .sl _ _, _, _, _, _, _, c, _ => c.elim
 | .iptr _ _, _, _, _, _, _, c, _ => c.elim
 | .imap _, _, _, _, _, _, c, _ => c.elim
theorem scalL_den {w w' : World} {imm imm' : Nat → Prop} : ∀ (ss : List SV) {D D' : Nat → Prop} {ι ι' : Env} {vs : List Value}, scalL ss → denL w imm ss D ι vs → denL w' imm' ss D' ι' vs
 | [], _, _, _, _, _, _, h => by simp only [denL] at h ⊢; exact h
 | s :: ss, _, _, _, _, _, c, h => by
  simp only [denL] at h ⊢
  obtain ⟨u, us, e, h1, h2⟩ := h
  exact ⟨u, us, e, scal_den s c.1 h1, scalL_den ss c.2 h2⟩
end
def cloM (es : List (SV × SV)) : Prop := ∀ e ∈ es, clo e.1 ∧ clo e.2
theorem cloM_den {w : World} {imm : Nat → Prop} : ∀ {es : List (SV × SV)} {D D' : Nat → Prop} {ι ι' : Env} {ents : Array MapEntry} {idx : List Nat}, cloM es → denM w imm es D ι ents idx → denM w imm es D' ι' ents idx
 | [], _, _, _, _, _, _, _, h => by simp only [denM] at h ⊢; exact h
 | (k, v) :: es, _, _, _, _, _, _, c, h => by
  simp only [denM] at h ⊢
  obtain ⟨i, rest, e, h1, h2, h3, h4, h5⟩ := h
  obtain ⟨c1, c2⟩ := c (k, v) (by simp)
  exact ⟨i, rest, e, h1, h2, clo_den k c1 h3, clo_den v c2 h4, cloM_den (fun e he => c e (by simp [he])) h5⟩
mutual
def pubK : Nat → List LB → SV → (List LB → SV → Prop) → Prop
 | 0, _, _, _ => False
 | n + 1, h, s, k => match s with
  | .own b => match hget h b with
   | .arr _ sz es => Vc (cloL es) ∧ Ev (updGo h b .dead fun h' => k h' (.sl sz es))
   | _ => False
  | .mp b => match hget h b with
   | .map es => Vc (cloM es) ∧ Ev (noIter h b (updGo h b .dead fun h' => k h' (.imap es)))
   | _ => False
  | .ptr b off => match hget h b with
   | .cells cs => pubLK n h cs fun h1 cs' => match hget h1 b with
    | .cells _ => updGo h1 b .dead fun h2 => k h2 (.iptr (.agg cs') off)
    | _ => False
   | _ => False
  | .agg cs => pubLK n h cs fun h' cs' => k h' (.agg cs')
  | .tup cs => pubLK n h cs fun h' cs' => k h' (.tup cs')
  | .fn f fs cs => pubLK n h fs fun h1 fs' => pubLK n h1 cs fun h2 cs' => k h2 (.fn f fs' cs')
  | .iface t v => pubK n h v fun h' v' => k h' (.iface t v')
  | .eptr _ _ _ _ => False
  | .osl _ _ _ _ => False
  | .csl _ _ _ _ => False
  | .yield _ => False
  | s => forceK s (k h)
def pubLK : Nat → List LB → List SV → (List LB → List SV → Prop) → Prop
 | 0, _, _, _ => False
 | n + 1, h, ss, k => match ss with
  | [] => k h []
  | s :: ss => pubK n h s fun h1 s' => pubLK n h1 ss fun h2 ss' => k h2 (s' :: ss')
end
def Gh.pub (g : Gh) (b : Nat) (r : Nat) : Gh := { dom := g.dom, ι := fun c => if c = b then none else g.ι c, imm := fun q => g.imm q ∨ q = r, hid := g.hid, flr := g.flr }
section
variable {P : Program}
theorem pub_book {g : Gh} {w : World} {h h' : List LB} (hb : Bk P g h w) {b : Nat} {l : Loc} (hl : g.ι b = some l) (k2 : h.length ≤ h'.length) (k4 : hget h' b = .dead) (k5 : ∀ c, c ≠ b → hget h' c = hget h c) (hno : ∀ c, b ∉ (hget h c).deps) :
  Bk P (g.pub b l.blk) h' w ∧ Ext g w (g.pub b l.blk) w All := by
 obtain ⟨o1, o2, o3⟩ := hb.ok.own b l hl
 have hext : Ext g w (g.pub b l.blk) w (fun c => c = b) := by
  refine ⟨rfl, rfl, rfl, Nat.le_refl _, fun _ h => h, fun c _ => ⟨fun hn => ?_, ?_⟩, fun r hr => .inl hr, rfl, rfl, fun _ _ _ => rfl, fun c l' hc => ?_, fun r hr => ?_⟩
  ·have hn : c ≠ b := hn
   simp [Gh.pub, hn]
  ·by_cases e : c = b
   ·right; simp [Gh.pub, e]
   ·left; simp [Gh.pub, e]
  ·simp only [Gh.pub] at hc
   split at hc
   ·cases hc
   ·exact .inl hc
  ·rcases hr with hr | rfl
   ·exact .inl hr
   ·exact .inr (.inr ⟨b, l, rfl, hl, rfl⟩)
 refine ⟨⟨⟨fun c l' hc => ?_, fun c c' l1 l2 hc hc' e => ?_, fun r hr => ?_, hb.ok.hlt, fun r hr hh => ?_, fun c l' hc => ?_, hb.ok.flr⟩, fun c hc => Nat.lt_of_lt_of_le (hb.lt c hc) k2, fun c => ?_⟩, hext.more fun _ _ => trivial⟩
 ·simp only [Gh.pub] at hc ⊢
  split at hc
  ·cases hc
  ·rename_i hne
   obtain ⟨p1, p2, p3⟩ := hb.ok.own c l' hc
   refine ⟨p1, p2, fun hh => ?_⟩
   rcases hh with hh | hh
   ·exact p3 hh
   ·exact hne (hb.ok.inj c b l' l hc hl hh)
 ·simp only [Gh.pub] at hc hc'
  split at hc
  ·cases hc
  ·split at hc'
   ·cases hc'
   ·exact hb.ok.inj c c' l1 l2 hc hc' e
 ·rcases hr with hr | rfl
  ·exact hb.ok.immlt r hr
  ·exact o2
 ·rcases hh with hh | rfl
  ·exact hb.ok.himm r hr hh
  ·exact hb.ok.hown b l hl hr
 ·simp only [Gh.pub] at hc
  split at hc
  ·cases hc
  ·exact hb.ok.hown c l' hc
 ·by_cases e : c = b
  ·subst e; rw [k4]; trivial
  ·rw [k5 c e]
   refine hext.lb hb.ok e (fun d hd e' => ?_) (hb.hp c)
   have e' : d = b := e'
   subst e'
   exact hno c hd
theorem Bk.nodep {g : Gh} {w : World} {h : List LB} (hb : Bk P g h w) {b : Nat} (hm : ∀ es, hget h b ≠ .map es) (hd : hget h b ≠ .dead) (ht : ∀ Φ, hget h b ≠ .tok Φ) (htp : ∀ m ls Φ, hget h b ≠ .tokp m ls Φ) (c : Nat) : b ∉ (hget h c).deps := by
 intro hdd
 have hbb := hb.hp c
 cases hlb : hget h c with
 | iter src left cur =>
  rw [hlb] at hdd hbb
  cases src <;> simp only [LB.deps, List.mem_singleton] at hdd <;> try (cases hdd; done)
  subst hdd
  obtain ⟨l', mm, seen, ents, idx, q1, q2, q3, q4, _⟩ := hbb
  rcases q3 with ⟨mb', lm, e', q3, rfl⟩ | ⟨⟨es, e'⟩, _⟩
  ·cases e'
   have hpd := hb.hp b
   cases hlp : hget h b with
   | dead => exact hd hlp
   | tok Φ => exact ht Φ hlp
   | tokp m ls Φ => exact htp m ls Φ hlp
   | map es => exact hm es hlp
   | cells cs =>
    rw [hlp] at hpd
    obtain ⟨l', vs, t, k1, k2, _⟩ := hpd
    rw [q3] at k1; cases k1
    rw [q4] at k2; cases k2
   | arr e sz es =>
    rw [hlp] at hpd
    obtain ⟨l', vs, k1, k2, k3, k4, k5⟩ := hpd
    rw [q3] at k1; cases k1
    obtain ⟨_, k6⟩ := k5
    rcases k6 with ⟨k6, _⟩ | ⟨r, cp, cur, k6, _, k7, _⟩
    ·cases k6
    ·have : r = lm.blk := by cases k6; rfl
     rw [this, q4] at k7; cases k7
   | iter src' left' cur' =>
    rw [hlp] at hpd
    obtain ⟨l', m', seen', ents', idx', k1, k2, _⟩ := hpd
    rw [q3] at k1; cases k1
    rw [q4] at k2; cases k2
   | loop st pend σ' ps as bd =>
    rw [hlp] at hpd
    obtain ⟨l', fn, tmps, ac, bc, d, k1, k2, _⟩ := hpd
    rw [q3] at k1; cases k1
    rw [q4] at k2; cases k2
   | dcol =>
    rw [hlp] at hpd
    obtain ⟨l', k1, k2⟩ := hpd
    rw [q3] at k1; cases k1
    rw [q4] at k2; cases k2
  ·cases e'
 | _ => rw [hlb] at hdd; simp [LB.deps] at hdd
end
end Go.TV
/- The value calculus, part 2C: what is published stands. -/
namespace Go.TV
open Go.RowKit
section
variable {P : Program}
theorem sl_of_own {g : Gh} {w : World} {e : TypeId} {sz : Nat} {es : List SV} {b : Nat} {v : Value} {l : Loc} (hl : g.ι b = some l) (hb : lbden P w g b (.arr e sz es)) (hc : cloL es) (hd : g.den w (.own b) v) {imm : Nat → Prop}
  (himm : ∀ r, g.imm r → imm r) (hr : imm l.blk) : den w imm (.sl sz es) (fun _ => False) (fun _ => none) v := by
 obtain ⟨l', vs, h1, h2, h3, h4, h5⟩ := hb
 rw [hl] at h1; cases h1
 simp only [Gh.den, den] at hd
 have hv := hd.2.2 l hl
 simp only [den]
 obtain ⟨hx1, hx2⟩ := h5
 have hcap : es.length ≤ l.cap := by
  rcases hx2 with ⟨q, _⟩ | ⟨r, cp, cur, q, _, _, q2, _⟩
  ·cases q
  ·cases q; omega
 refine ⟨_, l.cap, vs, by rw [hv, h2], hcap, cloL_den es hc (denL.mono himm (fun _ _ => rfl) es (fun _ h => h) (fun _ _ _ h => h) h3), fun i u hu => ?_⟩
 have hm := List.mem_of_getElem? hu
 refine ⟨(h4 u hm).1, (h4 u hm).2, l.blk, 0, rfl, hr, fun j c hj => ?_⟩
 have hfl := flat_get sz vs i u j c (fun u hu => (h4 u hu).1) hu hj
 have := World.ownsRow.cells (w := w) ⟨hx1, hx2⟩ (g := l.blk) (by simp [Value.ownBlock]) (i * sz + j) c hfl
 rw [addr_add] at this
 simpa using this
theorem sl_of_osl {g : Gh} {w : World} {e : TypeId} {sz : Nat} {es : List SV} {b off n : Nat} {v : Value} {l : Loc} (hl : g.ι b = some l) (hb : lbden P w g b (.arr e sz es)) (hc : cloL es) (hd : g.den w (.osl b sz off n) v) {imm : Nat → Prop}
  (himm : ∀ r, g.imm r → imm r) (hr : imm l.blk) : den w imm (.sl sz ((es.drop off).take n)) (fun _ => False) (fun _ => none) v := by
 have hcap := arr_cap hb l hl
 have hlen := hb.choose_spec.choose_spec.2.1
 have hloc := hb.choose_spec.choose_spec.1
 have h0 := sl_of_own (v := .slice (some ⟨l.blk, 0, none⟩) l.len l.cap) hl hb hc (by
  simp only [Gh.den, den]
  refine ⟨?_, ⟨_, _, _, rfl⟩, fun l' hl' => by rw [hl] at hl'; cases hl'; rfl⟩
  simp only [Gh.den, den] at hd
  exact hd.1) himm hr
 simp only [Gh.den, den] at hd
 obtain ⟨hle, hv⟩ := hd.2.2 l hl
 have hle2 : l.len = es.length := by
  obtain ⟨l2, vs2, i1, i2, _⟩ := hb
  rw [hl] at i1; cases i1; exact i2
 simp only [den] at h0 ⊢
 obtain ⟨ad, cap, vs, hs, hcp, hdl, hel⟩ := h0
 simp only [Value.slice.injEq] at hs
 obtain ⟨rfl, hs2, rfl⟩ := hs
 have hvl : vs.length = es.length := denL_len hdl
 refine ⟨some ⟨l.blk, if l.cap = off then 0 else off * sz, none⟩, l.cap - off, (vs.drop off).take n, ?_, ?_, denL_take (denL_drop hdl), fun i u hu => ?_⟩
 ·rw [hv]; congr 1; simp; omega
 ·simp; omega
 ·rw [List.getElem?_take] at hu
  split at hu
  case isFalse => cases hu
  rename_i hi
  rw [List.getElem?_drop] at hu
  obtain ⟨k1, k2, r0, o0, e0, k3, k4⟩ := hel _ u hu
  simp only [Option.some.injEq, Addr.mk.injEq] at e0
  obtain ⟨rfl, rfl, _⟩ := e0
  have hlt := (List.getElem?_eq_some_iff.1 hu).1
  refine ⟨k1, k2, l.blk, off * sz, by rw [if_neg (by omega)], hr, fun j c hj => ?_⟩
  have := k4 j c hj
  rw [Nat.add_mul] at this
  rw [show off * sz + i * sz + j = 0 + (off * sz + i * sz) + j by omega]
  exact this
theorem imap_of_mp {g : Gh} {w : World} {es : List (SV × SV)} {b : Nat} {v : Value} {l : Loc} (hl : g.ι b = some l) (hb : lbden P w g b (.map es)) (hc : cloM es) (hd : g.den w (.mp b) v) {imm : Nat → Prop}
  (himm : ∀ r, g.imm r → imm r) (hr : imm l.blk) : den w imm (.imap es) (fun _ => False) (fun _ => none) v := by
 obtain ⟨l', ents, idx, h1, h2, h3, h4, h5⟩ := hb
 rw [hl] at h1; cases h1
 simp only [Gh.den, den] at hd
 have hv := hd.2.2 l hl
 simp only [den]
 exact ⟨l.blk, ents, idx, hv, hr, h2, h3, h4, cloM_den hc (denM.mono himm (fun _ _ => rfl) es (fun _ h => h) (fun _ _ _ h => h) h5)⟩
theorem iptr_of_ptr {g : Gh} {w : World} {b off : Nat} {v : Value} {l : Loc} {vs : Array Value} {t : TypeId} (hl : g.ι b = some l) (hh : w.heap[l.blk]? = some (.cells vs t (0, 0))) (hd : g.den w (.ptr b off) v) {imm : Nat → Prop} {cs : List SV}
  (hcs : denL w imm cs (fun _ => False) (fun _ => none) vs.toList) (hr : imm l.blk) : den w imm (.iptr (.agg cs) off) (fun _ => False) (fun _ => none) v := by
 simp only [Gh.den, den] at hd
 have hv := hd.2.2 l hl
 simp only [den]
 refine ⟨l.blk, 0, .agg vs, by rw [hv]; simp, hr, ⟨vs.toList, by simp, hcs⟩, fun j c hj => cell_of_cells hh j c (by simpa [Value.cells] using hj)⟩
theorem pub_spec (n : Nat) : (∀ {h : List LB} {s : SV} {k : List LB → SV → Prop}, pubK n h s k → ∃ h' s', k h' s' ∧ clo s' ∧ ∀ (g : Gh) (w : World) (v : Value), Bk P g h w → g.den w s v →
   ∃ g', Bk P g' h' w ∧ Ext g w g' w All ∧ g'.den w s' v) ∧
  (∀ {h : List LB} {ss : List SV} {k : List LB → List SV → Prop}, pubLK n h ss k → ∃ h' ss', k h' ss' ∧ cloL ss' ∧ ∀ (g : Gh) (w : World) (vs : List Value), Bk P g h w → g.denL w ss vs →
   ∃ g', Bk P g' h' w ∧ Ext g w g' w All ∧ g'.denL w ss' vs) := by
 induction n with
 | zero => exact ⟨fun h => h.elim, fun h => h.elim⟩
 | succ n ih =>
  obtain ⟨ih1, ih2⟩ := ih
  constructor
  ·intro h s k hk
   have same : ∀ {s : SV}, clo s → k h s → ∃ h' s', k h' s' ∧ clo s' ∧ ∀ (g : Gh) (w : World) (v : Value), Bk P g h w → g.den w s v → ∃ g', Bk P g' h' w ∧ Ext g w g' w All ∧ g'.den w s' v :=
    fun hc hk => ⟨h, _, hk, hc, fun g w v hb hd => ⟨g, hb, Ext.refl _ _ _, hd⟩⟩
   cases s with
   | ptr b off =>
    rw [pubK] at hk
    split at hk
    ·rename_i cs hcs
     obtain ⟨h1, cs', k1, k2, k3⟩ := ih2 hk
     split at k1
     ·rename_i cs1 hcs1
      obtain ⟨h2, q1, q2, q3, q4, q5⟩ := updGo_spec k1
      refine ⟨h2, _, q1, by simp only [clo], fun g w v hb hd => ?_⟩
      have hbb := hb.hp b
      rw [hcs] at hbb
      obtain ⟨l, vs, t, e1, e2, e3⟩ := hbb
      obtain ⟨g1, b1, x1, d1⟩ := k3 g w vs.toList hb e3
      have hbb1 := b1.hp b
      rw [hcs1] at hbb1
      obtain ⟨l1, vs1, t1, f1, f2, f3⟩ := hbb1
      have hll := x1.ι_old b l1 (hb.ok.own b l e1).1 f1
      rw [e1] at hll; cases hll
      obtain ⟨r2, r3⟩ := pub_book b1 f1 q2 q4 q5 (b1.nodep (fun es e => by rw [hcs1] at e; cases e) (fun e => by rw [hcs1] at e; cases e) (fun _ e => by rw [hcs1] at e; cases e) (fun _ _ _ e => by rw [hcs1] at e; cases e))
      refine ⟨_, r2, x1.trans r3, ?_⟩
      refine clo_den _ (by simp only [clo]) (iptr_of_ptr (imm := (g1.pub b l.blk).imm) f1 e2 (x1.den hb.ok hd) ?_ (.inr rfl))
      exact cloL_den cs' k2 (denL.mono (fun r hr => .inl hr) (fun _ _ => rfl) cs' (fun _ h => h) (fun _ _ _ h => h) d1)
     ·exact k1.elim
    ·exact hk.elim
   | own b =>
    rw [pubK] at hk
    split at hk
    ·rename_i e sz es he
     obtain ⟨⟨hc⟩, hk⟩ := hk
     have hk := hk.at
     obtain ⟨h2, q1, q2, q3, q4, q5⟩ := updGo_spec hk
     refine ⟨h2, _, q1, by simp only [clo], fun g w v hb hd => ?_⟩
     have hbb := hb.hp b
     rw [he] at hbb
     obtain ⟨l, hl⟩ : ∃ l, g.ι b = some l := ⟨_, hbb.choose_spec.choose_spec.1⟩
     obtain ⟨r2, r3⟩ := pub_book hb hl q2 q4 q5 (hb.nodep (fun es e => by rw [he] at e; cases e) (fun e => by rw [he] at e; cases e) (fun _ e => by rw [he] at e; cases e) (fun _ _ _ e => by rw [he] at e; cases e))
     exact ⟨_, r2, r3, clo_den _ (by simp only [clo]) (sl_of_own (imm := (g.pub b l.blk).imm) hl hbb hc hd (fun r hr => .inl hr) (.inr rfl))⟩
    ·exact hk.elim
   | mp b =>
    rw [pubK] at hk
    split at hk
    ·rename_i es he
     obtain ⟨⟨hc⟩, hk⟩ := hk
     obtain ⟨hk, hno⟩ := noIter_spec hk.at
     obtain ⟨h2, q1, q2, q3, q4, q5⟩ := updGo_spec hk
     refine ⟨h2, _, q1, by simp only [clo], fun g w v hb hd => ?_⟩
     have hbb := hb.hp b
     rw [he] at hbb
     obtain ⟨l, hl⟩ : ∃ l, g.ι b = some l := ⟨_, hbb.choose_spec.choose_spec.choose_spec.1⟩
     obtain ⟨r2, r3⟩ := pub_book hb hl q2 q4 q5 hno
     exact ⟨_, r2, r3, clo_den _ (by simp only [clo]) (imap_of_mp (imm := (g.pub b l.blk).imm) hl hbb hc hd (fun r hr => .inl hr) (.inr rfl))⟩
    ·exact hk.elim
   | agg cs =>
    rw [pubK] at hk
    obtain ⟨h1, cs', k1, k2, k3⟩ := ih2 hk
    refine ⟨h1, _, k1, by simpa only [clo] using k2, fun g w v hb hd => ?_⟩
    simp only [Gh.den, den] at hd
    obtain ⟨vs, rfl, hd⟩ := hd
    obtain ⟨g', r1, r2, r3⟩ := k3 g w vs hb hd
    exact ⟨g', r1, r2, by simp only [Gh.den, den]; exact ⟨vs, rfl, r3⟩⟩
   | tup cs =>
    rw [pubK] at hk
    obtain ⟨h1, cs', k1, k2, k3⟩ := ih2 hk
    refine ⟨h1, _, k1, by simpa only [clo] using k2, fun g w v hb hd => ?_⟩
    simp only [Gh.den, den] at hd
    obtain ⟨vs, rfl, hd⟩ := hd
    obtain ⟨g', r1, r2, r3⟩ := k3 g w vs hb hd
    exact ⟨g', r1, r2, by simp only [Gh.den, den]; exact ⟨vs, rfl, r3⟩⟩
   | fn f fs cs =>
    rw [pubK] at hk
    obtain ⟨h1, fs', k1, k2, k3⟩ := ih2 hk
    obtain ⟨h2, cs', m1, m2, m3⟩ := ih2 k1
    refine ⟨h2, _, m1, by simp only [clo]; exact ⟨k2, m2⟩, fun g w v hb hd => ?_⟩
    simp only [Gh.den, den] at hd
    obtain ⟨vf, vc, rfl, d1, d2⟩ := hd
    obtain ⟨g1, r1, r2, r3⟩ := k3 g w vf hb d1
    obtain ⟨g2, s1, s2, s3⟩ := m3 g1 w vc r1 (r2.denL hb.ok d2)
    exact ⟨g2, s1, r2.trans s2, by simp only [Gh.den, den]; exact ⟨vf, vc, rfl, s2.denL r1.ok r3, s3⟩⟩
   | iface t x =>
    rw [pubK] at hk
    obtain ⟨h1, x', k1, k2, k3⟩ := ih1 hk
    refine ⟨h1, _, k1, by simpa only [clo] using k2, fun g w v hb hd => ?_⟩
    simp only [Gh.den, den] at hd
    obtain ⟨u, rfl, hd⟩ := hd
    obtain ⟨g', r1, r2, r3⟩ := k3 g w u hb hd
    exact ⟨g', r1, r2, by simp only [Gh.den, den]; exact ⟨u, rfl, r3⟩⟩
   | eptr b sz i off => exact hk.elim
   | osl b sz off n => exact hk.elim
   | csl b off n cap => exact hk.elim
   | yield b => exact hk.elim
   | _ => exact same (by simp only [clo]) (forceK_iff.1 hk)
  ·intro h ss k hk
   cases ss with
   | nil => exact ⟨h, [], hk, trivial, fun g w vs hb hd => ⟨g, hb, Ext.refl _ _ _, hd⟩⟩
   | cons s ss =>
    rw [pubLK] at hk
    obtain ⟨h1, s', k1, k2, k3⟩ := ih1 hk
    obtain ⟨h2, ss', m1, m2, m3⟩ := ih2 k1
    refine ⟨h2, _, m1, ⟨k2, m2⟩, fun g w vs hb hd => ?_⟩
    simp only [Gh.denL, denL] at hd
    obtain ⟨u, us, rfl, d1, d2⟩ := hd
    obtain ⟨g1, r1, r2, r3⟩ := k3 g w u hb d1
    obtain ⟨g2, s1, s2, s3⟩ := m3 g1 w us r1 (r2.denL hb.ok d2)
    refine ⟨g2, s1, r2.trans s2, ?_⟩
    simp only [Gh.denL, denL]
    exact ⟨u, us, rfl, s2.den r1.ok r3, s3⟩
end
def none0 (imm : Nat → Prop) : Gh := ⟨fun _ => False, fun _ => none, imm, none, 0⟩
structure PF (P : Program) (f : FuncId) (args : List SV) (Q : SV → Prop) : Prop where
 ok : ∃ t, fnOf P f = some t
 run : P.follows .mixedOrders = true → ∀ (imm : Nat → Prop) (w : World) (vals : List Value), (∀ r, imm r → r < w.heap.size) → denL w imm args (fun _ => False) (fun _ => none) vals →
  CallsIn (Fn none) 0 P f vals.toArray w fun e w' => ∃ v s imm', e = .returned v ∧ Q s ∧ clo s ∧ (∀ r, imm' r → r < w'.heap.size) ∧ den w' imm' s (fun _ => False) (fun _ => none) v ∧ Ext (none0 imm) w (none0 imm') w' All
section
variable {P : Program}
theorem PF.mono {f : FuncId} {args : List SV} {Q Q' : SV → Prop} (h : PF P f args Q) (hq : ∀ s, Q s → Q' s) : PF P f args Q' :=
 ⟨h.ok, fun hm imm w vals h1 h2 => (h.run hm imm w vals h1 h2).mono fun _ _ ⟨v, s, imm', e, q, rest⟩ => ⟨v, s, imm', e, hq s q, rest⟩⟩
theorem none0_ok {imm : Nat → Prop} {w : World} (h : ∀ r, imm r → r < w.heap.size) : GOk (none0 imm) w := ⟨fun b l hl => (by cases hl), fun b b' l l' hl => (by cases hl), h, fun r ⟨H, e, _⟩ => (by cases e), fun r ⟨H, e, _⟩ => (by cases e), fun b l hl => (by cases hl), Nat.zero_le _⟩
theorem PF.of {f : FuncId} {args : List SV} {Q : SV → Prop} (h : TF P f args [] fun s h' => pubK 60 h' s fun _ s' => Q s') : PF P f args Q := by
 refine ⟨h.ok, fun hm imm w vals h1 h2 => (h.run hm (none0 imm) w vals rfl (none0_ok h1) (fun b hb => hb.elim) h2 (fun b => trivial)).mono ?_⟩
 rintro _ w' ⟨v, s, h', g', rfl, q, k1, k2, k3, k4, k5⟩
 obtain ⟨h2, s', m1, m2, m3⟩ := (pub_spec (P := P) 60).1 q
 obtain ⟨g2, n1, n2, n3⟩ := m3 g' w' v ⟨k1, k2, k4⟩ k3
 have hx := k5.trans n2
 refine ⟨v, s', g2.imm, rfl, m1, m2, n1.ok.immlt, clo_den s' m2 n3, ⟨hx.os, hx.tape, hx.output, hx.size, fun _ h => h, fun _ h => h.elim, hx.imm, rfl, rfl, hx.old, fun b l hl => (by cases hl), hx.newimm⟩⟩
theorem ext_grow {g : Gh} {w w' : World} {imm' : Nat → Prop} (hg : GOk g w) (h : Ext (none0 g.imm) w (none0 imm') w' All) (hlt : ∀ r, imm' r → r < w'.heap.size) (U : Nat → Prop) :
  GOk ⟨g.dom, g.ι, imm', g.hid, g.flr⟩ w' ∧ Ext g w ⟨g.dom, g.ι, imm', g.hid, g.flr⟩ w' U := by
 have hnew : ∀ r, imm' r → g.imm r ∨ w.heap.size ≤ r := fun r hr => by
  rcases h.newimm r hr with q | q | ⟨b, l, _, hl, _⟩
  ·exact .inl q
  ·exact .inr q
  ·cases hl
 refine ⟨⟨fun b l hl => ?_, hg.inj, hlt, fun r hr => Nat.lt_of_lt_of_le (hg.hlt r hr) h.size, fun r hr hh => ?_, hg.hown, Nat.le_trans hg.flr h.size⟩, ⟨h.os, h.tape, h.output, h.size, fun _ h => h, fun _ _ => ⟨fun _ => rfl, .inl rfl⟩, h.imm, rfl, rfl, fun r hr _ => h.old r hr (fun b l _ hl => by cases hl), fun _ _ h => .inl h, fun r hr => (hnew r hr).imp id .inl⟩⟩
 ·obtain ⟨p1, p2, p3⟩ := hg.own b l hl
  refine ⟨p1, Nat.lt_of_lt_of_le p2 h.size, fun hh => ?_⟩
  rcases hnew _ hh with q | q
  ·exact p3 q
  ·omega
 ·rcases hnew _ hh with q | q
  ·exact hg.himm r hr q
  ·have := hg.hlt r hr; omega
theorem PF.tf {f : FuncId} {args : List SV} {Q : SV → Prop} (h : PF P f args Q) (hc : cloL args) {hb : List LB} {K : SV → List LB → Prop} (hK : ∀ s, Q s → clo s → K s hb) : TF P f args hb K := by
 refine ⟨h.ok, fun hm g w vals _ h1 h2 h3 h4 => (h.run hm g.imm w vals h1.immlt (cloL_den args hc h3)).mono ?_⟩
 rintro _ w' ⟨v, s, imm', rfl, q, c, k1, k2, k3⟩
 obtain ⟨e1, hext⟩ := ext_grow h1 k3 k1 (fun _ => False)
 exact ⟨v, s, hb, ⟨g.dom, g.ι, imm', g.hid, g.flr⟩, rfl, hK s q c, e1, h2, clo_den s c k2, fun b => hext.lb h1 (fun h => h) (fun _ _ h => h) (h4 b), hext.more fun _ _ => trivial⟩
end
end Go.TV
