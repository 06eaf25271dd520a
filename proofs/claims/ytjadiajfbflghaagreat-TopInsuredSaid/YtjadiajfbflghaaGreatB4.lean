/- The value calculus, fourth part: further rules. -/
import Derived.Test.YtjadiajfbflghaaGreatB3
set_option linter.unusedSimpArgs false
set_option linter.unusedVariables false
/- The value calculus, part 2P: publishing an own slice that lies in another own slice. -/
namespace Go.TV
open Go.RowKit
section
variable {P : Program} {r : Fr}
end
end Go.TV
/- The value calculus, part 2Q: an entry of a map that is made and kept, in a region in any order. -/
namespace Go.TV
open Go.RowKit
theorem cnt_tail (n : Nat) : ∀ m, ((List.range (n + m)).countP fun j => !decide (j < n)) = m
 | 0 => by
  rw [List.countP_eq_zero]
  intro j hj
  have := List.mem_range.1 hj
  simp; omega
 | m + 1 => by
  rw [Nat.add_succ, List.range_succ, List.countP_append, cnt_tail n m]
  simp
section
variable {P : Program}
theorem draw_tail {S0 Sf : St} {ds : List DS} {A : Array Oper} {ts us : List Oper} (hch : Chain P A ts S0 ds Sf) (hck : Chk (itersOf S0.h) (ds.map (·.lg))) (hts : A.toList = ts ++ us) (hne : us ≠ [])
  (hcov : ∀ (i : Nat) (o : Oper), us[i]? = some o → covers (ds.map (·.lg)).reverse (cDeps o) = true ∨ ∃ d ∈ cDeps o, ts.length ≤ d) {g0 : Gh} {w0 : World}
  {ro : Option Nat} {Q : Exit → Act → World → Prop} (hlast : ∀ (listed : Array Bool) (g : Gh) (a : Act) (w : World), listed.size = A.size → (∀ j, listed.getD j false = decide (j < ts.length)) → Sim P g Sf a w → Ext g0 w0 g w All →
   wpAnyIn (Fn ro) 0 P .any A Q us.length listed a w) :
  ∀ (fuel : Nat) (listed : Array Bool) (g : Gh) (a : Act) (w : World), listed.size = A.size → (∀ j, ts.length ≤ j → listed.getD j false = false) → Down ds (fun j => listed.getD j false) → DInv P S0 ds (fun j => listed.getD j false) g0 w0 g a w →
   ((List.range A.size).countP fun j => !listed.getD j false) = fuel → wpAnyIn (Fn ro) 0 P .any A Q fuel listed a w := by
 have hn : ds.length = ts.length := hch.end.1
 have hsz' : A.size = ts.length + us.length := by rw [← Array.length_toList, hts]; simp
 have hpos : 0 < us.length := List.length_pos_iff.2 hne
 have hget : ∀ j, j < ts.length → ∀ x, A[j]? = some x → ts[j]? = some x := fun j hj x hx => by
  rw [← Array.getElem?_toList, hts, List.getElem?_append_left hj] at hx; exact hx
 have hgetu : ∀ j, ts.length ≤ j → ∀ x, A[j]? = some x → us[j - ts.length]? = some x := fun j hj x hx => by
  rw [← Array.getElem?_toList, hts, List.getElem?_append_right hj] at hx; exact hx
 have hall : ∀ (m : List Nat), covers (ds.map (·.lg)).reverse m = true → ∀ E : Nat → Bool, Down ds E → (∀ j ∈ m, E j = true) → ∀ j, j < ds.length → E j = true := fun m hcv E hd hm j hj => by
  obtain ⟨hc1, hc2⟩ := Bool.and_eq_true_iff.1 hcv
  refine covGo_spec hc2 (fun i x hx => ?_) hm j (by simpa using hj)
  rw [List.reverse_reverse, List.getElem?_map, Option.map_eq_some_iff] at hx
  obtain ⟨d, h1, rfl⟩ := hx
  exact hd i d h1
 have deps_eq : ∀ (j : Nat) (x : Oper), ts[j]? = some x → ∀ d : DS, ds[j]? = some d → d.lg.deps = cDeps x := fun j x hx d hd => by
  obtain ⟨Si, d', e1, e2, _⟩ := hch.at j x hx
  rw [hd] at e1; cases e1
  rw [(lg_upd e2).2.2.1]
  unfold cOper
  cases hg : x.guard with
  | none => rfl
  | some jw =>
   obtain ⟨j', want⟩ := jw
   simp only
   cases hs : (A[j']?).bind (·.dst) <;> rfl
 intro fuel
 induction fuel with
 | zero =>
  intro listed g a w hsz hl hdown hI hc
  have := count_zero (E := fun j => listed.getD j false) hc ts.length (by omega)
  rw [hl _ (Nat.le_refl _)] at this; cases this
 | succ fuel ih =>
  intro listed g a w hsz hl hdown hI hc
  by_cases hdone : ∀ j, j < ts.length → listed.getD j false = true
  ·have hE : ∀ j, listed.getD j false = decide (j < ts.length) := fun j => by
    rcases Nat.lt_or_ge j ts.length with h | h
    ·rw [hdone j h, decide_eq_true h]
    ·rw [hl j h]; simp; omega
   have : fuel + 1 = us.length := by
    rw [← hc, hsz']
    simp only [hE]
    exact cnt_tail _ _
   rw [this]
   exact hlast listed g a w hsz hE (hI.done hch fun j hj => hdone j (by omega)) hI.ext
  have rdy : ∀ j, j < A.size → listed.getD j false = false → ∀ x, A[j]? = some x → (∀ e ∈ cDeps x, listed.getD e false = true) → j ∈ Region.ready .any A listed := fun j hj hE x hx hd => by
   refine mem_ready.2 ⟨?_, x, hx, fun e he hb => ?_⟩
   ·simp [hsz, hj] at hE ⊢; exact hE
   ·refine hd e.on ?_
    simp only [cDeps, List.mem_map, List.mem_filter]
    exact ⟨e, ⟨by simpa using he, hb⟩, rfl⟩
  refine ⟨fun hnil => ?_, fun i hi => ?_⟩
  ·exfalso
   refine hdone fun j => ?_
   induction j using Nat.strongRecOn with
   | _ j ihj =>
    intro hj
    cases hE : listed.getD j false with
    | true => rfl
    | false =>
     exfalso
     have hx : A[j]? = some (A[j]'(by omega)) := by simp
     have hm := rdy j (by omega) hE _ hx fun e he => by
      have hd : ds[j]? = some (ds[j]'(by omega)) := by simp
      have := hck.lt j _ (by rw [List.getElem?_map, hd]; rfl) e (by rw [deps_eq j _ (hget j hj _ hx) _ hd]; exact he)
      exact ihj e this (by omega)
     rw [hnil] at hm; cases hm
  ·obtain ⟨h0, x, hx, hdp⟩ := mem_ready.1 hi
   have hlt : i < A.size := (Array.getElem?_eq_some_iff.1 hx).1
   have hE : listed.getD i false = false := by simp [hsz, hlt] at h0 ⊢; exact h0
   have hE' : ∀ j, (listed.setIfInBounds i true).getD j false = (listed.getD j false || j == i) := by
    intro j
    by_cases e : i = j
    ·subst e; simp [hsz, hlt]
    ·rw [getD_set_ne false e]
     have : (j == i) = false := by simpa using fun h => e h.symm
     rw [this, Bool.or_false]
   have hdeps : ∀ k ∈ cDeps x, listed.getD k false = true := fun k hk => by
    simp only [cDeps, List.mem_map, List.mem_filter] at hk
    obtain ⟨e, ⟨he, hb⟩, rfl⟩ := hk
    exact hdp e (by simpa using he) hb
   have hcnt := count_one (E := fun j => listed.getD j false) (E' := fun j => (listed.setIfInBounds i true).getD j false) hE hE' A.size
   rw [if_pos hlt, hc] at hcnt
   have hil : i < ts.length := by
    rcases Nat.lt_or_ge i ts.length with h | h
    ·exact h
    ·exfalso
     rcases hcov _ x (hgetu i h x hx) with hcv | ⟨d, hd, hdl⟩
     ·exact hdone fun j hj => hall _ hcv _ hdown hdeps j (by omega)
     ·have := hdeps d hd
      rw [hl d hdl] at this; cases this
   refine draw_step hch hck hI hdown hx (hget i hil x hx) hE hdeps hE' fun g' a' w' hI' => ?_
   refine ih _ g' a' w' (by simpa using hsz) (fun j hj => ?_) (fun k d hk hEk j hj => ?_) hI' (by omega)
   ·rw [hE', hl j hj]; simp; omega
   ·simp only [hE'] at hEk ⊢
    by_cases e : k = i
    ·subst e
     rw [deps_eq k x (hget k hil x hx) d hk] at hj
     rw [hdeps j hj]; rfl
    ·have e' : (k == i) = false := by simpa using e
     rw [e', Bool.or_false] at hEk
     have := hdown k d hk hEk j hj
     simp only at this
     rw [this]; rfl
theorem mapEnt_run {t kt et : TypeId} {sh : TShape} {z : SV} (hu : P.underlying t = some (.map kt et)) (hs : shapeT P 8 kt = some sh) (hz : zeroT P et = some z) {g : Gh} {w : World} {key : SV} {kv : Value}
  (hk : g.den w key kv) (ho : shOK sh key) {es : List (SV × SV)} (hes : ∀ e ∈ es, shOK sh e.1) {m : Nat} {ents : Array MapEntry} {idx : List Nat} (hh : w.heap[m]? = some (.map ents ents.size)) (hp : idx.Perm (List.range ents.size))
  (hb : borns ents) (hd : g.denM w es ents idx) {pre post : List (SV × SV)} {v0 : SV} (hcase : es = pre ++ (key, v0) :: post ∨ (post = [] ∧ v0 = z ∧ es = pre)) (hpre : ∀ e ∈ pre, key ≠ e.1) (hpost : ∀ e ∈ post, key ≠ e.1) :
  ∃ (j : Nat) (u : Value) (w1 : World) (ents' : Array MapEntry) (ipre ipost : List Nat) (en : MapEntry), (Instr.mapEntry t (.map (some m)) kv).run P w = .ok (.tuple #[u, goInt (j : Int)]) (w1.putObj m (.map ents' ents'.size)) ∧ (w1 = w ∨ w1 = w.drew) ∧
   (ipre ++ j :: ipost).Perm (List.range ents'.size) ∧ borns ents' ∧ ents'[j]? = some en ∧ g.den w key en.key ∧ g.den w v0 en.val ∧ g.denM w pre ents' ipre ∧ g.denM w post ents' ipost := by
 have hch := checkKey_run (P := P) 8 kt sh hs false 10000 (by omega) hk ho
 have hgo : (getObj m).run P w = .ok (.map ents ents.size) w := by simp [getObj, Sem.run, hh]
 have hso : ∀ {w : World} (o : Obj), w.heap[m]? = some (.map ents ents.size) → (setObj m o).run P w = .ok () (w.putObj m o) := by
  intro w o hh; simp [setObj, Sem.run, hh, World.putObj]
 obtain ⟨r, f1, f2, f3⟩ := find_told hs hk ho hp hd hes
 rcases hcase with he | ⟨rfl, rfl, rfl⟩
 ·obtain ⟨j, en, rfl, h1, h2, h3, ipre, ipost, e2, h6, h7⟩ := f3 pre v0 post he hpre hpost
  obtain ⟨kk, w1, hk1, hk2, hk3⟩ := run_keyThatStays (P := P) en.key kv w
  have hw1 : w1.heap[m]? = some (.map ents ents.size) := by rcases hk3 with rfl | rfl <;> exact hh
  let ents' := ents.modify j fun e => { e with key := kk }
  have hsz : ents'.size = ents.size := by simp [ents']
  have hnd : idx.Nodup := hp.nodup_iff.2 List.nodup_range
  rw [e2] at hnd hp
  have hne : ∀ i ∈ ipre ++ ipost, i ≠ j := by
   intro i hi' e
   subst e
   rw [List.nodup_append] at hnd
   rcases List.mem_append.1 hi' with hi' | hi'
   ·exact hnd.2.2 i hi' i (by simp) rfl
   ·exact (List.nodup_cons.1 hnd.2.1).1 hi'
  have keep : ∀ i ∈ ipre ++ ipost, ∀ e, ents[i]? = some e → ∃ e', ents'[i]? = some e' ∧ e'.key = e.key ∧ e'.val = e.val := by
   intro i hi' e hie
   exact ⟨e, by simp only [ents', Array.getElem?_modify]; rw [if_neg (fun e => hne i hi' e.symm)]; exact hie, rfl, rfl⟩
  refine ⟨j, en.val, w1, ents', ipre, ipost, { en with key := kk }, ?_, hk3, by rw [hsz]; exact hp, ?_, by simp [ents', Array.getElem?_modify, h1], ?_, h3, denM_ents h6 fun i hi' => keep i (by simp [hi']), denM_ents h7 fun i hi' => keep i (by simp [hi'])⟩
  ·have hk1' : (Instr.keyThatStays (((ents[j]?).map (·.key)).getD kv) kv).run P w = .ok kk w1 := by simpa [h1] using hk1
   have hbj : ((ents[j]?).map fun x => (x.born : Int)).getD 0 = (j : Int) := by rw [h1]; simp [hb j en h1]
   simp only [Instr.mapEntry, Sem.run_bind, run_underlying hu, Result.andThen, hgo, hch, f1, hk1']
   rw [hso _ hw1, hsz]
   simp only [Sem.run_pure, hbj]
   rfl
  ·intro i e hie
   simp only [ents', Array.getElem?_modify] at hie
   split at hie
   ·simp only [Option.map_eq_some_iff] at hie
    obtain ⟨e', h8, rfl⟩ := hie
    exact hb i e' h8
   ·exact hb i e hie
  ·rcases hk2 with rfl | rfl
   ·exact h2
   ·exact hk
 ·obtain rfl := f2 hpre
  obtain ⟨i, zv, hi, hzv, hsv, hn⟩ := zeroT_spec hz
  let ents' := ents.push { key := kv, val := zv, born := ents.size }
  have hsz : ents'.size = ents.size + 1 := by simp [ents']
  have hlt : ∀ i ∈ idx, i < ents.size := fun i hi' => by simpa using hp.mem_iff.1 hi'
  refine ⟨ents.size, zv, w, ents', idx, [], _, ?_, .inl rfl, ?_, ?_, by simp [ents']; rfl, hk, toSV_den 8 zv _ hsv, denM_ents hd fun i hi' e hie => ⟨e, ?_, rfl, rfl⟩, by simp only [Gh.denM, denM]⟩
  ·simp only [Instr.mapEntry, Sem.run_bind, run_underlying hu, Result.andThen, hgo, hch, f1, run_zeroValue' hi hzv]
   rw [hso _ hh, hsz]
   rfl
  ·rw [hsz, List.range_succ]
   exact hp.append_right _
  ·intro i e hie
   simp only [ents', Array.getElem?_push] at hie
   split at hie
   ·rename_i hlt
    cases hie
    exact hlt.symm
   ·exact hb i e hie
  ·simp only [ents', Array.getElem?_push]
   rw [if_neg (by have := hlt i hi'; omega)]
   exact hie
theorem entSt_run {t : TypeId} {w : World} {m : Nat} {ents : Array MapEntry} (hh : w.heap[m]? = some (.map ents ents.size)) (hb : borns ents) {j : Nat} {en : MapEntry} (hj : ents[j]? = some en) (v : Value) :
  (Instr.entryStore t (.map (some m)) (goInt (j : Int)) v).run P w = .ok () (w.putObj m (.map (ents.modify j fun e => { e with val := v }) ents.size)) := by
 have hgo : (getObj m).run P w = .ok (.map ents ents.size) w := by simp [getObj, Sem.run, hh]
 have hso : ∀ (o : Obj), (setObj m o).run P w = .ok () (w.putObj m o) := by
  intro o; simp [setObj, Sem.run, hh, World.putObj]
 have hlt : j < ents.size := (Array.getElem?_eq_some_iff.1 hj).1
 have hfi : ents.findIdx? (fun e => (e.born : Int) == (j : Int)) = some j := by
  rw [Array.findIdx?_eq_some_iff_getElem]
  refine ⟨hlt, ?_, fun i hij => ?_⟩
  ·have := hb j _ (Array.getElem?_eq_getElem hlt)
   simp [this]
  ·have := hb i _ (Array.getElem?_eq_getElem (show i < ents.size by omega))
   simp [this]; omega
 simp only [Instr.entryStore, Sem.run_bind, Sem.run_pure, Result.andThen, hgo, asInt, asIntOf, goInt, hfi]
 exact hso _
def noStop : List TOper → Bool
 | [] => true
 | t :: ts => !isStop t.op && noStop ts
theorem evD_chain {r : Fr} (hm : P.follows .mixedOrders = true) : ∀ {ts : List TOper} {S : St} {log : List Lg} {it : List Nat} {K : St → Prop}, noStop ts = true → evD P r ts S log it K →
  ∀ (A : Array Oper) (os : List Oper), os.map (cOper P A true) = ts → ∃ ds Sf, Chain P A os S ds Sf ∧ chkGo it (log.reverse ++ ds.map (·.lg)) 0 [] [] = true ∧ K Sf
 | [], S, log, it, K, _, hK => fun A os hos => by
  have : os = [] := by cases os with | nil => rfl | cons o os => cases hos
  subst this
  rw [evD_nil, Ev_iff, Vc_iff] at hK
  exact ⟨[], S, ⟨rfl, rfl⟩, by simpa using hK.1, hK.2⟩
 | t :: ts, ⟨σ, h, mks⟩, log, it, K, hns, hK => fun A os hos => by
  simp only [noStop, Bool.and_eq_true, Bool.not_eq_true'] at hns
  cases os with
  | nil => cases hos
  | cons o os =>
  simp only [List.map_cons, List.cons.injEq] at hos
  obtain ⟨rfl, hos⟩ := hos
  rw [evD_cons] at hK
  obtain ⟨b, hg, hK⟩ := guardK_true hK
  cases b with
  | true =>
   simp only [hns.1] at hK
   have hK := lenK_iff _ _ hK
   have hb : (cOper P A true o).op ≠ .bad := fun e => by rw [e] at hK; exact hK
   obtain ⟨c1, c2⟩ := cOper_cases P A true o
   rcases c2 with ⟨c2, _⟩ | ⟨c2, _⟩
   ·rw [c2] at hK
    obtain ⟨sv, upd, nb, h1, h2, h3⟩ := ev_sound o hK
    rw [setD_iff] at h1
    obtain ⟨h', hTD, l1, l2, l3⟩ := updK_wr h1
    obtain ⟨ds, Sf, k1, k2, k3⟩ := evD_chain hm hns.2 hTD A os hos
    exact ⟨⟨lgOf (cOper P A true o) upd nb, sv, upd⟩ :: ds, Sf, ⟨_, ds, ⟨match (cOper P A true o).dst with | none => σ | some n => σ.set n sv, h', mks⟩, rfl,
     .inl ⟨nb, rfl, hg, hb, h2.orun (ev_nodefer hK), fun p hp => (h3 p hp).imp id fun h => ⟨h.1, h.2.lt⟩⟩, ⟨rfl, l1, l2, l3, rfl⟩, k1⟩, by simpa using k2, k3⟩
   ·exact absurd c2 hb
  | false =>
   simp only at hK
   rw [setD_iff] at hK
   obtain ⟨ds, Sf, k1, k2, k3⟩ := evD_chain hm hns.2 hK A os hos
   exact ⟨⟨lgOf (cOper P A true o) [] [], .tup [], []⟩ :: ds, Sf, ⟨_, ds, ⟨match (cOper P A true o).dst with | none => σ | some n => σ.set n (.tup []), h, mks⟩, rfl, .inr ⟨hg, rfl⟩, ⟨rfl, Nat.le_refl _, by simp, fun _ => rfl, rfl⟩, k1⟩, by simpa using k2, k3⟩
theorem cOpd_t {X : Operand} {m : Nat} (h : cOpd X = .t m) : X = .tmp m := by
 cases X <;> simp [cOpd] at h
 rw [h]
theorem inv_mapEnt {op : Op} {sh : TShape} {z : SV} {x k : TOpd} (h : cOp P op = .mapEnt sh z x k) : ∃ t kt e X K, op = .mapEntry t X K ∧ P.underlying t = some (.map kt e) ∧ zeroT P e = some z ∧ shapeT P 8 kt = some sh ∧ cOpd X = x ∧ cOpd K = k := by
 cases op <;> simp only [cOp] at h
 case mapEntry t X K =>
  split at h
  ·rename_i kt e hu
   split at h
   ·rename_i z' sh' hz hs
    cases h
    exact ⟨t, kt, e, X, K, rfl, hu, hz, hs, rfl, rfl⟩
   ·cases h
  ·cases h
 all_goals (first | (cases h; done) | skip)
 all_goals (try unfold cCall at h)
 all_goals (try unfold cBin at h)
 all_goals (repeat' split at h)
 all_goals (first | contradiction | (cases h; done))
theorem inv_entSt {op : Op} {x s v : TOpd} (h : cOp P op = .entSt x s v) : ∃ t X S V, op = .entryStore t X S V ∧ cOpd X = x ∧ cOpd S = s ∧ cOpd V = v := by
 cases op <;> simp only [cOp] at h
 case entryStore t X S V => cases h; exact ⟨t, X, S, V, rfl, rfl, rfl, rfl⟩
 all_goals (first | (cases h; done) | skip)
 all_goals (try unfold cCall at h)
 all_goals (try unfold cBin at h)
 all_goals (repeat' split at h)
 all_goals (first | contradiction | (cases h; done))
def tslot (σ : List SV) (v0 v1 : SV) (j : Nat) (sl sa se ss : Nat) (eL eA eM eX : Bool) (s : Nat) : SV :=
 if s = sl then (if eL = true then v0 else .junk) else if s = sa then (if eA = true then v1 else .junk) else if s = se then (if eM = true then .tup [.junk, .int .i64 j] else .junk) else
  if s = ss then (if eX = true then .int .i64 j else .junk) else getS σ s
structure TI (P : Program) (σ : List SV) (h : List LB) (b : Nat) (key v0 v1 : SV) (sl sa se ss : Nat) (es pre post : List (SV × SV)) (g0 : Gh) (w0 : World) (j : Nat) (eL eA eM eX : Bool) (g : Gh) (a : Act) (w : World) : Prop where
 ok : GOk g w
 ext : Ext g0 w0 g w All
 dom : ∀ c, g.dom c → c < h.length
 sz : a.tmps.size = σ.length
 tm : ∀ s, s < σ.length → g.den w (tslot σ v0 v1 j sl sa se ss eL eA eM eX s) (a.tmps.toList.getD s undef)
 hp : ∀ c, c ≠ b → lbden P w g c (hget h c)
 df : dfden g w a.defers
 mp : ∃ l ents idx, g.ι b = some l ∧ w.heap[l.blk]? = some (.map ents ents.size) ∧ idx.Perm (List.range ents.size) ∧ borns ents ∧ (eM = false → g.denM w es ents idx) ∧
  (eM = true → ∃ ipre ipost en, idx = ipre ++ j :: ipost ∧ ents[j]? = some en ∧ g.den w key en.key ∧ g.den w v0 en.val ∧ g.denM w pre ents ipre ∧ g.denM w post ents ipost)
theorem put_sz (a : Act) (d : Option Nat) (v : Value) : (a.put d v).tmps.size = a.tmps.size := by cases d <;> simp [Act.put]
theorem put_df (a : Act) (d : Option Nat) (v : Value) : (a.put d v).defers = a.defers := by cases d <;> rfl
theorem put_same {a : Act} {d : Nat} (h : d < a.tmps.size) (v : Value) : (a.put (some d) v).tmps.toList.getD d undef = v := by simp [Act.put, List.getD, h]
theorem put_other {a : Act} {d s : Nat} (h : d ≠ s) (v : Value) : (a.put (some d) v).tmps.toList.getD s undef = a.tmps.toList.getD s undef := by
 simp only [Act.put, Array.set!, Array.toList_setIfInBounds, List.getD]
 rw [List.getElem?_set_ne h]
section tail
variable {σ : List SV} {h : List LB} {b : Nat} {key v0 v1 : SV} {sl sa se ss : Nat} {es pre post : List (SV × SV)} {g0 : Gh} {w0 : World}
theorem TI.pure {j : Nat} {eL eA eM eX eL' eA' eX' : Bool} {g : Gh} {a : Act} {w : World} (hI : TI P σ h b key v0 v1 sl sa se ss es pre post g0 w0 j eL eA eM eX g a w) (hb : g.dom b) {o : Oper} {σ' : List SV} {h' : List LB} {nid : Nat} {sv : SV} {nb : List Nat}
  (hr : ORun P o σ' h' nid sv [] nb) (hops : ∀ t, t ∈ rds o.op.operands.toList → g.den w (getS σ' t) (a.tmps.toList.getD t undef)) (hnb : ∀ c ∈ nb, lbden P w g c (hget h' c)) {d : Nat} (hd : o.dst = some d) (hdl : d < σ.length)
  (htm : ∀ s, tslot σ v0 v1 j sl sa se ss eL' eA' eM eX' s = if s = d then sv else tslot σ v0 v1 j sl sa se ss eL eA eM eX s) {ro : Option Nat} {Q : Exit → Act → World → Prop} {K : Act → World → Prop}
  (hK : ∀ g' a' w', TI P σ h b key v0 v1 sl sa se ss es pre post g0 w0 j eL' eA' eM eX' g' a' w' → g'.dom b → K a' w') : o.uponIn (Fn ro) 0 P a K Q ((o.semAt ro a.eval).run P w) := by
 refine hr g a w ro K Q hI.ok ⟨_, hI.dom⟩ (by simp) (fun x hx => opd_den x fun t ht => hops t (by subst ht; exact rds_mem hx)) hnb fun v w' g' k1 k2 k3 _ k5 => ?_
 have hU : ∀ c, ¬ ids ([] : List (Nat × LB)) c := fun c => by simp [ids]
 refine hK g' _ w' ⟨k1, hI.ext.trans (k2.more fun _ _ => trivial), fun c hc => hI.dom c ((k5 c hc).resolve_right (hU c)), by rw [put_sz]; exact hI.sz, fun s hs => ?_, fun c hc => k2.lb hI.ok (hU c) (fun c' _ => hU c') (hI.hp c hc), by rw [put_df]; exact k2.df hI.df, ?_⟩ (k2.dom b hb)
 ·rw [htm, hd]
  split
  ·rename_i e
   rw [e, put_same (by rw [hI.sz]; exact hdl)]
   exact k3
  ·rename_i e
   rw [put_other (fun h => e h.symm)]
   exact k2.den hI.ok (hI.tm s hs)
 ·obtain ⟨l, ents, idx, m1, m2, m3, m4, m5, m6⟩ := hI.mp
  refine ⟨l, ents, idx, ((k2.ι b hb).1 (hU b)).trans m1, ?_, m3, m4, fun e => k2.denM hI.ok (m5 e), fun e => ?_⟩
  ·rw [k2.old l.blk (hI.ok.own b l m1).2.1 (fun c _ hc => absurd hc (hU c))]; exact m2
  ·obtain ⟨ipre, ipost, en, n1, n2, n3, n4, n5, n6⟩ := m6 e
   exact ⟨ipre, ipost, en, n1, n2, k2.den hI.ok n3, k2.den hI.ok n4, k2.denM hI.ok n5, k2.denM hI.ok n6⟩
theorem put_world {w w1 : World} {r : Nat} {ents ents' : Array MapEntry} (hw : w1 = w ∨ w1 = w.drew) (hh : w.heap[r]? = some (.map ents ents.size)) :
  (w1.putObj r (.map ents' ents'.size)).os = w.os ∧ (w1.putObj r (.map ents' ents'.size)).tape = w.tape ∧ (w1.putObj r (.map ents' ents'.size)).output = w.output ∧
   (w1.putObj r (.map ents' ents'.size)).heap.size = w.heap.size ∧ (∀ r', r' ≠ r → (w1.putObj r (.map ents' ents'.size)).heap[r']? = w.heap[r']?) ∧
   (w1.putObj r (.map ents' ents'.size)).heap[r]? = some (.map ents' ents'.size) := by
 have hlt : r < w.heap.size := (Array.getElem?_eq_some_iff.1 hh).1
 rcases hw with rfl | rfl
 ·exact ⟨rfl, rfl, rfl, by simp, fun r hr => World.putObj_heap_other hr, World.putObj_heap_same hlt⟩
 ·exact ⟨rfl, rfl, rfl, by simp [World.putObj_size], fun r hr => World.putObj_heap_other hr, World.putObj_heap_same hlt⟩
theorem TI.make {j : Nat} {eL eA : Bool} {g : Gh} {a : Act} {w : World} (hI : TI P σ h b key v0 v1 sl sa se ss es pre post g0 w0 j eL eA false false g a w) (hb : g.dom b) {o : Oper} {t kt et : TypeId} {sh : TShape} {z : SV} {m k : Nat}
  (hop : o.op = .mapEntry t (.tmp m) (.tmp k)) (hu : P.underlying t = some (.map kt et)) (hs : shapeT P 8 kt = some sh) (hz : zeroT P et = some z) (hd : o.dst = some se) (hsel : se < σ.length) (hml : m < σ.length) (hkl : k < σ.length)
  (hm : getS σ m = .mp b) (hk : getS σ k = key) (hmn : m ≠ sl ∧ m ≠ sa ∧ m ≠ se ∧ m ≠ ss) (hkn : k ≠ sl ∧ k ≠ sa ∧ k ≠ se ∧ k ≠ ss) (hse : se ≠ sl ∧ se ≠ sa) (ho : shOK sh key) (hes : ∀ e ∈ es, shOK sh e.1)
  (hcase : es = pre ++ (key, v0) :: post ∨ (post = [] ∧ v0 = z ∧ es = pre)) (hpre : ∀ e ∈ pre, key ≠ e.1) (hpost : ∀ e ∈ post, key ≠ e.1) (hni : ∀ i, b ∉ (hget h i).deps) {ro : Option Nat} {Q : Exit → Act → World → Prop} {K : Act → World → Prop}
  (hK : ∀ j' g' a' w', TI P σ h b key v0 v1 sl sa se ss es pre post g0 w0 j' eL eA true false g' a' w' → g'.dom b → K a' w') : o.uponIn (Fn ro) 0 P a K Q ((o.semAt ro a.eval).run P w) := by
 obtain ⟨l, ents, idx, hi, hh, hp, hbo, hd0, _⟩ := hI.mp
 have hdm := hd0 rfl
 have hcm := hI.tm m hml
 have hck := hI.tm k hkl
 simp only [tslot, if_neg hmn.1, if_neg hmn.2.1, if_neg hmn.2.2.1, if_neg hmn.2.2.2, hm] at hcm
 simp only [tslot, if_neg hkn.1, if_neg hkn.2.1, if_neg hkn.2.2.1, if_neg hkn.2.2.2, hk] at hck
 have em : a.eval (.tmp m) = .map (some l.blk) := by
  simp only [Gh.den, den] at hcm
  have := hcm.2.2 l hi
  simpa [Act.eval] using this
 have ek : a.tmps.toList.getD k undef = a.eval (.tmp k) := by simp [Act.eval]
 rw [ek] at hck
 obtain ⟨j', u, w1, ents', ipre, ipost, en, r1, r2, r3, r4, r5, r6, r7, r8, r9⟩ := mapEnt_run (P := P) hu hs hz (g := g) (w := w) hck ho hes hh hp hbo hdm hcase hpre hpost
 obtain ⟨q1, q2, q3, q4, q5, q6⟩ := put_world (ents' := ents') r2 hh
 obtain ⟨g1, g2⟩ := ext_set (U := fun c => c = b) hI.ok hi rfl q1 q2 q3 q4 q5
 have hx : (execOp a.eval o).run P w = .ok (.value (.tuple #[u, goInt (j' : Int)])) (w1.putObj l.blk (.map ents' ents'.size)) := by
  simp only [execOp, hop, Sem.run_bind, em, r1, Result.andThen, Sem.run_pure]
 rw [Oper.semAt_eq ro a.eval o (by rw [hop]; intro c hc; cases hc), hx, Oper.uponIn_value]
 refine hK j' g _ _ ⟨g1, hI.ext.trans (g2.more fun _ _ => trivial), hI.dom, by rw [put_sz]; exact hI.sz, fun s hs' => ?_, fun c hc => g2.lb hI.ok hc (fun c' hc' e => hni c (e ▸ hc')) (hI.hp c hc), by rw [put_df]; exact g2.df hI.df, ?_⟩ hb
 ·rw [hd]
  by_cases e : s = se
  ·subst e
   rw [put_same (by rw [hI.sz]; exact hsel)]
   simp only [tslot, if_neg hse.1, if_neg hse.2, if_true, Gh.den, den, denL]
   exact ⟨_, rfl, _, _, rfl, trivial, _, _, rfl, rfl, rfl⟩
  ·rw [put_other (fun h => e h.symm)]
   have := g2.den hI.ok (hI.tm s hs')
   simp only [tslot, if_neg e] at this ⊢
   exact this
 ·exact ⟨l, ents', ipre ++ j' :: ipost, hi, q6, r3, r4, fun e => (by cases e), fun _ => ⟨ipre, ipost, en, rfl, r5, g2.den hI.ok r6, g2.den hI.ok r7, g2.denM hI.ok r8, g2.denM hI.ok r9⟩⟩
theorem TI.keep {j : Nat} {g : Gh} {a : Act} {w : World} (hI : TI P σ h b key v0 v1 sl sa se ss es pre post g0 w0 j true true true true g a w) {o : Oper} {t : TypeId} {m : Nat}
  (hop : o.op = .entryStore t (.tmp m) (.tmp ss) (.tmp sa)) (hd : o.dst = none) (hml : m < σ.length) (hsl : sa < σ.length) (hssl : ss < σ.length) (hm : getS σ m = .mp b) (hmn : m ≠ sl ∧ m ≠ sa ∧ m ≠ se ∧ m ≠ ss)
  (hsa : sa ≠ sl) (hss : ss ≠ sl ∧ ss ≠ sa ∧ ss ≠ se) (hni : ∀ i, b ∉ (hget h i).deps) {σ4 : List SV} {h4 : List LB} {mks : List Nat} (hσ : σ4.length = σ.length)
  (hσ4 : ∀ s, getS σ4 s = if s = sl then v0 else if s = sa then v1 else if s = se then .junk else if s = ss then .junk else getS σ s) (hh4 : h.length ≤ h4.length) (hg4 : ∀ c, hget h4 c = if c = b then .map (pre ++ (key, v1) :: post) else hget h c)
  {ro : Option Nat} {Q : Exit → Act → World → Prop} {K : Act → World → Prop} (hK : ∀ g' a' w', Sim P g' ⟨σ4, h4, mks⟩ a' w' → Ext g0 w0 g' w' All → K a' w') : o.uponIn (Fn ro) 0 P a K Q ((o.semAt ro a.eval).run P w) := by
 obtain ⟨l, ents, idx, hi, hh, hp, hbo, _, hd1⟩ := hI.mp
 obtain ⟨ipre, ipost, en, rfl, n2, n3, n4, n5, n6⟩ := hd1 rfl
 have hcm := hI.tm m hml
 have hcs := hI.tm ss hssl
 have hca := hI.tm sa hsl
 simp only [tslot, if_neg hmn.1, if_neg hmn.2.1, if_neg hmn.2.2.1, if_neg hmn.2.2.2, hm] at hcm
 simp only [tslot, if_neg hss.1, if_neg hss.2.1, if_neg hss.2.2, if_true, Gh.den, den] at hcs
 simp only [tslot, if_neg hsa, if_true] at hca
 have em : a.eval (.tmp m) = .map (some l.blk) := by
  simp only [Gh.den, den] at hcm
  have := hcm.2.2 l hi
  simpa [Act.eval] using this
 have es' : a.eval (.tmp ss) = goInt (j : Int) := by
  have : a.tmps.toList.getD ss undef = goInt (j : Int) := hcs
  simpa [Act.eval] using this
 have ea : a.tmps.toList.getD sa undef = a.eval (.tmp sa) := by simp [Act.eval]
 rw [ea] at hca
 let ents' := ents.modify j fun e => { e with val := a.eval (.tmp sa) }
 have hsz : ents'.size = ents.size := by simp [ents']
 have r1 := entSt_run (P := P) (t := t) hh hbo n2 (a.eval (.tmp sa))
 rw [← hsz] at r1
 change (Instr.entryStore t (.map (some l.blk)) (goInt (j : Int)) (a.eval (.tmp sa))).run P w = .ok () (w.putObj l.blk (.map ents' ents'.size)) at r1
 obtain ⟨q1, q2, q3, q4, q5, q6⟩ := put_world (ents' := ents') (.inl rfl : w = w ∨ w = w.drew) hh
 obtain ⟨g1, g2⟩ := ext_set (U := fun c => c = b) hI.ok hi rfl q1 q2 q3 q4 q5
 have hx : (execOp a.eval o).run P w = .ok .skip (w.putObj l.blk (.map ents' ents'.size)) := by
  simp only [execOp, hop, Sem.run_bind, em, es', r1, Result.andThen, Sem.run_pure]
 have hnd : (ipre ++ j :: ipost).Nodup := hp.nodup_iff.2 List.nodup_range
 have hne : ∀ i ∈ ipre ++ ipost, i ≠ j := by
  intro i hi' e
  subst e
  rw [List.nodup_append] at hnd
  rcases List.mem_append.1 hi' with hi' | hi'
  ·exact hnd.2.2 i hi' i (by simp) rfl
  ·exact (List.nodup_cons.1 hnd.2.1).1 hi'
 have keep : ∀ i ∈ ipre ++ ipost, ∀ e, ents[i]? = some e → ∃ e', ents'[i]? = some e' ∧ e'.key = e.key ∧ e'.val = e.val := by
  intro i hi' e hie
  exact ⟨e, by simp only [ents', Array.getElem?_modify]; rw [if_neg (fun e => hne i hi' e.symm)]; exact hie, rfl, rfl⟩
 rw [Oper.semAt_eq ro a.eval o (by rw [hop]; intro c hc; cases hc), hx, Oper.uponIn_skip, hd]
 refine hK g _ _ ⟨g1, fun c hc => Nat.lt_of_lt_of_le (hI.dom c hc) hh4, ?_, fun c => ?_, g2.df hI.df⟩ (hI.ext.trans (g2.more fun _ _ => trivial))
 ·refine denL_points (by rw [hσ, Array.length_toList, put_sz]; exact hI.sz) fun s hs' => ?_
  rw [hσ] at hs'
  have := g2.den hI.ok (hI.tm s hs')
  simp only [tslot, if_true] at this
  simp only [hσ4]
  by_cases e1 : s = sl
  ·simp only [if_pos e1] at this ⊢; exact this
  ·by_cases e2 : s = sa
   ·simp only [if_neg e1, if_pos e2] at this ⊢; exact this
   ·by_cases e3 : s = se
    ·simp only [if_neg e1, if_neg e2, if_pos e3, Gh.den, den]
    ·by_cases e4 : s = ss
     ·simp only [if_neg e1, if_neg e2, if_neg e3, if_pos e4, Gh.den, den]
     ·simp only [if_neg e1, if_neg e2, if_neg e3, if_neg e4] at this ⊢; exact this
 ·simp only [hg4]
  by_cases e : c = b
  ·subst e
   simp only [if_true]
   refine ⟨l, ents', ipre ++ j :: ipost, hi, q6, by rw [hsz]; exact hp, ?_, ?_⟩
   ·intro i e hie
    simp only [ents', Array.getElem?_modify] at hie
    split at hie
    ·simp only [Option.map_eq_some_iff] at hie
     obtain ⟨e', h8, rfl⟩ := hie
     exact hbo i e' h8
    ·exact hbo i e hie
   ·refine g2.denM hI.ok (denM_append (denM_ents n5 fun i hi' => keep i (by simp [hi'])) ?_)
    simp only [denM]
    exact ⟨j, ipost, { en with val := a.eval (.tmp sa) }, rfl, by simp [ents', Array.getElem?_modify, n2], n3, hca, denM_ents n6 fun i hi' => keep i (by simp [hi'])⟩
  ·simp only [if_neg e]
   exact g2.lb hI.ok e (fun c' hc' e' => hni c (e' ▸ hc')) (hI.hp c e)
def flg (n : Nat) (eL eA eM eX : Bool) (q : Nat) : Bool := if q < n then true else if q = n then eL else if q = n + 1 then eA else if q = n + 2 then eM else if q = n + 3 then eX else false
theorem flg_lt {n : Nat} {eL eA eM eX : Bool} {q : Nat} (h : q < n) : flg n eL eA eM eX q = true := if_pos h
theorem flg_0 {n : Nat} {eL eA eM eX : Bool} : flg n eL eA eM eX n = eL := by
 unfold flg; rw [if_neg (by omega), if_pos rfl]
theorem flg_1 {n : Nat} {eL eA eM eX : Bool} : flg n eL eA eM eX (n + 1) = eA := by
 unfold flg; rw [if_neg (by omega), if_neg (by omega), if_pos rfl]
theorem flg_2 {n : Nat} {eL eA eM eX : Bool} : flg n eL eA eM eX (n + 2) = eM := by
 unfold flg; rw [if_neg (by omega), if_neg (by omega), if_neg (by omega), if_pos rfl]
theorem flg_3 {n : Nat} {eL eA eM eX : Bool} : flg n eL eA eM eX (n + 3) = eX := by
 unfold flg; rw [if_neg (by omega), if_neg (by omega), if_neg (by omega), if_neg (by omega), if_pos rfl]
theorem flg_4 {n : Nat} {eL eA eM eX : Bool} : flg n eL eA eM eX (n + 4) = false := by
 unfold flg; rw [if_neg (by omega), if_neg (by omega), if_neg (by omega), if_neg (by omega), if_neg (by omega)]
theorem flg_set {n : Nat} {eL eA eM eX eL' eA' eM' eX' : Bool} {i : Nat} (h0 : eL' = (eL || (n == i))) (h1 : eA' = (eA || (n + 1 == i))) (h2 : eM' = (eM || (n + 2 == i))) (h3 : eX' = (eX || (n + 3 == i))) (hi : n ≤ i ∧ i < n + 4) (q : Nat) :
  (flg n eL eA eM eX q || q == i) = flg n eL' eA' eM' eX' q := by
 by_cases q0 : q = n
 ·subst q0; rw [flg_0, flg_0, h0]
 by_cases q1 : q = n + 1
 ·subst q1; rw [flg_1, flg_1, h1]
 by_cases q2 : q = n + 2
 ·subst q2; rw [flg_2, flg_2, h2]
 by_cases q3 : q = n + 3
 ·subst q3; rw [flg_3, flg_3, h3]
 rcases Nat.lt_or_ge q n with h | h
 ·rw [flg_lt h, flg_lt h]; rfl
 ·have e : (q == i) = false := by simpa using (show ¬ q = i by omega)
  unfold flg
  rw [if_neg (by omega), if_neg q0, if_neg q1, if_neg q2, if_neg q3, if_neg (by omega), if_neg q0, if_neg q1, if_neg q2, if_neg q3, e]; rfl
theorem tslot_L {v1 : SV} {j : Nat} {eA eM eX : Bool} (s : Nat) : tslot σ v0 v1 j sl sa se ss true eA eM eX s = if s = sl then v0 else tslot σ v0 v1 j sl sa se ss false eA eM eX s := by
 unfold tslot; split <;> rfl
theorem tslot_A {j : Nat} {eL eM eX : Bool} (h : sa ≠ sl) (s : Nat) : tslot σ v0 v1 j sl sa se ss eL true eM eX s = if s = sa then v1 else tslot σ v0 v1 j sl sa se ss eL false eM eX s := by
 unfold tslot
 by_cases e : s = sa
 ·subst e; simp [h]
 ·simp [e]
theorem tslot_X {j : Nat} {eL eA eM : Bool} (h : ss ≠ sl ∧ ss ≠ sa ∧ ss ≠ se) (s : Nat) : tslot σ v0 v1 j sl sa se ss eL eA eM true s = if s = ss then .int .i64 j else tslot σ v0 v1 j sl sa se ss eL eA eM false s := by
 unfold tslot
 by_cases e : s = ss
 ·subst e; simp [h.1, h.2.1, h.2.2]
 ·simp [e]
theorem incr_any {A : Array Oper} {n : Nat} {oL oA oM oX oE : Oper} (hsz : A.size = n + 5) (a0 : A[n]? = some oL) (a1 : A[n + 1]? = some oA) (a2 : A[n + 2]? = some oM) (a3 : A[n + 3]? = some oX) (a4 : A[n + 4]? = some oE)
  (gL : oL.guard = none) (gA : oA.guard = none) (gM : oM.guard = none) (gX : oX.guard = none) (gE : oE.guard = none) (dL : oL.dst = some sl) (dA : oA.dst = some sa) (dM : oM.dst = some se) (dX : oX.dst = some ss) (dE : oE.dst = none)
  (pL : ∀ e ∈ cDeps oL, e < n) (pA : ∀ e ∈ cDeps oA, e < n + 1) (pA' : n ∈ cDeps oA) (pM : ∀ e ∈ cDeps oM, e < n) (pX : ∀ e ∈ cDeps oX, e < n + 3) (pX' : n + 2 ∈ cDeps oX) (pE : ∀ e ∈ cDeps oE, e < n + 4) (pE1 : n + 1 ∈ cDeps oE) (pE3 : n + 3 ∈ cDeps oE)
  (lsl : sl < σ.length) (lsa : sa < σ.length) (lse : se < σ.length) (lss : ss < σ.length) (hsa : sa ≠ sl) (hse : se ≠ sl ∧ se ≠ sa) (hss : ss ≠ sl ∧ ss ≠ sa ∧ ss ≠ se)
  (hL : ∀ es', es' = es ∨ es' = pre ++ (key, v0) :: post → ∃ h' nid, ORun P oL σ h' nid v0 [] [b] ∧ hget h' b = .map es') (rL : ∀ t ∈ rds oL.op.operands.toList, t < σ.length ∧ t ≠ sl ∧ t ≠ sa ∧ t ≠ se ∧ t ≠ ss)
  {nA nX : Nat} (hA : ORun P oA (σ.set sl v0) h nA v1 [] []) (rA : ∀ t ∈ rds oA.op.operands.toList, t < σ.length ∧ t ≠ sa ∧ t ≠ se ∧ t ≠ ss)
  (hX : ∀ j : Nat, ORun P oX (σ.set se (.tup [.junk, .int .i64 j])) h nX (.int .i64 j) [] []) (rX : ∀ t ∈ rds oX.op.operands.toList, t < σ.length ∧ t ≠ sl ∧ t ≠ sa ∧ t ≠ ss)
  {t t' kt et : TypeId} {sh : TShape} {z : SV} {m k : Nat} (hop : oM.op = .mapEntry t (.tmp m) (.tmp k)) (hu : P.underlying t = some (.map kt et)) (hs : shapeT P 8 kt = some sh) (hz : zeroT P et = some z) (hml : m < σ.length) (hkl : k < σ.length)
  (hm : getS σ m = .mp b) (hk : getS σ k = key) (hmn : m ≠ sl ∧ m ≠ sa ∧ m ≠ se ∧ m ≠ ss) (hkn : k ≠ sl ∧ k ≠ sa ∧ k ≠ se ∧ k ≠ ss) (ho : shOK sh key) (hes : ∀ e ∈ es, shOK sh e.1)
  (hcase : es = pre ++ (key, v0) :: post ∨ (post = [] ∧ v0 = z ∧ es = pre)) (hpre : ∀ e ∈ pre, key ≠ e.1) (hpost : ∀ e ∈ post, key ≠ e.1) (hni : ∀ i, b ∉ (hget h i).deps)
  (hopE : oE.op = .entryStore t' (.tmp m) (.tmp ss) (.tmp sa)) {σ4 : List SV} {h4 : List LB} {mks : List Nat} (hσ : σ4.length = σ.length)
  (hσ4 : ∀ s, getS σ4 s = if s = sl then v0 else if s = sa then v1 else if s = se then .junk else if s = ss then .junk else getS σ s) (hh4 : h.length ≤ h4.length) (hg4 : ∀ c, hget h4 c = if c = b then .map (pre ++ (key, v1) :: post) else hget h c)
  {ro : Option Nat} {Q : Exit → Act → World → Prop} (hQ : ∀ g' a' w', Sim P g' ⟨σ4, h4, mks⟩ a' w' → Ext g0 w0 g' w' All → Q .normal a' w') :
  ∀ (fuel : Nat) (listed : Array Bool) (eL eA eM eX : Bool) (j : Nat) (g : Gh) (a : Act) (w : World), TI P σ h b key v0 v1 sl sa se ss es pre post g0 w0 j eL eA eM eX g a w → g.dom b → listed.size = A.size →
   (∀ q, listed.getD q false = flg n eL eA eM eX q) → (eA = true → eL = true) → (eX = true → eM = true) → fuel = 1 + (!eL).toNat + (!eA).toNat + (!eM).toNat + (!eX).toNat → wpAnyIn (Fn ro) 0 P .any A Q fuel listed a w := by
 intro fuel
 induction fuel with
 | zero => intro listed eL eA eM eX j g a w _ _ _ _ _ _ hf; omega
 | succ f ih =>
  intro listed eL eA eM eX j g a w hI hb hls hl hAL hXM hf
  refine ⟨fun hnil => ?_, fun i hi => ?_⟩
  ·exfalso
   have rdy : ∀ q x, A[q]? = some x → listed.getD q false = false → (∀ e ∈ cDeps x, listed.getD e false = true) → False := fun q x hx hE hd => by
    have hq : q < A.size := (Array.getElem?_eq_some_iff.1 hx).1
    have : q ∈ Region.ready .any A listed := by
     refine mem_ready.2 ⟨?_, x, hx, fun e he hb => ?_⟩
     ·simp [hls, hq] at hE ⊢; exact hE
     ·refine hd e.on ?_
      simp only [cDeps, List.mem_map, List.mem_filter]
      exact ⟨e, ⟨by simpa using he, hb⟩, rfl⟩
    rw [hnil] at this; cases this
   cases eL with
   | false => exact rdy n oL a0 (by rw [hl, flg_0]) fun e he => by rw [hl, flg_lt (pL e he)]
   | true =>
   cases eA with
   | false =>
    exact rdy (n + 1) oA a1 (by rw [hl, flg_1]) fun e he => by
     rw [hl]
     rcases Nat.lt_or_eq_of_le (Nat.lt_succ_iff.1 (pA e he)) with h | rfl
     ·exact flg_lt h
     ·exact flg_0
   | true =>
   cases eM with
   | false => exact rdy (n + 2) oM a2 (by rw [hl, flg_2]) fun e he => by rw [hl, flg_lt (pM e he)]
   | true =>
   cases eX with
   | false =>
    exact rdy (n + 3) oX a3 (by rw [hl, flg_3]) fun e he => by
     rw [hl]
     have := pX e he
     have : e < n ∨ e = n ∨ e = n + 1 ∨ e = n + 2 := by omega
     rcases this with h | rfl | rfl | rfl
     ·exact flg_lt h
     ·exact flg_0
     ·exact flg_1
     ·exact flg_2
   | true =>
    exact rdy (n + 4) oE a4 (by rw [hl, flg_4]) fun e he => by
     rw [hl]
     have := pE e he
     have : e < n ∨ e = n ∨ e = n + 1 ∨ e = n + 2 ∨ e = n + 3 := by omega
     rcases this with h | rfl | rfl | rfl | rfl
     ·exact flg_lt h
     ·exact flg_0
     ·exact flg_1
     ·exact flg_2
     ·exact flg_3
  ·obtain ⟨hi0, x, hx, hdp⟩ := mem_ready.1 hi
   have hlt : i < A.size := (Array.getElem?_eq_some_iff.1 hx).1
   have hE : listed.getD i false = false := by simp [hls, hlt] at hi0 ⊢; exact hi0
   have hE' : ∀ q, (listed.setIfInBounds i true).getD q false = (listed.getD q false || q == i) := by
    intro q
    by_cases e : i = q
    ·subst e; simp [hls, hlt]
    ·rw [getD_set_ne false e]
     have : (q == i) = false := by simpa using fun h => e h.symm
     rw [this, Bool.or_false]
   have hdeps : ∀ e ∈ cDeps x, listed.getD e false = true := fun e he => by
    simp only [cDeps, List.mem_map, List.mem_filter] at he
    obtain ⟨e, ⟨he, hb⟩, rfl⟩ := he
    exact hdp e (by simpa using he) hb
   have hin : ¬ i < n := fun h => by rw [hl, flg_lt h] at hE; cases hE
   have hcs : i = n ∨ i = n + 1 ∨ i = n + 2 ∨ i = n + 3 ∨ i = n + 4 := by omega
   rcases hcs with rfl | rfl | rfl | rfl | rfl
   ·rw [a0] at hx; cases hx
    rw [hl, flg_0] at hE
    subst hE
    have hA0 : eA = false := by cases eA with | false => rfl | true => exact absurd (hAL rfl) (by simp)
    subst hA0
    unfold wpOpIn
    simp only [a0]
    rw [if_pos (by simp [Region.wanted, gL])]
    refine ⟨Fn_about P w ro a.eval oL, ?_⟩
    obtain ⟨h', nid, r1, r2⟩ := hL (if eM = true then pre ++ (key, v0) :: post else es) (by split; exact .inr rfl; exact .inl rfl)
    refine TI.pure (eL' := true) (eA' := false) (eX' := eX) hI hb r1 (fun t ht => ?_) (fun c hc => ?_) dL lsl tslot_L fun g' a' w' hI' hb' => ?_
    ·obtain ⟨q0, q1, q2, q3, q4⟩ := rL t ht
     have := hI.tm t q0
     simpa only [tslot, if_neg q1, if_neg q2, if_neg q3, if_neg q4] using this
    ·simp only [List.mem_singleton] at hc
     subst hc
     rw [r2]
     obtain ⟨l, ents, idx, m1, m2, m3, m4, m5, m6⟩ := hI.mp
     cases eM with
     | false => exact ⟨l, ents, idx, m1, m2, m3, m4, m5 rfl⟩
     | true =>
      obtain ⟨ipre, ipost, en, rfl, n2, n3, n4, n5, n6⟩ := m6 rfl
      refine ⟨l, ents, _, m1, m2, m3, m4, ?_⟩
      simp only [if_true]
      refine denM_append n5 ?_
      simp only [denM]
      exact ⟨j, ipost, en, rfl, n2, n3, n4, n6⟩
    ·exact ih _ true false eM eX j g' a' w' hI' hb' (by simpa using hls) (fun q => by rw [hE', hl]; exact flg_set (by simp) (by simp) (by simp) (by simp) (by omega) q) (by simp) hXM (by simp at hf ⊢; omega)
   ·rw [a1] at hx; cases hx
    rw [hl, flg_1] at hE
    subst hE
    have hL0 : eL = true := by have := hdeps n pA'; rwa [hl, flg_0] at this
    subst hL0
    unfold wpOpIn
    simp only [a1]
    rw [if_pos (by simp [Region.wanted, gA])]
    refine ⟨Fn_about P w ro a.eval oA, ?_⟩
    refine TI.pure (eL' := true) (eA' := true) (eX' := eX) hI hb hA (fun t ht => ?_) (by simp) dA lsa (tslot_A hsa) fun g' a' w' hI' hb' => ?_
    ·obtain ⟨q0, q2, q3, q4⟩ := rA t ht
     have := hI.tm t q0
     rw [getS_set lsl]
     simpa only [tslot, if_neg q2, if_neg q3, if_neg q4, if_true] using this
    ·exact ih _ true true eM eX j g' a' w' hI' hb' (by simpa using hls) (fun q => by rw [hE', hl]; exact flg_set (by simp) (by simp) (by simp) (by simp) (by omega) q) (by simp) hXM (by simp at hf ⊢; omega)
   ·rw [a2] at hx; cases hx
    rw [hl, flg_2] at hE
    subst hE
    have hX0 : eX = false := by cases eX with | false => rfl | true => exact absurd (hXM rfl) (by simp)
    subst hX0
    unfold wpOpIn
    simp only [a2]
    rw [if_pos (by simp [Region.wanted, gM])]
    refine ⟨Fn_about P w ro a.eval oM, ?_⟩
    refine TI.make hI hb hop hu hs hz dM lse hml hkl hm hk hmn hkn hse ho hes hcase hpre hpost hni fun j' g' a' w' hI' hb' => ?_
    exact ih _ eL eA true false j' g' a' w' hI' hb' (by simpa using hls) (fun q => by rw [hE', hl]; exact flg_set (by simp) (by simp) (by simp) (by simp) (by omega) q) hAL (by simp) (by simp at hf ⊢; omega)
   ·rw [a3] at hx; cases hx
    rw [hl, flg_3] at hE
    subst hE
    have hM0 : eM = true := by have := hdeps (n + 2) pX'; rwa [hl, flg_2] at this
    subst hM0
    unfold wpOpIn
    simp only [a3]
    rw [if_pos (by simp [Region.wanted, gX])]
    refine ⟨Fn_about P w ro a.eval oX, ?_⟩
    refine TI.pure (eL' := eL) (eA' := eA) (eX' := true) hI hb (hX j) (fun t ht => ?_) (by simp) dX lss (tslot_X hss) fun g' a' w' hI' hb' => ?_
    ·obtain ⟨q0, q1, q2, q4⟩ := rX t ht
     have := hI.tm t q0
     rw [getS_set lse]
     simpa only [tslot, if_neg q1, if_neg q2, if_neg q4, if_true] using this
    ·exact ih _ eL eA true true j g' a' w' hI' hb' (by simpa using hls) (fun q => by rw [hE', hl]; exact flg_set (by simp) (by simp) (by simp) (by simp) (by omega) q) hAL (by simp) (by simp at hf ⊢; omega)
   ·rw [a4] at hx; cases hx
    have hA0 : eA = true := by have := hdeps (n + 1) pE1; rwa [hl, flg_1] at this
    have hX0 : eX = true := by have := hdeps (n + 3) pE3; rwa [hl, flg_3] at this
    have hL0 := hAL hA0
    have hM0 := hXM hX0
    subst hA0 hX0 hL0 hM0
    have hf0 : f = 0 := by simp at hf; omega
    subst hf0
    unfold wpOpIn
    simp only [a4]
    rw [if_pos (by simp [Region.wanted, gE])]
    refine ⟨Fn_about P w ro a.eval oE, ?_⟩
    refine TI.keep hI hopE dE hml lsa lss hm hmn hsa hss hni hσ hσ4 hh4 hg4 fun g' a' w' q1 q2 => ⟨?_, hQ g' a' w' q1 q2⟩
    rw [List.eq_nil_iff_forall_not_mem]
    intro q hq
    obtain ⟨q0, y, hy, _⟩ := mem_ready.1 hq
    have hql : q < A.size := (Array.getElem?_eq_some_iff.1 hy).1
    have : (listed.setIfInBounds (n + 4) true).getD q false = true := by
     rw [hE', hl]
     have : q < n ∨ q = n ∨ q = n + 1 ∨ q = n + 2 ∨ q = n + 3 ∨ q = n + 4 := by omega
     rcases this with h | rfl | rfl | rfl | rfl | rfl
     ·rw [flg_lt h]; rfl
     ·rw [flg_0]; rfl
     ·rw [flg_1]; rfl
     ·rw [flg_2]; rfl
     ·rw [flg_3]; rfl
     ·simp
    simp [hls, hql] at this q0
    rw [this] at q0; cases q0
end tail
def ltB : List SV → Nat → Bool
 | [], _ => false
 | _ :: _, 0 => true
 | _ :: l, n + 1 => ltB l n
theorem ltB_iff : ∀ {l : List SV} {n : Nat}, ltB l n = true → n < l.length
 | [], _, h => by cases h
 | _ :: _, 0, _ => by simp
 | _ :: l, n + 1, h => by have := ltB_iff (l := l) (n := n) h; simp; omega
def rdB (σ : List SV) (out : List Nat) : List Nat → Bool
 | [] => true
 | t :: ts => ltB σ t && !memB out t && rdB σ out ts
theorem rdB_iff {σ : List SV} {out : List Nat} : ∀ {ts : List Nat}, rdB σ out ts = true → ∀ t ∈ ts, t < σ.length ∧ t ∉ out
 | t :: ts, h, s, hs => by
  simp only [rdB, Bool.and_eq_true, Bool.not_eq_true'] at h
  rcases List.mem_cons.1 hs with rfl | hs
  ·exact ⟨ltB_iff h.1.1, fun hm => by rw [memB_iff.2 hm] at h; exact absurd h.1.2 (by simp)⟩
  ·exact rdB_iff h.2 s hs
def incrB (front : List TOper) (σ : List SV) (sl sa se ss m k : Nat) (dL dA dM dX dE rA : List Nat) : Bool :=
 noStop front && (covers (front.map fun t => lgOf t [] []).reverse dL && (covers (front.map fun t => lgOf t [] []).reverse dM && (allLt dA (front.length + 1) && (memB dA front.length && (allLt dX (front.length + 3) && (memB dX (front.length + 2) &&
  (allLt dE (front.length + 4) && (memB dE (front.length + 1) && (memB dE (front.length + 3) && (rdB σ [sl, sa, se, ss] [m, k] && (rdB σ [sa, se, ss] rA && (rdB σ [sa, se, ss] [sl] && (rdB σ [se, ss] [sa] && (rdB σ [ss] [se] && ltB σ ss))))))))))))))
def incrF (P : Program) (σ : List SV) (h : List LB) (mks : List Nat) (b : Nat) (opA : TOp) (sl sa se ss : Nat) (v0 : SV) (mk : SV → List (SV × SV)) (K : St → Prop) : Prop :=
 setD σ (some sl) v0 fun σ1 => lenK h fun nid => ev σ1 h nid opA fun v1 upd nb => match upd with
  | [] => match nb with
   | [] => setD σ1 (some sa) v1 fun σ2 => setD σ2 (some se) .junk fun σ3 => setD σ3 (some ss) .junk fun σ4 => updK h [(b, .map (mk v1))] fun h' => K ⟨σ4, h', mks⟩
   | _ :: _ => False
  | _ :: _ => False
def incrK (P : Program) (sh : TShape) (z : SV) (m k : Nat) (opA : TOp) (sl sa se ss : Nat) (K : St → Prop) : St → Prop
  | ⟨σ, h, mks⟩ => match getS σ m with
    | .mp b => match hget h b with
      | .map es => noIter h b (forceK (getS σ k) fun key => Vc (shOK sh key) ∧ Vc (∀ e ∈ es, shOK sh e.1) ∧
          ((∃ pre v0 post, es = pre ++ (key, v0) :: post ∧ (∀ e ∈ pre, key ≠ e.1) ∧ (∀ e ∈ post, key ≠ e.1) ∧ Ev (incrF P σ h mks b opA sl sa se ss v0 (fun v1 => pre ++ (key, v1) :: post) K)) ∨
           ((∀ e ∈ es, key ≠ e.1) ∧ Ev (incrF P σ h mks b opA sl sa se ss z (fun v1 => es ++ [(key, v1)]) K))))
      | _ => False
    | _ => False
def incrR (P : Program) (r : Fr) (ts : List TOper) (S : St) (Q : St → Prop) : Prop :=
 match ts.reverse with
 | ⟨none, .entSt (.t m2) (.t ss2) (.t sa2), none, dE, _⟩ :: ⟨some ss, .extract (.t se2) 1, none, dX, rX⟩ :: ⟨some se, .mapEnt sh z (.t m) (.t k), none, dM, _⟩ :: ⟨some sa, opA, none, dA, rA⟩ :: ⟨some sl, .lookup sh0 z0 false (.t m0) (.t k0), none, dL, rL⟩ :: rf =>
  Vc (sh0 = sh ∧ z0 = z ∧ m0 = m ∧ k0 = k ∧ m2 = m ∧ ss2 = ss ∧ sa2 = sa ∧ se2 = se ∧ rL = [m, k] ∧ rX = [se]) ∧ Vc (incrB rf.reverse S.σ sl sa se ss m k dL dA dM dX dE rA = true) ∧
   Ev (evD P r rf.reverse S [] (itersOf S.h) (incrK P sh z m k opA sl sa se ss Q))
 | _ => False
theorem covGo_congr : ∀ {l l' : List Lg} {m : List Nat}, l.map (·.deps) = l'.map (·.deps) → covGo l m = covGo l' m
 | [], [], _, _ => rfl
 | [], _ :: _, _, h => by simp at h
 | _ :: _, [], _, h => by simp at h
 | x :: l, y :: l', m, h => by
  simp only [List.map_cons, List.cons.injEq] at h
  have hl : l.length = l'.length := by have := congrArg List.length h.2; simpa using this
  simp only [covGo, h.1, hl]
  congr 1
  exact covGo_congr h.2
theorem covers_congr {l l' : List Lg} {m : List Nat} (h : l.map (·.deps) = l'.map (·.deps)) : covers l m = covers l' m := by
 have hl : l.length = l'.length := by have := congrArg List.length h; simpa using this
 unfold covers
 rw [covGo_congr h, hl]
theorem cOper_deps (P : Program) (A : Array Oper) (o : Oper) : (cOper P A true o).deps = cDeps o ∧ (cOper P A true o).reads = rds o.op.operands.toList := by
 unfold cOper
 cases hg : o.guard with
 | none => exact ⟨rfl, rfl⟩
 | some jw =>
  obtain ⟨j, want⟩ := jw
  simp only
  cases hs : (A[j]?).bind (·.dst) <;> exact ⟨rfl, rfl⟩
theorem cOper_inv {A : Array Oper} {o : Oper} {d : Option Nat} {op : TOp} {dp rd : List Nat} (h : cOper P A true o = ⟨d, op, none, dp, rd⟩) (hb : op ≠ .bad) : o.dst = d ∧ cOp P o.op = op ∧ o.guard = none ∧ cDeps o = dp ∧ rds o.op.operands.toList = rd := by
 obtain ⟨c1, c2⟩ := cOper_cases P A true o
 obtain ⟨c3, c4⟩ := cOper_deps P A o
 rw [h] at c1 c2 c3 c4
 simp only at c1 c2 c3 c4
 rcases c2 with ⟨c5, c6 | ⟨j, want, s, _, _, c6⟩⟩ | ⟨c5, _⟩
 ·exact ⟨c1.symm, c5.symm, c6.1, c3.symm, c4.symm⟩
 ·cases c6
 ·exact absurd c5 hb
theorem incr_spec {σ : List SV} {h : List LB} {mks : List Nat} {b : Nat} {opA : TOp} {sl sa se ss : Nat} {v0 : SV} {mk : SV → List (SV × SV)} {K : St → Prop} (hF : incrF P σ h mks b opA sl sa se ss v0 mk K) {oA : Oper} (hop : cOp P oA.op = opA) :
  ∃ v1 h4 nid, ORun P oA (σ.set sl v0) h nid v1 [] [] ∧ K ⟨(((σ.set sl v0).set sa v1).set se .junk).set ss .junk, h4, mks⟩ ∧ h.length ≤ h4.length ∧ ∀ c, hget h4 c = if c = b then .map (mk v1) else hget h c := by
 unfold incrF at hF
 rw [setD_iff] at hF
 have hF := lenK_iff _ _ hF
 rw [← hop] at hF
 obtain ⟨v1, upd, nb, h1, h2, _⟩ := ev_sound oA hF
 cases upd with
 | cons p ps => exact h1.elim
 | nil =>
  cases nb with
  | cons p ps => exact h1.elim
  | nil =>
   simp only [setD_iff] at h1
   obtain ⟨h4, k1, k2, k3, k4⟩ := updK_wr h1
   refine ⟨v1, h4, _, h2.orun (ev_nodefer hF), k1, k2, fun c => ?_⟩
   rw [k4 c]
   simp only [wr]
theorem TWq.incr {r : Fr} {ts : List TOper} {S : St} {Q : Option Jump → St → Prop} (hI : Ev (incrR P r ts S (Q none))) : TWq P r (.region true ts) S Q := by
 rw [TWq_iff]
 intro hm kc g a w ro Q' hk hs hr hh _
 cases kc <;> first | (cases hk; done) | skip
 rename_i id A d
 simp only [comp, TCode.region.injEq] at hk
 obtain ⟨rfl, hts⟩ := hk
 have hI := hI.at
 unfold incrR at hI
 split at hI
 case h_2 => exact hI.elim
 rename_i m2 ss2 sa2 dE rE ss se2 dX rX se sh z m k dM rM sa opA dA rA sl sh0 z0 m0 k0 dL rL rf hrev
 obtain ⟨⟨rfl, rfl, rfl, rfl, rfl, rfl, rfl, rfl, rfl, rfl⟩, ⟨hB⟩, hE⟩ := hI
 have hE := hE.at
 simp only [incrB, Bool.and_eq_true] at hB
 obtain ⟨b1, b2, b3, b4, b5, b6, b7, b8, b9, b10, b11, b12, b13, b14, b15, b16⟩ := hB
 rw [← hts, ← List.map_reverse] at hrev
 obtain ⟨oE, l1, e1, hoE, hrev1⟩ := List.map_eq_cons_iff.1 hrev
 obtain ⟨oX, l2, e2, hoX, hrev2⟩ := List.map_eq_cons_iff.1 hrev1
 obtain ⟨oM, l3, e3, hoM, hrev3⟩ := List.map_eq_cons_iff.1 hrev2
 obtain ⟨oA, l4, e4, hoA, hrev4⟩ := List.map_eq_cons_iff.1 hrev3
 obtain ⟨oL, l5, e5, hoL, hrev5⟩ := List.map_eq_cons_iff.1 hrev4
 have hA : A.toList = l5.reverse ++ [oL, oA, oM, oX, oE] := by
  rw [e2, e3, e4, e5] at e1
  have := congrArg List.reverse e1
  simpa using this
 clear hrev hrev1 hrev2 hrev3 hrev4 e1 e2 e3 e4 e5
 have hos : l5.reverse.map (cOper P A true) = rf.reverse := by rw [List.map_reverse, hrev5]
 obtain ⟨ds, Sf, h1, h2, h3⟩ := evD_chain hm b1 hE A l5.reverse hos
 have hck := chk_spec (by simpa using h2)
 have hlen : l5.reverse.length = rf.reverse.length := by rw [← hos, List.length_map]
 obtain ⟨c1, c2, c3, c4, c5, c6, c7⟩ := h1.end
 -- the operations
 obtain ⟨dl, opl, gl, depl, rdl⟩ := cOper_inv hoL (by simp)
 have hopA : opA ≠ .bad := fun e => by
  obtain ⟨σ, h, mks⟩ := Sf
  simp only [incrK] at h3
  split at h3
  ·split at h3
   ·obtain ⟨h3, _⟩ := noIter_spec h3
    rw [forceK_iff] at h3
    obtain ⟨_, _, ⟨_, _, _, _, _, _, h3⟩ | ⟨_, h3⟩⟩ := h3
    all_goals
     have h3 := h3.at
     unfold incrF at h3
     rw [setD_iff] at h3
     have h3 := lenK_iff _ _ h3
     rw [e] at h3
     exact h3
   ·exact h3
  ·exact h3
 obtain ⟨da, opa, ga, depa, rda⟩ := cOper_inv hoA hopA
 obtain ⟨dm, opm, gm, depm, rdm⟩ := cOper_inv hoM (by simp)
 obtain ⟨dx, opx, gx, depx, rdx⟩ := cOper_inv hoX (by simp)
 obtain ⟨de, ope, ge, depe, rde⟩ := cOper_inv hoE (by simp)
 obtain ⟨t, kt, et, X, K, hopm, hu, hz, hshp, hX, hK⟩ := inv_mapEnt opm
 obtain ⟨t', X', S', V', hope, hX', hS', hV'⟩ := inv_entSt ope
 obtain rfl := cOpd_t hX; obtain rfl := cOpd_t hK; obtain rfl := cOpd_t hX'; obtain rfl := cOpd_t hS'; obtain rfl := cOpd_t hV'
 -- the deps
 have hdeps : (ds.map (·.lg)).reverse.map (·.deps) = ((rf.reverse.map fun t => lgOf t [] []).reverse).map (·.deps) := by
  rw [List.map_reverse, List.map_reverse]
  congr 1
  rw [List.map_map, List.map_map]
  have : ∀ (os : List Oper) (S : St) (ds : List DS) (Sf : St), Chain P A os S ds Sf → ds.map ((fun x => x.deps) ∘ fun x => x.lg) = (os.map (cOper P A true)).map ((fun x => x.deps) ∘ fun t => lgOf t [] []) := by
   intro os
   induction os with
   | nil => intro S ds Sf hc; rw [hc.1]; rfl
   | cons o os ih =>
    intro S ds Sf hc
    obtain ⟨d, rest, S', rfl, q1, _, q3⟩ := hc
    simp only [List.map_cons, Function.comp]
    rw [(lg_upd q1).2.2.1]
    exact congrArg _ (ih S' rest Sf q3)
  rw [this _ _ _ _ h1, hos]
 have covL : covers (ds.map (·.lg)).reverse (cDeps oL) = true := by rw [depl, covers_congr hdeps]; exact b2
 have covM : covers (ds.map (·.lg)).reverse (cDeps oM) = true := by rw [depm, covers_congr hdeps]; exact b3
 have covlt : ∀ l, covers (ds.map (·.lg)).reverse l = true → ∀ e ∈ l, e < l5.reverse.length := fun l hl e he => by
  have := allLt_iff (Bool.and_eq_true_iff.1 hl).1 e he
  rw [List.length_reverse, List.length_map, c1] at this
  exact this
 -- slots
 obtain ⟨σ, h, mks⟩ := Sf
 simp only at c2 c3 c4 c5 c6 c7
 have s1 := rdB_iff b11
 have s2 := rdB_iff b12
 have s3 := rdB_iff b13 sl (by simp)
 have s4 := rdB_iff b14 sa2 (by simp)
 have s5 := rdB_iff b15 se2 (by simp)
 have s6 := ltB_iff b16
 have sm := s1 m2 (by simp)
 have sk := s1 k0 (by simp)
 simp only [List.mem_cons, List.not_mem_nil, or_false, not_or] at sm sk s3 s4 s5
 rw [← c2] at sm sk s3 s4 s5 s6
 have hneA : sa2 ≠ sl := fun e => s3.2.1 e.symm
 have hneE : se2 ≠ sl ∧ se2 ≠ sa2 := ⟨fun e => s3.2.2.1 e.symm, fun e => s4.2.1 e.symm⟩
 have hneS : ss2 ≠ sl ∧ ss2 ≠ sa2 ∧ ss2 ≠ se2 := ⟨fun e => s3.2.2.2 e.symm, fun e => s4.2.2 e.symm, fun e => s5.2 e.symm⟩
 -- the map
 simp only [incrK] at h3
 split at h3
 case h_2 => exact h3.elim
 rename_i b hmb
 split at h3
 case h_2 => exact h3.elim
 rename_i es hcs
 obtain ⟨h3, hni⟩ := noIter_spec h3
 rw [forceK_iff] at h3
 obtain ⟨⟨ho⟩, ⟨hes⟩, h3⟩ := h3
 have hbl : b < h.length := by
  rcases Nat.lt_or_ge b h.length with hl | hl
  ·exact hl
  ·rw [hget_out hl] at hcs; cases hcs
 obtain ⟨pre, post, v0, mk, hcase, hpre, hpost, hF, hmk⟩ : ∃ (pre post : List (SV × SV)) (v0 : SV) (mk : SV → List (SV × SV)), (es = pre ++ (getS σ k0, v0) :: post ∨ (post = [] ∧ v0 = z0 ∧ es = pre)) ∧ (∀ e ∈ pre, getS σ k0 ≠ e.1) ∧ (∀ e ∈ post, getS σ k0 ≠ e.1) ∧
   incrF P σ h mks b opA sl sa2 se2 ss2 v0 mk (Q none) ∧ ∀ v1, mk v1 = pre ++ (getS σ k0, v1) :: post := by
  rcases h3 with ⟨pre, v0, post, he, hpre, hpost, hF⟩ | ⟨hno, hF⟩
  ·exact ⟨pre, post, v0, _, .inl he, hpre, hpost, hF.at, fun _ => rfl⟩
  ·exact ⟨es, [], z0, _, .inr ⟨rfl, rfl, rfl⟩, hno, by simp, hF.at, fun _ => rfl⟩
 obtain ⟨v1, h4, nA, rA', kQ, l4, g4⟩ := incr_spec hF opa
 have hoL' : ∀ es', es' = es ∨ es' = pre ++ (getS σ k0, v0) :: post → ∃ h' nid, ORun P oL σ h' nid v0 [] [b] ∧ hget h' b = .map es' := by
  intro es' hes'
  have hg : hget (h.set b (.map es')) b = .map es' := by rw [hget_setD b hbl, if_pos rfl]
  have hsh : ∀ e ∈ es', shOK sh0 e.1 := by
   rcases hes' with rfl | rfl
   ·exact hes
   ·rcases hcase with he | ⟨rfl, rfl, rfl⟩
    ·rw [← he]; exact hes
    ·intro e he
     rcases List.mem_append.1 he with he | he
     ·exact hes e he
     ·simp at he; subst he; exact ho
  have hev : ev σ (h.set b (.map es')) (h.set b (.map es')).length (cOp P oL.op) (fun sv upd nb => sv = v0 ∧ upd = [] ∧ nb = [b]) := by
   rw [opl]
   simp only [ev, gv, hmb, hg, forceK_iff]
   refine ⟨⟨ho⟩, ⟨hsh⟩, ?_⟩
   rcases hes' with e | e
   ·rcases hcase with he | ⟨e1, e2, e3⟩
    ·exact .inl ⟨pre, v0, post, e.trans he, hpre, hpost, Ev.go (by simp)⟩
    ·exact .inr ⟨by rw [e, e3]; exact hpre, Ev.go (by simp [e2])⟩
   ·exact .inl ⟨pre, v0, post, e, hpre, hpost, Ev.go (by simp)⟩
  obtain ⟨sv, upd, nb, ⟨rfl, rfl, rfl⟩, q2, _⟩ := ev_sound oL hev
  exact ⟨_, _, q2.orun (ev_nodefer hev), hg⟩
 have hoX' : ∀ j : Nat, ORun P oX (σ.set se2 (.tup [.junk, .int .i64 j])) h h.length (.int .i64 j) [] [] := by
  intro j
  have hev : ev (σ.set se2 (.tup [.junk, .int .i64 j])) h h.length (cOp P oX.op) (fun sv upd nb => sv = .int .i64 j ∧ upd = [] ∧ nb = []) := by
   rw [opx]
   simp only [ev, gv, getS_set s5.1, if_true]
   refine ⟨?_, ?_⟩ <;> first | rfl | trivial | exact ⟨trivial, trivial⟩
  obtain ⟨sv, upd, nb, ⟨rfl, rfl, rfl⟩, q2, _⟩ := ev_sound oX hev
  exact q2.orun (ev_nodefer hev)
 -- the region
 have hn : l5.reverse.length = rf.reverse.length := hlen
 have hsz : A.size = l5.reverse.length + 5 := by rw [← Array.length_toList, hA]; simp
 have hat : ∀ q, A[l5.reverse.length + q]? = [oL, oA, oM, oX, oE][q]? := fun q => by
  rw [← Array.getElem?_toList, hA, List.getElem?_append_right (by omega)]
  congr 1
  omega
 refine wpIn_region_any hm ?_
 obtain ⟨d1, d2⟩ := ext_drew (U := All) hs.ok
 have hd : w.drew = { w with drawn := w.drawn + 1 } := rfl
 rw [← hd]
 have hf : ∀ j, (Array.replicate A.size false).getD j false = false := by
  intro j
  simp only [Array.getD_eq_getD_getElem?, Array.getElem?_replicate]
  split <;> rfl
 have hdn : Down ds (fun j => (Array.replicate A.size false).getD j false) := by
  intro i d _ hE
  simp only [hf] at hE; cases hE
 have hDI : DInv P S ds (fun j => (Array.replicate A.size false).getD j false) g w g a w.drew := by
  refine ⟨d1, d2, fun b hb => .inl (hs.lt b hb), ?_, fun s hs' => ?_, fun b => ?_, d2.df hs.df⟩
  ·have := denL_len hs.tm; simpa using this
  ·rw [runW_stay fun j W _ _ => hf _]
   exact d2.den hs.ok (getS_den hs.tm s)
  ·rw [runW_stay fun j W _ _ => hf _]
   exact (ext_drew (U := fun _ => False) hs.ok).2.lb hs.ok (fun h => h) (fun _ _ h => h) (hs.hp b)
 have hc : ((List.range A.size).countP fun j => !(Array.replicate A.size false).getD j false) = A.size := by simp [hf]
 refine draw_tail (g0 := g) (w0 := w) h1 hck hA (by simp) (fun i o hio => ?_) (fun listed g' a' w' hsz' hE' hsim hext => ?_) A.size (Array.replicate A.size false) g a w.drew (by simp) (fun j _ => hf j) hdn hDI hc
 ·have hi5 : i < 5 := by have := (List.getElem?_eq_some_iff.1 hio).1; simpa using this
  have hcs : i = 0 ∨ i = 1 ∨ i = 2 ∨ i = 3 ∨ i = 4 := by omega
  rcases hcs with rfl | rfl | rfl | rfl | rfl
  ·simp at hio; subst hio; exact .inl covL
  ·simp at hio; subst hio; exact .inr ⟨_, by rw [depa]; exact memB_iff.1 b5, by omega⟩
  ·simp at hio; subst hio; exact .inl covM
  ·simp at hio; subst hio; exact .inr ⟨_, by rw [depx]; exact memB_iff.1 b7, by omega⟩
  ·simp at hio; subst hio; exact .inr ⟨_, by rw [depe]; exact memB_iff.1 b9, by omega⟩
 ·obtain ⟨l, ents, idx, q1, q2, q3, q4, q5⟩ : ∃ l ents idx, g'.ι b = some l ∧ w'.heap[l.blk]? = some (.map ents ents.size) ∧ idx.Perm (List.range ents.size) ∧ borns ents ∧ g'.denM w' es ents idx := by
   have := hsim.hp b
   simp only [hcs] at this
   exact this
  show wpAnyIn (Fn ro) 0 P .any A Q' 5 listed a' w'
  refine incr_any (g0 := g) (w0 := w) (n := l5.reverse.length) (t := t) (t' := t') (key := getS σ k0) (v0 := v0) (v1 := v1) (pre := pre) (post := post) (es := es) (σ := σ) (h := h) (b := b)
   (σ4 := (((σ.set sl v0).set sa2 v1).set se2 .junk).set ss2 .junk) (h4 := h4) (mks := mks) hsz (by simpa using hat 0) (by simpa using hat 1) (by simpa using hat 2) (by simpa using hat 3) (by simpa using hat 4)
   gl ga gm gx ge dl da dm dx de (covlt _ covL) (fun e he => ?_) ?_ (covlt _ covM) (fun e he => ?_) ?_ (fun e he => ?_) ?_ ?_ s3.1 s4.1 s5.1 s6 hneA hneE hneS hoL' (fun t ht => ?_) rA' (fun t ht => ?_) hoX' (fun t ht => ?_)
   hopm hu hshp hz sm.1 sk.1 hmb rfl sm.2 sk.2 ho hes hcase hpre hpost hni hope (by simp) (fun s => ?_) l4 (fun c => by rw [g4 c, hmk]) (fun g'' a'' w'' r1 r2 => hh none _ g'' a'' w'' kQ r1 (r2.exw _))
   5 listed false false false false 0 g' a' w' ⟨hsim.ok, hext, hsim.lt, ?_, fun s hs' => ?_, fun c _ => hsim.hp c, hsim.df, ?_⟩ (hsim.ok.own b l q1).1 hsz' (fun q => ?_) (by simp) (by simp) rfl
  ·rw [depa] at he; have := allLt_iff b4 e he; omega
  ·rw [depa, hn]; exact memB_iff.1 b5
  ·rw [depx] at he; have := allLt_iff b6 e he; omega
  ·rw [depx, hn]; exact memB_iff.1 b7
  ·rw [depe] at he; have := allLt_iff b8 e he; omega
  ·rw [depe, hn]; exact memB_iff.1 b9
  ·rw [depe, hn]; exact memB_iff.1 b10
  ·rw [rdl] at ht
   simp only [List.mem_cons, List.not_mem_nil, or_false] at ht
   rcases ht with rfl | rfl
   ·exact sm
   ·exact sk
  ·rw [rda] at ht
   have := s2 t ht
   simp only [List.mem_cons, List.not_mem_nil, or_false, not_or] at this
   rw [c2]
   exact this
  ·rw [rdx] at ht
   simp only [List.mem_cons, List.not_mem_nil, or_false] at ht
   subst ht
   exact ⟨s5.1, hneE.1, hneE.2, s5.2⟩
  ·have z1 : sl < σ.length := s3.1
   rw [getS_set (by simpa using s6), getS_set (by simpa using s5.1), getS_set (by simpa using s4.1), getS_set z1]
   by_cases e1 : s = sl
   ·subst e1
    rw [if_neg (Ne.symm hneS.1), if_neg (Ne.symm hneE.1), if_neg (Ne.symm hneA), if_pos rfl, if_pos rfl]
   ·by_cases e2 : s = sa2
    ·subst e2
     rw [if_neg (Ne.symm hneS.2.1), if_neg (Ne.symm hneE.2), if_pos rfl, if_neg e1, if_pos rfl]
    ·by_cases e3 : s = se2
     ·subst e3
      rw [if_neg (Ne.symm hneS.2.2), if_pos rfl, if_neg e1, if_neg e2, if_pos rfl]
     ·by_cases e4 : s = ss2
      ·subst e4
       rw [if_pos rfl, if_neg e1, if_neg e2, if_neg e3, if_pos rfl]
      ·rw [if_neg e4, if_neg e3, if_neg e2, if_neg e1, if_neg e1, if_neg e2, if_neg e3, if_neg e4]
  ·have := denL_len hsim.tm; simpa using this
  ·unfold tslot
   simp only [Bool.false_eq_true, if_false]
   have := getS_den hsim.tm s
   split
   ·trivial
   ·split
    ·trivial
    ·split
     ·trivial
     ·split
      ·trivial
      ·exact this
  ·exact ⟨l, ents, idx, q1, q2, q3, q4, fun _ => q5, fun e => by cases e⟩
  ·rw [hE']
   unfold flg
   split
   ·rename_i e; exact decide_eq_true e
   ·rename_i e
    rw [decide_eq_false e]
    (repeat' split) <;> rfl
end
end Go.TV
/- The value calculus, part 2R: trees whose blocks have other numbers (for calls in a bigger book). -/
namespace Go.TV
open Go.RowKit
mutual
def renS (π : Nat → Nat) : SV → SV
 | .ptr b off => .ptr (π b) off
 | .eptr b sz i off => .eptr (π b) sz i off
 | .own b => .own (π b)
 | .osl b sz off n => .osl (π b) sz off n
 | .csl b off n cap => .csl (π b) off n cap
 | .mp b => .mp (π b)
 | .yield b => .yield (π b)
 | .fn f fs cs => .fn f (renL π fs) (renL π cs)
 | .agg cs => .agg (renL π cs)
 | .tup cs => .tup (renL π cs)
 | .iface t v => .iface t (renS π v)
 | s => s
def renL (π : Nat → Nat) : List SV → List SV
 | [] => []
 | s :: ss => renS π s :: renL π ss
end
def renM (π : Nat → Nat) (es : List (SV × SV)) : List (SV × SV) := es.map fun e => (renS π e.1, renS π e.2)
mutual
theorem den_ren {w : World} {imm D D' : Nat → Prop} {ι ι' : Env} {π : Nat → Nat} (hD : ∀ b, D b ↔ D' (π b)) (hι : ∀ b, D b → ι b = ι' (π b)) : ∀ (s : SV) {v : Value}, den w imm s D ι v ↔ den w imm (renS π s) D' ι' v
 | .junk, _ => by simp only [renS, den]
 | .one, _ => by simp only [renS, den]
 | .int _ _, _ => by simp only [renS, den]
 | .bool _, _ => by simp only [renS, den]
 | .str _, _ => by simp only [renS, den]
 | .nilp, _ => by simp only [renS, den]
 | .nils, _ => by simp only [renS, den]
 | .nilm, _ => by simp only [renS, den]
 | .nilfn, _ => by simp only [renS, den]
 | .niface, _ => by simp only [renS, den]
 | .ptr b off, v => by
  simp only [renS, den]
  constructor
  ·rintro ⟨h1, h2, h3⟩; exact ⟨(hD b).1 h1, h2, fun l hl => h3 l ((hι b h1).trans hl)⟩
  ·rintro ⟨h1, h2, h3⟩; exact ⟨(hD b).2 h1, h2, fun l hl => h3 l ((hι b ((hD b).2 h1)).symm.trans hl)⟩
 | .eptr b sz i off, v => by
  simp only [renS, den]
  constructor
  ·rintro ⟨h1, h2, h3⟩; exact ⟨(hD b).1 h1, h2, fun l hl => h3 l ((hι b h1).trans hl)⟩
  ·rintro ⟨h1, h2, h3⟩; exact ⟨(hD b).2 h1, h2, fun l hl => h3 l ((hι b ((hD b).2 h1)).symm.trans hl)⟩
 | .own b, v => by
  simp only [renS, den]
  constructor
  ·rintro ⟨h1, h2, h3⟩; exact ⟨(hD b).1 h1, h2, fun l hl => h3 l ((hι b h1).trans hl)⟩
  ·rintro ⟨h1, h2, h3⟩; exact ⟨(hD b).2 h1, h2, fun l hl => h3 l ((hι b ((hD b).2 h1)).symm.trans hl)⟩
 | .csl b off n cap, v => by
  simp only [renS, den]
  constructor
  ·rintro ⟨h1, h2, h3⟩; exact ⟨(hD b).1 h1, h2, fun l hl => h3 l ((hι b h1).trans hl)⟩
  ·rintro ⟨h1, h2, h3⟩; exact ⟨(hD b).2 h1, h2, fun l hl => h3 l ((hι b ((hD b).2 h1)).symm.trans hl)⟩
 | .osl b sz off n, v => by
  simp only [renS, den]
  constructor
  ·rintro ⟨h1, h2, h3⟩; exact ⟨(hD b).1 h1, h2, fun l hl => h3 l ((hι b h1).trans hl)⟩
  ·rintro ⟨h1, h2, h3⟩; exact ⟨(hD b).2 h1, h2, fun l hl => h3 l ((hι b ((hD b).2 h1)).symm.trans hl)⟩
 | .mp b, v => by
  simp only [renS, den]
  constructor
  ·rintro ⟨h1, h2, h3⟩; exact ⟨(hD b).1 h1, h2, fun l hl => h3 l ((hι b h1).trans hl)⟩
  ·rintro ⟨h1, h2, h3⟩; exact ⟨(hD b).2 h1, h2, fun l hl => h3 l ((hι b ((hD b).2 h1)).symm.trans hl)⟩
 | .yield b, v => by
  simp only [renS, den]
  constructor
  ·rintro ⟨h1, h2, h3⟩; exact ⟨(hD b).1 h1, h2, fun l hl => h3 l ((hι b h1).trans hl)⟩
  ·rintro ⟨h1, h2, h3⟩; exact ⟨(hD b).2 h1, h2, fun l hl => h3 l ((hι b ((hD b).2 h1)).symm.trans hl)⟩
 | .fn f fs cs, v => by
  simp only [renS, den]
  constructor
  ·rintro ⟨vf, vc, e, h1, h2⟩; exact ⟨vf, vc, e, (denL_ren hD hι fs).1 h1, (denL_ren hD hι cs).1 h2⟩
  ·rintro ⟨vf, vc, e, h1, h2⟩; exact ⟨vf, vc, e, (denL_ren hD hι fs).2 h1, (denL_ren hD hι cs).2 h2⟩
 | .agg cs, v => by
  simp only [renS, den]
  constructor
  ·rintro ⟨vs, e, h1⟩; exact ⟨vs, e, (denL_ren hD hι cs).1 h1⟩
  ·rintro ⟨vs, e, h1⟩; exact ⟨vs, e, (denL_ren hD hι cs).2 h1⟩
 | .tup cs, v => by
  simp only [renS, den]
  constructor
  ·rintro ⟨vs, e, h1⟩; exact ⟨vs, e, (denL_ren hD hι cs).1 h1⟩
  ·rintro ⟨vs, e, h1⟩; exact ⟨vs, e, (denL_ren hD hι cs).2 h1⟩
 | .iface t s, v => by
  simp only [renS, den]
  constructor
  ·rintro ⟨u, e, h1⟩; exact ⟨u, e, (den_ren hD hι s).1 h1⟩
  ·rintro ⟨u, e, h1⟩; exact ⟨u, e, (den_ren hD hι s).2 h1⟩
 | .sl _ _, _ => by simp only [renS, den]
 | .iptr _ _, _ => by simp only [renS, den]
 | .imap _, _ => by simp only [renS, den]
theorem denL_ren {w : World} {imm D D' : Nat → Prop} {ι ι' : Env} {π : Nat → Nat} (hD : ∀ b, D b ↔ D' (π b)) (hι : ∀ b, D b → ι b = ι' (π b)) : ∀ (ss : List SV) {vs : List Value}, denL w imm ss D ι vs ↔ denL w imm (renL π ss) D' ι' vs
 | [], _ => by simp only [renL, denL]
 | s :: ss, vs => by
  simp only [renL, denL]
  constructor
  ·rintro ⟨u, us, e, h1, h2⟩; exact ⟨u, us, e, (den_ren hD hι s).1 h1, (denL_ren hD hι ss).1 h2⟩
  ·rintro ⟨u, us, e, h1, h2⟩; exact ⟨u, us, e, (den_ren hD hι s).2 h1, (denL_ren hD hι ss).2 h2⟩
end
theorem denM_ren {w : World} {imm D D' : Nat → Prop} {ι ι' : Env} {π : Nat → Nat} (hD : ∀ b, D b ↔ D' (π b)) (hι : ∀ b, D b → ι b = ι' (π b)) : ∀ (es : List (SV × SV)) {ents : Array MapEntry} {idx : List Nat}, denM w imm es D ι ents idx ↔ denM w imm (renM π es) D' ι' ents idx
 | [], _, _ => by simp only [renM, List.map_nil, denM]
 | (k, v) :: es, ents, idx => by
  simp only [renM, List.map_cons, denM]
  constructor
  ·rintro ⟨i, rest, e, h1, h2, h3, h4, h5⟩; exact ⟨i, rest, e, h1, h2, (den_ren hD hι k).1 h3, (den_ren hD hι v).1 h4, (denM_ren hD hι es).1 h5⟩
  ·rintro ⟨i, rest, e, h1, h2, h3, h4, h5⟩; exact ⟨i, rest, e, h1, h2, (den_ren hD hι k).2 h3, (den_ren hD hι v).2 h4, (denM_ren hD hι es).2 h5⟩
theorem renL_len (π : Nat → Nat) : ∀ l : List SV, (renL π l).length = l.length
 | [] => rfl
 | _ :: l => by simp [renL, renL_len π l]
def renB (π : Nat → Nat) : LB → LB
 | .cells cs => .cells (renL π cs)
 | .arr e sz es => .arr e sz (renL π es)
 | .map es => .map (renM π es)
 | _ => .dead
def LB.plain : LB → Bool
 | .dead | .cells _ | .arr _ _ _ | .map _ => true
 | _ => false
theorem lb_ren {P : Program} {w : World} {g g' : Gh} {π : Nat → Nat} (himm : g.imm = g'.imm) (hD : ∀ b, g.dom b ↔ g'.dom (π b)) (hι : ∀ b, g.dom b → g.ι b = g'.ι (π b)) {b : Nat} {x : LB} (hb : g.dom b) (hp : x.plain = true) : lbden P w g b x ↔ lbden P w g' (π b) (renB π x) := by
 have hi := hι b hb
 cases x with
 | dead => simp only [renB, lbden]
 | cells cs =>
  simp only [renB, lbden, Gh.denL, ← himm]
  rw [hi]
  constructor
  ·rintro ⟨l, vs, t, h1, h2, h3⟩; exact ⟨l, vs, t, h1, h2, (denL_ren hD hι cs).1 h3⟩
  ·rintro ⟨l, vs, t, h1, h2, h3⟩; exact ⟨l, vs, t, h1, h2, (denL_ren hD hι cs).2 h3⟩
 | arr e sz es =>
  simp only [renB, lbden, Gh.denL, ← himm, renL_len]
  rw [hi]
  constructor
  ·rintro ⟨l, vs, h1, h2, h3, h4⟩; exact ⟨l, vs, h1, h2, (denL_ren hD hι es).1 h3, h4⟩
  ·rintro ⟨l, vs, h1, h2, h3, h4⟩; exact ⟨l, vs, h1, h2, (denL_ren hD hι es).2 h3, h4⟩
 | map es =>
  simp only [renB, lbden, Gh.denM, ← himm]
  rw [hi]
  constructor
  ·rintro ⟨l, ents, idx, h1, h2, h3, h4, h5⟩; exact ⟨l, ents, idx, h1, h2, h3, h4, (denM_ren hD hι es).1 h5⟩
  ·rintro ⟨l, ents, idx, h1, h2, h3, h4, h5⟩; exact ⟨l, ents, idx, h1, h2, h3, h4, (denM_ren hD hι es).2 h5⟩
 | _ => simp [LB.plain] at hp
end Go.TV
/- The value calculus, part 2S: a contract told of a small book, used in a bigger one. -/
namespace Go.TV
open Go.RowKit
theorem hget_range {f : Nat → LB} {n B : Nat} : hget ((List.range n).map f) B = if B < n then f B else .dead := by
 have h : ∀ (l : List LB) (B : Nat), hget l B = (l[B]?).getD .dead := by
  intro l
  induction l with
  | nil => intro B; rfl
  | cons a l ih => intro B; cases B with
   | zero => rfl
   | succ B => simpa [hget] using ih B
 rw [h]
 by_cases hB : B < n
 ·simp [hB]
 ·simp [hB]
structure After (π : Nat → Nat) (H h' H' : List LB) (n : Nat) : Prop where
 len : H'.length = H.length + (h'.length - n)
 in_ : ∀ a, a < n ∨ a < h'.length → hget H' (π a) = renB π (hget h' a)
 out : ∀ B, (∀ a, π a ≠ B) → hget H' B = hget H B
open Classical in
theorem TF.frame {P : Program} {f : FuncId} {args : List SV} {h : List LB} {Q : SV → List LB → Prop} (hT : TF P f args h Q) {H : List LB} (π : Nat → Nat) (hinj : ∀ a b, π a = π b → a = b) (hlt : ∀ a, a < h.length → π a < H.length) (hnew : ∀ a, h.length ≤ a → π a = H.length + (a - h.length))
  (hbk : ∀ a, a < h.length → (hget h a).plain = true ∧ hget H (π a) = renB π (hget h a)) (hdep : ∀ B, (∀ a, π a ≠ B) → ∀ d ∈ (hget H B).deps, ∀ a, π a ≠ d) (hQ : ∀ s h', Q s h' → ∀ b, (hget h' b).plain = true) :
  TF P f (renL π args) H fun s' H' => ∃ s h', Q s h' ∧ s' = renS π s ∧ After π H h' H' h.length := by
 refine ⟨hT.ok, fun hm g w vals hno hg hdl hda hlb => ?_⟩
 let g0 : Gh := { dom := fun b => g.dom (π b), ι := fun b => g.ι (π b), imm := g.imm, hid := g.hid, flr := g.flr }
 have hD : ∀ b, g0.dom b ↔ g.dom (π b) := fun _ => Iff.rfl
 have hι : ∀ b, g0.dom b → g0.ι b = g.ι (π b) := fun _ _ => rfl
 have hg0 : GOk g0 w := ⟨fun b l hl => hg.own _ l hl, fun b b' l l' h1 h2 e => hinj _ _ (hg.inj _ _ l l' h1 h2 e), hg.immlt, hg.hlt, hg.himm, fun b l hl => hg.hown _ l hl, hg.flr⟩
 have hdl0 : ∀ b, g0.dom b → b < h.length := fun b hb => by
  rcases Nat.lt_or_ge b h.length with h1 | h1
  ·exact h1
  ·have := hdl _ hb; rw [hnew b h1] at this; omega
 have hhd : ∀ (l : List LB) (n : Nat), l.length ≤ n → hget l n = .dead := by
  intro l
  induction l with
  | nil => intro n _; rfl
  | cons a l ih => intro n hn; cases n with
   | zero => simp at hn
   | succ n => exact ih n (by simpa using hn)
 have hlb0 : ∀ b, lbden P w g0 b (hget h b) := fun b => by
  rcases Nat.lt_or_ge b h.length with h1 | h1
  ·obtain ⟨h2, h3⟩ := hbk b h1
   have h4 := hlb (π b)
   rw [h3] at h4
   by_cases hd : g0.dom b
   ·exact (lb_ren (g := g0) (g' := g) rfl hD hι hd h2).2 h4
   ·have hn : g.ι (π b) = none := by
     cases hi : g.ι (π b) with
     | none => rfl
     | some l => exact absurd (hg.own _ _ hi).1 hd
    cases hx : hget h b with
    | dead => trivial
    | cells cs => rw [hx] at h4; obtain ⟨l, vs, t, k, _⟩ := h4; rw [hn] at k; cases k
    | arr e sz es => rw [hx] at h4; obtain ⟨l, vs, k, _⟩ := h4; rw [hn] at k; cases k
    | map es => rw [hx] at h4; obtain ⟨l, en, ix, k, _⟩ := h4; rw [hn] at k; cases k
    | _ => rw [hx] at h2; simp [LB.plain] at h2
  ·rw [hhd h b h1]; trivial
 refine (hT.run hm g0 w vals hno hg0 hdl0 ((denL_ren hD hι args).2 hda) hlb0).mono ?_
 rintro _ w' ⟨v, s, h', g1, rfl, q, k1, k2, k3, k4, k5⟩
 let g' : Gh := { dom := fun B => (∃ a, π a = B ∧ g1.dom a) ∨ ((∀ a, π a ≠ B) ∧ g.dom B), ι := fun B => if hx : ∃ a, π a = B then g1.ι hx.choose else g.ι B, imm := g1.imm, hid := g1.hid, flr := g1.flr }
 have hin : ∀ a, g'.ι (π a) = g1.ι a := fun a => by
  have hx : ∃ b, π b = π a := ⟨a, rfl⟩
  simp only [g', dif_pos hx]
  rw [hinj _ _ hx.choose_spec]
 have hout : ∀ B, (∀ a, π a ≠ B) → g'.ι B = g.ι B := fun B hB => by
  have hx : ¬ ∃ b, π b = B := fun ⟨b, e⟩ => hB b e
  simp only [g', dif_neg hx]
 have hD1 : ∀ b, g1.dom b ↔ g'.dom (π b) := fun b => by
  constructor
  ·intro hb; exact .inl ⟨b, rfl, hb⟩
  ·rintro (⟨a, e, ha⟩ | ⟨hB, _⟩)
   ·rw [← hinj _ _ e]; exact ha
   ·exact absurd rfl (hB b)
 have hι1 : ∀ b, g1.dom b → g1.ι b = g'.ι (π b) := fun b _ => (hin b).symm
 have hno1 : g1.hid = none := k5.hid.trans hno
 have hcase : ∀ B, (∃ a, π a = B) ∨ ∀ a, π a ≠ B := fun B => by
  by_cases hx : ∃ a, π a = B
  ·exact .inl hx
  ·exact .inr fun a e => hx ⟨a, e⟩
 have hmix : ∀ a B l l', g1.ι a = some l → (∀ a, π a ≠ B) → g.ι B = some l' → l.blk ≠ l'.blk := fun a B l l' h1 hB h2 e => by
  rcases k5.newι a l h1 with h3 | h3 | ⟨b0, l0, _, h3, h4⟩
  ·exact hB a (hg.inj _ _ _ _ h3 h2 e)
  ·have := (hg.own _ _ h2).2.1; omega
  ·exact hB b0 (hg.inj _ _ _ _ h3 h2 (h4.trans e))
 have hext : Ext g w g' w' (fun B => ∃ a, π a = B) := by
  refine ⟨k5.os, k5.tape, k5.output, k5.size, fun B hB => ?_, fun B hB => ⟨fun hn => hout B fun a e => hn ⟨a, e⟩, ?_⟩, k5.imm, k5.hid, k5.flr, fun r hr hn => k5.old r hr fun b l _ hl => hn (π b) l ⟨b, rfl⟩ hl, fun B l hl => ?_, fun r hr => ?_⟩
  ·rcases hcase B with ⟨a, rfl⟩ | hB'
   ·exact .inl ⟨a, rfl, k5.dom a hB⟩
   ·exact .inr ⟨hB', hB⟩
  ·rcases hcase B with ⟨a, rfl⟩ | hB'
   ·rw [hin]; exact (k5.ι a hB).2
   ·exact .inl (hout B hB')
  ·rcases hcase B with ⟨a, rfl⟩ | hB'
   ·rw [hin] at hl
    rcases k5.newι a l hl with h3 | h3 | ⟨b0, l0, _, h3, h4⟩
    ·exact .inl h3
    ·exact .inr (.inl h3)
    ·exact .inr (.inr ⟨π b0, l0, ⟨b0, rfl⟩, h3, h4⟩)
   ·rw [hout B hB'] at hl; exact .inl hl
  ·rcases k5.newimm r hr with h3 | h3 | ⟨b0, l0, _, h3, h4⟩
   ·exact .inl h3
   ·exact .inr (.inl h3)
   ·exact .inr (.inr ⟨π b0, l0, ⟨b0, rfl⟩, h3, h4⟩)
 have hok : GOk g' w' := by
  refine ⟨fun B l hl => ?_, fun B B' l l' h1 h2 e => ?_, k1.immlt, fun r ⟨X, e, _⟩ => (by rw [hno1] at e; cases e), fun r ⟨X, e, _⟩ => (by rw [hno1] at e; cases e), fun B l _ ⟨X, e, _⟩ => (by rw [hno1] at e; cases e), k1.flr⟩
  ·rcases hcase B with ⟨a, rfl⟩ | hB
   ·rw [hin] at hl
    obtain ⟨h3, h4, h5⟩ := k1.own a l hl
    exact ⟨(hD1 a).1 h3, h4, h5⟩
   ·rw [hout B hB] at hl
    obtain ⟨h3, h4, h5⟩ := hg.own B l hl
    refine ⟨.inr ⟨hB, h3⟩, Nat.lt_of_lt_of_le h4 k5.size, fun hi => ?_⟩
    rcases k5.newimm _ hi with h6 | h6 | ⟨b0, l0, _, h6, h7⟩
    ·exact h5 h6
    ·omega
    ·exact hB b0 (hg.inj _ _ _ _ h6 hl h7)
  ·rcases hcase B with ⟨a, rfl⟩ | hB <;> rcases hcase B' with ⟨a', rfl⟩ | hB'
   ·rw [hin] at h1 h2; rw [k1.inj a a' l l' h1 h2 e]
   ·rw [hin] at h1; rw [hout B' hB'] at h2; exact absurd e (hmix a B' l l' h1 hB' h2)
   ·rw [hout B hB] at h1; rw [hin] at h2; exact absurd e.symm (hmix a' B l' l h2 hB h1)
   ·rw [hout B hB] at h1; rw [hout B' hB'] at h2; exact hg.inj B B' l l' h1 h2 e
 let H' : List LB := (List.range (H.length + (h'.length - h.length))).map fun B => if hx : ∃ a, π a = B then renB π (hget h' hx.choose) else hget H B
 have hH : ∀ B, hget H' B = if B < H.length + (h'.length - h.length) then (if hx : ∃ a, π a = B then renB π (hget h' hx.choose) else hget H B) else .dead := fun B => hget_range
 have hHin : ∀ a, a < h.length ∨ a < h'.length → hget H' (π a) = renB π (hget h' a) := fun a ha => by
  have hx : ∃ b, π b = π a := ⟨a, rfl⟩
  have hb : π a < H.length + (h'.length - h.length) := by
   rcases Nat.lt_or_ge a h.length with h1 | h1
   ·have := hlt a h1; omega
   ·rw [hnew a h1]; omega
  rw [hH, if_pos hb, dif_pos hx, hinj _ _ hx.choose_spec]
 have hHout : ∀ B, (∀ a, π a ≠ B) → hget H' B = hget H B := fun B hB => by
  have hx : ¬ ∃ b, π b = B := fun ⟨b, e⟩ => hB b e
  have hBl : B < H.length := by
   rcases Nat.lt_or_ge B H.length with h1 | h1
   ·exact h1
   ·exact absurd (by rw [hnew _ (by omega : h.length ≤ h.length + (B - H.length))]; omega) (hB (h.length + (B - H.length)))
  rw [hH, if_pos (by omega), dif_neg hx]
 have hHl : H'.length = H.length + (h'.length - h.length) := by simp [H']
 refine ⟨v, renS π s, H', g', rfl, ⟨s, h', q, rfl, hHl, hHin, hHout⟩, hok, fun B hB => ?_, (den_ren hD1 hι1 s).1 k3, fun B => ?_, hext.more fun _ _ => trivial⟩
 ·rw [hHl]
  rcases hB with ⟨a, rfl, ha⟩ | ⟨_, hB⟩
  ·have := k2 a ha
   rcases Nat.lt_or_ge a h.length with h1 | h1
   ·have := hlt a h1; omega
   ·rw [hnew a h1]; omega
  ·have := hdl B hB; omega
 ·rcases hcase B with ⟨a, rfl⟩ | hB
  ·by_cases ha : a < h.length ∨ a < h'.length
   ·rw [hHin a ha]
    by_cases hd : g1.dom a
    ·exact (lb_ren (g := g1) (g' := g') rfl hD1 hι1 hd (hQ s h' q a)).1 (k4 a)
    ·have hn : g1.ι a = none := by
      cases hi : g1.ι a with
      | none => rfl
      | some l => exact absurd (k1.own _ _ hi).1 hd
     have h4 := k4 a
     have h2 := hQ s h' q a
     cases hx : hget h' a with
     | dead => trivial
     | cells cs => rw [hx] at h4; obtain ⟨l, vs, t, k, _⟩ := h4; rw [hn] at k; cases k
     | arr e sz es => rw [hx] at h4; obtain ⟨l, vs, k, _⟩ := h4; rw [hn] at k; cases k
     | map es => rw [hx] at h4; obtain ⟨l, en, ix, k, _⟩ := h4; rw [hn] at k; cases k
     | _ => rw [hx] at h2; simp [LB.plain] at h2
   ·rw [hhd H' (π a) (by rw [hHl, hnew a (by omega)]; omega)]; trivial
  ·rw [hHout B hB]
   exact hext.lb hg (fun ⟨a, e⟩ => hB a e) (fun d hd ⟨a, e⟩ => hdep B hB d hd a e) (hlb B)
def piOf : List Nat → Nat → Nat → Nat
 | [], N, a => N + a
 | p :: _, _, 0 => p
 | _ :: ps, N, a + 1 => piOf ps N a
theorem piOf_new : ∀ {pl : List Nat} {N a : Nat}, pl.length ≤ a → piOf pl N a = N + (a - pl.length)
 | [], N, a, _ => by simp [piOf]
 | p :: ps, N, 0, h => by simp at h
 | p :: ps, N, a + 1, h => by simp only [piOf, List.length_cons]; rw [piOf_new (by simpa using h)]; omega
theorem piOf_mem : ∀ {pl : List Nat} {N a : Nat}, a < pl.length → piOf pl N a ∈ pl
 | p :: ps, N, 0, _ => by simp [piOf]
 | p :: ps, N, a + 1, h => by simp only [piOf]; exact List.mem_cons_of_mem _ (piOf_mem (by simpa using h))
theorem piOf_inj : ∀ {pl : List Nat} {N : Nat}, pl.Nodup → (∀ p ∈ pl, p < N) → ∀ a b, piOf pl N a = piOf pl N b → a = b
 | [], N, _, _, a, b, e => by simp only [piOf] at e; omega
 | p :: ps, N, hn, hl, a, b, e => by
  rw [List.nodup_cons] at hn
  have hne : ∀ c, piOf ps N c ≠ p := fun c e => by
   rcases Nat.lt_or_ge c ps.length with h | h
   ·exact hn.1 (e ▸ piOf_mem h)
   ·rw [piOf_new h] at e; have := hl p (by simp); omega
  cases a with
  | zero => cases b with
   | zero => rfl
   | succ b => simp only [piOf] at e; exact absurd e.symm (hne b)
  | succ a => cases b with
   | zero => simp only [piOf] at e; exact absurd e (hne a)
   | succ b => simp only [piOf] at e; rw [piOf_inj hn.2 (fun q hq => hl q (by simp [hq])) a b e]
theorem hget_ext : ∀ {a b : List LB}, a.length = b.length → (∀ n, n < a.length → hget a n = hget b n) → a = b
 | [], [], _, _ => rfl
 | [], _ :: _, h, _ => by simp at h
 | _ :: _, [], h, _ => by simp at h
 | x :: a, y :: b, h, hh => by
  have h0 := hh 0 (by simp)
  simp only [hget] at h0
  rw [h0, hget_ext (a := a) (b := b) (by simpa using h) fun n hn => hh (n + 1) (by simpa using hn)]
theorem After.eq {pl : List Nat} {H h' H' H1 : List LB} (ha : After (piOf pl H.length) H h' H' pl.length) (hl : H1.length = H.length + (h'.length - pl.length)) (hin : ∀ a, a < pl.length ∨ a < h'.length → hget H1 (piOf pl H.length a) = renB (piOf pl H.length) (hget h' a))
  (hout : ∀ B, B < H.length → B ∉ pl → hget H1 B = hget H B) : H' = H1 := by
 refine hget_ext (by rw [ha.len, hl]) fun n hn => ?_
 rw [ha.len] at hn
 by_cases hx : ∃ a, (a < pl.length ∨ a < h'.length) ∧ piOf pl H.length a = n
 ·obtain ⟨a, h1, rfl⟩ := hx
  rw [ha.in_ a h1, hin a h1]
 ·have hnp : n ∉ pl := fun hm => by
   have key : ∀ {pl : List Nat} {N : Nat}, n ∈ pl → ∃ a, a < pl.length ∧ piOf pl N a = n := by
    intro pl
    induction pl with
    | nil => intro N h; cases h
    | cons p ps ih =>
     intro N h
     rcases List.mem_cons.1 h with rfl | h
     ·exact ⟨0, by simp, rfl⟩
     ·obtain ⟨a, h1, h2⟩ := ih (N := N) h
      exact ⟨a + 1, by simpa using h1, h2⟩
   obtain ⟨a, h1, h2⟩ := key (N := H.length) hm
   exact hx ⟨a, .inl h1, h2⟩
  have hnl : n < H.length := by
   rcases Nat.lt_or_ge n H.length with h | h
   ·exact h
   ·exact absurd ⟨n - H.length + pl.length, .inr (by omega), by rw [piOf_new (by omega)]; omega⟩ hx
  rw [hout n hnl hnp, ha.out n fun a e => ?_]
  rcases Nat.lt_or_ge a pl.length with h | h
  ·exact hnp (e ▸ piOf_mem h)
  ·rw [piOf_new h] at e; omega
section
variable {P : Program} {r : Fr}
theorem TSq.callF {t : TOper} {ts : List TOper} {σ : List SV} {H : List LB} {mks : List Nat} {K : St → Prop} {f : FuncId} {args : List SV} {h : List LB} {Q : SV → List LB → Prop} (hT : TF P f args h Q) (pl : List Nat) (ho : r.opn = false) (hg : guardK σ t.guard (· = true))
  (hF : calleeK σ t.op fun f' a => f' = f ∧ a = renL (piOf pl H.length) args) (hlen : h.length = pl.length) (hnd : pl.Nodup) (hlt : ∀ p ∈ pl, p < H.length)
  (hbk : ∀ a, a < h.length → (hget h a).plain = true ∧ hget H (piOf pl H.length a) = renB (piOf pl H.length) (hget h a)) (hdep : ∀ B, B ∉ pl → ∀ d ∈ (hget H B).deps, d ∉ pl ∧ d < H.length) (hQ : ∀ s h', Q s h' → ∀ b, (hget h' b).plain = true)
  (hK : ∀ s h' H', Q s h' → After (piOf pl H.length) H h' H' pl.length → setD σ t.dst (renS (piOf pl H.length) s) fun σ' => Ev (evR P r ts ⟨σ', H', mks⟩ K)) : TSq P r (t :: ts) ⟨σ, H, mks⟩ K := by
 have hnot : ∀ B, (∀ a, piOf pl H.length a ≠ B) → B ∉ pl := fun B hB hm => by
  have key : ∀ {pl : List Nat} {N : Nat}, B ∈ pl → ∃ a, piOf pl N a = B := by
   intro pl
   induction pl with
   | nil => intro N h; cases h
   | cons p ps ih =>
    intro N h
    rcases List.mem_cons.1 h with rfl | h
    ·exact ⟨0, rfl⟩
    ·obtain ⟨a, h2⟩ := ih (N := N) h
     exact ⟨a + 1, h2⟩
  obtain ⟨a, e⟩ := key (N := H.length) hm
  exact hB a e
 refine TSq.callT ho hg (calleeK_const hF ((hT.frame (H := H) (piOf pl H.length) (piOf_inj hnd hlt) (fun a ha => hlt _ (piOf_mem (by omega))) (fun a ha => by rw [hlen]; exact piOf_new (by omega)) hbk (fun B hB d hd a e => ?_) hQ).mono ?_))
 ·obtain ⟨h1, h2⟩ := hdep B (hnot B hB) d hd
  rcases Nat.lt_or_ge a pl.length with h | h
  ·exact h1 (e ▸ piOf_mem h)
  ·rw [piOf_new h] at e; omega
 ·rintro s' H' ⟨s, h', q, rfl, ha⟩
  rw [hlen] at ha
  exact hK s h' H' q ha
end
end Go.TV
/- The value calculus, part 2T: a told call inside a region in any order; maps published where they lie in cells and own slices. -/
namespace Go.TV
open Go.RowKit
mutual
theorem clo_ren (π : Nat → Nat) : ∀ (s : SV), clo s → renS π s = s
 | .junk, _ => rfl
 | .one, _ => rfl
 | .int _ _, _ => rfl
 | .bool _, _ => rfl
 | .str _, _ => rfl
 | .nilp, _ => rfl
 | .nils, _ => rfl
 | .nilm, _ => rfl
 | .nilfn, _ => rfl
 | .niface, _ => rfl
 | .ptr _ _, h => by simp only [clo] at h
 | .eptr _ _ _ _, h => by simp only [clo] at h
 | .own _, h => by simp only [clo] at h
 | .osl _ _ _ _, h => by simp only [clo] at h
 | .csl _ _ _ _, h => by simp only [clo] at h
 | .mp _, h => by simp only [clo] at h
 | .yield _, h => by simp only [clo] at h
 | .fn _ fs cs, h => by
  simp only [clo] at h
  simp only [renS, cloL_ren π fs h.1, cloL_ren π cs h.2]
 | .agg cs, h => by
  simp only [clo] at h
  simp only [renS, cloL_ren π cs h]
 | .tup cs, h => by
  simp only [clo] at h
  simp only [renS, cloL_ren π cs h]
 | .iface _ s, h => by
  simp only [clo] at h
  simp only [renS, clo_ren π s h]
 | .sl _ _, _ => rfl
 | .iptr _ _, _ => rfl
 | .imap _, _ => rfl
theorem cloL_ren (π : Nat → Nat) : ∀ (ss : List SV), cloL ss → renL π ss = ss
 | [], _ => rfl
 | s :: ss, h => by
  simp only [cloL] at h
  simp only [renL, clo_ren π s h.1, cloL_ren π ss h.2]
end
theorem cloM_ren (π : Nat → Nat) {es : List (SV × SV)} (h : cloM es) : renM π es = es := by
 unfold renM
 conv => rhs; rw [← List.map_id es]
 exact List.map_congr_left fun e he => by rw [clo_ren π e.1 (h e he).1, clo_ren π e.2 (h e he).2]; rfl
section
variable {P : Program} {r : Fr}
open Classical in
theorem TF.orun {o : Oper} {σ : List SV} {H : List LB} {nid : Nat} {f : FuncId} {args args' : List SV} {h h1 : List LB} {s1 s' : SV} {us : List (Nat × LB)} {pl : List Nat} (hm : P.follows .mixedOrders = true) (hT : TF P f args h fun s h' => h' = h1 ∧ s = s1)
  (hF : calleeK σ (cOp P o.op) fun f' a => f' = f ∧ a = args') (hlen : h.length = pl.length) (hlen1 : h1.length = pl.length) (hnd : pl.Nodup) (ha : ∀ N, renL (piOf pl N) args = args') (hs : ∀ N, renS (piOf pl N) s1 = s')
  (hbk : ∀ N a, a < pl.length → (hget h a).plain = true ∧ hget H (piOf pl N a) = renB (piOf pl N) (hget h a))
  (hb1 : ∀ N a, a < pl.length → (hget h1 a).plain = true ∧ us[a]? = some (piOf pl N a, renB (piOf pl N) (hget h1 a))) (hul : us.length = pl.length) : ORun P o σ H nid s' us pl := by
 obtain ⟨f', args1, ⟨hf, ha1⟩, h2, h3⟩ := callee_run hF
 subst hf; subst ha1
 intro g a w ro next Q k1 kN _ k3 k4 k5
 obtain ⟨vals, d1, d2⟩ := h3 g a w hT.ok k3
 rw [Oper.semAt_eq ro a.eval o h2, d2, Oper.uponIn_enter]
 refine ⟨fun h => by simp [Fn, Fence.wide] at h, CallsIn_ro ro ?_⟩
 obtain ⟨N0, hN0⟩ := kN
 obtain ⟨N, hNle, hplN⟩ : ∃ N, N0 ≤ N ∧ ∀ p ∈ pl, p < N := by
  have : ∀ l : List Nat, ∃ M, ∀ p ∈ l, p < M := by
   intro l
   induction l with
   | nil => exact ⟨0, by simp⟩
   | cons x l ih =>
    obtain ⟨M, hM⟩ := ih
    refine ⟨max M (x + 1), fun p hp => ?_⟩
    rcases List.mem_cons.1 hp with rfl | hp
    ·omega
    ·have := hM p hp; omega
  obtain ⟨M, hM⟩ := this pl
  exact ⟨max N0 M, by omega, fun p hp => by have := hM p hp; omega⟩
 have hinj := piOf_inj hnd hplN
 have hbig : ∀ b, pl.length ≤ b → ¬ g.dom (piOf pl N b) := fun b hb hd => by
  have := hN0 _ hd
  rw [piOf_new hb] at this; omega
 have hids : ∀ B, ids us B ↔ ∃ a, a < pl.length ∧ piOf pl N a = B := fun B => by
  unfold ids
  constructor
  ·intro hB
   obtain ⟨p, hp, rfl⟩ := List.mem_map.1 hB
   obtain ⟨i, hi⟩ := List.getElem?_of_mem hp
   have hil : i < pl.length := by have := (List.getElem?_eq_some_iff.1 hi).1; omega
   have := (hb1 N i hil).2
   rw [hi] at this
   exact ⟨i, hil, by rw [Option.some.inj this]⟩
  ·rintro ⟨a, hal, rfl⟩
   exact List.mem_map.2 ⟨_, List.mem_of_getElem? (hb1 N a hal).2, rfl⟩
 let g0 : Gh := { dom := fun b => g.dom (piOf pl N b), ι := fun b => g.ι (piOf pl N b), imm := g.imm, hid := none, flr := g.flr }
 have hD : ∀ b, g0.dom b ↔ g.dom (piOf pl N b) := fun _ => Iff.rfl
 have hι : ∀ b, g0.dom b → g0.ι b = g.ι (piOf pl N b) := fun _ _ => rfl
 have hg0 : GOk g0 w := ⟨fun b l hl => k1.own _ l hl, fun b b' l l' h1 h2 e => hinj _ _ (k1.inj _ _ l l' h1 h2 e), k1.immlt, fun r ⟨X, e, _⟩ => (by cases e), fun r ⟨X, e, _⟩ => (by cases e), fun b l _ ⟨X, e, _⟩ => (by cases e), k1.flr⟩
 have hdl0 : ∀ b, g0.dom b → b < h.length := fun b hb => by
  rw [hlen]
  rcases Nat.lt_or_ge b pl.length with h1 | h1
  ·exact h1
  ·exact absurd hb (hbig b h1)
 have hhd : ∀ (l : List LB) (n : Nat), l.length ≤ n → hget l n = .dead := by
  intro l
  induction l with
  | nil => intro n _; rfl
  | cons a l ih => intro n hn; cases n with
   | zero => simp at hn
   | succ n => exact ih n (by simpa using hn)
 have hlb0 : ∀ b, lbden P w g0 b (hget h b) := fun b => by
  rcases Nat.lt_or_ge b pl.length with h1 | h1
  ·obtain ⟨h2, h3⟩ := hbk N b h1
   have h4 := k4 (piOf pl N b) (piOf_mem h1)
   rw [h3] at h4
   by_cases hd : g0.dom b
   ·exact (lb_ren (g := g0) (g' := g) rfl hD hι hd h2).2 h4
   ·have hn : g.ι (piOf pl N b) = none := by
     cases hi : g.ι (piOf pl N b) with
     | none => rfl
     | some l => exact absurd (k1.own _ _ hi).1 hd
    cases hx : hget h b with
    | dead => trivial
    | cells cs => rw [hx] at h4; obtain ⟨l, vs, t, k, _⟩ := h4; rw [hn] at k; cases k
    | arr e sz es => rw [hx] at h4; obtain ⟨l, vs, k, _⟩ := h4; rw [hn] at k; cases k
    | map es => rw [hx] at h4; obtain ⟨l, en, ix, k, _⟩ := h4; rw [hn] at k; cases k
    | _ => rw [hx] at h2; simp [LB.plain] at h2
  ·rw [hhd h b (by omega)]; trivial
 refine (hT.run hm g0 w vals rfl hg0 hdl0 ((denL_ren hD hι args).2 (by rw [ha N]; exact d1)) hlb0).mono ?_
 rintro _ w' ⟨v, s, h', g1, rfl, ⟨rfl, rfl⟩, q1, q2, q3, q4, q5⟩
 let g' : Gh := { dom := fun B => (∃ a, piOf pl N a = B ∧ g1.dom a) ∨ ((∀ a, piOf pl N a ≠ B) ∧ g.dom B), ι := fun B => if hx : ∃ a, piOf pl N a = B then g1.ι hx.choose else g.ι B, imm := g1.imm, hid := g.hid, flr := g.flr }
 have hin : ∀ a, g'.ι (piOf pl N a) = g1.ι a := fun a => by
  have hx : ∃ b, piOf pl N b = piOf pl N a := ⟨a, rfl⟩
  simp only [g', dif_pos hx]
  rw [hinj _ _ hx.choose_spec]
 have hout : ∀ B, (∀ a, piOf pl N a ≠ B) → g'.ι B = g.ι B := fun B hB => by
  have hx : ¬ ∃ b, piOf pl N b = B := fun ⟨b, e⟩ => hB b e
  simp only [g', dif_neg hx]
 have hD1 : ∀ b, g1.dom b ↔ g'.dom (piOf pl N b) := fun b => by
  constructor
  ·intro hb; exact .inl ⟨b, rfl, hb⟩
  ·rintro (⟨a, e, ha⟩ | ⟨hB, _⟩)
   ·rw [← hinj _ _ e]; exact ha
   ·exact absurd rfl (hB b)
 have hι1 : ∀ b, g1.dom b → g1.ι b = g'.ι (piOf pl N b) := fun b _ => (hin b).symm
 have hcase : ∀ B, (∃ a, piOf pl N a = B) ∨ ∀ a, piOf pl N a ≠ B := fun B => by
  by_cases hx : ∃ a, piOf pl N a = B
  ·exact .inl hx
  ·exact .inr fun a e => hx ⟨a, e⟩
 have hsm : ∀ b l, g0.ι b = some l → b < pl.length := fun b l hl => by
  have := hdl0 b (hg0.own b l hl).1
  omega
 have hU : ∀ b l, g0.ι b = some l → ids us (piOf pl N b) := fun b l hl => (hids _).2 ⟨b, hsm b l hl, rfl⟩
 have hmix : ∀ a B l l', g1.ι a = some l → (∀ a, piOf pl N a ≠ B) → g.ι B = some l' → l.blk ≠ l'.blk := fun a B l l' h1 hB h2 e => by
  rcases q5.newι a l h1 with h3 | h3 | ⟨b0, l0, _, h3, h4⟩
  ·exact hB a (k1.inj _ _ _ _ h3 h2 e)
  ·have := (k1.own _ _ h2).2.1; omega
  ·exact hB b0 (k1.inj _ _ _ _ h3 h2 (h4.trans e))
 have hext : Ext g w g' w' (ids us) := by
  refine ⟨q5.os, q5.tape, q5.output, q5.size, fun B hB => ?_, fun B hB => ⟨fun hn => ?_, ?_⟩, q5.imm, rfl, rfl, fun r hr hn => q5.old r hr fun b l _ hl => hn (piOf pl N b) l (hU b l hl) hl, fun B l hl => ?_, fun r hr => ?_⟩
  ·rcases hcase B with ⟨a, rfl⟩ | hB'
   ·exact .inl ⟨a, rfl, q5.dom a hB⟩
   ·exact .inr ⟨hB', hB⟩
  ·rcases hcase B with ⟨a, rfl⟩ | hB'
   ·rcases Nat.lt_or_ge a pl.length with h1 | h1
    ·exact absurd ((hids _).2 ⟨a, h1, rfl⟩) hn
    ·exact absurd hB (hbig a h1)
   ·exact hout B hB'
  ·rcases hcase B with ⟨a, rfl⟩ | hB'
   ·rw [hin]; exact (q5.ι a hB).2
   ·exact .inl (hout B hB')
  ·rcases hcase B with ⟨a, rfl⟩ | hB'
   ·rw [hin] at hl
    rcases q5.newι a l hl with h3 | h3 | ⟨b0, l0, _, h3, h4⟩
    ·exact .inl h3
    ·exact .inr (.inl h3)
    ·exact .inr (.inr ⟨piOf pl N b0, l0, hU b0 l0 h3, h3, h4⟩)
   ·rw [hout B hB'] at hl; exact .inl hl
  ·rcases q5.newimm r hr with h3 | h3 | ⟨b0, l0, _, h3, h4⟩
   ·exact .inl h3
   ·exact .inr (.inl h3)
   ·exact .inr (.inr ⟨piOf pl N b0, l0, hU b0 l0 h3, h3, h4⟩)
 have hok : GOk g' w' := by
  refine ⟨fun B l hl => ?_, fun B B' l l' h1 h2 e => ?_, q1.immlt, fun r hr => Nat.lt_of_lt_of_le (k1.hlt r hr) q5.size, fun r hr hi => ?_, fun B l hl hr => ?_, Nat.le_trans k1.flr q5.size⟩
  ·rcases hcase B with ⟨a, rfl⟩ | hB
   ·rw [hin] at hl
    obtain ⟨h3, h4, h5⟩ := q1.own a l hl
    exact ⟨(hD1 a).1 h3, h4, h5⟩
   ·rw [hout B hB] at hl
    obtain ⟨h3, h4, h5⟩ := k1.own B l hl
    refine ⟨.inr ⟨hB, h3⟩, Nat.lt_of_lt_of_le h4 q5.size, fun hi => ?_⟩
    rcases q5.newimm _ hi with h6 | h6 | ⟨b0, l0, _, h6, h7⟩
    ·exact h5 h6
    ·omega
    ·exact hB b0 (k1.inj _ _ _ _ h6 hl h7)
  ·rcases hcase B with ⟨a, rfl⟩ | hB <;> rcases hcase B' with ⟨a', rfl⟩ | hB'
   ·rw [hin] at h1 h2; rw [q1.inj a a' l l' h1 h2 e]
   ·rw [hin] at h1; rw [hout B' hB'] at h2; exact absurd e (hmix a B' l l' h1 hB' h2)
   ·rw [hout B hB] at h1; rw [hin] at h2; exact absurd e.symm (hmix a' B l' l h2 hB h1)
   ·rw [hout B hB] at h1; rw [hout B' hB'] at h2; exact k1.inj B B' l l' h1 h2 e
  ·have hr' : g.hd r := hr
   rcases q5.newimm r hi with h6 | h6 | ⟨b0, l0, _, h6, h7⟩
   ·exact k1.himm r hr' h6
   ·have := k1.hlt r hr'; omega
   ·exact k1.hown _ l0 h6 (h7 ▸ hr')
  ·have hr' : g.hd l.blk := hr
   rcases hcase B with ⟨a, rfl⟩ | hB
   ·rw [hin] at hl
    rcases q5.newι a l hl with h3 | h3 | ⟨b0, l0, _, h3, h4⟩
    ·exact k1.hown _ l h3 hr'
    ·have := k1.hlt _ hr'; omega
    ·exact k1.hown _ l0 h3 (h4 ▸ hr')
   ·rw [hout B hB] at hl
    exact k1.hown B l hl hr'
 refine k5 v w' g' hok hext (by rw [← hs N]; exact (den_ren hD1 hι1 s).1 q3) (fun p hp => ?_) fun B hB => ?_
 ·obtain ⟨i, hi⟩ := List.getElem?_of_mem hp
  have hil : i < pl.length := by have := (List.getElem?_eq_some_iff.1 hi).1; omega
  obtain ⟨p1, p2⟩ := hb1 N i hil
  rw [hi] at p2
  obtain rfl := Option.some.inj p2
  by_cases hd : g1.dom i
  ·exact (lb_ren (g := g1) (g' := g') rfl hD1 hι1 hd p1).1 (q4 i)
  ·have hn : g1.ι i = none := by
    cases hi : g1.ι i with
    | none => rfl
    | some l => exact absurd (q1.own _ _ hi).1 hd
   have h4 := q4 i
   cases hx : hget h' i with
   | dead => trivial
   | cells cs => rw [hx] at h4; obtain ⟨l, vs, t, k, _⟩ := h4; rw [hn] at k; cases k
   | arr e sz es => rw [hx] at h4; obtain ⟨l, vs, k, _⟩ := h4; rw [hn] at k; cases k
   | map es => rw [hx] at h4; obtain ⟨l, en, ix, k, _⟩ := h4; rw [hn] at k; cases k
   | _ => rw [hx] at p1; simp [LB.plain] at p1
 ·rcases hB with ⟨a, rfl, ha⟩ | ⟨_, hB⟩
  ·have := q2 a ha
   exact .inr ((hids _).2 ⟨a, by omega, rfl⟩)
  ·exact .inl hB
theorem TDq.callF {t : TOper} {ts : List TOper} {σ : List SV} {H : List LB} {mks : List Nat} {log : List Lg} {it : List Nat} {K : St → Prop} {f : FuncId} {args args' : List SV} {h h1 : List LB} {s1 s' : SV} (pl : List Nat) (us : List (Nat × LB))
  (hT : TF P f args h fun s h' => h' = h1 ∧ s = s1) (hg : guardK σ t.guard (· = true)) (hF : calleeK σ t.op fun f' a => f' = f ∧ a = args') (hlen : h.length = pl.length) (hlen1 : h1.length = pl.length) (hnd : pl.Nodup) (hlt : ∀ p ∈ pl, p < H.length)
  (ha : ∀ N, renL (piOf pl N) args = args') (hs : ∀ N, renS (piOf pl N) s1 = s') (hbk : ∀ N a, a < pl.length → (hget h a).plain = true ∧ hget H (piOf pl N a) = renB (piOf pl N) (hget h a))
  (hb1 : ∀ N a, a < pl.length → (hget h1 a).plain = true ∧ us[a]? = some (piOf pl N a, renB (piOf pl N) (hget h1 a))) (hul : us.length = pl.length)
  (hK : Ev (setD σ t.dst s' fun σ' => updK H us fun H' => evD P r ts ⟨σ', H', mks⟩ (lgOf t us pl :: log) it K)) : TDq P r (t :: ts) ⟨σ, H, mks⟩ log it K := by
 rw [TDq_iff]
 refine TD.step hg (calleeK_ne (k := fun _ _ => True) (calleeK_mono (fun _ _ _ => trivial) hF)) fun hm o ho1 ho2 => ⟨s', us, pl, TF.orun hm hT (by rw [ho2]; exact hF) hlen hlen1 hnd ha hs hbk hb1 hul, fun p hp => ?_, ?_⟩
 ·obtain ⟨i, hi⟩ := List.getElem?_of_mem hp
  have hil : i < pl.length := by have := (List.getElem?_eq_some_iff.1 hi).1; omega
  have p2 := (hb1 0 i hil).2
  rw [hi] at p2
  obtain rfl := Option.some.inj p2
  exact .inr ⟨piOf_mem hil, hlt _ (piOf_mem hil)⟩
 ·have := hK.at
  rw [setD_iff] at this ⊢
  have mono : ∀ {us : List (Nat × LB)} {h : List LB} {k k' : List LB → Prop}, (∀ l, k l → k' l) → updK h us k → updK h us k' := by
   have mg : ∀ {h : List LB} {n : Nat} {b : LB} {k k' : List LB → Prop}, (∀ l, k l → k' l) → updGo h n b k → updGo h n b k' := by
    intro h
    induction h with
    | nil => intro n b k k' hk hu; cases n <;> first | exact hk _ hu | exact hu
    | cons x h ih => intro n b k k' hk hu; cases n <;> first | exact hk _ hu | exact ih (fun l => hk _) hu
   intro us
   induction us with
   | nil => exact fun hk h => hk _ h
   | cons u us ih => exact fun hk h => mg (fun l hl => ih hk hl) h
  exact mono (fun l hl => evD_sound hl) this
theorem TF.same {f : FuncId} {args : List SV} {H : List LB} {Q Q' : SV → List LB → Prop} (hT : TF P f args H Q) (hq : ∀ s H', Q s H' → ∃ H1, Q' s H1 ∧ H'.length ≤ H1.length ∧ ∀ b, hget H1 b = hget H' b) : TF P f args H Q' :=
 ⟨hT.ok, fun hm g w vals h0 h1 h2 h3 h4 => (hT.run hm g w vals h0 h1 h2 h3 h4).mono fun _ _ ⟨v, s, h', g', e, q, k1, k2, k3, k4, k5⟩ => by
  obtain ⟨H1, q1, q2, q3⟩ := hq s h' q
  exact ⟨v, s, H1, g', e, q1, k1, fun b hb => Nat.lt_of_lt_of_le (k2 b hb) q2, k3, fun b => by rw [q3 b]; exact k4 b, k5⟩⟩
theorem hget_big : ∀ {l : List LB} {n : Nat}, l.length ≤ n → hget l n = .dead
 | [], _, _ => rfl
 | _ :: l, 0, h => by simp at h
 | _ :: l, n + 1, h => hget_big (l := l) (by simpa using h)
theorem TSq.callX {α : Type} (pr : α → Prop) {t : TOper} {ts : List TOper} {σ : List SV} {H : List LB} {mks : List Nat} {K : St → Prop} {f : FuncId} {args args' : List SV} {h : List LB} {h1 : α → List LB} {s1 s' : α → SV} (pl : List Nat) (us : α → List (Nat × LB))
  (hT : TF P f args h fun s h' => ∃ x, pr x ∧ s = s1 x ∧ h' = h1 x) (ho : r.opn = false) (hg : guardK σ t.guard (· = true)) (hF : calleeK σ t.op fun f' a => f' = f ∧ a = args') (hlen : h.length = pl.length) (hnd : pl.Nodup) (hlt : ∀ p ∈ pl, p < H.length)
  (ha : renL (piOf pl H.length) args = args') (hbk : ∀ a, a < pl.length → (hget h a).plain = true ∧ hget H (piOf pl H.length a) = renB (piOf pl H.length) (hget h a)) (hit : meets pl (itersOf H) = false) (hil : allLt (itersOf H) H.length = true)
  (hle : ∀ x, pr x → pl.length ≤ (h1 x).length) (hs : ∀ x, pr x → renS (piOf pl H.length) (s1 x) = s' x)
  (hb1 : ∀ x, pr x → ∀ a, a < (h1 x).length → (hget (h1 x) a).plain = true ∧ (us x)[a]? = some (piOf pl H.length a, renB (piOf pl H.length) (hget (h1 x) a))) (hul : ∀ x, pr x → (us x).length = (h1 x).length)
  (hK : ∀ x, pr x → Ev (setD σ t.dst (s' x) fun σ' => updK H (us x) fun H' => evR P r ts ⟨σ', H', mks⟩ K)) : TSq P r (t :: ts) ⟨σ, H, mks⟩ K := by
 have hnot : ∀ B, (∀ a, piOf pl H.length a ≠ B) → B ∉ pl := fun B hB hm => by
  have key : ∀ {pl : List Nat} {N : Nat}, B ∈ pl → ∃ a, piOf pl N a = B := by
   intro pl
   induction pl with
   | nil => intro N h; cases h
   | cons p ps ih =>
    intro N h
    rcases List.mem_cons.1 h with rfl | h
    ·exact ⟨0, rfl⟩
    ·obtain ⟨a, h2⟩ := ih (N := N) h
     exact ⟨a + 1, h2⟩
  obtain ⟨a, e⟩ := key (N := H.length) hm
  exact hB a e
 have hFr : TF P f args' H fun s' H' => ∃ s h', (∃ x, pr x ∧ s = s1 x ∧ h' = h1 x) ∧ s' = renS (piOf pl H.length) s ∧ After (piOf pl H.length) H h' H' h.length := by
  rw [← ha]
  refine hT.frame (H := H) (piOf pl H.length) (piOf_inj hnd hlt) (fun a ha => hlt _ (piOf_mem (by omega))) (fun a ha => by rw [hlen]; exact piOf_new (by omega)) (fun a ha => hbk a (by omega)) (fun B hB d hd a e => ?_) ?_
  ·have hd' := itersOf_mem hd
   have h1 : d ∉ pl := fun hm => by
    have : meets pl (itersOf H) = true := meets_iff.2 ⟨d, hm, hd'⟩
    rw [hit] at this; cases this
   have h2 := allLt_iff hil d hd'
   rcases Nat.lt_or_ge a pl.length with h | h
   ·exact h1 (e ▸ piOf_mem h)
   ·rw [piOf_new h] at e; omega
  ·rintro s h' ⟨x, hx, rfl, rfl⟩ b
   rcases Nat.lt_or_ge b (h1 x).length with hb | hb
   ·exact (hb1 x hx b hb).1
   ·rw [hget_big hb]; rfl
 refine TSq.callT ho hg (calleeK_const hF (hFr.same ?_))
 ·rintro _ H' ⟨_, _, ⟨x, hx, rfl, rfl⟩, rfl, hA⟩
  rw [hlen] at hA
  have hK := (hK x hx).at
  rw [setD_iff] at hK
  obtain ⟨H1, e1, l1, l2, l3⟩ := updK_wr hK
  refine ⟨H1, ?_, ?_, fun b => ?_⟩
  ·rw [hs x hx, setD_iff]
   exact Ev.go e1
  ·rw [hA.len]
   rcases Nat.lt_or_ge pl.length (h1 x).length with h | h
   ·have hm := (hb1 x hx ((h1 x).length - 1) (by omega)).2
    have := l2 _ (List.mem_of_getElem? hm)
    simp only at this
    rw [piOf_new (by omega)] at this
    omega
   ·omega
  ·rw [l3 b]
   by_cases hk : keys (us x) b
   ·obtain ⟨v, m1, m2⟩ := wr_in (W := us x) (hget H) hk
    rw [m2]
    obtain ⟨i, hi⟩ := List.getElem?_of_mem m1
    have hil : i < (h1 x).length := by have := (List.getElem?_eq_some_iff.1 hi).1; rw [hul x hx] at this; exact this
    have p2 := (hb1 x hx i hil).2
    rw [hi] at p2
    have p3 := Option.some.inj p2
    simp only [Prod.mk.injEq] at p3
    obtain ⟨rfl, rfl⟩ := p3
    exact (hA.in_ i (.inr hil)).symm
   ·rw [wr_out hk]
    by_cases hx' : ∃ a, piOf pl H.length a = b
    ·obtain ⟨a, rfl⟩ := hx'
     have hal : (h1 x).length ≤ a := by
      rcases Nat.lt_or_ge a (h1 x).length with h | h
      ·exact absurd (List.mem_map.2 ⟨_, List.mem_of_getElem? (hb1 x hx a h).2, rfl⟩) hk
      ·exact h
     have hle' := hle x hx
     rw [piOf_new (by omega), hget_big (by omega), hget_big (by rw [hA.len]; omega)]
    ·exact (hA.out b fun a e => hx' ⟨a, e⟩).symm
theorem TSq.callD {t : TOper} {ts : List TOper} {σ : List SV} {H : List LB} {mks : List Nat} {K : St → Prop} {f : FuncId} {args args' : List SV} {h h1 : List LB} {s1 s' : SV} (pl : List Nat) (us : List (Nat × LB))
  (hT : TF P f args h fun s h' => h' = h1 ∧ s = s1) (ho : r.opn = false) (hg : guardK σ t.guard (· = true)) (hF : calleeK σ t.op fun f' a => f' = f ∧ a = args') (hlen : h.length = pl.length) (hnd : pl.Nodup) (hlt : ∀ p ∈ pl, p < H.length)
  (ha : renL (piOf pl H.length) args = args') (hbk : ∀ a, a < pl.length → (hget h a).plain = true ∧ hget H (piOf pl H.length a) = renB (piOf pl H.length) (hget h a)) (hit : meets pl (itersOf H) = false) (hil : allLt (itersOf H) H.length = true)
  (hle : pl.length ≤ h1.length) (hs : renS (piOf pl H.length) s1 = s')
  (hb1 : ∀ a, a < h1.length → (hget h1 a).plain = true ∧ us[a]? = some (piOf pl H.length a, renB (piOf pl H.length) (hget h1 a))) (hul : us.length = h1.length)
  (hK : Ev (setD σ t.dst s' fun σ' => updK H us fun H' => evR P r ts ⟨σ', H', mks⟩ K)) : TSq P r (t :: ts) ⟨σ, H, mks⟩ K :=
 TSq.callX (α := Unit) (fun _ => True) (h1 := fun _ => h1) (s1 := fun _ => s1) (s' := fun _ => s') pl (fun _ => us) (hT.mono fun _ _ q => ⟨(), trivial, q.2, q.1⟩) ho hg hF hlen hnd hlt ha hbk hit hil (fun _ _ => hle) (fun _ _ => hs) (fun _ _ => hb1) (fun _ _ => hul) fun _ _ => hK
end
def subMA (b : Nat) (es : List (SV × SV)) : SV → SV
 | .mp n => match Nat.beq n b with
  | true => .imap es
  | false => .mp n
 | s => s
def subMAL (b : Nat) (es : List (SV × SV)) : List SV → List SV
 | [] => []
 | s :: ss => subMA b es s :: subMAL b es ss
def subMT (b : Nat) (es : List (SV × SV)) : SV → SV
 | .mp n => match Nat.beq n b with
  | true => .imap es
  | false => .mp n
 | .agg cs => .agg (subMAL b es cs)
 | .tup cs => .tup (subMAL b es cs)
 | s => s
def subMH (b : Nat) (es : List (SV × SV)) : LB → LB
 | .cells cs => .cells (subMAL b es cs)
 | .arr e s xs => .arr e s (subMAL b es xs)
 | lb => lb
def subMTK (b : Nat) (es : List (SV × SV)) : List SV → (List SV → Prop) → Prop
 | [], k => k []
 | s :: ss, k => forceK (subMT b es s) fun s' => subMTK b es ss fun l => k (s' :: l)
def subMHK (b : Nat) (es : List (SV × SV)) : List LB → (List LB → Prop) → Prop
 | [], k => k []
 | x :: xs, k => subMHK b es xs fun l => k (subMH b es x :: l)
def pubM (b : Nat) (S : St) (k : St → Prop) : Prop :=
 match hget S.h b with
 | .map es => Vc (cloM es) ∧ Ev (noIter S.h b (subMTK b es S.σ fun σ' => subMHK b es S.h fun h1 => updGo h1 b .dead fun h' => k ⟨σ', h', S.mks⟩))
 | _ => False
theorem subMA_den {w : World} {imm D : Nat → Prop} {ι : Env} {b : Nat} {es : List (SV × SV)} (hs : ∀ v, den w imm (.mp b) D ι v → den w imm (.imap es) D ι v) {s : SV} {v : Value} (h : den w imm s D ι v) : den w imm (subMA b es s) D ι v := by
 cases s <;> try exact h
 rename_i n
 simp only [subMA]
 cases e : Nat.beq n b with
 | true => obtain rfl := Nat.eq_of_beq_eq_true e; exact hs v h
 | false => exact h
theorem subMAL_den {w : World} {imm D : Nat → Prop} {ι : Env} {b : Nat} {es : List (SV × SV)} (hs : ∀ v, den w imm (.mp b) D ι v → den w imm (.imap es) D ι v) : ∀ {ss : List SV} {vs : List Value}, denL w imm ss D ι vs → denL w imm (subMAL b es ss) D ι vs
 | [], vs, h => h
 | s :: ss, vs, h => by
  simp only [denL, subMAL] at h ⊢
  obtain ⟨u, us, rfl, h1, h2⟩ := h
  exact ⟨u, us, rfl, subMA_den hs h1, subMAL_den hs h2⟩
theorem subMT_den {w : World} {imm D : Nat → Prop} {ι : Env} {b : Nat} {es : List (SV × SV)} (hs : ∀ v, den w imm (.mp b) D ι v → den w imm (.imap es) D ι v) {s : SV} {v : Value} (h : den w imm s D ι v) : den w imm (subMT b es s) D ι v := by
 cases s with
 | mp n =>
  simp only [subMT]
  cases e : Nat.beq n b with
  | true => obtain rfl := Nat.eq_of_beq_eq_true e; exact hs v h
  | false => exact h
 | agg cs =>
  simp only [subMT, den] at h ⊢
  obtain ⟨vs, rfl, h⟩ := h
  exact ⟨vs, rfl, subMAL_den hs h⟩
 | tup cs =>
  simp only [subMT, den] at h ⊢
  obtain ⟨vs, rfl, h⟩ := h
  exact ⟨vs, rfl, subMAL_den hs h⟩
 | _ => exact h
theorem subMTK_eq {b : Nat} {es : List (SV × SV)} : ∀ {σ : List SV} {k : List SV → Prop}, subMTK b es σ k → k (σ.map (subMT b es))
 | [], _, h => h
 | s :: ss, k, h => by
  have h := forceK_iff.1 h
  exact subMTK_eq (σ := ss) (k := fun l => k (subMT b es s :: l)) h
theorem subMHK_eq {b : Nat} {es : List (SV × SV)} : ∀ {xs : List LB} {k : List LB → Prop}, subMHK b es xs k → k (xs.map (subMH b es))
 | [], _, h => h
 | x :: xs, k, h => subMHK_eq (xs := xs) (k := fun l => k (subMH b es x :: l)) h
theorem subMAL_len {b : Nat} {es : List (SV × SV)} : ∀ (xs : List SV), (subMAL b es xs).length = xs.length
 | [] => rfl
 | _ :: xs => by simp [subMAL, subMAL_len xs]
theorem subMAL_keep {b : Nat} {es : List (SV × SV)} : ∀ (xs : List SV), (∀ s ∈ xs, ∀ n, s ≠ .mp n) → subMAL b es xs = xs
 | [], _ => rfl
 | s :: xs, h => by
  simp only [subMAL]
  rw [subMAL_keep xs fun s hs => h s (by simp [hs])]
  have := h s (by simp)
  cases s <;> first | rfl | (exact absurd rfl (this _))
section
variable {P : Program} {r : Fr}
theorem pubM_spec {b B : Nat} {S : St} {k : St → Prop} (h : pubM b S k) : ∃ S', k S' ∧ Wk P B S S' := by
 unfold pubM at h
 split at h
 ·rename_i es he
  obtain ⟨⟨hc⟩, h⟩ := h
  obtain ⟨h, hno⟩ := noIter_spec h.at
  have h := updGo_spec (subMHK_eq (subMTK_eq h))
  obtain ⟨h', h1, h2, h3, h4, h5⟩ := h
  refine ⟨_, h1, fun g a w hs => ?_⟩
  have hbb := hs.hp b
  rw [he] at hbb
  obtain ⟨l, hl⟩ : ∃ l, g.ι b = some l := ⟨_, hbb.choose_spec.choose_spec.choose_spec.1⟩
  have hblt : b < S.h.length := hs.lt b (hs.ok.own b l hl).1
  have bk : Bk P g S.h w := ⟨hs.ok, hs.lt, hs.hp⟩
  obtain ⟨r2, r3⟩ := pub_book (h' := S.h.set b .dead) bk hl (by simp) (by rw [hget_setD b hblt]; simp) (fun c hc => by rw [hget_setD c hblt]; simp [hc]) hno
  have hsl : ∀ v, den w (g.pub b l.blk).imm (.mp b) g.dom g.ι v → den w (g.pub b l.blk).imm (.imap es) g.dom g.ι v := fun v hv => by
   simp only [den] at hv
   exact clo_den _ (by simp only [clo]) (imap_of_mp (imm := (g.pub b l.blk).imm) hl hbb hc (v := v) (by simp only [Gh.den, den]; exact hv) (fun r hr => .inl hr) (.inr rfl))
  have himm : ∀ r, g.imm r → (g.pub b l.blk).imm r := fun r hr => .inl hr
  have hι : ∀ c l', g.dom c → (g.pub b l.blk).ι c = some l' → g.ι c = some l' := fun c l' _ hc => by
   simp only [Gh.pub] at hc
   split at hc
   ·cases hc
   ·exact hc
  refine ⟨g.pub b l.blk, ⟨r2.ok, fun c hc' => ?_, ?_, fun c => ?_, r3.df hs.df⟩, r3.exw B⟩
  ·have := r2.lt c hc'
   simp at this h2
   simp only; omega
  ·exact denL.mono (fun _ h => h) (fun _ _ => rfl) _ (fun _ h => h) hι (map_denL (subMT_den hsl) (denL_imm himm hs.tm))
  ·simp only
   by_cases hcb : c = b
   ·subst hcb; rw [h4]; trivial
   ·rw [h5 c hcb, hget_map rfl]
    have := r2.hp c
    rw [hget_setD c hblt, if_neg hcb] at this
    cases hg : hget S.h c <;> rw [hg] at this <;> try exact this
    ·rename_i cs
     have hcc := hs.hp c
     rw [hg] at hcc
     obtain ⟨l', vs, t, q1, q2, q3⟩ := hcc
     refine ⟨l', vs, t, by simp [Gh.pub, hcb, q1], q2, ?_⟩
     exact denL.mono (fun _ h => h) (fun _ _ => rfl) _ (fun _ h => h) hι (subMAL_den hsl (denL_imm himm q3))
    ·rename_i e1 s1 xs
     have hcc := hs.hp c
     rw [hg] at hcc
     obtain ⟨l', vs, q1, q2, q3, q4, q5⟩ := hcc
     refine ⟨l', vs, by simp [Gh.pub, hcb, q1], by simpa [subMAL_len] using q2, ?_, q4, q5⟩
     exact denL.mono (fun _ h => h) (fun _ _ => rfl) _ (fun _ h => h) hι (subMAL_den hsl (denL_imm himm q3))
 ·exact h.elim
theorem TWq.post {c : TCode} {S : St} {Q : Option Jump → St → Prop} (h : TWq P r c S fun j S' => ∃ S'', Wk P r.base S' S'' ∧ Q j S'') : TWq P r c S Q := by
 rw [TWq_iff] at h ⊢
 exact fun hm k g a w ro q hk hs hr hh hp => h hm k g a w ro q hk hs hr (fun j S' g' a' w' ⟨S'', hw, hq⟩ q1 q2 => by
  obtain ⟨g1, s1, e1⟩ := hw g' a' w' q1
  exact hh j S'' g1 a' w' hq s1 (q2.trans e1)) hp
theorem TWq.postM (b : Nat) {c : TCode} {S : St} {Q : Option Jump → St → Prop} (h : TWq P r c S fun j S' => match j with
  | none => pubM b S' (Q none)
  | some j => Q (some j) S') : TWq P r c S Q := by
 refine TWq.post ?_
 rw [TWq_iff] at h ⊢
 refine TW.mono h fun j S' hq => ?_
 cases j with
 | none =>
  obtain ⟨S'', h1, h2⟩ := pubM_spec (P := P) (B := r.base) hq
  exact ⟨S'', h2, h1⟩
 | some j => exact ⟨S', Wk.refl _ _, hq⟩
theorem TSq.pubM (b : Nat) {ts : List TOper} {S : St} {K : St → Prop} (h : Ev (pubM b S fun S' => evR P r ts S' K)) : TSq P r ts S K := by
 obtain ⟨S', h1, h2⟩ := pubM_spec h.at
 exact TSq.wk h2 (TSq_iff.2 (evR_sound h1))
theorem TWq.pubM (b : Nat) {c : TCode} {S : St} {Q : Option Jump → St → Prop} (h : Ev (pubM b S fun S' => evC P r c S' Q)) : TWq P r c S Q := by
 obtain ⟨S', h1, h2⟩ := pubM_spec h.at
 exact TWq.wk h2 (TWq_iff.2 (evC_sound h1))
end
end Go.TV
/- The value calculus, part 2U: calls told in open frames (a book that holds a token). -/
namespace Go.TV
open Go.RowKit
structure TO (P : Program) (f : FuncId) (args : List SV) (h : List LB) (Q : SV → List LB → Prop) : Prop where
 ok : ∃ t, fnOf P f = some t
 run : P.follows .mixedOrders = true → ∀ (g : Gh) (w : World) (vals : List Value), GOk g w → (∀ b, g.dom b → b < h.length) → g.denL w args vals → (∀ b, lbden P w g b (hget h b)) →
  CallsIn (Fn none) 0 P f vals.toArray w fun e w' => ∃ v s h' g', e = .returned v ∧ Q s h' ∧ GOk g' w' ∧ (∀ b, g'.dom b → b < h'.length) ∧ g'.den w' s v ∧ (∀ b, lbden P w' g' b (hget h' b)) ∧ Exw h.length g w g' w'
noncomputable def evFo (P : Program) (t : TFn) (args : List SV) (h : List LB) (Q : SV → List LB → Prop) : Prop :=
 evC P (frm none h.length true) t.body ⟨fillJ args t.ntmps, h, []⟩ (endK t.results Q)
section
variable {P : Program} {r : Fr}
theorem TO.of {f : FuncId} {t : TFn} (hf : fnOf P f = some t) {args : List SV} {h : List LB} {Q : SV → List LB → Prop} (hb : TW P (frm none h.length true) t.body ⟨fillJ args t.ntmps, h, []⟩ (endK t.results Q)) : TO P f args h Q :=
 ⟨⟨t, hf⟩, fun hm g w vals hg hlt hd hh => body_run true hf hb hm g w vals (fun e => by cases e) hg hlt hd hh⟩
theorem TO.ev {f : FuncId} {t : TFn} (hf : fnOf P f = some t) {args : List SV} {h : List LB} {Q : SV → List LB → Prop} (hb : evFo P t args h Q) : TO P f args h Q := .of hf (evC_sound hb)
theorem TO.mono {f : FuncId} {args : List SV} {h : List LB} {Q Q' : SV → List LB → Prop} (hT : TO P f args h Q) (hq : ∀ s h, Q s h → Q' s h) : TO P f args h Q' :=
 ⟨hT.ok, fun hm g w vals h1 h2 h3 h4 => (hT.run hm g w vals h1 h2 h3 h4).mono fun _ _ ⟨v, s, h', g', e, q, rest⟩ => ⟨v, s, h', g', e, hq s h' q, rest⟩⟩
theorem TO.same {f : FuncId} {args : List SV} {H : List LB} {Q Q' : SV → List LB → Prop} (hT : TO P f args H Q) (hq : ∀ s H', Q s H' → ∃ H1, Q' s H1 ∧ H'.length ≤ H1.length ∧ ∀ b, hget H1 b = hget H' b) : TO P f args H Q' :=
 ⟨hT.ok, fun hm g w vals h1 h2 h3 h4 => (hT.run hm g w vals h1 h2 h3 h4).mono fun _ _ ⟨v, s, h', g', e, q, k1, k2, k3, k4, k5⟩ => by
  obtain ⟨H1, q1, q2, q3⟩ := hq s h' q
  exact ⟨v, s, H1, g', e, q1, k1, fun b hb => Nat.lt_of_lt_of_le (k2 b hb) q2, k3, fun b => by rw [q3 b]; exact k4 b, k5⟩⟩
theorem TS.callO {t : TOper} {ts : List TOper} {S : St} {K : St → Prop} (hB : r.base ≤ S.h.length) (hg : guardK S.σ t.guard (· = true))
  (hF : calleeK S.σ t.op fun f args => TO P f args S.h fun s h' => setD S.σ t.dst s fun σ' => TS P r ts ⟨σ', h', S.mks⟩ K) : TS P r (t :: ts) S K := by
 intro hm A i g a w ro Q hd hs hr hq hp
 obtain ⟨o, hget, e, hdrop⟩ := drop_cons hd
 subst e
 have hget : A[i]? = some o := by simpa using hget
 rw [List.length_cons]
 obtain ⟨hdst, hc⟩ := cOper_cases P A false o
 rcases hc with ⟨hop, hgd⟩ | ⟨hbad, hgd⟩
 ·have hw := guard_wanted hg hgd fun _ _ _ _ _ => getS_den hs.tm _
  rw [hop] at hF
  obtain ⟨f, args, h1, h2, h3⟩ := callee_run hF
  obtain ⟨vals, d1, d2⟩ := h3 g a w h1.ok fun x _ => opd_den x fun t _ => getS_den hs.tm t
  refine wpOps_cons hget ?_
  rw [if_pos hw, Oper.semAt_eq ro a.eval o h2, d2, Oper.uponIn_enter]
  refine ⟨fun h => by simp [Fn, Fence.wide] at h, CallsIn_ro ro ((h1.run hm g w vals hs.ok hs.lt d1 hs.hp).mono ?_)⟩
  rintro _ w' ⟨v, s, h', g', rfl, q, k1, k2, k3, k4, k5⟩
  rw [hdst] at q
  have htm : g'.denL w' S.σ a.tmps.toList := denL.mono k5.imm (k5.immHeap hs.ok) _ (fun b hb => k5.dom b (hs.lt b hb) hb) (fun b l hb hl => by
   rcases k5.ι b (hs.lt b hb) hb with e | e
   ·exact e ▸ hl
   ·rw [e] at hl; cases hl) hs.tm
  obtain ⟨σ', q1, q2⟩ := put_tm q htm k3
  have k6 := k5.le hB
  refine q1 hm A (i + 1) g' (a.put o.dst v) w' ro Q hdrop ⟨k1, k2, q2, k4, ?_⟩ (k6.ro hr) (fun S'' g'' a'' w'' r1 r2 r3 => hq S'' g'' a'' w'' r1 r2 (k6.trans r3)) (hp.trans k6)
  have : (a.put o.dst v).defers = a.defers := by cases o.dst <;> rfl
  rw [this]
  exact k5.df hs.df
 ·exact absurd hbad (calleeK_ne hF)
theorem TSq.callO {t : TOper} {ts : List TOper} {σ : List SV} {h : List LB} {mks : List Nat} {K : St → Prop} (hB : Nat.ble r.base h.length = true) (hg : guardK σ t.guard (· = true))
  (hF : calleeK σ t.op fun f args => TO P f args h fun s h' => setD σ t.dst s fun σ' => Ev (evR P r ts ⟨σ', h', mks⟩ K)) : TSq P r (t :: ts) ⟨σ, h, mks⟩ K := by
 rw [TSq_iff]
 refine TS.callO (Nat.le_of_ble_eq_true hB) hg (calleeK_mono (fun f a h => h.mono fun s h' q => ?_) hF)
 rw [setD_iff] at q ⊢
 exact evR_sound q.at
def renT (π : Nat → Nat) : LB → LB
 | .tok Φ => .tok Φ
 | .tokp m ls Φ => .tokp m ls Φ
 | x => renB π x
def LB.plainT : LB → Bool
 | .tok _ => true
 | .tokp _ _ _ => true
 | x => x.plain
def LB.pn : LB → Nat
 | .tokp m _ _ => m
 | _ => 0
theorem lb_renT {w : World} {g g' : Gh} {π : Nat → Nat} (himm : g.imm = g'.imm) (hhid : g.hid = g'.hid) (h0 : ∀ a, π a = 0 ↔ a = 0) (hD : ∀ b, g.dom b ↔ g'.dom (π b)) (hι : ∀ b, g.ι b = g'.ι (π b)) {b : Nat} {x : LB} (hb : g.dom b) (hp : x.plainT = true) (hpn : ∀ i, i < x.pn → π (i + 1) = i + 1) : lbden P w g b x ↔ lbden P w g' (π b) (renT π x) := by
 cases x with
 | tok Φ => simp only [renT, lbden, h0, ← himm, ← hhid, hι b]
 | tokp m ls Φ =>
  have e : Pin m ls g ↔ Pin m ls g' := forall_congr' fun i => forall_congr' fun hi => by
   have h1 := hpn i hi
   have h2 := hD (i + 1)
   have h3 := hι (i + 1)
   rw [h1] at h2 h3
   rw [h2, h3]
  simp only [renT, lbden, h0, ← himm, ← hhid, hι b, e]
 | dead => exact lb_ren himm hD (fun b _ => hι b) hb rfl
 | cells cs => exact lb_ren himm hD (fun b _ => hι b) hb rfl
 | arr e sz es => exact lb_ren himm hD (fun b _ => hι b) hb rfl
 | map es => exact lb_ren himm hD (fun b _ => hι b) hb rfl
 | _ => simp [LB.plainT, LB.plain] at hp
theorem lb_none {w : World} {g : Gh} {b c : Nat} {x : LB} {π : Nat → Nat} (hp : x.plainT = true) (hn : g.ι b = none) (h : lbden P w g b (renT π x)) : x = .dead := by
 cases x with
 | dead => rfl
 | cells cs => obtain ⟨l, vs, t, k, _⟩ := h; rw [hn] at k; cases k
 | arr e sz es => obtain ⟨l, vs, k, _⟩ := h; rw [hn] at k; cases k
 | map es => obtain ⟨l, en, ix, k, _⟩ := h; rw [hn] at k; cases k
 | tok Φ => obtain ⟨_, l, X, k, _⟩ := h; rw [hn] at k; cases k
 | tokp m ls Φ => obtain ⟨_, _, l, X, k, _⟩ := h; rw [hn] at k; cases k
 | _ => simp [LB.plainT, LB.plain] at hp
structure AfterT (π : Nat → Nat) (H h' H' : List LB) (n : Nat) : Prop where
 len : H'.length = H.length + (h'.length - n)
 in_ : ∀ a, a < n ∨ a < h'.length → hget H' (π a) = renT π (hget h' a)
 out : ∀ B, (∀ a, π a ≠ B) → hget H' B = hget H B
open Classical in
theorem TO.frame {f : FuncId} {args : List SV} {h : List LB} {Q : SV → List LB → Prop} (hT : TO P f args h Q) {H : List LB} (π : Nat → Nat) (hinj : ∀ a b, π a = π b → a = b) (N : Nat) (hN : ∀ i, i ≤ N → π i = i) (hlt : ∀ a, a < h.length → π a < H.length) (hnew : ∀ a, h.length ≤ a → π a = H.length + (a - h.length))
  (hbk : ∀ a, a < h.length → (hget h a).plainT = true ∧ (hget h a).pn ≤ N ∧ hget H (π a) = renT π (hget h a)) (hdep : ∀ B, (∀ a, π a ≠ B) → ∀ d ∈ (hget H B).deps, ∀ a, π a ≠ d) (hQ : ∀ s h', Q s h' → ∀ b, (hget h' b).plainT = true ∧ (hget h' b).pn ≤ N) :
  TO P f (renL π args) H fun s' H' => ∃ s h', Q s h' ∧ s' = renS π s ∧ AfterT π H h' H' h.length := by
 have h00 : π 0 = 0 := hN 0 (Nat.zero_le _)
 have hpn : ∀ {x : LB}, x.pn ≤ N → ∀ i, i < x.pn → π (i + 1) = i + 1 := fun h i hi => hN _ (by omega)
 refine ⟨hT.ok, fun hm g w vals hg hdl hda hlb => ?_⟩
 have h0 : ∀ a, π a = 0 ↔ a = 0 := fun a => ⟨fun e => hinj a 0 (e.trans h00.symm), fun e => e ▸ h00⟩
 let g0 : Gh := { dom := fun b => g.dom (π b), ι := fun b => g.ι (π b), imm := g.imm, hid := g.hid, flr := g.flr }
 have hD : ∀ b, g0.dom b ↔ g.dom (π b) := fun _ => Iff.rfl
 have hι : ∀ b, g0.dom b → g0.ι b = g.ι (π b) := fun _ _ => rfl
 have hg0 : GOk g0 w := ⟨fun b l hl => hg.own _ l hl, fun b b' l l' h1 h2 e => hinj _ _ (hg.inj _ _ l l' h1 h2 e), hg.immlt, hg.hlt, hg.himm, fun b l hl => hg.hown _ l hl, hg.flr⟩
 have hdl0 : ∀ b, g0.dom b → b < h.length := fun b hb => by
  rcases Nat.lt_or_ge b h.length with h1 | h1
  ·exact h1
  ·have := hdl _ hb; rw [hnew b h1] at this; omega
 have hlb0 : ∀ b, lbden P w g0 b (hget h b) := fun b => by
  rcases Nat.lt_or_ge b h.length with h1 | h1
  ·obtain ⟨h2, hn2, h3⟩ := hbk b h1
   have h4 := hlb (π b)
   rw [h3] at h4
   by_cases hd : g0.dom b
   ·exact (lb_renT (g := g0) (g' := g) rfl rfl h0 hD (fun _ => rfl) hd h2 (hpn hn2)).2 h4
   ·have hn : g.ι (π b) = none := by
     cases hi : g.ι (π b) with
     | none => rfl
     | some l => exact absurd (hg.own _ _ hi).1 hd
    rw [lb_none (c := 0) h2 hn h4]; trivial
  ·rw [hget_big h1]; trivial
 refine (hT.run hm g0 w vals hg0 hdl0 ((denL_ren hD hι args).2 hda) hlb0).mono ?_
 rintro _ w' ⟨v, s, h', g1, rfl, q, k1, k2, k3, k4, k5⟩
 let g' : Gh := { dom := fun B => (∃ a, π a = B ∧ g1.dom a) ∨ ((∀ a, π a ≠ B) ∧ g.dom B), ι := fun B => if hx : ∃ a, π a = B then g1.ι hx.choose else g.ι B, imm := g1.imm, hid := g1.hid, flr := g1.flr }
 have hin : ∀ a, g'.ι (π a) = g1.ι a := fun a => by
  have hx : ∃ b, π b = π a := ⟨a, rfl⟩
  simp only [g', dif_pos hx]
  rw [hinj _ _ hx.choose_spec]
 have hout : ∀ B, (∀ a, π a ≠ B) → g'.ι B = g.ι B := fun B hB => by
  have hx : ¬ ∃ b, π b = B := fun ⟨b, e⟩ => hB b e
  simp only [g', dif_neg hx]
 have hD1 : ∀ b, g1.dom b ↔ g'.dom (π b) := fun b => by
  constructor
  ·intro hb; exact .inl ⟨b, rfl, hb⟩
  ·rintro (⟨a, e, ha⟩ | ⟨hB, _⟩)
   ·rw [← hinj _ _ e]; exact ha
   ·exact absurd rfl (hB b)
 have hι1 : ∀ b, g1.dom b → g1.ι b = g'.ι (π b) := fun b _ => (hin b).symm
 have hcase : ∀ B, (∃ a, π a = B) ∨ ∀ a, π a ≠ B := fun B => by
  by_cases hx : ∃ a, π a = B
  ·exact .inl hx
  ·exact .inr fun a e => hx ⟨a, e⟩
 have hmix : ∀ a B l l', g1.ι a = some l → (∀ a, π a ≠ B) → g.ι B = some l' → l.blk ≠ l'.blk := fun a B l l' h1 hB h2 e => by
  rcases k5.newι a l h1 with h3 | ⟨b0, l0, h3, h4⟩
  ·have := (hg.own _ _ h2).2.1; omega
  ·exact hB b0 (hg.inj _ _ _ _ h3 h2 (h4.trans e))
 have hsmall : ∀ a, g.dom (π a) → a < h.length := fun a ha => hdl0 a ha
 have hext : Exw H.length g w g' w' := by
  refine ⟨k5.os, k5.tape, k5.output, k5.size, fun B _ hB => ?_, fun B _ hB => ?_, k5.imm, k5.hno, k5.flr, k5.newhid, fun r hr hh hn => k5.old r hr hh fun b l hl => hn (π b) l hl, fun B l hl => ?_, fun r hr => ?_⟩
  ·rcases hcase B with ⟨a, rfl⟩ | hB'
   ·exact .inl ⟨a, rfl, k5.dom a (hsmall a hB) hB⟩
   ·exact .inr ⟨hB', hB⟩
  ·rcases hcase B with ⟨a, rfl⟩ | hB'
   ·rw [hin]; exact k5.ι a (hsmall a hB) hB
   ·exact .inl (hout B hB')
  ·rcases hcase B with ⟨a, rfl⟩ | hB'
   ·rw [hin] at hl
    rcases k5.newι a l hl with h3 | ⟨b0, l0, h3, h4⟩
    ·exact .inl h3
    ·exact .inr ⟨π b0, l0, h3, h4⟩
   ·rw [hout B hB'] at hl; exact .inr ⟨B, l, hl, rfl⟩
  ·rcases k5.newimm r hr with h3 | h3 | ⟨b0, l0, h3, h4⟩ | h3
   ·exact .inl h3
   ·exact .inr (.inl h3)
   ·exact .inr (.inr (.inl ⟨π b0, l0, h3, h4⟩))
   ·exact .inr (.inr (.inr h3))
 have hok : GOk g' w' := by
  refine ⟨fun B l hl => ?_, fun B B' l l' h1 h2 e => ?_, k1.immlt, k1.hlt, k1.himm, fun B l hl hr => ?_, k1.flr⟩
  ·rcases hcase B with ⟨a, rfl⟩ | hB
   ·rw [hin] at hl
    obtain ⟨h3, h4, h5⟩ := k1.own a l hl
    exact ⟨(hD1 a).1 h3, h4, h5⟩
   ·rw [hout B hB] at hl
    obtain ⟨h3, h4, h5⟩ := hg.own B l hl
    refine ⟨.inr ⟨hB, h3⟩, Nat.lt_of_lt_of_le h4 k5.size, fun hi => ?_⟩
    rcases k5.newimm _ hi with h6 | h6 | ⟨b0, l0, h6, h7⟩ | h6
    ·exact h5 h6
    ·omega
    ·exact hB b0 (hg.inj _ _ _ _ h6 hl h7)
    ·exact hg.hown B l hl h6
  ·rcases hcase B with ⟨a, rfl⟩ | hB <;> rcases hcase B' with ⟨a', rfl⟩ | hB'
   ·rw [hin] at h1 h2; rw [k1.inj a a' l l' h1 h2 e]
   ·rw [hin] at h1; rw [hout B' hB'] at h2; exact absurd e (hmix a B' l l' h1 hB' h2)
   ·rw [hout B hB] at h1; rw [hin] at h2; exact absurd e.symm (hmix a' B l' l h2 hB h1)
   ·rw [hout B hB] at h1; rw [hout B' hB'] at h2; exact hg.inj B B' l l' h1 h2 e
  ·rcases hcase B with ⟨a, rfl⟩ | hB
   ·rw [hin] at hl
    exact k1.hown a l hl hr
   ·rw [hout B hB] at hl
    rcases k5.newhid l.blk hr with h6 | h6
    ·exact hg.hown B l hl h6
    ·have := (hg.own B l hl).2.1; omega
 let H' : List LB := (List.range (H.length + (h'.length - h.length))).map fun B => if hx : ∃ a, π a = B then renT π (hget h' hx.choose) else hget H B
 have hH : ∀ B, hget H' B = if B < H.length + (h'.length - h.length) then (if hx : ∃ a, π a = B then renT π (hget h' hx.choose) else hget H B) else .dead := fun B => hget_range
 have hHin : ∀ a, a < h.length ∨ a < h'.length → hget H' (π a) = renT π (hget h' a) := fun a ha => by
  have hx : ∃ b, π b = π a := ⟨a, rfl⟩
  have hb : π a < H.length + (h'.length - h.length) := by
   rcases Nat.lt_or_ge a h.length with h1 | h1
   ·have := hlt a h1; omega
   ·rw [hnew a h1]; omega
  rw [hH, if_pos hb, dif_pos hx, hinj _ _ hx.choose_spec]
 have hHout : ∀ B, (∀ a, π a ≠ B) → hget H' B = hget H B := fun B hB => by
  have hx : ¬ ∃ b, π b = B := fun ⟨b, e⟩ => hB b e
  have hBl : B < H.length := by
   rcases Nat.lt_or_ge B H.length with h1 | h1
   ·exact h1
   ·exact absurd (by rw [hnew _ (by omega : h.length ≤ h.length + (B - H.length))]; omega) (hB (h.length + (B - H.length)))
  rw [hH, if_pos (by omega), dif_neg hx]
 have hHl : H'.length = H.length + (h'.length - h.length) := by simp [H']
 refine ⟨v, renS π s, H', g', rfl, ⟨s, h', q, rfl, hHl, hHin, hHout⟩, hok, fun B hB => ?_, (den_ren hD1 hι1 s).1 k3, fun B => ?_, hext⟩
 ·rw [hHl]
  rcases hB with ⟨a, rfl, ha⟩ | ⟨_, hB⟩
  ·have := k2 a ha
   rcases Nat.lt_or_ge a h.length with h1 | h1
   ·have := hlt a h1; omega
   ·rw [hnew a h1]; omega
  ·have := hdl B hB; omega
 ·rcases hcase B with ⟨a, rfl⟩ | hB
  ·by_cases ha : a < h.length ∨ a < h'.length
   ·rw [hHin a ha]
    by_cases hd : g1.dom a
    ·exact (lb_renT (g := g1) (g' := g') rfl rfl h0 hD1 (fun b => (hin b).symm) hd (hQ s h' q a).1 (hpn (hQ s h' q a).2)).1 (k4 a)
    ·have hn : g1.ι a = none := by
      cases hi : g1.ι a with
      | none => rfl
      | some l => exact absurd (k1.own _ _ hi).1 hd
     have h4 := k4 a
     have h2 := (hQ s h' q a).1
     cases hx : hget h' a with
     | dead => trivial
     | cells cs => rw [hx] at h4; obtain ⟨l, vs, t, k, _⟩ := h4; rw [hn] at k; cases k
     | arr e sz es => rw [hx] at h4; obtain ⟨l, vs, k, _⟩ := h4; rw [hn] at k; cases k
     | map es => rw [hx] at h4; obtain ⟨l, en, ix, k, _⟩ := h4; rw [hn] at k; cases k
     | tok Φ => rw [hx] at h4; obtain ⟨_, l, X, k, _⟩ := h4; rw [hn] at k; cases k
     | tokp m ls Φ => rw [hx] at h4; obtain ⟨_, _, l, X, k, _⟩ := h4; rw [hn] at k; cases k
     | _ => rw [hx] at h2; simp [LB.plainT, LB.plain] at h2
   ·rw [hget_big (l := H') (by rw [hHl, hnew a (by omega)]; omega)]; trivial
  ·rw [hHout B hB]
   refine lb_keep (g := g) (g' := g') (fun b hb => ?_) (fun b l hb hl => ?_) k5.imm (hext.immHeap hg) (fun l hl => ?_) (fun d hd l hl => ?_) (fun Φ e hd => ?_) (hlb B)
   ·rcases hcase b with ⟨a, rfl⟩ | hb'
    ·exact .inl ⟨a, rfl, k5.dom a (hsmall a hb) hb⟩
    ·exact .inr ⟨hb', hb⟩
   ·rcases hcase b with ⟨a, rfl⟩ | hb'
    ·rw [hin] at hl
     rcases k5.ι a (hsmall a hb) hb with e | e
     ·rw [e] at hl; exact hl
     ·rw [e] at hl; cases hl
    ·rw [hout b hb'] at hl; exact hl
   ·refine ⟨(hout B hB).trans hl, k5.old _ (hg.own B l hl).2.1 (hg.hown B l hl) fun b l' hl' e => hB b (hg.inj _ _ _ _ hl' hl e)⟩
   ·have hd' := hdep B hB d hd
    exact ⟨(hout d hd').trans hl, k5.old _ (hg.own d l hl).2.1 (hg.hown d l hl) fun b l' hl' e => hd' b (hg.inj _ _ _ _ hl' hl e)⟩
   ·rcases e with e | ⟨m, ls, e⟩ <;> (rw [e] at hd; exact absurd (h00.trans hd.1.symm) (hB 0))
theorem TSq.callY {α : Type} (pr : α → Prop) {t : TOper} {ts : List TOper} {σ : List SV} {H : List LB} {mks : List Nat} {K : St → Prop} {f : FuncId} {args args' : List SV} {h : List LB} {h1 : α → List LB} {s1 s' : α → SV} (pl : List Nat) (us : α → List (Nat × LB))
  (hT : TO P f args h fun s h' => ∃ x, pr x ∧ s = s1 x ∧ h' = h1 x) (hB : Nat.ble r.base H.length = true) (N : Nat) (hN : ∀ i, i ≤ N → piOf pl H.length i = i) (hg : guardK σ t.guard (· = true)) (hF : calleeK σ t.op fun f' a => f' = f ∧ a = args') (hlen : h.length = pl.length) (hnd : pl.Nodup) (hlt : ∀ p ∈ pl, p < H.length)
  (ha : renL (piOf pl H.length) args = args') (hbk : ∀ a, a < pl.length → (hget h a).plainT = true ∧ (hget h a).pn ≤ N ∧ hget H (piOf pl H.length a) = renT (piOf pl H.length) (hget h a)) (hit : meets pl (itersOf H) = false) (hil : allLt (itersOf H) H.length = true)
  (hle : ∀ x, pr x → pl.length ≤ (h1 x).length) (hs : ∀ x, pr x → renS (piOf pl H.length) (s1 x) = s' x)
  (hb1 : ∀ x, pr x → ∀ a, a < (h1 x).length → (hget (h1 x) a).plainT = true ∧ (hget (h1 x) a).pn ≤ N ∧ (us x)[a]? = some (piOf pl H.length a, renT (piOf pl H.length) (hget (h1 x) a))) (hul : ∀ x, pr x → (us x).length = (h1 x).length)
  (hK : ∀ x, pr x → Ev (setD σ t.dst (s' x) fun σ' => updK H (us x) fun H' => evR P r ts ⟨σ', H', mks⟩ K)) : TSq P r (t :: ts) ⟨σ, H, mks⟩ K := by
 have hnot : ∀ B, (∀ a, piOf pl H.length a ≠ B) → B ∉ pl := fun B hB hm => by
  have key : ∀ {pl : List Nat} {N : Nat}, B ∈ pl → ∃ a, piOf pl N a = B := by
   intro pl
   induction pl with
   | nil => intro N h; cases h
   | cons p ps ih =>
    intro N h
    rcases List.mem_cons.1 h with rfl | h
    ·exact ⟨0, rfl⟩
    ·obtain ⟨a, h2⟩ := ih (N := N) h
     exact ⟨a + 1, h2⟩
  obtain ⟨a, e⟩ := key (N := H.length) hm
  exact hB a e
 have hFr : TO P f args' H fun s' H' => ∃ s h', (∃ x, pr x ∧ s = s1 x ∧ h' = h1 x) ∧ s' = renS (piOf pl H.length) s ∧ AfterT (piOf pl H.length) H h' H' h.length := by
  rw [← ha]
  refine hT.frame (H := H) (piOf pl H.length) (piOf_inj hnd hlt) N hN (fun a ha => hlt _ (piOf_mem (by omega))) (fun a ha => by rw [hlen]; exact piOf_new (by omega)) (fun a ha => hbk a (by omega)) (fun B hB d hd a e => ?_) ?_
  ·have hd' := itersOf_mem hd
   have h1 : d ∉ pl := fun hm => by
    have : meets pl (itersOf H) = true := meets_iff.2 ⟨d, hm, hd'⟩
    rw [hit] at this; cases this
   have h2 := allLt_iff hil d hd'
   rcases Nat.lt_or_ge a pl.length with h | h
   ·exact h1 (e ▸ piOf_mem h)
   ·rw [piOf_new h] at e; omega
  ·rintro s h' ⟨x, hx, rfl, rfl⟩ b
   rcases Nat.lt_or_ge b (h1 x).length with hb | hb
   ·exact ⟨(hb1 x hx b hb).1, (hb1 x hx b hb).2.1⟩
   ·rw [hget_big hb]; exact ⟨rfl, Nat.zero_le _⟩
 refine TSq.callO hB hg (calleeK_const hF (hFr.same ?_))
 ·rintro _ H' ⟨_, _, ⟨x, hx, rfl, rfl⟩, rfl, hA⟩
  rw [hlen] at hA
  have hK := (hK x hx).at
  rw [setD_iff] at hK
  obtain ⟨H1, e1, l1, l2, l3⟩ := updK_wr hK
  refine ⟨H1, ?_, ?_, fun b => ?_⟩
  ·rw [hs x hx, setD_iff]
   exact Ev.go e1
  ·rw [hA.len]
   rcases Nat.lt_or_ge pl.length (h1 x).length with h | h
   ·have hm := (hb1 x hx ((h1 x).length - 1) (by omega)).2.2
    have := l2 _ (List.mem_of_getElem? hm)
    simp only at this
    rw [piOf_new (by omega)] at this
    omega
   ·omega
  ·rw [l3 b]
   by_cases hk : keys (us x) b
   ·obtain ⟨v, m1, m2⟩ := wr_in (W := us x) (hget H) hk
    rw [m2]
    obtain ⟨i, hi⟩ := List.getElem?_of_mem m1
    have hil : i < (h1 x).length := by have := (List.getElem?_eq_some_iff.1 hi).1; rw [hul x hx] at this; exact this
    have p2 := (hb1 x hx i hil).2.2
    rw [hi] at p2
    have p3 := Option.some.inj p2
    simp only [Prod.mk.injEq] at p3
    obtain ⟨rfl, rfl⟩ := p3
    exact (hA.in_ i (.inr hil)).symm
   ·rw [wr_out hk]
    by_cases hx' : ∃ a, piOf pl H.length a = b
    ·obtain ⟨a, rfl⟩ := hx'
     have hal : (h1 x).length ≤ a := by
      rcases Nat.lt_or_ge a (h1 x).length with h | h
      ·exact absurd (List.mem_map.2 ⟨_, List.mem_of_getElem? (hb1 x hx a h).2.2, rfl⟩) hk
      ·exact h
     have hle' := hle x hx
     rw [piOf_new (by omega), hget_big (by omega), hget_big (by rw [hA.len]; omega)]
    ·exact (hA.out b fun a e => hx' ⟨a, e⟩).symm
end
end Go.TV
/- The value calculus, part 2V: iterators that are given blocks. -/
namespace Go.TV
open Go.RowKit
def smlS (m : Nat) (cs : List SV) : Prop := ∀ N, fitL [(0, N)] (m + 1) cs cs True
def sG (l : Loc) (m : Nat) (ls : Nat → Loc) (H imm : Nat → Prop) : Gh :=
 { dom := fun b => b ≤ m, ι := fun b => match b with | 0 => some l | b + 1 => if b < m then some (ls b) else none, imm := imm, hid := some H, flr := 0 }
structure RStepL (m : Nat) (ls : Nat → Loc) (l : Nat) (H imm : Nat → Prop) (w : World) (H' imm' : Nat → Prop) (w' : World) : Prop where
 os : w'.os = w.os
 tape : w'.tape = w.tape
 output : w'.output = w.output
 size : w.heap.size ≤ w'.heap.size
 up : ∀ r, imm r → imm' r
 old : ∀ r, r < w.heap.size → ¬ H r → r ≠ l → (∀ i, i < m → r ≠ (ls i).blk) → w'.heap[r]? = w.heap[r]?
 newH : ∀ r, H' r → H r ∨ w.heap.size ≤ r
 newimm : ∀ r, imm' r → imm r ∨ w.heap.size ≤ r ∨ H r
def GivenB (P : Program) (m : Nat) (cs : List LB) (g : Gh) (w : World) : Prop := ∀ i, i < m → lbden P w g (i + 1) (hget cs i)
def YL (P : Program) (m : Nat) (ls : Nat → Loc) (cs : List LB) (Φ : TokP) (y : List SV) (Φ' Ψ : TokP) : Prop :=
 ∀ (l : Loc) (H imm : Nat → Prop) (w : World) (vals : List Value), GOk (sG l m ls H imm) w → Φ l.blk H imm w → denL w imm y (fun _ => False) (fun _ => none) vals → GivenB P m cs (sG l m ls H imm) w →
  ∃ fn tmps ac bc, (Instr.yield l.blk vals.toArray).run P w = .ok (.round l.blk fn tmps ac bc) w ∧ RoundIn (Fn none) 0 P l.blk fn tmps ac bc w fun e w' =>
   ∃ (b : Bool) (H' imm' : Nat → Prop), e = .returned (.bool b) ∧ RStepL m ls l.blk H imm w H' imm' w' ∧ GOk (sG l m ls H' imm') w' ∧ GivenB P m cs (sG l m ls H' imm') w' ∧
    (b = true → Tok Φ' l.blk H' imm' w') ∧ (b = false → Tok Ψ l.blk H' imm' w')
structure ITL (P : Program) (f : FuncId) (m : Nat) (fs cs : List SV) (hs : List LB) (R : List LB → Prop) (ys : List (List SV)) : Prop where
 ok : ∃ t, fnOf P f = some t
 run : P.follows .mixedOrders = true → ∀ (ls : Nat → Loc) (Φ : Nat → TokP) (Ψ : TokP), (∀ (i : Nat) (y : List SV), ys[i]? = some y → ∀ c, R c → YL P m ls c (Φ i) y (Φ (i + 1)) Ψ) →
  ∀ (l : Loc) (H imm : Nat → Prop) (w : World) (vf vc : List Value), GOk (sG l m ls H imm) w → (sG l m ls H imm).denL w fs vf → (sG l m ls H imm).denL w cs vc → GivenB P m hs (sG l m ls H imm) w → Tok (Φ 0) l.blk H imm w →
  CallsIn (Fn none) 0 P f (vf ++ .func (.yield l.blk) #[] #[] :: vc).toArray w fun e w' => ∃ v H' imm', e = .returned v ∧ Apart l.blk H' imm' w' ∧ (Tok (Φ ys.length) l.blk H' imm' w' ∨ Tok Ψ l.blk H' imm' w')
section
variable {P : Program} {r : Fr}
theorem smlS_den {m : Nat} {cs : List SV} (h : smlS m cs) {w : World} {imm D D' : Nat → Prop} {ι ι' : Env} {N : Nat} (hN : ¬ D N) (hD : ∀ n, n ≠ 0 → n ≤ m → D n → D' n) (hι : ∀ n l, n ≠ 0 → n ≤ m → ι' n = some l → ι n = some l) {vs : List Value}
  (hd : denL w imm cs D ι vs) : denL w imm cs D' ι' vs := by
 have e : ∀ n, n ≠ 0 → plOf [(0, N)] n = n := fun n hn => by
  cases n with
  | zero => exact absurd rfl hn
  | succ n => rfl
 have e0 : plOf [(0, N)] 0 = N := by simp [plOf]
 have h1 := (fitL_spec (w := w) (imm := imm) (D := D) (ι := ι) (pl := [(0, N)]) (L := m + 1) (D' := fun n => n ≠ 0 ∧ n ≤ m ∧ D n) (ι' := fun n => if n ≠ 0 then ι n else none) (fun n hn hdn => by
   by_cases h0 : n = 0
   ·subst h0; rw [e0] at hdn; exact absurd hdn hN
   ·rw [e n h0] at hdn; exact ⟨h0, by omega, hdn⟩) (fun n l hn hl => by
   by_cases h0 : n = 0
   ·subst h0; simp at hl
   ·rw [if_pos h0] at hl; rw [e n h0]; exact hl) cs cs (h N) hd).2
 exact denL.mono (fun _ h => h) (fun _ _ => rfl) _ (fun b hb => hD b hb.1 hb.2.1 hb.2.2) (fun b l hb hl => by rw [if_pos hb.1]; exact hι b l hb.1 hb.2.1 hl) h1
theorem sG_ι {l : Loc} {m : Nat} {ls : Nat → Loc} {H imm : Nat → Prop} {b : Nat} {k : Loc} (h : (sG l m ls H imm).ι b = some k) : (b = 0 ∧ k = l) ∨ ∃ i, i < m ∧ b = i + 1 ∧ k = ls i := by
 cases b with
 | zero => exact .inl ⟨rfl, (Option.some.inj h).symm⟩
 | succ b =>
  simp only [sG] at h
  split at h
  ·rename_i hb; exact .inr ⟨b, hb, rfl, (Option.some.inj h).symm⟩
  ·cases h
theorem sG_at {l : Loc} {m : Nat} {ls : Nat → Loc} {H imm : Nat → Prop} {i : Nat} (h : i < m) : (sG l m ls H imm).ι (i + 1) = some (ls i) := if_pos h
theorem ITL.of {f : FuncId} {t : TFn} {m : Nat} {fs cs : List SV} {hs : List LB} {R : List LB → Prop} {ys : List (List SV)} (hf : fnOf P f = some t) (hlen : hs.length = m)
  (hb : ∀ (ls : Nat → Loc) (Φ : Nat → TokP) (Ψ : TokP), (∀ (i : Nat) (y : List SV), ys[i]? = some y → ∀ c, R c → YL P m ls c (Φ i) y (Φ (i + 1)) Ψ) →
   TW P (frm none (m + 1) true) t.body ⟨fillJ (fs ++ .yield 0 :: cs) t.ntmps, .tokp m ls (Φ 0) :: hs, []⟩ (endK t.results fun _ h' => Vc (hget h' 0 = .tokp m ls (Φ ys.length) ∨ hget h' 0 = .tokp m ls Ψ))) : ITL P f m fs cs hs R ys := by
 subst hlen
 refine ⟨⟨t, hf⟩, fun hm ls Φ Ψ hy l H imm w vf vc hok h1 h2 h3 h4 => ?_⟩
 have hargs : (sG l hs.length ls H imm).denL w (fs ++ .yield 0 :: cs) (vf ++ .func (.yield l.blk) #[] #[] :: vc) := by
  refine denL_append h1 ?_
  simp only [denL]
  refine ⟨_, _, rfl, ?_, h2⟩
  simp only [den]
  refine ⟨Nat.zero_le _, ⟨l.blk, rfl⟩, fun l' h => ?_⟩
  cases h; rfl
 refine (body_run true hf (h := .tokp hs.length ls (Φ 0) :: hs) (by simpa using hb ls Φ Ψ hy) hm (sG l hs.length ls H imm) w _ (by simp) hok (fun b hb => by have : b ≤ hs.length := hb; simp; omega) hargs (fun b => ?_)).mono ?_
 ·cases b with
  | zero => exact ⟨rfl, fun i hi => ⟨hi, fun k hk => by rw [sG_at hi] at hk; exact (Option.some.inj hk).symm⟩, l, H, rfl, rfl, h4⟩
  | succ b =>
   rcases Nat.lt_or_ge b hs.length with hbl | hbl
   ·exact h3 b hbl
   ·have : hget (LB.tokp hs.length ls (Φ 0) :: hs) (b + 1) = .dead := hget_ge (by simpa using hbl)
    rw [this]; trivial
 ·rintro _ w' ⟨v, s, h', g', rfl, q, k1, k2, k3, k4, k5⟩
  have hend : ∀ Φ2, hget h' 0 = .tokp hs.length ls Φ2 → ∃ H' imm', Apart l.blk H' imm' w' ∧ Tok Φ2 l.blk H' imm' w' := by
   intro Φ2 e
   have hb := k4 0
   rw [e] at hb
   obtain ⟨_, _, l', H', i1, i2, i3⟩ := hb
   have hl : l' = l := by
    rcases k5.ι 0 (by simp) (Nat.zero_le _) with q | q
    ·rw [q] at i1; cases i1; rfl
    ·rw [q] at i1; cases i1
   subst hl
   have hH : ∀ r, H' r → g'.hd r := fun r h => ⟨H', i2, h⟩
   exact ⟨H', g'.imm, ⟨(k1.own 0 l' i1).2.1, fun r hr => k1.hlt r (hH r hr), k1.immlt, fun r hr => k1.himm r (hH r hr), (k1.own 0 l' i1).2.2, fun h => k1.hown 0 l' i1 (hH _ h)⟩, i3⟩
  rcases q.h with q | q
  ·obtain ⟨H', imm', h1, h2⟩ := hend _ q
   exact ⟨v, H', imm', rfl, h1, .inl h2⟩
  ·obtain ⟨H', imm', h1, h2⟩ := hend _ q
   exact ⟨v, H', imm', rfl, h1, .inr h2⟩
end
end Go.TV
/- The value calculus, part 2W: ranging over an iterator that is given blocks. -/
namespace Go.TV
open Go.RowKit
def Gh.give (g : Gh) (m : Nat) (ls : Nat → Loc) : Gh := { dom := g.dom, ι := fun b => match b with | 0 => g.ι 0 | b + 1 => if b < m then some (ls b) else g.ι (b + 1), imm := g.imm, hid := g.hid, flr := g.flr }
section
variable {P : Program} {r : Fr}
theorem give_out {g : Gh} {m : Nat} {ls : Nat → Loc} {b : Nat} (h : b = 0 ∨ m < b) : (g.give m ls).ι b = g.ι b := by
 cases b with
 | zero => rfl
 | succ b => exact if_neg (by omega)
theorem inout (b m : Nat) : (b = 0 ∨ m < b) ∨ ∃ i, i < m ∧ b = i + 1 := by
 rcases Nat.eq_zero_or_pos b with h | h
 ·exact .inl (.inl h)
 ·rcases Nat.lt_or_ge m b with h2 | h2
  ·exact .inl (.inr h2)
  ·exact .inr ⟨b - 1, by omega, by omega⟩
structure RInvL (P : Program) (r : Fr) (ro : Option Nat) (g0 : Gh) (w0 : World) (a1 : Act) (σc : List SV) (nl m : Nat) (ls : Nat → Loc) (h : List LB) (g : Gh) (w : World) : Prop where
 ok : GOk g w
 lt : ∀ b, g.dom b → b < h.length
 tm : (g.give m ls).denL w σc a1.tmps.toList
 hp : ∀ b, lbden P w (g.give m ls) b (hget h b)
 df : dfden (g.give m ls) w a1.defers
 no : ∀ i, i < m → g.ι (i + 1) = none ∧ g.dom (i + 1)
 dead : ∀ i, i < m → hget h (i + 1) = .dead
 nodep : ∀ c d, d ∈ (hget h c).deps → d = 0 ∨ m < d
 exw : Exw r.base g0 w0 (g.give m ls) w
 df0 : dfden g0 w0 a1.defers
 ro : roOK g0 r ro
 g0L : ∀ i, i < m → g0.ι (i + 1) = some (ls i)
def RTokL (P : Program) (r : Fr) (ro : Option Nat) (g0 : Gh) (w0 : World) (a1 : Act) (σc : List SV) (nl m : Nat) (ls : Nat → Loc) (ok : List LB → Prop) : TokP := fun l H imm w =>
 ∃ (g : Gh) (h : List LB), ok h ∧ RInvL P r ro g0 w0 a1 σc nl m ls h g w ∧ g.imm = imm ∧ (∃ ll, g.ι nl = some ll ∧ ll.blk = l) ∧ (∀ b l', g.ι b = some l' → l'.blk = l ∨ H l'.blk) ∧ (∀ q, g.hd q → H q) ∧ (∀ q, q < w0.heap.size → imm q ∨ q = l ∨ H q ∨ ∃ i, i < m ∧ (ls i).blk = q)
theorem RTokL.stable {ro : Option Nat} {g0 : Gh} {w0 : World} {a1 : Act} {σc : List SV} {nl m : Nat} {ls : Nat → Loc} {ok : List LB → Prop} {l : Nat} {H imm imm' : Nat → Prop} {w w' : World}
  (h : RTokL P r ro g0 w0 a1 σc nl m ls ok l H imm w) (ht : TStep l H imm w imm' w') (hlt : ∀ q, imm' q → q < w'.heap.size) : RTokL P r ro g0 w0 a1 σc nl m ls ok l H imm' w' := by
 obtain ⟨g, hh, hok, hi, rfl, ⟨ll, e1, e2⟩, hown, hhd, hold⟩ := h
 let g' : Gh := { dom := g.dom, ι := g.ι, imm := imm', hid := g.hid, flr := g.flr }
 have hblk : ∀ b l', g.ι b = some l' → w'.heap[l'.blk]? = w.heap[l'.blk]? := fun b l' hl => ht.old _ ((hown b l' hl).imp id .inl)
 have hih : ∀ q, g.imm q → w'.heap[q]? = w.heap[q]? := fun q hq => ht.old q (.inr (.inr hq))
 have hgok : GOk g' w' := by
  refine ⟨fun b l' hl => ?_, hi.ok.inj, hlt, fun q hq => Nat.lt_of_lt_of_le (hi.ok.hlt q hq) ht.size, fun q hq hh => ?_, hi.ok.hown, Nat.le_trans hi.ok.flr ht.size⟩
  ·obtain ⟨p1, p2, p3⟩ := hi.ok.own b l' hl
   refine ⟨p1, Nat.lt_of_lt_of_le p2 ht.size, fun hh => ?_⟩
   exact (ht.new _ hh).elim p3 fun q => q (hown b l' hl)
  ·exact (ht.new _ hh).elim (hi.ok.himm q hq) fun p => p (.inr (hhd q hq))
 have hL : ∀ q, (∃ i, i < m ∧ (ls i).blk = q) → ∃ b l, g0.ι b = some l ∧ l.blk = q := fun q ⟨i, hi', e⟩ => ⟨i + 1, ls i, hi.g0L i hi', e⟩
 refine ⟨g', hh, hok, ⟨hgok, hi.lt, denL.mono ht.up hih _ (fun _ h => h) (fun _ _ _ h => h) hi.tm, fun b => ?_, ?_, hi.no, hi.dead, hi.nodep, ?_, hi.df0, hi.ro, hi.g0L⟩, rfl, ⟨ll, e1, e2⟩, hown, hhd, fun q hq => (hold q hq).imp (ht.up q) id⟩
 ·rcases inout b m with hb | ⟨i, him, rfl⟩
  ·refine lb_keep (g := g.give m ls) (g' := g'.give m ls) (w := w) (fun _ h => h) (fun _ _ _ h => h) ht.up hih (fun l' hl => ⟨hl, hblk b l' (by rwa [give_out hb] at hl)⟩) (fun d hd l' hl => ⟨hl, hblk d l' (by rwa [give_out (hi.nodep b d hd)] at hl)⟩) (fun Φ e hd => ?_) (hi.hp b)
   have key : ∀ (l2 : Loc) (H2 : Nat → Prop), b = 0 → (g.give m ls).ι b = some l2 → g.hid = some H2 → Tok Φ l2.blk H2 g.imm w → Tok Φ l2.blk H2 imm' w' := fun l2 H2 i0 i1 i2 i3 => by
    have hH2 : ∀ q, H2 q → g.hd q := fun q h => ⟨H2, i2, h⟩
    have i1 : g.ι b = some l2 := by rwa [give_out hb] at i1
    refine i3.step ⟨ht.os, ht.tape, ht.output, ht.size, ht.up, fun q hq => ?_, fun q hq => ?_⟩
    ·rcases hq with rfl | hq | hq
     ·exact hblk b l2 i1
     ·exact ht.old q (.inr (.inl (hhd q (hH2 q hq))))
     ·exact hih q hq
    ·rcases ht.new q hq with p | p
     ·exact .inl p
     ·refine .inr fun hh => p ?_
      rcases hh with rfl | hh
      ·exact hown b l2 i1
      ·exact .inr (hhd q (hH2 q hh))
   rcases e with e | ⟨m2, ls2, e⟩
   ·rw [e] at hd ⊢
    obtain ⟨h0, l2, H2, i1, i2, i3⟩ := hd
    exact ⟨h0, l2, H2, i1, i2, key l2 H2 h0 i1 i2 i3⟩
   ·rw [e] at hd ⊢
    obtain ⟨h0, hp, l2, H2, i1, i2, i3⟩ := hd
    exact ⟨h0, hp, l2, H2, i1, i2, key l2 H2 h0 i1 i2 i3⟩
  ·rw [hi.dead i him]; trivial
 ·obtain ⟨rs, e1, e2, e3⟩ := hi.df
  obtain ⟨rs0, f1, f2, f3⟩ := hi.df0
  have hrs : rs = rs0 := by
   rw [e1] at f1
   have : Function.Injective markOf := fun a b h => by simpa [markOf] using h
   exact List.map_inj_right this |>.1 f1
  subst hrs
  refine ⟨rs, e1, e2, fun q hq => ?_⟩
  obtain ⟨k1, k2, k3, k4, k5⟩ := e3 q hq
  have hlt : q < w0.heap.size := (Array.getElem?_eq_some_iff.1 (f3 q hq).2.1).1
  have hin : g.imm q ∨ q = l ∨ H q := by
   rcases hold q hlt with h | h | h | h
   ·exact .inl h
   ·exact .inr (.inl h)
   ·exact .inr (.inr h)
   ·obtain ⟨b, l', h1, h2⟩ := hL q h
    exact absurd h2 ((f3 q hq).2.2.1 b l' h1)
  refine ⟨k1, (ht.old q (hin.elim (fun h => .inr (.inr h)) (fun h => h.imp id .inl))).trans k2, k3, k4, fun hh => ?_⟩
  rcases ht.new q hh with p | p
  ·exact k5 p
  ·rcases hin with h | h
   ·exact k5 h
   ·exact p h
 ·have hx := hi.exw
  refine ⟨ht.os.trans hx.os, ht.tape.trans hx.tape, ht.output.trans hx.output, Nat.le_trans hx.size ht.size, hx.dom, hx.ι, fun q hq => ht.up q (hx.imm q hq), hx.hno, hx.flr, hx.newhid, fun q hq hh hn => ?_, hx.newι, fun q hq => ?_⟩
  ·rw [← hx.old q hq hh hn]
   refine ht.old q ?_
   rcases hold q hq with h | h | h | h
   ·exact .inr (.inr h)
   ·exact .inl h
   ·exact .inr (.inl h)
   ·obtain ⟨b, l', h1, h2⟩ := hL q h
    exact absurd h2 (hn b l' h1)
  ·rcases ht.new q hq with p | p
   ·exact hx.newimm q p
   ·rcases Nat.lt_or_ge q w0.heap.size with h | h
    ·rcases hold q h with h | h | h | h
     ·exact hx.newimm q h
     ·exact absurd (.inl h) p
     ·exact absurd (.inr h) p
     ·exact .inr (.inr (.inl (hL q h)))
    ·exact .inr (.inl h)
theorem RTokL.tok {ro : Option Nat} {g0 : Gh} {w0 : World} {a1 : Act} {σc : List SV} {nl m : Nat} {ls : Nat → Loc} {ok : List LB → Prop} {l : Nat} {H imm : Nat → Prop} {w : World}
  (h : RTokL P r ro g0 w0 a1 σc nl m ls ok l H imm w) : Tok (RTokL P r ro g0 w0 a1 σc nl m ls ok) l H imm w := fun _ _ ht hlt => h.stable ht hlt
end
end Go.TV
/- The value calculus, part 2X: the statement that ranges over an iterator with given blocks. -/
namespace Go.TV
open Go.RowKit
section
variable {P : Program} {r : Fr}
end
end Go.TV
/- The value calculus, part 2Y: loops over iterators with given blocks, by the evaluator. -/
namespace Go.TV
open Go.RowKit
section
variable {P : Program} {r : Fr}
theorem ITL.ev {f : FuncId} {t : TFn} {m : Nat} {fs cs : List SV} {hs : List LB} {R : List LB → Prop} {γ : Type} {L : List γ} {enc : γ → List SV} (hf : fnOf P f = some t) (hlen : hs.length = m)
  (hb : ∀ (ls : Nat → Loc) (Φ : Nat → TokP) (Ψ : TokP), (∀ (i : Nat) (v : γ), L[i]? = some v → ∀ c, R c → YL P m ls c (Φ i) (enc v) (Φ (i + 1)) Ψ) →
   Ev (catK fs (.yield 0 :: cs) fun as => evC P (frm none (m + 1) true) t.body ⟨fillJ as t.ntmps, .tokp m ls (Φ 0) :: hs, []⟩ (endK t.results fun _ h' => Vc (hget h' 0 = .tokp m ls (Φ L.length) ∨ hget h' 0 = .tokp m ls Ψ)))) : ITL P f m fs cs hs R (L.map enc) := by
 refine ITL.of hf hlen fun ls Φ Ψ hy => ?_
 have := catK_iff (hb ls Φ Ψ fun i v hv c hc => hy i (enc v) (by simp [hv]) c hc).at
 rw [List.length_map]
 exact evC_sound this
end
end Go.TV
/- The value calculus, part 2Z: iterators that lend blocks of their own to a round. -/
namespace Go.TV
open Go.RowKit
def cloB : LB → Prop
 | .cells cs => cloL cs
 | .arr _ _ es => cloL es
 | .map es => cloM es
 | _ => False
def YN (P : Program) (m : Nat) (cs : List LB) (Φ : TokP) (y : List SV) (Φ' Ψ : TokP) : Prop :=
 ∀ (ls : Nat → Loc) (l : Loc) (H imm : Nat → Prop) (w : World) (vals : List Value), GOk (sG l m ls H imm) w → Φ l.blk H imm w → (sG l m ls H imm).denL w y vals → GivenB P m cs (sG l m ls H imm) w →
  ∃ fn tmps ac bc, (Instr.yield l.blk vals.toArray).run P w = .ok (.round l.blk fn tmps ac bc) w ∧ RoundIn (Fn none) 0 P l.blk fn tmps ac bc w fun e w' =>
   ∃ (b : Bool) (H' imm' : Nat → Prop), e = .returned (.bool b) ∧ RStepL m ls l.blk H imm w H' imm' w' ∧ GOk (sG l m ls H' imm') w' ∧ GivenB P m cs (sG l m ls H' imm') w' ∧
    (b = true → Tok Φ' l.blk H' imm' w') ∧ (b = false → Tok Ψ l.blk H' imm' w')
structure ITN (P : Program) (f : FuncId) (m : Nat) (fs cs : List SV) {γ : Type} (L : List γ) (enc : γ → List SV) (cont : γ → List LB) : Prop where
 ok : ∃ t, fnOf P f = some t
 run : P.follows .mixedOrders = true → ∀ (Φ : Nat → TokP) (Ψ : TokP), (∀ (i : Nat) (v : γ), L[i]? = some v → YN P m (cont v) (Φ i) (enc v) (Φ (i + 1)) Ψ) →
  ∀ (l : Nat) (H imm : Nat → Prop) (w : World) (vf vc : List Value), Apart l H imm w → denL w imm fs (fun _ => False) (fun _ => none) vf → denL w imm cs (fun _ => False) (fun _ => none) vc → Tok (Φ 0) l H imm w →
  CallsIn (Fn none) 0 P f (vf ++ .func (.yield l) #[] #[] :: vc).toArray w fun e w' => ∃ v H' imm', e = .returned v ∧ Apart l H' imm' w' ∧ (Tok (Φ L.length) l H' imm' w' ∨ Tok Ψ l H' imm' w')
structure Shf (m nl : Nat) (y y' : List SV) : Prop where
 len : y'.length = y.length
 den : ∀ {w : World} {imm D D' : Nat → Prop} {ι ι' : Env} {vals : List Value}, (∀ i, i < m → D (i + 1) → D' (nl + 1 + i)) → (∀ i l, i < m → ι' (nl + 1 + i) = some l → ι (i + 1) = some l) → denL w imm y D ι vals → denL w imm y' D' ι' vals
section
variable {P : Program} {r : Fr}
theorem cloB_den {x : LB} (h : cloB x) {g g' : Gh} {w : World} {b b' : Nat} (himm : ∀ q, g.imm q → g'.imm q) (hb : ∀ l, g.ι b = some l → g'.ι b' = some l) (hd : lbden P w g b x) : lbden P w g' b' x := by
 cases x with
 | cells cs =>
  obtain ⟨l, vs, t, h1, h2, h3⟩ := hd
  exact ⟨l, vs, t, hb l h1, h2, denL.mono himm (fun _ _ => rfl) _ (fun _ h => h) (fun _ _ _ h => h) (cloL_den (D' := g'.dom) (ι' := g'.ι) _ h h3)⟩
 | arr e sz es =>
  obtain ⟨l, vs, h1, hn, h2, h3, h4⟩ := hd
  exact ⟨l, vs, hb l h1, hn, denL.mono himm (fun _ _ => rfl) _ (fun _ h => h) (fun _ _ _ h => h) (cloL_den (D' := g'.dom) (ι' := g'.ι) _ h h2), h3, h4⟩
 | map es =>
  obtain ⟨l, ents, idx, h1, h2, h3, h4, h5⟩ := hd
  exact ⟨l, ents, idx, hb l h1, h2, h3, h4, denM.mono himm (fun _ _ => rfl) _ (fun _ h => h) (fun _ _ _ h => h) (cloM_den (D' := g'.dom) (ι' := g'.ι) h h5)⟩
 | _ => exact h.elim
theorem cloB_placed {x : LB} (h : cloB x) {g : Gh} {w : World} {b : Nat} (hd : lbden P w g b x) : ∃ l, g.ι b = some l := by
 cases x with
 | cells cs => obtain ⟨l, vs, t, h1, _⟩ := hd; exact ⟨l, h1⟩
 | arr e sz es => obtain ⟨l, vs, h1, _⟩ := hd; exact ⟨l, h1⟩
 | map es => obtain ⟨l, ents, idx, h1, _⟩ := hd; exact ⟨l, h1⟩
 | _ => exact h.elim
theorem TSq.yieldN {t : TOper} {ts : List TOper} {S : St} {K : St → Prop} {x : TOpd} {xs : List TOpd} {y : List SV} {m : Nat} {cs : List LB} {Φ Φ' Ψ : TokP} (hg : guardK S.σ t.guard (· = true))
  (ht : t.op = .callv x xs) (hx : gv S.σ x = .yield 0) (hb : hget S.h 0 = .tok Φ) (hni : itersOf S.h = []) (hy : mapK S.σ xs fun as => as = y) (hcl : smlS m y) (hc : ∀ i, i < m → hget S.h (i + 1) = hget cs i) (hsm : ∀ i, i < m → cloB (hget cs i))
  (hs : YN P m cs Φ y Φ' Ψ)
  (h1 : Ev (setD S.σ t.dst (.bool true) fun σ' => updK S.h [(0, .tok Φ')] fun h' => evR P r ts ⟨σ', h', S.mks⟩ K))
  (h0 : Ev (setD S.σ t.dst (.bool false) fun σ' => updK S.h [(0, .tok Ψ)] fun h' => evR P r ts ⟨σ', h', S.mks⟩ K)) : TSq P r (t :: ts) S K := by
 rw [TSq_iff]
 intro hm A i g a w ro Q hd hsim hr hq hp
 obtain ⟨o, hget', e, hdrop⟩ := drop_cons hd
 subst e
 have hget' : A[i]? = some o := by simpa using hget'
 rw [List.length_cons]
 obtain ⟨hdst, hcc⟩ := cOper_cases P A false o
 rcases hcc with ⟨hop, hgd⟩ | ⟨hbad, hgd⟩
 case inr => rw [hbad] at ht; cases ht
 have hw := guard_wanted hg hgd fun _ _ _ _ _ => getS_den hsim.tm _
 refine wpOps_cons hget' ?_
 rw [if_pos hw]
 rw [hop] at ht
 obtain ⟨c, fo, ho, hcal, hcs⟩ := cOp_call (P := P) (op := o.op) (by rw [ht]; rfl)
 have hcs : cOp P o.op = .callv (cOpd fo) (c.args.toList.map cOpd) := by
  rcases hcs with ⟨f, _, e⟩ | e
  ·rw [ht] at e; cases e
  ·exact e
 rw [ht] at hcs
 simp only [TOp.callv.injEq] at hcs
 obtain ⟨rfl, rfl⟩ := hcs
 have hnd : ∀ c, o.op ≠ .defer c := by rw [ho]; simp
 rw [Oper.semAt_eq ro a.eval o hnd]
 have hfd : g.den w (gv S.σ (cOpd fo)) (a.eval fo) := opd_den fo fun t _ => getS_den hsim.tm t
 rw [hx] at hfd
 simp only [Gh.den, den] at hfd
 have hbd := hsim.hp 0
 rw [hb] at hbd
 obtain ⟨_, l, H, i1, i2, i3⟩ := hbd
 have hfv := hfd.2.2 l i1
 obtain ⟨ys, hys, hyd⟩ := mapK_spec hy
 subst hys
 have hH : ∀ r, H r ↔ g.hd r := fun r => ⟨fun h => ⟨H, i2, h⟩, fun ⟨H', e, h⟩ => by rw [i2] at e; cases e; exact h⟩
 have hld : ∀ i, i < m → lbden P w g (i + 1) (hget cs i) := fun i hi => by rw [← hc i hi]; exact hsim.hp (i + 1)
 let ls : Nat → Loc := fun i => (g.ι (i + 1)).getD ⟨0, 0, 0⟩
 have hli : ∀ i, i < m → g.ι (i + 1) = some (ls i) := fun i hi => by
  obtain ⟨k, hk⟩ := cloB_placed (hsm i hi) (hld i hi)
  simp only [ls, hk, Option.getD_some]
 have hsgι : ∀ b k, (sG l m ls H g.imm).ι b = some k → g.ι b = some k := fun b k hk => by
  rcases sG_ι hk with ⟨rfl, rfl⟩ | ⟨i, hi, rfl, rfl⟩
  ·exact i1
  ·exact hli i hi
 have hNg : ¬ g.dom S.h.length := fun h => Nat.lt_irrefl _ (hsim.lt _ h)
 have hap : GOk (sG l m ls H g.imm) w := by
  refine ⟨fun b k hk => ?_, fun b b' k k' h1 h2 e => hsim.ok.inj b b' k k' (hsgι b k h1) (hsgι b' k' h2) e, hsim.ok.immlt, fun r ⟨H', e, h⟩ => ?_, fun r ⟨H', e, h⟩ => ?_, fun b k hk ⟨H', e, h⟩ => ?_, Nat.zero_le _⟩
  ·obtain ⟨p1, p2, p3⟩ := hsim.ok.own b k (hsgι b k hk)
   refine ⟨?_, p2, p3⟩
   rcases sG_ι hk with ⟨rfl, _⟩ | ⟨i, hi, rfl, _⟩
   ·exact Nat.zero_le _
   ·exact hi
  ·cases e; exact hsim.ok.hlt r ((hH r).1 h)
  ·cases e; exact hsim.ok.himm r ((hH r).1 h)
  ·cases e; exact hsim.ok.hown b k (hsgι b k hk) ((hH _).1 h)
 have hvals : (sG l m ls H g.imm).denL w ys (c.args.toList.map a.eval) := smlS_den hcl hNg (fun n h1 h2 _ => h2) (fun n k h1 h2 hk => hsgι n k hk) (hyd (w := w) (imm := g.imm) (D := g.dom) (ι := g.ι) a.eval fun x _ => opd_den x fun t _ => getS_den hsim.tm t)
 have hgiv : GivenB P m cs (sG l m ls H g.imm) w := fun i hi => by
  refine cloB_den (hsm i hi) (g := g) (fun _ h => h) (fun k hk => ?_) (hld i hi)
  rw [sG_at hi, ← hli i hi]; exact hk
 obtain ⟨fn, tmps, ac, bc, hrun, hround⟩ := hs ls l H g.imm w _ hap (i3 _ _ (TStep.refl _ _ _ _) hsim.ok.immlt) hvals hgiv
 have hex : (execOp a.eval o).run P w = .ok (.round l.blk fn tmps ac bc) w := by
  obtain ⟨dst, op, ty, pos, aft, gd⟩ := o
  simp only at ho
  subst ho
  simp only [execOp, resolve, hcal, hfv, Deferred.ofValue, Sem.run_bind, Sem.run_pure, Result.andThen, invoke]
  rw [← hrun]
  congr 2
  apply Array.ext'
  simp
 rw [hex, Oper.uponIn_round]
 refine ⟨fun h => by simp [Fn, Fence.wide] at h, RoundIn.mono (show RoundIn (Fn ro) 0 P l.blk fn tmps ac bc w _ from hround) ?_⟩
 rintro _ w' ⟨b, H', imm', rfl, hst, hap', hgiv', ht1, ht0⟩
 have hblk : ∀ b' l', g.ι b' = some l' → m < b' → w'.heap[l'.blk]? = w.heap[l'.blk]? := fun b' l' hl hne =>
  hst.old _ (hsim.ok.own b' l' hl).2.1 (fun h => hsim.ok.hown b' l' hl ((hH _).1 h)) (fun e => by have := hsim.ok.inj b' 0 l' l hl i1 e; omega) fun i hi e => by have := hsim.ok.inj b' (i + 1) l' _ hl (hli i hi) e; omega
 have hih : ∀ r, g.imm r → w'.heap[r]? = w.heap[r]? := fun r hr => hst.old r (hsim.ok.immlt r hr) (fun h => hsim.ok.himm r ((hH _).1 h) hr) (fun e => (hsim.ok.own 0 l i1).2.2 (e ▸ hr)) fun i hi e => (hsim.ok.own _ _ (hli i hi)).2.2 (e ▸ hr)
 let g' : Gh := { dom := g.dom, ι := g.ι, imm := imm', hid := some H', flr := g.flr }
 have hsm' : ∀ i, i < m → (sG l m ls H' imm').ι (i + 1) = some (ls i) := fun i hi => sG_at hi
 have hok : GOk g' w' := by
  refine ⟨fun b' l' hl => ?_, hsim.ok.inj, hap'.immlt, fun r ⟨H'', e, h⟩ => ?_, fun r ⟨H'', e, h⟩ => ?_, fun b' l' hl ⟨H'', e, h⟩ => ?_, Nat.le_trans hsim.ok.flr hst.size⟩
  ·obtain ⟨p1, p2, p3⟩ := hsim.ok.own b' l' hl
   refine ⟨p1, Nat.lt_of_lt_of_le p2 hst.size, fun hh => ?_⟩
   rcases hst.newimm _ hh with q | q | q
   ·exact p3 q
   ·omega
   ·exact hsim.ok.hown b' l' hl ((hH _).1 q)
  ·cases e; exact hap'.hlt r ⟨H', rfl, h⟩
  ·cases e; exact hap'.himm r ⟨H', rfl, h⟩
  ·cases e
   rcases hst.newH _ h with q | q
   ·exact hsim.ok.hown b' l' hl ((hH _).1 q)
   ·have := (hsim.ok.own b' l' hl).2.1; omega
 have hexw : Exw r.base g w g' w' := by
  refine ⟨hst.os, hst.tape, hst.output, hst.size, fun _ _ h => h, fun _ _ _ => .inl rfl, hst.up, fun h => ?_, rfl, fun r ⟨H'', e, h⟩ => ?_, fun r hr hh hn => ?_, fun b' l' hl => .inr ⟨b', l', hl, rfl⟩, fun r hr => ?_⟩
  ·rw [i2] at h; cases h
  ·cases e; exact (hst.newH r h).imp (hH r).1 id
  ·exact hst.old r hr (fun h => hh ((hH r).1 h)) (fun e => hn 0 l i1 e.symm) fun i hi e => hn _ _ (hli i hi) e.symm
  ·rcases hst.newimm r hr with q | q | q
   ·exact .inl q
   ·exact .inr (.inl q)
   ·exact .inr (.inr (.inr ((hH r).1 q)))
 have noit : ∀ c d, d ∉ (hget S.h c).deps := fun c d hd => by
  have := itersOf_mem hd
  rw [hni] at this
  cases this
 have fin : ∀ (b : Bool) (Φ2 : TokP), Tok Φ2 l.blk H' imm' w' → (setD S.σ o.dst (.bool b) fun σ' => updK S.h [(0, .tok Φ2)] fun h' => evR P r ts ⟨σ', h', S.mks⟩ K) → wpOpsIn (Fn ro) 0 P A Q (List.range' (i + 1) ts.length) (a.put o.dst (.bool b)) w' := by
  intro b Φ2 htok hK
  obtain ⟨σ', p1, p2⟩ := put_tm (g := g') (w := w') (a := a) hK (denL.mono hst.up hih _ (fun _ h => h) (fun _ _ _ h => h) hsim.tm) (show g'.den w' (.bool b) (.bool b) by simp only [Gh.den, den])
  obtain ⟨h', k1, k2, k3, k4⟩ := updK_spec p1
  refine evR_sound k1 hm A (i + 1) g' (a.put o.dst (.bool b)) w' ro Q hdrop ⟨hok, fun c hc => Nat.lt_of_lt_of_le (hsim.lt c hc) k2, p2, fun c => ?_, ?_⟩ (hexw.ro hr) (fun S'' g'' a'' w'' r1 r2 r3 => hq S'' g'' a'' w'' r1 r2 (hexw.trans r3)) (hp.trans hexw)
  ·rcases k4 c with ⟨p, hp, rfl, e⟩ | ⟨hno, e⟩
   ·simp only [List.mem_singleton] at hp
    subst hp
    simp only at e ⊢
    rw [e]
    exact ⟨rfl, l, H', i1, rfl, htok⟩
   ·simp only at e ⊢
    rw [e]
    have hc0 : c ≠ 0 := fun e => hno (0, .tok Φ2) (by simp) e.symm
    by_cases hcm : c ≤ m
    ·obtain ⟨i, rfl⟩ : ∃ i, c = i + 1 := ⟨c - 1, by omega⟩
     have hi : i < m := by omega
     rw [hc i hi]
     refine cloB_den (hsm i hi) (g := sG l m ls H' imm') (fun _ h => h) (fun k hk => ?_) (hgiv' i hi)
     rw [hsm' i hi] at hk; rw [← hk]; exact hli i hi
    ·refine lb_keep (g := g) (w := w) (fun _ h => h) (fun _ _ _ h => h) hst.up hih (fun l' hl => ⟨hl, hblk c l' hl (by omega)⟩) (fun d hd l' hl => absurd hd (noit c d)) (fun Φ3 e q => ?_) (hsim.hp c)
     rcases e with e | ⟨m, ls, e⟩ <;> (rw [e] at q; exact absurd q.1 hc0)
  ·have : (a.put o.dst (.bool b)).defers = a.defers := by cases o.dst <;> rfl
   rw [this]
   exact hexw.df hsim.df
 cases b with
 | true => have := h1.at; rw [hdst] at this; exact fin true Φ' (ht1 rfl) this
 | false => have := h0.at; rw [hdst] at this; exact fin false Ψ (ht0 rfl) this
theorem ITN.of {f : FuncId} {t : TFn} {m : Nat} {fs cs : List SV} {γ : Type} {L : List γ} {enc : γ → List SV} {cont : γ → List LB} (hf : fnOf P f = some t) (hcf : cloL fs) (hcc : cloL cs)
  (hb : ∀ (Φ : Nat → TokP) (Ψ : TokP), (∀ (i : Nat) (v : γ), L[i]? = some v → YN P m (cont v) (Φ i) (enc v) (Φ (i + 1)) Ψ) →
   TW P (frm none 1 true) t.body ⟨fillJ (fs ++ .yield 0 :: cs) t.ntmps, [.tok (Φ 0)], []⟩ (endK t.results fun _ h' => Vc (hget h' 0 = .tok (Φ L.length) ∨ hget h' 0 = .tok Ψ))) : ITN P f m fs cs L enc cont := by
 refine ⟨⟨t, hf⟩, fun hm Φ Ψ hy l H imm w vf vc hap h1 h2 h3 => ?_⟩
 let g : Gh := { dom := fun b => b = 0, ι := fun b => if b = 0 then some ⟨l, 0, 0⟩ else none, imm := imm, hid := some H, flr := 0 }
 have hι : ∀ b l', g.ι b = some l' → b = 0 ∧ l' = ⟨l, 0, 0⟩ := by
  intro b l' h
  simp only [g] at h
  split at h
  ·rename_i e; exact ⟨e, (Option.some.inj h).symm⟩
  ·cases h
 have hok : GOk g w := by
  refine ⟨fun b l' h => ?_, fun b b' l1 l2 k1 k2 _ => by rw [(hι b l1 k1).1, (hι b' l2 k2).1], hap.ilt, fun r ⟨H', e, h⟩ => by cases e; exact hap.hlt r h, fun r ⟨H', e, h⟩ => by cases e; exact hap.hi r h, fun b l' h ⟨H', e, q⟩ => ?_, Nat.zero_le _⟩
  ·obtain ⟨rfl, rfl⟩ := hι b l' h
   exact ⟨rfl, hap.llt, hap.li⟩
  ·obtain ⟨rfl, rfl⟩ := hι b l' h
   cases e; exact hap.lh q
 have hargs : g.denL w (fs ++ .yield 0 :: cs) (vf ++ .func (.yield l) #[] #[] :: vc) := by
  refine denL_append (cloL_den fs hcf h1) ?_
  simp only [denL]
  refine ⟨_, _, rfl, ?_, cloL_den cs hcc h2⟩
  simp only [den]
  refine ⟨rfl, ⟨l, rfl⟩, fun l' h => ?_⟩
  obtain ⟨_, rfl⟩ := hι 0 l' h
  rfl
 refine (body_run true hf (h := [.tok (Φ 0)]) (hb Φ Ψ hy) hm g w _ (by simp) hok (fun b hb => by simp only [g] at hb; subst hb; simp) hargs (fun b => ?_)).mono ?_
 ·cases b with
  | zero => exact ⟨rfl, ⟨l, 0, 0⟩, H, by simp [g], rfl, h3⟩
  | succ b => exact trivial
 ·rintro _ w' ⟨v, s, h', g', rfl, q, k1, k2, k3, k4, k5⟩
  have hend : ∀ Φ2, hget h' 0 = .tok Φ2 → ∃ H' imm', Apart l H' imm' w' ∧ Tok Φ2 l H' imm' w' := by
   intro Φ2 e
   have hb := k4 0
   rw [e] at hb
   obtain ⟨_, l', H', i1, i2, i3⟩ := hb
   have hl : l'.blk = l := by
    rcases k5.ι 0 (by simp) rfl with q | q
    ·rw [q] at i1
     obtain ⟨_, rfl⟩ := hι 0 l' i1
     rfl
    ·rw [q] at i1; cases i1
   subst hl
   have hH : ∀ r, H' r → g'.hd r := fun r h => ⟨H', i2, h⟩
   exact ⟨H', g'.imm, ⟨(k1.own 0 l' i1).2.1, fun r hr => k1.hlt r (hH r hr), k1.immlt, fun r hr => k1.himm r (hH r hr), (k1.own 0 l' i1).2.2, fun h => k1.hown 0 l' i1 (hH _ h)⟩, i3⟩
  rcases q.h with q | q
  ·obtain ⟨H', imm', q1, q2⟩ := hend _ q
   exact ⟨v, H', imm', rfl, q1, .inl q2⟩
  ·obtain ⟨H', imm', q1, q2⟩ := hend _ q
   exact ⟨v, H', imm', rfl, q1, .inr q2⟩
theorem ITN.ev {f : FuncId} {t : TFn} {m : Nat} {fs cs : List SV} {γ : Type} {L : List γ} {enc : γ → List SV} {cont : γ → List LB} (hf : fnOf P f = some t) (hcf : cloL fs) (hcc : cloL cs)
  (hb : ∀ (Φ : Nat → TokP) (Ψ : TokP), (∀ (i : Nat) (v : γ), L[i]? = some v → YN P m (cont v) (Φ i) (enc v) (Φ (i + 1)) Ψ) →
   Ev (catK fs (.yield 0 :: cs) fun as => evC P (frm none 1 true) t.body ⟨fillJ as t.ntmps, [.tok (Φ 0)], []⟩ (endK t.results fun _ h' => Vc (hget h' 0 = .tok (Φ L.length) ∨ hget h' 0 = .tok Ψ)))) : ITN P f m fs cs L enc cont := by
 refine ITN.of hf hcf hcc fun Φ Ψ hy => ?_
 have := catK_iff (hb Φ Ψ hy).at
 exact evC_sound this
end
end Go.TV
/- The value calculus, part 3A: ranging over an iterator that lends blocks. -/
namespace Go.TV
open Go.RowKit
section
variable {P : Program} {r : Fr}
theorem hget_append_ge : ∀ {h k : List LB} {i : Nat}, hget (h ++ k) (h.length + i) = hget k i
 | [], _, _ => by simp
 | _ :: h, k, i => by
  have := hget_append_ge (h := h) (k := k) (i := i)
  rw [show (_ :: h : List LB).length + i = (h.length + i) + 1 by simp; omega]
  exact this
def Gh.lend (g : Gh) (n m : Nat) (ls : Nat → Loc) : Gh :=
 { dom := fun b => g.dom b ∨ (n ≤ b ∧ b < n + m), ι := fun b => if n ≤ b ∧ b < n + m then some (ls (b - n)) else g.ι b, imm := g.imm, hid := g.hid, flr := g.flr }
theorem lend_at {g : Gh} {n m : Nat} {ls : Nat → Loc} {i : Nat} (h : i < m) : (g.lend n m ls).ι (n + i) = some (ls i) := by
 simp only [Gh.lend]
 rw [if_pos ⟨by omega, by omega⟩]
 congr 2
 omega
theorem lend_out {g : Gh} {n m : Nat} {ls : Nat → Loc} {b : Nat} (h : b < n) : (g.lend n m ls).ι b = g.ι b := by
 simp only [Gh.lend]
 rw [if_neg (by omega)]
theorem lend_cases {g : Gh} {n m : Nat} {ls : Nat → Loc} {b : Nat} {l : Loc} (h : (g.lend n m ls).ι b = some l) : g.ι b = some l ∨ ∃ i, i < m ∧ b = n + i ∧ l = ls i := by
 simp only [Gh.lend] at h
 split at h
 ·rename_i hc; exact .inr ⟨b - n, by omega, by omega, (Option.some.inj h).symm⟩
 ·exact .inl h
theorem Sim.lend {g : Gh} {σ : List SV} {h : List LB} {mks : List Nat} {a : Act} {w : World} (hs : Sim P g ⟨σ, h, mks⟩ a w) {ls : Nat → Loc} {c : List LB} {m : Nat} (hcm : c.length = m)
  (h1 : ∀ i, i < m → (ls i).blk < w.heap.size ∧ ¬ g.imm (ls i).blk ∧ ¬ g.hd (ls i).blk) (h2 : ∀ i b l, i < m → g.ι b = some l → l.blk ≠ (ls i).blk) (h3 : ∀ i j, i < m → j < m → (ls i).blk = (ls j).blk → i = j)
  (h4 : ∀ i, i < m → lbden P w (g.lend h.length m ls) (h.length + i) (hget c i)) (h5 : ∀ rs : List Nat, a.defers = rs.map markOf → ∀ q ∈ rs, ∀ i, i < m → (ls i).blk ≠ q) :
  Sim P (g.lend h.length m ls) ⟨σ, h ++ c, mks⟩ a w := by
 have hlt : ∀ b, g.dom b → b < h.length := hs.lt
 have hold : ∀ b l, g.dom b → (g.lend h.length m ls).ι b = some l → g.ι b = some l := fun b l hb hl => by rwa [lend_out (hlt b hb)] at hl
 have hnew : ∀ b l, g.ι b = some l → (g.lend h.length m ls).ι b = some l := fun b l hl => by rw [lend_out (hlt b (hs.ok.own b l hl).1)]; exact hl
 refine ⟨⟨fun b l hl => ?_, fun b b' l l' hl hl' e => ?_, hs.ok.immlt, hs.ok.hlt, hs.ok.himm, fun b l hl => ?_, hs.ok.flr⟩, fun b hb => ?_, denL.mono (fun _ h => h) (fun _ _ => rfl) _ (fun _ h => .inl h) hold hs.tm, fun b => ?_, ?_⟩
 ·rcases lend_cases hl with q | ⟨i, hi, rfl, rfl⟩
  ·obtain ⟨p1, p2, p3⟩ := hs.ok.own b l q
   exact ⟨.inl p1, p2, p3⟩
  ·exact ⟨.inr ⟨by omega, by omega⟩, (h1 i hi).1, (h1 i hi).2.1⟩
 ·rcases lend_cases hl with q | ⟨i, hi, rfl, rfl⟩ <;> rcases lend_cases hl' with q' | ⟨j, hj, rfl, rfl⟩
  ·exact hs.ok.inj b b' l l' q q' e
  ·exact absurd e (h2 j b l hj q)
  ·exact absurd e.symm (h2 i b' l' hi q')
  ·rw [h3 i j hi hj e]
 ·rcases lend_cases hl with q | ⟨i, hi, rfl, rfl⟩
  ·exact hs.ok.hown b l q
  ·exact (h1 i hi).2.2
 ·rcases hb with hb | hb
  ·have := hlt b hb; simp; omega
  ·simp; omega
 ·rcases Nat.lt_or_ge b h.length with q | q
  ·simp only
   rw [hget_append_lt q]
   refine lb_keep (g := g) (g' := g.lend h.length m ls) (w := w) (w' := w) (fun _ h => .inl h) hold (fun _ h => h) (fun _ _ => rfl) (fun l hl => ⟨hnew b l hl, rfl⟩) (fun d _ l hl => ⟨hnew d l hl, rfl⟩) (fun Φ e hd => ?_) (hs.hp b)
   rcases e with e | ⟨m2, ls2, e⟩
   ·rw [e] at hd ⊢
    obtain ⟨h0, l2, H2, i1, i2, i3⟩ := hd
    exact ⟨h0, l2, H2, hnew _ _ i1, i2, i3⟩
   ·rw [e] at hd ⊢
    obtain ⟨h0, hp, l2, H2, i1, i2, i3⟩ := hd
    exact ⟨h0, fun i hi => ⟨.inl (hp i hi).1, fun k hk => (hp i hi).2 k (hold _ _ (hp i hi).1 hk)⟩, l2, H2, hnew _ _ i1, i2, i3⟩
  ·obtain ⟨i, rfl⟩ : ∃ i, b = h.length + i := ⟨b - h.length, by omega⟩
   simp only
   rw [hget_append_ge]
   rcases Nat.lt_or_ge i m with hi | hi
   ·exact h4 i hi
   ·rw [hget_ge (by omega)]; trivial
 ·obtain ⟨rs, e1, e2, e3⟩ := hs.df
  refine ⟨rs, e1, e2, fun q hq => ?_⟩
  obtain ⟨k1, k2, k3, k4, k5⟩ := e3 q hq
  refine ⟨k1, k2, fun b l hl => ?_, k4, k5⟩
  rcases lend_cases hl with p | ⟨i, hi, rfl, rfl⟩
  ·exact k3 b l p
  ·exact h5 rs e1 q hq i hi
theorem Wk.fitI {B : Nat} (pl : List (Nat × Nat)) {S T : St} (h : fitS B pl S T) {g : Gh} {a : Act} {w : World} (hs : Sim P g S a w) : Sim P (g.ren pl T.h.length T.h) T a w ∧ Exw B g w (g.ren pl T.h.length T.h) w := by
 have h := lenK_iff _ _ h
 simp only [ltK_iff] at h
 obtain ⟨hB, h⟩ := h
 obtain ⟨hb, h⟩ := basesK_spec h
 obtain ⟨hdi, h⟩ := distK_spec h
 have hD : ∀ n, n < T.h.length → g.dom (plOf pl n) → (g.ren pl T.h.length T.h).dom n := fun n h1 h2 => ⟨h1, h2⟩
 have hι : ∀ n l, n < T.h.length → (g.ren pl T.h.length T.h).ι n = some l → g.ι (plOf pl n) = some l := fun n l _ h => (ren_ι h).1
 obtain ⟨h, htm⟩ := fitL_spec hD hι _ _ h hs.tm
 obtain ⟨_, hhp⟩ := fitH_spec (P := P) (n := 0) rfl hs.hp (fun m => by simp) h
 refine ⟨⟨⟨fun b l hl => ?_, fun b b' l l' hl hl' e => ?_, hs.ok.immlt, hs.ok.hlt, hs.ok.himm, fun b l hl => hs.ok.hown _ l (ren_ι hl).1, hs.ok.flr⟩, fun b hb => hb.1, htm, fun b => by simpa using hhp b, ?_⟩,
  ⟨rfl, rfl, rfl, Nat.le_refl _, fun b hb' hd => ⟨by omega, by rw [hb b hb']; exact hd⟩, fun b hb' _ => ?_, fun _ h => h, fun h => h, rfl, fun r hr => .inl hr, fun _ _ _ _ => rfl, fun b l hl => .inr ⟨_, l, (ren_ι hl).1, rfl⟩, fun r hr => .inl hr⟩⟩
 ·obtain ⟨q1, q2, q3⟩ := ren_ι hl
  obtain ⟨p1, p2, p3⟩ := hs.ok.own _ l q1
  exact ⟨⟨q2, p1⟩, p2, p3⟩
 ·obtain ⟨q1, q2, q3⟩ := ren_ι hl
  obtain ⟨p1, p2, p3⟩ := ren_ι hl'
  exact hdi b b' q3 p3 (hs.ok.inj _ _ _ _ q1 p1 e)
 ·obtain ⟨rs, e1, e2, e3⟩ := hs.df
  exact ⟨rs, e1, e2, fun r hr => let ⟨k1, k2, k3, k4, k5⟩ := e3 r hr; ⟨k1, k2, fun b l hl => k3 _ l (ren_ι hl).1, k4, k5⟩⟩
 ·simp only [Gh.ren]
  split
  ·rw [hb b hb']; exact .inl rfl
  ·exact .inr rfl
structure Done (P : Program) (nl m : Nat) (σc : List SV) (c h3 T : List LB) : Prop where
 wk : WkH P (nl + 1 + m) h3 (T ++ c)
 len : T.length = nl + 1
 fit : fitS (nl + 1) [] ⟨σc, T ++ c, []⟩ ⟨σc, T, []⟩
theorem roundT_ysN {ro : Option Nat} {g0 : Gh} {w0 : World} {a1 : Act} {σc : List SV} {mks : List Nat} {nl m : Nat} {ps : List Nat} {as bd : TCode} {y y' : List SV} {c : List LB} {ok okT okF : List LB → Prop} (hm : P.follows .mixedOrders = true)
  (hB : r.base ≤ nl + 1) (hσ : fitL [] (nl + 1 + m) σc σc True) (hlen : y.length = ps.length) (hcm : c.length = m) (hcl : ∀ i, i < m → cloB (hget c i)) (hsh : Shf m nl y y')
  (hT : ∀ h, okT h → ∃ st pend σ ps as bd, hget h nl = .loop st pend σ ps as bd) (hF : ∀ h, okF h → ∃ st pend σ ps as bd, hget h nl = .loop st pend σ ps as bd)
  (hok : ∀ h, ok h → h.length = nl + 1 ∧ hget h nl = .loop .ready none σc ps as bd ∧ RoundT P (frm (some nl) (nl + 1 + m) r.opn) nl as bd ⟨putPs σc ps y', h ++ c, []⟩ fun j h3 => match j with
   | none => ∃ T, Done P nl m σc c h3 T ∧ okT T
   | some _ => ∃ T, Done P nl m σc c h3 T ∧ okF T) : YN P m c (RTok P r ro g0 w0 a1 σc mks nl ok) y (RTok P r ro g0 w0 a1 σc mks nl okT) (RTok P r ro g0 w0 a1 σc mks nl okF) := by
 intro ls l H imm w vals hap hΦ hvals hgiv
 obtain ⟨g, hh, hokh, hi, rfl, ⟨ll, e1, e2⟩, hown, hhd, hold⟩ := hΦ
 obtain ⟨hhl, hget1, hround⟩ := hok hh hokh
 have hsl : (sG l m ls H g.imm).ι 0 = some l := rfl
 have hlsown : ∀ i, i < m → (ls i).blk < w.heap.size ∧ ¬ g.imm (ls i).blk ∧ (ls i).blk ≠ ll.blk ∧ ¬ H (ls i).blk := fun i hi => by
  obtain ⟨p1, p2, p3⟩ := hap.own (i + 1) (ls i) (sG_at hi)
  refine ⟨p2, p3, fun e => ?_, fun h => hap.hown (i + 1) (ls i) (sG_at hi) ⟨H, rfl, h⟩⟩
  have := hap.inj (i + 1) 0 (ls i) l (sG_at hi) hsl (e.trans e2)
  omega
 have hls0 : ∀ i, i < m → w0.heap.size ≤ (ls i).blk := fun i hi => by
  obtain ⟨p1, p2, p3, p4⟩ := hlsown i hi
  rcases Nat.lt_or_ge (ls i).blk w0.heap.size with q | q
  ·rcases hold _ q with q | q | q
   ·exact absurd q p2
   ·exact absurd (q.trans e2.symm) p3
   ·exact absurd q p4
  ·exact q
 let g1 := g.lend hh.length m ls
 have hg1ι : ∀ b l', g1.ι b = some l' → g.ι b = some l' ∨ ∃ i, i < m ∧ b = hh.length + i ∧ l' = ls i := fun b l' h => lend_cases h
 have hgive : ∀ i, i < m → lbden P w g1 (hh.length + i) (hget c i) := fun i hi =>
  cloB_den (hcl i hi) (g := sG l m ls H g.imm) (fun _ h => h) (fun k hk => by rw [sG_at hi] at hk; rw [lend_at hi]; exact hk) (hgiv i hi)
 have hmk : ∀ rs : List Nat, a1.defers = rs.map markOf → ∀ q ∈ rs, q < w0.heap.size := fun rs e q hq => by
  obtain ⟨rs0, f1, f2, f3⟩ := hi.df0
  have hrs : rs = rs0 := by
   rw [e] at f1
   have : Function.Injective markOf := fun a b h => by simpa [markOf] using h
   exact List.map_inj_right this |>.1 f1
  subst hrs
  exact (Array.getElem?_eq_some_iff.1 (f3 q hq).2.1).1
 have s1 : Sim P g1 ⟨σc, hh ++ c, mks⟩ a1 w := hi.sim.lend hcm (fun i h => ⟨(hlsown i h).1, (hlsown i h).2.1, fun q => (hlsown i h).2.2.2 (hhd _ q)⟩) (fun i b l' h hl e => by
   rcases hown b l' hl with q | q
   ·exact (hlsown i h).2.2.1 (by rw [← e, q]; exact e2.symm)
   ·exact (hlsown i h).2.2.2 (e ▸ q)) (fun i j h1 h2 e => by have := hap.inj _ _ _ _ (sG_at h1) (sG_at h2) e; omega) hgive (fun rs e q hq i h hne => by have := hmk rs e q hq; have := hls0 i h; omega)
 have hx1 : Exw (nl + 1) g w g1 w ∨ True := .inr trivial
 have e1' : g1.ι nl = some ll := by rw [lend_out (by omega)]; exact e1
 obtain ⟨lb, lln, lc⟩ := l
 simp only at e2
 subst e2
 have hget1' : hget (hh ++ c) nl = .loop .ready none σc ps as bd := by rw [hget_append_lt (by omega)]; exact hget1
 obtain ⟨l', q, q1, q2, q3, q4, q5, q6, q7, q8, _⟩ := s1.loopAt hget1'
 rw [e1'] at q1; cases q1
 have hvl : vals.length = y.length := denL_len hvals
 refine ⟨q.fn, _, q.assign, q.body, run_yield q2 (by rw [q4]; simp [hvl, hlen]), ?_⟩
 rw [q4]
 have htm : g1.denL w (putPs σc ps y') ((ps.toArray.zip vals.toArray).foldl (fun tmps (x : Nat × Value) => tmps.setIfInBounds x.1 x.2) q.tmps).toList := by
  have hv' : g1.denL w y' vals := hsh.den (D := (sG ⟨ll.blk, lln, lc⟩ m ls H g.imm).dom) (D' := g1.dom) (ι := (sG ⟨ll.blk, lln, lc⟩ m ls H g.imm).ι) (ι' := g1.ι) (fun i h _ => .inr ⟨by omega, by omega⟩) (fun i l2 h hl => by
   rw [← hhl, lend_at h] at hl; rw [sG_at h]; exact hl) hvals
  have := putPs_den (ps := ps) q6 hv'
  rw [← foldl_toList] at this
  have e : ps.toArray.zip vals.toArray = (ps.zip vals).toArray := by simp
  rw [e]
  simpa using this
 have hnl : nl < nl + 1 + m := by omega
 have hg1r : roOK g1 r ro := by
  obtain ⟨r1, r2⟩ := hi.ro
  refine ⟨r1, ?_⟩
  cases hlp : r.lp with
  | none => rw [hlp] at r2; exact r2
  | some b =>
   rw [hlp] at r2
   obtain ⟨p1, p2, q, p3, p4⟩ := r2
   exact ⟨p1, .inl p2, q, p3, fun l2 h2 => p4 l2 (by rw [lend_out (by omega)] at h2; exact h2)⟩
 have hr1 : ∀ g', Exw (nl + 1 + m) g1 w g' w → roOK g' (frm (some nl) (nl + 1 + m) r.opn) (some ll.blk) := fun g' hx => by
  refine ⟨fun ho => hx.hno (hi.ro.1 ho), hnl, hx.dom nl hnl (s1.ok.own nl ll e1').1, ll.blk, rfl, fun l3 h3 => ?_⟩
  rcases hx.ι nl hnl (s1.ok.own nl ll e1').1 with h | h
  ·rw [h, e1'] at h3; cases h3; rfl
  ·rw [h] at h3; cases h3
 refine roundIn_of_wpIn trivial (?_ : q.assign.wpIn (Fn (some ll.blk)) 0 P _ _ w)
 refine hround hm q.assign g1 { tmps := _, defers := [] } w (some ll.blk) _ q7 ⟨s1.ok, s1.lt, htm, s1.hp, ⟨[], rfl, List.nodup_nil, by simp⟩⟩ (hr1 g1 (Exw.refl _ _ _)) (fun j S' g' a' w' hQ hs' hx' => ?_) PanOK.frm
 cases j with
 | some j => exact hQ.elim
 | none =>
  simp only at hQ
  obtain ⟨σ2, ps2, as2, bd2, hg2, hQ⟩ := loopRK_spec hQ
  obtain ⟨l2, q', c1, c2, c3, c4, c5, c6, c7, c8, c9⟩ := hs'.loopAt hg2
  have hl2 : l2 = ll := by
   rcases hx'.ι nl hnl (s1.ok.own nl ll e1').1 with h | h
   ·rw [h, e1'] at c1; cases c1; rfl
   ·rw [h] at c1; cases c1
  subst hl2
  obtain ⟨h', d1, d2, rfl⟩ := c9 .busy none
  have hlt : nl < S'.h.length := hs'.lt nl (hs'.ok.own nl l2 c1).1
  refine ⟨_, run_beginRound c2 c3, ?_⟩
  have hQ := updGo_set hlt hQ
  have hq5 : q'.pending = none := by rw [c5]; rfl
  have hwq : w'.putObj l2.blk (.loop { q' with state := .busy }) = w'.putObj l2.blk (.loop { q' with state := .busy, pending := (none : Option Jump).map Jump.code }) := by
   congr 2
   obtain ⟨⟩ := q'
   simp at hq5 ⊢
   exact hq5
  rw [hwq]
  have hx2 : Exw (nl + 1 + m) g1 w g' (w'.putObj l2.blk (.loop { q' with state := .busy, pending := (none : Option Jump).map Jump.code })) := hx'.trans (d2.exw _)
  have hro2 : roOK g' (frm (some nl) (nl + 1 + m) r.opn) (some l2.blk) := d2.ro (hx'.ro (hr1 g1 (Exw.refl _ _ _)))
  have fin : ∀ (j : Option Jump) (S3 : St) (g3 : Gh) (a3 : Act) (w3 : World), (endR nl j S3 fun h3 => match j with
   | none => ∃ T, Done P nl m σc c h3 T ∧ okT T
   | some _ => ∃ T, Done P nl m σc c h3 T ∧ okF T) → Sim P g3 S3 a3 w3 → Exw (nl + 1 + m) g1 w g3 w3 → ∃ v w4, (Instr.endRound l2.blk (j.map Jump.code)).run P w3 = .ok v w4 ∧
    ∃ (b : Bool) (H' imm' : Nat → Prop), Ending.returned v = .returned (.bool b) ∧ RStepL m ls l2.blk H g.imm w H' imm' w4 ∧ GOk (sG ⟨l2.blk, lln, lc⟩ m ls H' imm') w4 ∧ GivenB P m c (sG ⟨l2.blk, lln, lc⟩ m ls H' imm') w4 ∧
     (b = true → Tok (RTok P r ro g0 w0 a1 σc mks nl okT) l2.blk H' imm' w4) ∧ (b = false → Tok (RTok P r ro g0 w0 a1 σc mks nl okF) l2.blk H' imm' w4) := by
   intro j S3 g3 a3 w3 hE hs3 hx3
   obtain ⟨st3, pend3, σ3, ps3, as3, bd3, hg3, hE⟩ := loopK_spec hE
   obtain ⟨l3, q3, f1, f2, f3, f4, f5, f6, f7, f8, f9⟩ := hs3.loopAt hg3
   have hl3 : l3 = l2 := by
    rcases hx3.ι nl hnl (s1.ok.own nl l2 e1').1 with h | h
    ·rw [h, e1'] at f1; cases f1; rfl
    ·rw [h] at f1; cases f1
   subst hl3
   obtain ⟨h', m1, m2, rfl⟩ := f9 (if j.isNone then .ready else .done) j
   have hE := updGo_set (hs3.lt nl (hs3.ok.own nl l3 f1).1) hE
   refine ⟨_, _, run_endRound (j.map Jump.code) f2, j.isNone, ?_⟩
   have hjn : (j.map Jump.code).isNone = j.isNone := by cases j <;> rfl
   rw [hjn]
   generalize hw4 : w3.putObj l3.blk (.loop { q3 with state := if j.isNone then .ready else .done, pending := j.map Jump.code }) = w4 at m1 m2 ⊢
   have hbase : Sim P g3 ⟨[], S3.h.set nl (.loop (if j.isNone then .ready else .done) j σ3 ps3 as3 bd3), []⟩ { tmps := #[], defers := [] } w4 := ⟨m1.ok, m1.lt, by simp [Gh.denL, denL], m1.hp, ⟨[], rfl, List.nodup_nil, by simp⟩⟩
   have hx4 : Exw (nl + 1 + m) g1 w g3 w4 := hx3.trans (m2.exw _)
   have key : ∀ (okX : List LB → Prop), (∀ h, okX h → ∃ st pend σ ps as bd, hget h nl = .loop st pend σ ps as bd) → (∃ T, Done P nl m σc c (S3.h.set nl (.loop (if j.isNone then .ready else .done) j σ3 ps3 as3 bd3)) T ∧ okX T) →
     ∃ (H' imm' : Nat → Prop), RStepL m ls l3.blk H g.imm w H' imm' w4 ∧ GOk (sG ⟨l3.blk, lln, lc⟩ m ls H' imm') w4 ∧ GivenB P m c (sG ⟨l3.blk, lln, lc⟩ m ls H' imm') w4 ∧ Tok (RTok P r ro g0 w0 a1 σc mks nl okX) l3.blk H' imm' w4 := by
    rintro okX hX ⟨T, ⟨hwk, hTl, hfit⟩, hok4⟩
    obtain ⟨g4, s4, x4⟩ := hwk g3 _ w4 hbase
    have hx5 : Exw (nl + 1 + m) g1 w g4 w4 := hx4.trans x4
    have s4' : Sim P g4 ⟨σc, T ++ c, mks⟩ a1 w4 := ⟨s4.ok, s4.lt, hx5.denL_kept s1.ok hσ s1.tm, s4.hp, hx5.df s1.df⟩
    have hlent : ∀ i, i < m → g4.ι (nl + 1 + i) = some (ls i) := fun i hi => by
     have hb := s4.hp (nl + 1 + i)
     simp only at hb
     rw [← hTl, hget_append_ge] at hb
     obtain ⟨k, hk⟩ := cloB_placed (hcl i hi) hb
     rw [hTl] at hk
     rcases hx5.ι (nl + 1 + i) (by omega) (.inr ⟨by omega, by omega⟩) with h | h
     ·rw [h, ← hhl]; exact lend_at hi
     ·rw [h] at hk; cases hk
    obtain ⟨s5, x5⟩ := Wk.fitI (B := nl + 1) [] (S := ⟨σc, T ++ c, mks⟩) (T := ⟨σc, T, mks⟩) hfit s4'
    simp only at s5 x5
    generalize hg5 : g4.ren [] T.length T = g5 at s5 x5
    have himm5 : g5.imm = g4.imm := by rw [← hg5]; rfl
    have hhid5 : g5.hid = g4.hid := by rw [← hg5]; rfl
    have hhd5 : ∀ q, g5.hd q → g4.hd q := fun q ⟨H2, e, h⟩ => ⟨H2, hhid5 ▸ e, h⟩
    have hι5 : ∀ b l', g5.ι b = some l' → g4.ι b = some l' ∧ b < nl + 1 := fun b l' hl => by
     rw [← hg5] at hl
     obtain ⟨p1, p2, _⟩ := ren_ι hl
     exact ⟨p1, hTl ▸ p2⟩
    obtain ⟨st, pend, σ', ps', as', bd', hg4⟩ := hX T hok4
    have hl5 : g5.ι nl = some l3 := by
     have := s5.hp nl
     simp only at this
     rw [hg4] at this
     obtain ⟨l5, fn, tmps, ac, bc, d, z1, _⟩ := this
     have z2 := (hι5 nl l5 z1).1
     rcases hx5.ι nl hnl (s1.ok.own nl l3 e1').1 with h | h
     ·rw [z1]; rw [h, e1'] at z2; exact z2.symm
     ·rw [h] at z2; cases z2
    have hol := s5.ok.own nl l3 hl5
    have hnels : ∀ i b l', i < m → g5.ι b = some l' → l'.blk ≠ (ls i).blk := fun i b l' hi hl e => by
     obtain ⟨p1, p2⟩ := hι5 b l' hl
     have := s4.ok.inj _ _ _ _ p1 (hlent i hi) e
     omega
    have hnewι : ∀ b l', g5.ι b = some l' → l'.blk = l3.blk ∨ (l'.blk ≠ l3.blk ∧ ¬ g5.imm l'.blk ∧ (H l'.blk ∨ w.heap.size ≤ l'.blk) ∧ l'.blk < w4.heap.size) := by
     intro b l' hl
     by_cases e : l'.blk = l3.blk
     ·exact .inl e
     ·refine .inr ⟨e, (s5.ok.own b l' hl).2.2, ?_, (s5.ok.own b l' hl).2.1⟩
      rcases hx5.newι b l' (hι5 b l' hl).1 with h | ⟨b0, l0, h1, h2⟩
      ·exact .inr h
      ·rcases hg1ι b0 l0 h1 with h1 | ⟨i, hi, _, rfl⟩
       ·rcases hown b0 l0 h1 with h | h
        ·exact absurd (h2 ▸ h) e
        ·exact .inl (h2 ▸ h)
       ·exact absurd h2.symm (hnels i b l' hi hl)
    have hnewhd : ∀ q, g5.hd q → (q ≠ l3.blk ∧ ¬ g5.imm q ∧ (H q ∨ w.heap.size ≤ q) ∧ q < w4.heap.size) := by
     intro q hq
     exact ⟨fun e => s5.ok.hown nl l3 hl5 (e ▸ hq), s5.ok.himm q hq, (hx5.newhid q (hhd5 q hq)).imp (hhd q) id, s5.ok.hlt q hq⟩
    have hx6 : Exw r.base g0 w0 g5 w4 := by
     have hx := hi.exw
     have hxa : Exw r.base g0 w0 g1 w := by
      refine ⟨hx.os, hx.tape, hx.output, hx.size, fun b hb hd => .inl (hx.dom b hb hd), fun b hb hd => ?_, hx.imm, hx.hno, hx.flr, hx.newhid, hx.old, fun b l' hl => ?_, hx.newimm⟩
      ·rw [lend_out (by omega)]; exact hx.ι b hb hd
      ·rcases hg1ι b l' hl with h | ⟨i, hi, _, rfl⟩
       ·exact hx.newι b l' h
       ·exact .inl (hls0 i hi)
     exact hxa.trans ((hx5.le (by omega)).trans (x5.le hB))
    have hinH : ∀ q, (q ≠ l3.blk ∧ ¬ g5.imm q ∧ (H q ∨ w.heap.size ≤ q) ∧ q < w4.heap.size) → ∀ i, i < m → (ls i).blk ≠ q := by
     rintro q ⟨_, _, h3, _⟩ i hi rfl
     obtain ⟨p1, p2, p3, p4⟩ := hlsown i hi
     rcases h3 with h3 | h3
     ·exact p4 h3
     ·omega
    refine ⟨fun q => q ≠ l3.blk ∧ ¬ g5.imm q ∧ (H q ∨ w.heap.size ≤ q) ∧ q < w4.heap.size, g5.imm, ⟨hx5.os, hx5.tape, hx5.output, hx5.size, fun q hq => by rw [himm5]; exact hx5.imm q hq, fun q hq hH hne hnl' => ?_, fun q hq => hq.2.2.1, fun q hq => ?_⟩, ?_, fun i hi => ?_,
     RTok.tok ⟨g5, T, hok4, ⟨s5, hx6, hi.df0, (x5.le hB).ro ((hx5.le (by omega)).ro hg1r)⟩, rfl, ⟨l3, hl5, rfl⟩, hnewι, hnewhd, fun q hq => ?_⟩⟩
    ·exact hx5.old q hq (fun h => hH (hhd q h)) fun b l' hl e => by
      rcases hg1ι b l' hl with hl | ⟨i, hi, _, rfl⟩
      ·rcases hown b l' hl with h | h
       ·exact hne (e ▸ h)
       ·exact hH (e ▸ h)
      ·exact hnl' i hi e.symm
    ·rw [himm5] at hq
     rcases hx5.newimm q hq with h | h | ⟨b, l', h1, h2⟩ | h
     ·exact .inl h
     ·exact .inr (.inl h)
     ·rcases hg1ι b l' h1 with h1 | ⟨i, hi, _, rfl⟩
      ·rcases hown b l' h1 with h3 | h3
       ·rw [← h2, h3] at hq; exact absurd (himm5 ▸ hq) hol.2.2
       ·exact .inr (.inr (h2 ▸ h3))
      ·exact absurd (h2 ▸ hq) (s4.ok.own _ _ (hlent i hi)).2.2
     ·exact .inr (.inr (hhd q h))
    ·refine ⟨fun b k hk => ?_, fun b b' k k' h1 h2 e => ?_, s5.ok.immlt, fun q ⟨H'', e, h⟩ => by cases e; exact h.2.2.2, fun q ⟨H'', e, h⟩ => by cases e; exact h.2.1, fun b k hk ⟨H'', e, h⟩ => ?_, Nat.zero_le _⟩
     ·rcases sG_ι hk with ⟨rfl, rfl⟩ | ⟨i, hi, rfl, rfl⟩
      ·exact ⟨Nat.zero_le _, hol.2.1, hol.2.2⟩
      ·have := s4.ok.own _ _ (hlent i hi)
       exact ⟨hi, this.2.1, by rw [himm5]; exact this.2.2⟩
     ·rcases sG_ι h1 with ⟨rfl, rfl⟩ | ⟨i, hi', rfl, rfl⟩ <;> rcases sG_ι h2 with ⟨rfl, rfl⟩ | ⟨j, hj, rfl, rfl⟩
      ·rfl
      ·exact absurd e (hnels j nl l3 hj hl5)
      ·exact absurd e.symm (hnels i nl l3 hi' hl5)
      ·have := s4.ok.inj _ _ _ _ (hlent i hi') (hlent j hj) e; omega
     ·cases e
      rcases sG_ι hk with ⟨rfl, rfl⟩ | ⟨i, hi', rfl, rfl⟩
      ·exact h.1 rfl
      ·exact hinH _ h i hi' rfl
    ·have hb := s4.hp (nl + 1 + i)
     simp only at hb
     rw [← hTl, hget_append_ge] at hb
     refine cloB_den (hcl i hi) (g := g4) (fun q h => by show g5.imm q; rw [himm5]; exact h) (fun k hk => ?_) hb
     rw [hTl, hlent i hi] at hk
     rw [sG_at hi]; exact hk
    ·rcases hold q hq with h | h | h
     ·exact .inl (by rw [himm5]; exact hx5.imm q h)
     ·exact .inr (.inl h)
     ·by_cases hi4 : g5.imm q
      ·exact .inl hi4
      ·by_cases hql : q = l3.blk
       ·exact .inr (.inl hql)
       ·exact .inr (.inr ⟨hql, hi4, .inl h, Nat.lt_of_lt_of_le (Nat.lt_of_lt_of_le hq hi.exw.size) hx5.size⟩)
   cases j with
   | none =>
    obtain ⟨H', imm', k1, k2, k3, k4⟩ := key okT hT hE
    exact ⟨H', imm', rfl, k1, k2, k3, fun _ => k4, fun h => by cases h⟩
   | some j =>
    obtain ⟨H', imm', k1, k2, k3, k4⟩ := key okF hF hE
    exact ⟨H', imm', rfl, k1, k2, k3, (fun h => by cases h), fun _ => k4⟩
  refine hQ hm q.body g' a' _ (some l2.blk) _ q8 d1 hro2 (fun j S3 g3 a3 w3 hE hs3 hx3 => ?_) PanOK.frm
  obtain ⟨v, w4, hrun, hR⟩ := fin j S3 g3 a3 w3 hE hs3 (hx2.trans hx3)
  cases j with
  | none => exact ⟨v, w4, hrun, hR⟩
  | some j =>
   cases j with
   | ret => exact ⟨v, w4, hrun, hR⟩
   | exit id => exact ⟨v, w4, hrun, hR⟩
end
end Go.TV
/- The value calculus, part 3B: the statement that ranges over an iterator that lends blocks. -/
namespace Go.TV
open Go.RowKit
section
variable {P : Program} {r : Fr}
theorem TW.rfuncN {x : TOpd} {ps : List Nat} {as bd : TCode} {S : St} {Q : Option Jump → St → Prop} {f : FuncId} {m : Nat} {fs cs : List SV} {γ : Type} {L : List γ} {enc : γ → List SV} {cont : γ → List LB} (enc' : γ → List SV) (o : Bool) (σc : List SV) (nl : Nat)
  (hnl : nl = S.h.length) (hx : gv S.σ x = .fn f fs cs) (hcf : cloL fs) (hcc : cloL cs) (hit : ITN P f m fs cs L enc cont) (hlen : ∀ v, (enc v).length = ps.length) (hsh : ∀ v, Shf m nl (enc v) (enc' v)) (hcont : ∀ v, (cont v).length = m ∧ ∀ i, i < m → cloB (hget (cont v) i))
  (ho : match r.lp with
   | none => o = true
   | some b => o = false ∧ loopK (hget S.h b) fun _ _ _ _ => True)
  (hB : r.base ≤ nl + 1) (hσ : fitL [] (nl + 1 + m) σc σc True)
  (ok : Nat → List LB → Prop) (okF : Jump → List LB → Prop)
  (h0 : ∃ h1, Wk P (nl + 1) ⟨S.σ, (S.h ++ [.loop .ready none S.σ ps as bd]), S.mks⟩ ⟨σc, h1, S.mks⟩ ∧ ok 0 h1)
  (hget1 : ∀ i h, ok i h → hget h nl = .loop .ready none σc ps as bd) (hget2 : ∀ j h, okF j h → ∃ σ ps as bd, hget h nl = .loop .done (some j) σ ps as bd)
  (hlenH : ∀ i h, ok i h → h.length = nl + 1)
  (hround : ∀ i v h, L[i]? = some v → ok i h → RoundT P (frm (some nl) (nl + 1 + m) r.opn) nl as bd ⟨putPs σc ps (enc' v), h ++ cont v, []⟩ fun j h3 => match j with
   | none => ∃ T, Done P nl m σc (cont v) h3 T ∧ ok (i + 1) T
   | some j => ∃ T, Done P nl m σc (cont v) h3 T ∧ okF j T)
  (hQ : ∀ h, ok L.length h → Q none ⟨σc, h.set nl .dead, S.mks⟩) (hQF : ∀ j h, okF j h → Q (some j) ⟨σc, h.set nl .dead, S.mks⟩) : TW P r (.rfunc x ps as bd) S Q := by
 intro hm k g a w ro Q' hk hs hr hh hp
 cases k <;> first | (cases hk; done) | skip
 rename_i kf kps kas kbd
 simp only [comp, TCode.rfunc.injEq] at hk
 obtain ⟨rfl, hkp, hka, hkb⟩ := hk
 have hfd : g.den w (gv S.σ (cOpd kf)) (a.eval kf) := opd_den kf fun t _ => getS_den hs.tm t
 rw [hx] at hfd
 simp only [Gh.den, den] at hfd
 obtain ⟨vf, vc, hfv, df1, df2⟩ := hfd
 refine wpIn_rangeFunc fun fn _ => ?_
 -- the record is laid
 have henter : ∃ (l : Nat) (mark : List Deferred) (w1 : World) (g1 : Gh), (Instr.enterLoop fn a.tmps kps kas kbd (Fn ro).round).run P w = .ok (l, mark) w1 ∧
   Sim P g1 ⟨S.σ, (S.h ++ [.loop .ready none S.σ ps as bd]), S.mks⟩ { a with defers := mark ++ a.defers } w1 ∧ Exw r.base g w g1 w1 ∧ (∃ ll, g1.ι nl = some ll ∧ ll.blk = l) := by
  have hround : (Fn ro).round = ro := rfl
  rw [hround]
  cases o with
  | true =>
   have hro : ro = none := by
    have h2 := hr.2
    cases hlp : r.lp with
    | none => rw [hlp] at h2; exact h2
    | some b => rw [hlp] at ho; exact absurd ho.1 (by simp)
   subst hro
   obtain ⟨g2, s2, x2, i2, d2⟩ := (Sim.mark hs).push (.loop { state := .ready, pending := none, fn, tmps := a.tmps, params := kps, assign := kas, body := kbd, defers := w.heap.size }) (.loop .ready none S.σ ps as bd) fun g' hg' hx' =>
    ⟨_, fn, a.tmps, kas, kbd, w.heap.size, hg', by rw [← hkp]; simpa using World.alloc_heap_new (w.alloc (.deferred (some []))) _, hx'.denL (Sim.mark hs).ok (Sim.mark hs).tm, hka, hkb⟩
   refine ⟨_, _, _, g2, run_enterLoop_outer fn a.tmps kps kas kbd, s2, (Exw.alloc hs.ok _).trans (x2.exw _), ⟨⟨(w.alloc (.deferred (some []))).heap.size, 0, 0⟩, ?_, ?_⟩⟩
   ·rw [hnl]; simpa using i2
   ·simp
  | false =>
   have hlp : ∃ b, r.lp = some b ∧ loopK (hget S.h b) fun _ _ _ _ => True := by
    cases hlp : r.lp with
    | none => rw [hlp] at ho; cases ho
    | some b => rw [hlp] at ho; exact ⟨b, rfl, ho.2⟩
   obtain ⟨b, hlp, hb⟩ := hlp
   obtain ⟨st, pend, σb, psb, asb, bdb, eb, _⟩ := loopK_spec hb
   obtain ⟨lb, qb, b1, b2, _⟩ := hs.loopAt eb
   have h2 := hr.2
   rw [hlp] at h2
   obtain ⟨_, _, q, rfl, hq⟩ := h2
   have := hq lb b1
   subst this
   obtain ⟨g2, s2, x2, i2, d2⟩ := hs.push (.loop { state := .ready, pending := none, fn, tmps := a.tmps, params := kps, assign := kas, body := kbd, defers := qb.defers }) (.loop .ready none S.σ ps as bd) fun g' hg' hx' =>
    ⟨_, fn, a.tmps, kas, kbd, qb.defers, hg', by rw [← hkp]; simpa using World.alloc_heap_new w _, hx'.denL hs.ok hs.tm, hka, hkb⟩
   refine ⟨_, _, _, g2, run_enterLoop_inner b2 fn a.tmps kps kas kbd, ?_, x2.exw _, ⟨⟨w.heap.size, 0, 0⟩, ?_, ?_⟩⟩
   ·simpa using s2
   ·rw [hnl]; simpa using i2
   ·rfl
 obtain ⟨l, mark, w1, g1, e1, s1, x1, ⟨ll, hll, hlb⟩⟩ := henter
 subst hlb
 obtain ⟨t, ht⟩ := hit.ok
 obtain ⟨h1, hwk, hok0⟩ := h0
 obtain ⟨g2, s2, x2⟩ := hwk g1 _ w1 s1
 have hx12 : Exw r.base g w g2 w1 := x1.trans (x2.le hB)
 have hll2 : g2.ι nl = some ll := by
  have := s2.hp nl
  simp only at this
  rw [hget1 0 h1 hok0] at this
  obtain ⟨l5, fn', tmps, ac, bc, d, z1, _⟩ := this
  rcases x2.ι nl (by omega) (s1.ok.own nl ll hll).1 with h | h
  ·rw [h, hll]
  ·rw [h] at z1; cases z1
 have hol := s2.ok.own nl ll hll2
 -- the call
 refine ⟨ll.blk, mark, w1, { target := .fn (.func f) (vc.toArray), args := (vf ++ [Value.func (.yield ll.blk) #[] #[]]).toArray }, w1, f, (vf ++ Value.func (.yield ll.blk) #[] #[] :: vc).toArray, w1, e1, ?_, fun _ _ => trivial, ?_, (fun h => by simp [Fn, Fence.wide] at h), ?_⟩
 ·simp only [rangeCall, resolve, hfv, Deferred.ofValue]
  simp [Act.eval]
 ·simp only [invoke]
  rw [run_callFunc ht]
  simp
 ·let H0 : Nat → Prop := fun q => q < w1.heap.size ∧ ¬ g2.imm q ∧ q ≠ ll.blk
  have hap : Apart ll.blk H0 g2.imm w1 := ⟨hol.2.1, fun q hq => hq.1, s2.ok.immlt, fun q hq => hq.2.1, hol.2.2, fun h => h.2.2 rfl⟩
  have htok0 : Tok (RTok P r ro g2 w1 { a with defers := mark ++ a.defers } σc (S.mks) nl (ok 0)) ll.blk H0 g2.imm w1 := by
   refine RTok.tok ⟨g2, h1, hok0, ⟨s2, Exw.refl _ _ _, s2.df, hx12.ro hr⟩, rfl, ⟨ll, hll2, rfl⟩, fun b l' hl => ?_, fun q hq => ?_, fun q hq => ?_⟩
   ·by_cases e : l'.blk = ll.blk
    ·exact .inl e
    ·have := s2.ok.own b l' hl
     exact .inr ⟨this.2.1, this.2.2, e⟩
   ·exact ⟨s2.ok.hlt q hq, s2.ok.himm q hq, fun e => s2.ok.hown nl ll hll2 (e ▸ hq)⟩
   ·by_cases h1 : g2.imm q
    ·exact .inl h1
    ·by_cases h2 : q = ll.blk
     ·exact .inr (.inl h2)
     ·exact .inr (.inr ⟨hq, h1, h2⟩)
  have hdf : ∀ {ss : List SV} {vs : List Value}, cloL ss → g.denL w ss vs → denL w1 g2.imm ss (fun _ => False) (fun _ => none) vs := fun hc hd =>
   cloL_den _ hc (denL.mono (D' := g.dom) (ι' := g.ι) hx12.imm (hx12.immHeap hs.ok) _ (fun _ h => h) (fun _ _ _ h => h) hd)
  have hcall := hit.run hm (fun i => RTok P r ro g2 w1 { a with defers := mark ++ a.defers } σc (S.mks) nl (ok i)) (RTok P r ro g2 w1 { a with defers := mark ++ a.defers } σc (S.mks) nl fun h => ∃ j, okF j h)
   (fun i v hv => roundT_ysN (okT := ok (i + 1)) (okF := fun h => ∃ j, okF j h) hm hB hσ (hlen v) (hcont v).1 (hcont v).2 (hsh v) (fun h hh => ⟨_, _, _, _, _, _, hget1 _ h hh⟩) (fun h ⟨j, hh⟩ => by
     obtain ⟨σ', ps', as', bd', e⟩ := hget2 j h hh
     exact ⟨_, _, _, _, _, _, e⟩) fun h hh => ⟨hlenH i h hh, hget1 i h hh, by
     have hRT := hround i v h hv hh
     refine TW.mono hRT fun j S' hj => ?_
     cases j with
     | some j => exact hj
     | none =>
      simp only at hj ⊢
      obtain ⟨σ', ps', as', bd', e, hj⟩ := loopRK_spec hj
      rw [e]
      simp only [loopRK]
      have mono : ∀ {h : List LB} {n : Nat} {b : LB} {k k' : List LB → Prop}, (∀ l, k l → k' l) → updGo h n b k → updGo h n b k' := by
       intro h
       induction h with
       | nil => intro n b k k' hk hu; cases n <;> first | exact hk _ hu | exact hu
       | cons x h ih => intro n b k k' hk hu; cases n <;> first | exact hk _ hu | exact ih (fun l => hk _) hu
      refine mono (fun h2 hT => TW.mono hT fun j S3 hE => ?_) hj
      unfold endR at hE ⊢
      obtain ⟨st3, pend3, σ3, ps3, as3, bd3, e3, hE⟩ := loopK_spec hE
      rw [e3]
      simp only [loopK]
      refine mono (fun h3 hR => ?_) hE
      cases j with
      | none => exact hR
      | some j => obtain ⟨h4, q1, q2⟩ := hR; exact ⟨h4, q1, j, q2⟩⟩)
   ll.blk H0 g2.imm w1 vf vc hap (hdf hcf df1) (hdf hcc df2) htok0
  refine CallsIn_ro ro (hcall.mono ?_)
  rintro _ w3 ⟨v, H', imm', rfl, hap', hend⟩
  have fin : ∀ (okX : List LB → Prop) (j : Option Jump) (st : LoopState), st ≠ .busy → (∀ h, okX h → ∃ σ ps as bd, hget h nl = .loop st j σ ps as bd) → (∀ h, okX h → Q j ⟨σc, h.set nl .dead, S.mks⟩) →
    RTok P r ro g2 w1 { a with defers := mark ++ a.defers } σc (S.mks) nl okX ll.blk H' imm' w3 → rangePost (Fn ro) 0 P ll.blk Q' { a with defers := mark ++ a.defers } (.returned v) w3 := by
   rintro okX j st hst hgX hQX ⟨g3, h3, hok3, hi3, hi4, ⟨l3, e3, e4⟩, hown, hhd, hold⟩
   obtain ⟨σ', ps', as', bd', hg3⟩ := hgX h3 hok3
   obtain ⟨l5, q, q1, q2, q3, q4, q5, q6, q7, q8, q9⟩ := hi3.sim.loopAt hg3
   rw [e3] at q1; cases q1
   obtain ⟨h', d1, d2, rfl⟩ := q9 .exhausted j
   have hpq : ({ q with state := .exhausted } : Loop) = { q with state := .exhausted, pending := j.map Jump.code } := by
    obtain ⟨⟩ := q
    simp at q5 ⊢
    exact q5
   have hrun := run_endLoop (P := P) q2 (by rw [q3]; exact hst)
   rw [e4, hpq] at hrun
   rw [e4] at d1 d2
   refine ⟨_, _, hrun, ?_⟩
   have hfin := hh j _ g3 { a with defers := mark ++ a.defers } _ (hQX h3 hok3) d1.unset (hx12.trans (hi3.exw.trans (d2.exw _)))
   rw [q5]
   cases j with
   | none => exact hfin
   | some j =>
    cases j with
    | ret => exact wpIn_ret hfin
    | exit id => exact wpIn_exit hfin
  rcases hend with hend | hend
  ·exact fin (ok L.length) none .ready (by simp) (fun h hh => ⟨_, _, _, _, hget1 _ h hh⟩) hQ (hend _ _ (TStep.refl _ _ _ _) hap'.ilt)
  ·obtain ⟨g3, h3, ⟨j, hj⟩, rest⟩ := hend _ _ (TStep.refl _ _ _ _) hap'.ilt
   exact fin (okF j) (some j) .done (by simp) (hget2 j) (hQF j) ⟨g3, h3, hj, rest⟩
def endN (nl m : Nat) (σ : List SV) (c : List LB) (p : List (Nat × Nat)) (h3 T : List LB) : Prop :=
 catB T c fun TC => lenK T fun n => eqK n (nl + 1) (Ev (fitS (nl + 1 + m) p ⟨[], h3, []⟩ ⟨[], TC, []⟩) ∧ Ev (fitS (nl + 1) [] ⟨σ, TC, []⟩ ⟨σ, T, []⟩))
theorem endN_done {nl m : Nat} {σ : List SV} {c : List LB} {p : List (Nat × Nat)} {h3 T : List LB} (h : endN nl m σ c p h3 T) : Done P nl m σ c h3 T := by
 have h1 := lenK_iff _ _ (catB_eq h)
 rw [eqK_iff] at h1
 exact ⟨Wk.fit p h1.2.1.at, h1.1, h1.2.2.at⟩
theorem TWq.rngN {γ α β : Type} (o : Bool) (m : Nat) (cont : γ → List LB) (enc' : γ → List SV) (L : List γ) (enc : γ → List SV) (bl : Nat → α → List (Nat × LB)) (pre : Nat → α → Prop) (x0 : α) (je : β → Jump) (ble : β → List (Nat × LB)) (preE : β → Prop) (p0 p1 p2 : List (Nat × Nat))
  {x : TOpd} {ps : List Nat} {as bd : TCode} {S : St} {Q : Option Jump → St → Prop} {f : FuncId} {fs cs : List SV} (hx : gv S.σ x = .fn f fs cs) (hit : ITN P f m fs cs L enc cont) (hcf : cloL fs) (hcc : cloL cs) (hlen : ∀ v, (enc v).length = ps.length) (hsh : ∀ v, Shf m S.h.length (enc v) (enc' v)) (hcont : ∀ v, (cont v).length = m ∧ ∀ i, i < m → cloB (hget (cont v) i))
  (hp : pre 0 x0)
  (h0 : Ev (enterK S ps as bd fun h1 nl => lpK r o S.h (ltK r.base (nl + 2) (updK h1 (bl 0 x0) fun T => fitS (nl + 1) p0 ⟨S.σ, h1, S.mks⟩ ⟨S.σ, T, S.mks⟩))))
  (hσ : Ev (enterK S ps as bd fun _ nl => fitL [] (nl + 1 + m) S.σ S.σ True))
  (hbl : ∀ i x, pre i x → Ev (enterK S ps as bd fun h1 nl => updK h1 (bl i x) fun T => hget T nl = .loop .ready none S.σ ps as bd))
  (hlk : ∀ i x, pre i x → Ev (enterK S ps as bd fun h1 nl => updK h1 (bl i x) fun T => lenK T fun n => eqK n (nl + 1) True))
  (hround : ∀ i v x, L[i]? = some v → pre i x → Ev (enterK S ps as bd fun h1 nl => updK h1 (bl i x) fun h => catB h (cont v) fun hc => putPsK ps (enc' v) S.σ fun σ =>
   evC P (frm (some nl) (nl + 1 + m) r.opn) as ⟨σ, hc, []⟩ fun j S' => match j with
    | some _ => False
    | none => loopRK (hget S'.h nl) fun σ' ps' as' bd' => updGo S'.h nl (.loop .busy none σ' ps' as' bd') fun h2 => evC P (frm (some nl) (nl + 1 + m) r.opn) bd ⟨S'.σ, h2, S'.mks⟩ fun j S3 => match j with
     | none => endR nl none S3 fun h3 => Vc (∃ x', pre (i + 1) x' ∧ Ev (updK h1 (bl (i + 1) x') fun T => endN nl m S.σ (cont v) p1 h3 T))
     | some j => endR nl (some j) S3 fun h3 => Vc (∃ z, je z = j ∧ preE z ∧ Ev (updK h1 (ble z) fun h1' => updK h1' [(nl, .loop .done (some j) S.σ ps as bd)] fun T => endN nl m S.σ (cont v) p2 h3 T))))
  (hQ : ∀ x, pre L.length x → Ev (enterK S ps as bd fun h1 nl => updK h1 (bl L.length x) fun h => updGo h nl .dead fun h' => Q none ⟨S.σ, h', S.mks⟩))
  (hQF : ∀ z, preE z → Ev (enterK S ps as bd fun h1 nl => updK h1 (ble z) fun h => updGo h nl .dead fun h' => Q (some (je z)) ⟨S.σ, h', S.mks⟩)) : TWq P r (.rfunc x ps as bd) S Q := by
 rw [TWq_iff]
 have h0 := enterK_eq h0.at
 obtain ⟨hlp, h0⟩ := lpK_spec h0
 simp only [ltK_iff] at h0
 obtain ⟨hB, h0⟩ := h0
 have h0 := updK_eq h0
 have hσ := enterK_eq hσ.at
 have hlenH : S.h.length < (S.h ++ [LB.loop .ready none S.σ ps as bd]).length := by simp
 generalize hnl : S.h.length = nl at *
 have hset : ∀ (h : List LB) (us : List (Nat × LB)), nl < h.length → nl < (mkH h us).length := by
  intro h us
  induction us generalizing h with
  | nil => exact id
  | cons u us ih =>
   intro hn
   refine ih (upd1 h u.1 u.2) ?_
   unfold upd1
   split
   ·simpa using hn
   ·simp; omega
 have hup : ∀ (h : List LB) (b : LB), nl < h.length → upd1 h nl b = h.set nl b := fun h b hn => if_pos hn
 refine TW.rfuncN (enc' := enc') (ok := fun i h => ∃ x, pre i x ∧ h = mkH (S.h ++ [LB.loop .ready none S.σ ps as bd]) (bl i x))
  (okF := fun j h => ∃ z, je z = j ∧ preE z ∧ h = upd1 (mkH (S.h ++ [LB.loop .ready none S.σ ps as bd]) (ble z)) nl (.loop .done (some j) S.σ ps as bd)) o S.σ nl hnl.symm hx hcf hcc hit hlen (fun v => by have := hsh v; exact this) hcont hlp (by omega) hσ
  ⟨_, Wk.fit p0 h0, x0, hp, rfl⟩ ?_ ?_ ?_ ?_ ?_ ?_
 ·rintro i h ⟨x, hx, rfl⟩
  have := enterK_eq (hbl i x hx).at
  rw [hnl] at this
  exact updK_eq this
 ·rintro j h ⟨z, rfl, _, rfl⟩
  refine ⟨S.σ, ps, as, bd, ?_⟩
  rw [hup _ _ (hset _ _ hlenH)]
  have key : ∀ (h : List LB) (n : Nat) (b : LB), n < h.length → hget (h.set n b) n = b := by
   intro h
   induction h with
   | nil => intro n b hn; simp at hn
   | cons x h ih =>
    intro n b hn
    cases n
    ·rfl
    ·exact ih _ _ (by simpa using hn)
  exact key _ _ _ (hset _ _ hlenH)
 ·rintro i h ⟨x, hx, rfl⟩
  have := enterK_eq (hlk i x hx).at
  rw [hnl] at this
  exact (eqK_iff.1 (lenK_iff _ _ (updK_eq this))).1
 ·rintro i v h hv ⟨x, hx, rfl⟩
  have h1 := enterK_eq (hround i v x hv hx).at
  rw [hnl] at h1
  have h1 := evC_sound (putPsK_eq (catB_eq (updK_eq h1)))
  refine TW.mono h1 fun j S' h => ?_
  cases j with
  | some j => exact h
  | none =>
   simp only at h ⊢
   obtain ⟨σ', ps', as', bd', e, h⟩ := loopRK_spec h
   rw [e]
   simp only [loopRK]
   have mono : ∀ {h : List LB} {n : Nat} {b : LB} {k k' : List LB → Prop}, (∀ l, k l → k' l) → updGo h n b k → updGo h n b k' := by
    intro h
    induction h with
    | nil => intro n b k k' hk hu; cases n <;> first | exact hk _ hu | exact hu
    | cons x h ih => intro n b k k' hk hu; cases n <;> first | exact hk _ hu | exact ih (fun l => hk _) hu
   refine mono (fun h2 hT => TW.mono (evC_sound hT) fun j S3 hE => ?_) h
   cases j with
   | none =>
    unfold endR at hE ⊢
    obtain ⟨st3, pend3, σ3, ps3, as3, bd3, e3, hE⟩ := loopK_spec hE
    rw [e3]
    simp only [loopK]
    refine mono (fun h3 hR => ?_) hE
    obtain ⟨x', q1, q2⟩ := hR.h
    exact ⟨_, endN_done (updK_eq q2.at), x', q1, rfl⟩
   | some j =>
    unfold endR at hE ⊢
    obtain ⟨st3, pend3, σ3, ps3, as3, bd3, e3, hE⟩ := loopK_spec hE
    rw [e3]
    simp only [loopK]
    refine mono (fun h3 hR => ?_) hE
    obtain ⟨z, rfl, q0, q2⟩ := hR.h
    have q2 := updK_eq (updK_eq q2.at)
    exact ⟨_, endN_done q2, z, rfl, q0, rfl⟩
 ·rintro h ⟨x, hx, rfl⟩
  have := enterK_eq (hQ x hx).at
  rw [hnl] at this
  have := updGo_eq (updK_eq this)
  rwa [hup _ _ (hset _ _ hlenH)] at this
 ·rintro j h ⟨z, rfl, hz, rfl⟩
  have := enterK_eq (hQF z hz).at
  rw [hnl] at this
  have := updGo_eq (updK_eq this)
  rw [hup _ _ (hset _ _ hlenH)] at this ⊢
  simpa using this
end
end Go.TV
/- The value calculus, part 3C: calls in open frames whose results are told by a property. -/
namespace Go.TV
open Go.RowKit
section
variable {P : Program} {r : Fr}
theorem PF.lendO {f : FuncId} {args : List SV} {Q : SV → Prop} {n : Nat} {h : List LB} (hl : lendLK n h args fun args' _ => PF P f args' Q) {K : SV → List LB → Prop} (hK : ∀ s, Q s → scal s ∧ K s h) : TO P f args h K := by
 obtain ⟨args', nb, hp, hc, hs⟩ := (lend_spec (P := P) n).2 hl
 refine ⟨hp.ok, fun hm g w vals h1 h2 h3 h4 => (hp.run hm (immOf g nb) w vals (fun r hr => immOf_lt h1 hr) (hs g w vals (fun b _ => h4 b) h3)).mono ?_⟩
 rintro _ w' ⟨v, s, imm', rfl, q, c, k1, k2, k3⟩
 obtain ⟨e1, e2⟩ := ext_same h1 k3 (fun _ => False)
 obtain ⟨q1, q2⟩ := hK s q
 exact ⟨v, s, h, g, rfl, q2, e1, h2, scal_den s q1 k2, fun b => e2.lb h1 (fun h => h) (fun _ _ h => h) (h4 b), e2.exw _⟩
theorem TSq.lendQ {t : TOper} {ts : List TOper} {σ : List SV} {h : List LB} {mks : List Nat} {K : St → Prop} {f : FuncId} {args : List SV} {Q : SV → Prop} (hB : Nat.ble r.base h.length = true) (hc : PF P f args Q) (hv : ∀ s, Q s → scal s) (hg : guardK σ t.guard (· = true)) (hF : calleeK σ t.op fun f' a => f' = f ∧ Ev (lendLK 60 h a fun a' _ => a' = args))
  (hK : ∀ s, Q s → Ev (setD σ t.dst s fun σ' => evR P r ts ⟨σ', h, mks⟩ K)) : TSq P r (t :: ts) ⟨σ, h, mks⟩ K := by
 refine TSq.callO hB hg (calleeK_mono (fun f' a h => ?_) hF)
 obtain ⟨rfl, h⟩ := h
 refine PF.lendO ((lend_mono 60).2 (fun a' nb e => by subst e; exact hc) h.at) fun s q => ⟨hv s q, ?_⟩
 have := (hK s q).at
 rw [setD_iff] at this ⊢
 exact Ev.go this
theorem TSq.weak (js : List Nat) (ch : List (Nat × SV)) (bl : List (Nat × LB)) {ts : List TOper} {S : St} {K : St → Prop} (h : Ev (mkStK S js ch bl fun T => Ev (fitS r.base [] S T) ∧ TSq P r ts T K)) : TSq P r ts S K := by
 have h := mkStK_eq h.at
 exact TSq.wk (Wk.fit [] h.1.at) h.2
theorem TWq.weak (js : List Nat) (ch : List (Nat × SV)) (bl : List (Nat × LB)) {c : TCode} {S : St} {Q : Option Jump → St → Prop} (h : Ev (mkStK S js ch bl fun T => Ev (fitS r.base [] S T) ∧ TWq P r c T Q)) : TWq P r c S Q := by
 have h := mkStK_eq h.at
 exact TWq.wk (Wk.fit [] h.1.at) h.2
end
end Go.TV
/- The value calculus, part 3D: calls that panic. A frame's field pan says what holds where the activation panics. -/
namespace Go.TV
open Go.RowKit
structure TFr (P : Program) (f : FuncId) (args : List SV) (h : List LB) (Q : SV → List LB → Prop) (R : Value → List LB → Prop) : Prop where
 ok : ∃ t, fnOf P f = some t
 run : P.follows .mixedOrders = true → ∀ (g : Gh) (w : World) (vals : List Value), g.hid = none → GOk g w → (∀ b, g.dom b → b < h.length) → g.denL w args vals → (∀ b, lbden P w g b (hget h b)) →
  CallsIn (Fn none) 0 P f vals.toArray w fun e w' => ∃ h' g', GOk g' w' ∧ (∀ b, g'.dom b → b < h'.length) ∧ (∀ b, lbden P w' g' b (hget h' b)) ∧ Ext g w g' w' All ∧
   ((∃ v s, e = .returned v ∧ Q s h' ∧ g'.den w' s v) ∨ ∃ v, e = .panicked (panE v) ∧ R v h')
structure PFp (P : Program) (f : FuncId) (args : List SV) (v : Value) : Prop where
 ok : ∃ t, fnOf P f = some t
 run : P.follows .mixedOrders = true → ∀ (imm : Nat → Prop) (w : World) (vals : List Value), (∀ r, imm r → r < w.heap.size) → denL w imm args (fun _ => False) (fun _ => none) vals →
  CallsIn (Fn none) 0 P f vals.toArray w fun e w' => ∃ imm', e = .panicked (panE v) ∧ (∀ r, imm' r → r < w'.heap.size) ∧ Ext (none0 imm) w (none0 imm') w' All
section
variable {P : Program} {r : Fr}
theorem TFr.mono {f : FuncId} {args : List SV} {h : List LB} {Q Q' : SV → List LB → Prop} {R R' : Value → List LB → Prop} (hT : TFr P f args h Q R) (hq : ∀ s h, Q s h → Q' s h) (hr : ∀ v h, R v h → R' v h) : TFr P f args h Q' R' :=
 ⟨hT.ok, fun hm g w vals h0 h1 h2 h3 h4 => (hT.run hm g w vals h0 h1 h2 h3 h4).mono fun _ _ ⟨h', g', k1, k2, k3, k4, k5⟩ => ⟨h', g', k1, k2, k3, k4, k5.imp (fun ⟨v, s, e, q, d⟩ => ⟨v, s, e, hq s h' q, d⟩) fun ⟨v, e, q⟩ => ⟨v, e, hr v h' q⟩⟩⟩
theorem TFr.tf {f : FuncId} {args : List SV} {h : List LB} {Q : SV → List LB → Prop} (hT : TFr P f args h Q fun _ _ => False) : TF P f args h Q :=
 ⟨hT.ok, fun hm g w vals h0 h1 h2 h3 h4 => (hT.run hm g w vals h0 h1 h2 h3 h4).mono fun _ _ ⟨h', g', k1, k2, k3, k4, k5⟩ => by
  rcases k5 with ⟨v, s, e, q, d⟩ | ⟨v, e, q⟩
  ·exact ⟨v, s, h', g', e, q, k1, k2, d, k3, k4⟩
  ·exact q.elim⟩
theorem body_runR {f : FuncId} {t : TFn} (hf : fnOf P f = some t) {args : List SV} {h : List LB} {Q : SV → List LB → Prop} {R : Value → List LB → Prop} (hb : TW P ⟨none, h.length, false, fun v S => R v S.h⟩ t.body ⟨fillJ args t.ntmps, h, []⟩ (endK t.results Q))
  (hm : P.follows .mixedOrders = true) (g : Gh) (w : World) (vals : List Value) (hno : g.hid = none) (hg : GOk g w) (hlt : ∀ b, g.dom b → b < h.length) (hd : g.denL w args vals) (hh : ∀ b, lbden P w g b (hget h b)) :
  CallsIn (Fn none) 0 P f vals.toArray w fun e w' => ∃ h' g', GOk g' w' ∧ (∀ b, g'.dom b → b < h'.length) ∧ (∀ b, lbden P w' g' b (hget h' b)) ∧ Exw h.length g w g' w' ∧
   ((∃ v s, e = .returned v ∧ Q s h' ∧ g'.den w' s v) ∨ ∃ v, e = .panicked (panE v) ∧ R v h') := by
 obtain ⟨fn, k, h1, h2, h3, rfl⟩ := cFn_spec hf
 refine callsIn_of_wp_marks h1 h3 trivial ?_
 have hs : Sim P (g.floor w.heap.size) ⟨fillJ args fn.ntmps, h, []⟩ { tmps := vals.toArray ++ Array.replicate (fn.ntmps - vals.toArray.size) undef, defers := [] } w := by
  refine ⟨ok_floor hg (Nat.le_refl _), hlt, ?_, fun b => (lb_floor _).2 (hh b), ⟨[], rfl, List.nodup_nil, by simp⟩⟩
  have := fillJ_den (n := fn.ntmps) hd
  show g.denL w _ _
  simpa using this
 refine hb hm k (g.floor w.heap.size) _ w none _ rfl hs ⟨fun _ => hno, rfl⟩ (fun j S' g' a' w' q1 q2 q3 => ?_) fun v S' g' a' w' q1 q2 q3 => ?_
 ·have fin : (resK S'.σ S'.h (fn.results.toList.map (cRes P)) fun s => Q s S'.h) → LeavesInM (Fn none) 0 P fn a'.tmps (fun e w' => ∃ h' g', GOk g' w' ∧ (∀ b, g'.dom b → b < h'.length) ∧ (∀ b, lbden P w' g' b (hget h' b)) ∧ Exw h.length g w g' w' ∧
    ((∃ v s, e = .returned v ∧ Q s h' ∧ g'.den w' s v) ∨ ∃ v, e = .panicked (panE v) ∧ R v h')) a'.defers .returning w' := by
   intro q
   obtain ⟨rs, e1, e2, e3⟩ := q2.df
   rw [e1]
   refine marks_run (by simp) ⟨rfl, rfl, rfl, rfl, fun _ _ => rfl, fun _ _ _ => rfl, fun _ _ => rfl, fun _ _ => rfl⟩ e2 e3 fun w'' hmk => ?_
   obtain ⟨s, v, t1, t2, t3⟩ := resK_run q (denL.mono (fun _ h => h) hmk.imm _ (fun _ h => h) (fun _ _ _ h => h) q2.tm) fun b => hmk.lb (q2.hp b)
   have hfl : g'.flr = w.heap.size := q3.flr
   exact ⟨v, t3, S'.h, g'.floor g.flr, ok_floor (hmk.ok q2.ok) (Nat.le_trans hg.flr (by rw [hmk.size]; exact q3.size)), q2.lt, fun b => (lb_floor _).2 (hmk.lb (q2.hp b)),
    ⟨hmk.os.trans q3.os, hmk.tape.trans q3.tape, hmk.output.trans q3.output, by rw [hmk.size]; exact q3.size, q3.dom, q3.ι, q3.imm, q3.hno, rfl, q3.newhid, fun r hr hh hn => (hmk.low r (by rw [hfl]; exact hr)).trans (q3.old r hr hh hn), q3.newι, q3.newimm⟩,
    .inl ⟨v, s, rfl, t1, t2⟩⟩
  cases j with
  | none => exact fin q1
  | some j =>
   cases j with
   | ret => exact fin q1
   | exit id => exact q1.elim
 ·obtain ⟨rs, e1, e2, e3⟩ := q2.df
  show LeavesInM (Fn none) 0 P fn a'.tmps _ a'.defers (.panicking (panE v)) w'
  rw [e1]
  refine marks_run (by simp) ⟨rfl, rfl, rfl, rfl, fun _ _ => rfl, fun _ _ _ => rfl, fun _ _ => rfl, fun _ _ => rfl⟩ e2 e3 fun w'' hmk => ?_
  have hfl : g'.flr = w.heap.size := q3.flr
  exact ⟨S'.h, g'.floor g.flr, ok_floor (hmk.ok q2.ok) (Nat.le_trans hg.flr (by rw [hmk.size]; exact q3.size)), q2.lt, fun b => (lb_floor _).2 (hmk.lb (q2.hp b)),
    ⟨hmk.os.trans q3.os, hmk.tape.trans q3.tape, hmk.output.trans q3.output, by rw [hmk.size]; exact q3.size, q3.dom, q3.ι, q3.imm, q3.hno, rfl, q3.newhid, fun r hr hh hn => (hmk.low r (by rw [hfl]; exact hr)).trans (q3.old r hr hh hn), q3.newι, q3.newimm⟩,
    .inr ⟨v, rfl, q1⟩⟩
theorem TFr.of {f : FuncId} {t : TFn} (hf : fnOf P f = some t) {args : List SV} {h : List LB} {Q : SV → List LB → Prop} {R : Value → List LB → Prop} (hb : TW P ⟨none, h.length, false, fun v S => R v S.h⟩ t.body ⟨fillJ args t.ntmps, h, []⟩ (endK t.results Q)) : TFr P f args h Q R :=
 ⟨⟨t, hf⟩, fun hm g w vals hno hg hlt hd hh => (body_runR hf hb hm g w vals hno hg hlt hd hh).mono fun _ _ ⟨h', g', k1, k2, k3, k4, k5⟩ => ⟨h', g', k1, k2, k3, k4.ext hlt hno, k5⟩⟩
theorem TFr.ev {f : FuncId} {t : TFn} (hf : fnOf P f = some t) {args : List SV} {h : List LB} {Q : SV → List LB → Prop} {R : Value → List LB → Prop} (hb : Ev (evC P ⟨none, h.length, false, fun v S => R v S.h⟩ t.body ⟨fillJ args t.ntmps, h, []⟩ (endK t.results Q))) : TFr P f args h Q R := .of hf (evC_sound hb.at)
theorem PFp.of {f : FuncId} {args : List SV} {v : Value} (h : TFr P f args [] (fun _ _ => False) fun v' _ => v' = v) : PFp P f args v := by
 refine ⟨h.ok, fun hm imm w vals h1 h2 => (h.run hm (none0 imm) w vals rfl (none0_ok h1) (fun b hb => hb.elim) h2 (fun b => trivial)).mono ?_⟩
 rintro _ w' ⟨h', g', k1, k2, k3, hx, ⟨v', s, _, q, _⟩ | ⟨v', rfl, rfl⟩⟩
 ·exact q.elim
 ·exact ⟨g'.imm, rfl, k1.immlt, ⟨hx.os, hx.tape, hx.output, hx.size, fun _ h => h, fun _ h => h.elim, hx.imm, rfl, rfl, hx.old, fun b l hl => (by cases hl), hx.newimm⟩⟩
theorem PFp.tf {f : FuncId} {args : List SV} {v : Value} (h : PFp P f args v) (hc : cloL args) {hb : List LB} {Q : SV → List LB → Prop} {R : Value → List LB → Prop} (hR : R v hb) : TFr P f args hb Q R := by
 refine ⟨h.ok, fun hm g w vals _ h1 h2 h3 h4 => (h.run hm g.imm w vals h1.immlt (cloL_den args hc h3)).mono ?_⟩
 rintro _ w' ⟨imm', rfl, k1, k3⟩
 obtain ⟨e1, hext⟩ := ext_grow h1 k3 k1 (fun _ => False)
 exact ⟨hb, ⟨g.dom, g.ι, imm', g.hid, g.flr⟩, e1, h2, fun b => hext.lb h1 (fun h => h) (fun _ _ h => h) (h4 b), hext.more fun _ _ => trivial, .inr ⟨v, rfl, hR⟩⟩
theorem PFp.lend {f : FuncId} {args : List SV} {v : Value} {n : Nat} {h : List LB} (hl : lendLK n h args fun args' _ => PFp P f args' v) {Q : SV → List LB → Prop} {R : Value → List LB → Prop} (hR : R v h) : TFr P f args h Q R := by
 obtain ⟨args', nb, hp, hc, hs⟩ := (lend_spec (P := P) n).2 hl
 refine ⟨hp.ok, fun hm g w vals h0 h1 h2 h3 h4 => (hp.run hm (immOf g nb) w vals (fun r hr => immOf_lt h1 hr) (hs g w vals (fun b _ => h4 b) h3)).mono ?_⟩
 rintro _ w' ⟨imm', rfl, k1, k3⟩
 obtain ⟨e1, e2⟩ := ext_same h1 k3 (fun _ => False)
 exact ⟨h, g, e1, h2, fun b => e2.lb h1 (fun h => h) (fun _ _ h => h) (h4 b), e2.more fun _ _ => trivial, .inr ⟨v, rfl, hR⟩⟩
end
end Go.TV
