/- The value calculus, fourth part: further rules. -/
import Derived.Test.YtjadiajfbflghaaGreatA4
import Derived.Test.YtjadiajfbflghaaGreatA5
set_option linter.unusedSimpArgs false
set_option linter.unusedVariables false
set_option linter.unusedSimpArgs false
set_option linter.unusedVariables false
/- The value calculus, part 2P: publishing an own slice that lies in another own slice. -/
namespace Go.TV
open Go.RowKit
def subH' (b sz : Nat) (es : List SV) : LB → LB
  | .cells cs => .cells (subAL b sz es cs)
  | .arr e s xs => .arr e s (subAL b sz es xs)
  | lb => lb
def subHK' (b sz : Nat) (es : List SV) : List LB → (List LB → Prop) → Prop
  | [], k => k []
  | x :: xs, k => subHK' b sz es xs fun l => k (subH' b sz es x :: l)
def pubB' (b : Nat) (S : St) (k : St → Prop) : Prop :=
  match hget S.h b with
  | .arr _ sz es => Vc (cloL es) ∧ Ev (subTK b sz es S.σ fun σ' => subHK' b sz es S.h fun h1 => updGo h1 b .dead fun h' => k ⟨σ', h', S.mks⟩)
  | _ => False
theorem subHK'_eq {b sz : Nat} {es : List SV} : ∀ {xs : List LB} {k : List LB → Prop}, subHK' b sz es xs k → k (xs.map (subH' b sz es))
  | [], _, h => h
  | x :: xs, k, h => subHK'_eq (xs := xs) (k := fun l => k (subH' b sz es x :: l)) h
theorem subAL_len {b sz : Nat} {es : List SV} : ∀ (xs : List SV), (subAL b sz es xs).length = xs.length
  | [] => rfl
  | _ :: xs => by simp [subAL, subAL_len xs]
theorem subAL_keep {b sz : Nat} {es : List SV} : ∀ (xs : List SV), (∀ s ∈ xs, ∀ n, s ≠ .own n) → subAL b sz es xs = xs
  | [], _ => rfl
  | s :: xs, h => by
    simp only [subAL]
    rw [subAL_keep xs fun s hs => h s (by simp [hs])]
    have := h s (by simp)
    cases s <;> first | rfl | (exact absurd rfl (this _))
section
variable {P : Program} {r : Fr}
theorem pubB'_spec {b B : Nat} {S : St} {k : St → Prop} (h : pubB' b S k) : ∃ S', k S' ∧ Wk P B S S' := by
  unfold pubB' at h
  split at h
  · rename_i e sz es he
    obtain ⟨⟨hc⟩, h⟩ := h
    have h := updGo_spec (subHK'_eq (subTK_eq h.at))
    obtain ⟨h', h1, h2, h3, h4, h5⟩ := h
    refine ⟨_, h1, fun g a w hs => ?_⟩
    have hbb := hs.hp b
    rw [he] at hbb
    obtain ⟨l, hl⟩ : ∃ l, g.ι b = some l := ⟨_, hbb.choose_spec.choose_spec.1⟩
    have hblt : b < S.h.length := hs.lt b (hs.ok.own b l hl).1
    have bk : Bk P g S.h w := ⟨hs.ok, hs.lt, hs.hp⟩
    obtain ⟨r2, r3⟩ := pub_book (h' := S.h.set b .dead) bk hl (by simp) (by rw [hget_setD b hblt]; simp) (fun c hc => by rw [hget_setD c hblt]; simp [hc])
      (bk.nodep (fun es e => by rw [he] at e; cases e) (fun e => by rw [he] at e; cases e) (fun _ e => by rw [he] at e; cases e))
    have hsl : ∀ v, den w (g.pub b l.blk).imm (.own b) g.dom g.ι v → den w (g.pub b l.blk).imm (.sl sz es) g.dom g.ι v := fun v hv => by
      simp only [den] at hv
      exact clo_den _ (by simp only [clo]) (sl_of_own (imm := (g.pub b l.blk).imm) hl hbb hc (v := v) (by simp only [Gh.den, den]; exact hv) (fun r hr => .inl hr) (.inr rfl))
    have himm : ∀ r, g.imm r → (g.pub b l.blk).imm r := fun r hr => .inl hr
    have hι : ∀ c l', g.dom c → (g.pub b l.blk).ι c = some l' → g.ι c = some l' := fun c l' _ hc => by
      simp only [Gh.pub] at hc
      split at hc
      · cases hc
      · exact hc
    refine ⟨g.pub b l.blk, ⟨r2.ok, fun c hc' => ?_, ?_, fun c => ?_, r3.df hs.df⟩, r3.exw B⟩
    · have := r2.lt c hc'
      simp at this h2
      simp only; omega
    · exact denL.mono (fun _ h => h) (fun _ _ => rfl) _ (fun _ h => h) hι (map_denL (subT_den hsl) (denL_imm himm hs.tm))
    · simp only
      by_cases hcb : c = b
      · subst hcb; rw [h4]; trivial
      · rw [h5 c hcb, hget_map rfl]
        have := r2.hp c
        rw [hget_setD c hblt, if_neg hcb] at this
        cases hg : hget S.h c <;> rw [hg] at this <;> try exact this
        · rename_i cs
          have hcc := hs.hp c
          rw [hg] at hcc
          obtain ⟨l', vs, t, q1, q2, q3⟩ := hcc
          refine ⟨l', vs, t, by simp [Gh.pub, hcb, q1], q2, ?_⟩
          exact denL.mono (fun _ h => h) (fun _ _ => rfl) _ (fun _ h => h) hι (subAL_den hsl (denL_imm himm q3))
        · rename_i e1 s1 xs
          have hcc := hs.hp c
          rw [hg] at hcc
          obtain ⟨l', vs, q1, q2, q3, q4, q5⟩ := hcc
          refine ⟨l', vs, by simp [Gh.pub, hcb, q1], by simpa [subAL_len] using q2, ?_, q4, q5⟩
          exact denL.mono (fun _ h => h) (fun _ _ => rfl) _ (fun _ h => h) hι (subAL_den hsl (denL_imm himm q3))
  · exact h.elim
end
end Go.TV
/- The value calculus, part 2Q: an entry of a map that is made and kept, in a region in any order. -/
namespace Go.TV
open Go.RowKit
theorem cnt_tail (n : Nat) : ∀ m, ((List.range (n + m)).countP fun j => !decide (j < n)) = m
  | 0 => by
    rw [List.countP_eq_zero]
    intro j hj
    have := List.mem_range.1 hj
    simp; omega
  | m + 1 => by
    rw [Nat.add_succ, List.range_succ, List.countP_append, cnt_tail n m]
    simp
section
variable {P : Program}
theorem draw_tail {S0 Sf : St} {ds : List DS} {A : Array Oper} {ts us : List Oper} (hch : Chain P A ts S0 ds Sf) (hck : Chk (itersOf S0.h) (ds.map (·.lg))) (hts : A.toList = ts ++ us) (hne : us ≠ [])
    (hcov : ∀ (i : Nat) (o : Oper), us[i]? = some o → covers (ds.map (·.lg)).reverse (cDeps o) = true ∨ ∃ d ∈ cDeps o, ts.length ≤ d) {g0 : Gh} {w0 : World}
    {ro : Option Nat} {Q : Exit → Act → World → Prop} (hlast : ∀ (listed : Array Bool) (g : Gh) (a : Act) (w : World), listed.size = A.size → (∀ j, listed.getD j false = decide (j < ts.length)) → Sim P g Sf a w → Ext g0 w0 g w All →
      wpAnyIn (Fn ro) 0 P .any A Q us.length listed a w) :
    ∀ (fuel : Nat) (listed : Array Bool) (g : Gh) (a : Act) (w : World), listed.size = A.size → (∀ j, ts.length ≤ j → listed.getD j false = false) → Down ds (fun j => listed.getD j false) → DInv P S0 ds (fun j => listed.getD j false) g0 w0 g a w →
      ((List.range A.size).countP fun j => !listed.getD j false) = fuel → wpAnyIn (Fn ro) 0 P .any A Q fuel listed a w := by
  have hn : ds.length = ts.length := hch.end.1
  have hsz' : A.size = ts.length + us.length := by rw [← Array.length_toList, hts]; simp
  have hpos : 0 < us.length := List.length_pos_iff.2 hne
  have hget : ∀ j, j < ts.length → ∀ x, A[j]? = some x → ts[j]? = some x := fun j hj x hx => by
    rw [← Array.getElem?_toList, hts, List.getElem?_append_left hj] at hx; exact hx
  have hgetu : ∀ j, ts.length ≤ j → ∀ x, A[j]? = some x → us[j - ts.length]? = some x := fun j hj x hx => by
    rw [← Array.getElem?_toList, hts, List.getElem?_append_right hj] at hx; exact hx
  have hall : ∀ (m : List Nat), covers (ds.map (·.lg)).reverse m = true → ∀ E : Nat → Bool, Down ds E → (∀ j ∈ m, E j = true) → ∀ j, j < ds.length → E j = true := fun m hcv E hd hm j hj => by
    obtain ⟨hc1, hc2⟩ := Bool.and_eq_true_iff.1 hcv
    refine covGo_spec hc2 (fun i x hx => ?_) hm j (by simpa using hj)
    rw [List.reverse_reverse, List.getElem?_map, Option.map_eq_some_iff] at hx
    obtain ⟨d, h1, rfl⟩ := hx
    exact hd i d h1
  have deps_eq : ∀ (j : Nat) (x : Oper), ts[j]? = some x → ∀ d : DS, ds[j]? = some d → d.lg.deps = cDeps x := fun j x hx d hd => by
    obtain ⟨Si, d', e1, e2, _⟩ := hch.at j x hx
    rw [hd] at e1; cases e1
    rw [(lg_upd e2).2.2.1]
    unfold cOper
    cases hg : x.guard with
    | none => rfl
    | some jw =>
      obtain ⟨j', want⟩ := jw
      simp only
      cases hs : (A[j']?).bind (·.dst) <;> rfl
  intro fuel
  induction fuel with
  | zero =>
    intro listed g a w hsz hl hdown hI hc
    have := count_zero (E := fun j => listed.getD j false) hc ts.length (by omega)
    rw [hl _ (Nat.le_refl _)] at this; cases this
  | succ fuel ih =>
    intro listed g a w hsz hl hdown hI hc
    by_cases hdone : ∀ j, j < ts.length → listed.getD j false = true
    · have hE : ∀ j, listed.getD j false = decide (j < ts.length) := fun j => by
        rcases Nat.lt_or_ge j ts.length with h | h
        · rw [hdone j h, decide_eq_true h]
        · rw [hl j h]; simp; omega
      have : fuel + 1 = us.length := by
        rw [← hc, hsz']
        simp only [hE]
        exact cnt_tail _ _
      rw [this]
      exact hlast listed g a w hsz hE (hI.done hch fun j hj => hdone j (by omega)) hI.ext
    have rdy : ∀ j, j < A.size → listed.getD j false = false → ∀ x, A[j]? = some x → (∀ e ∈ cDeps x, listed.getD e false = true) → j ∈ Region.ready .any A listed := fun j hj hE x hx hd => by
      refine mem_ready.2 ⟨?_, x, hx, fun e he hb => ?_⟩
      · simp [hsz, hj] at hE ⊢; exact hE
      · refine hd e.on ?_
        simp only [cDeps, List.mem_map, List.mem_filter]
        exact ⟨e, ⟨by simpa using he, hb⟩, rfl⟩
    refine ⟨fun hnil => ?_, fun i hi => ?_⟩
    · exfalso
      refine hdone fun j => ?_
      induction j using Nat.strongRecOn with
      | _ j ihj =>
        intro hj
        cases hE : listed.getD j false with
        | true => rfl
        | false =>
          exfalso
          have hx : A[j]? = some (A[j]'(by omega)) := by simp
          have hm := rdy j (by omega) hE _ hx fun e he => by
            have hd : ds[j]? = some (ds[j]'(by omega)) := by simp
            have := hck.lt j _ (by rw [List.getElem?_map, hd]; rfl) e (by rw [deps_eq j _ (hget j hj _ hx) _ hd]; exact he)
            exact ihj e this (by omega)
          rw [hnil] at hm; cases hm
    · obtain ⟨h0, x, hx, hdp⟩ := mem_ready.1 hi
      have hlt : i < A.size := (Array.getElem?_eq_some_iff.1 hx).1
      have hE : listed.getD i false = false := by simp [hsz, hlt] at h0 ⊢; exact h0
      have hE' : ∀ j, (listed.setIfInBounds i true).getD j false = (listed.getD j false || j == i) := by
        intro j
        by_cases e : i = j
        · subst e; simp [hsz, hlt]
        · rw [getD_set_ne false e]
          have : (j == i) = false := by simpa using fun h => e h.symm
          rw [this, Bool.or_false]
      have hdeps : ∀ k ∈ cDeps x, listed.getD k false = true := fun k hk => by
        simp only [cDeps, List.mem_map, List.mem_filter] at hk
        obtain ⟨e, ⟨he, hb⟩, rfl⟩ := hk
        exact hdp e (by simpa using he) hb
      have hcnt := count_one (E := fun j => listed.getD j false) (E' := fun j => (listed.setIfInBounds i true).getD j false) hE hE' A.size
      rw [if_pos hlt, hc] at hcnt
      have hil : i < ts.length := by
        rcases Nat.lt_or_ge i ts.length with h | h
        · exact h
        · exfalso
          rcases hcov _ x (hgetu i h x hx) with hcv | ⟨d, hd, hdl⟩
          · exact hdone fun j hj => hall _ hcv _ hdown hdeps j (by omega)
          · have := hdeps d hd
            rw [hl d hdl] at this; cases this
      refine draw_step hch hck hI hdown hx (hget i hil x hx) hE hdeps hE' fun g' a' w' hI' => ?_
      refine ih _ g' a' w' (by simpa using hsz) (fun j hj => ?_) (fun k d hk hEk j hj => ?_) hI' (by omega)
      · rw [hE', hl j hj]; simp; omega
      · simp only [hE'] at hEk ⊢
        by_cases e : k = i
        · subst e
          rw [deps_eq k x (hget k hil x hx) d hk] at hj
          rw [hdeps j hj]; rfl
        · have e' : (k == i) = false := by simpa using e
          rw [e', Bool.or_false] at hEk
          have := hdown k d hk hEk j hj
          simp only at this
          rw [this]; rfl
theorem mapEnt_run {t kt et : TypeId} {sh : TShape} {z : SV} (hu : P.underlying t = some (.map kt et)) (hs : shapeT P 8 kt = some sh) (hz : zeroT P et = some z) {g : Gh} {w : World} {key : SV} {kv : Value}
    (hk : g.den w key kv) (ho : shOK sh key) {es : List (SV × SV)} (hes : ∀ e ∈ es, shOK sh e.1) {m : Nat} {ents : Array MapEntry} {idx : List Nat} (hh : w.heap[m]? = some (.map ents ents.size)) (hp : idx.Perm (List.range ents.size))
    (hb : borns ents) (hd : g.denM w es ents idx) {pre post : List (SV × SV)} {v0 : SV} (hcase : es = pre ++ (key, v0) :: post ∨ (post = [] ∧ v0 = z ∧ es = pre)) (hpre : ∀ e ∈ pre, key ≠ e.1) (hpost : ∀ e ∈ post, key ≠ e.1) :
    ∃ (j : Nat) (u : Value) (w1 : World) (ents' : Array MapEntry) (ipre ipost : List Nat) (en : MapEntry), (Instr.mapEntry t (.map (some m)) kv).run P w = .ok (.tuple #[u, goInt (j : Int)]) (w1.putObj m (.map ents' ents'.size)) ∧ (w1 = w ∨ w1 = w.drew) ∧
      (ipre ++ j :: ipost).Perm (List.range ents'.size) ∧ borns ents' ∧ ents'[j]? = some en ∧ g.den w key en.key ∧ g.den w v0 en.val ∧ g.denM w pre ents' ipre ∧ g.denM w post ents' ipost := by
  have hch := checkKey_run (P := P) 8 kt sh hs false 10000 (by omega) hk ho
  have hgo : (getObj m).run P w = .ok (.map ents ents.size) w := by simp [getObj, Sem.run, hh]
  have hso : ∀ {w : World} (o : Obj), w.heap[m]? = some (.map ents ents.size) → (setObj m o).run P w = .ok () (w.putObj m o) := by
    intro w o hh; simp [setObj, Sem.run, hh, World.putObj]
  obtain ⟨r, f1, f2, f3⟩ := find_told hs hk ho hp hd hes
  rcases hcase with he | ⟨rfl, rfl, rfl⟩
  · obtain ⟨j, en, rfl, h1, h2, h3, ipre, ipost, e2, h6, h7⟩ := f3 pre v0 post he hpre hpost
    obtain ⟨kk, w1, hk1, hk2, hk3⟩ := run_keyThatStays (P := P) en.key kv w
    have hw1 : w1.heap[m]? = some (.map ents ents.size) := by rcases hk3 with rfl | rfl <;> exact hh
    let ents' := ents.modify j fun e => { e with key := kk }
    have hsz : ents'.size = ents.size := by simp [ents']
    have hnd : idx.Nodup := hp.nodup_iff.2 List.nodup_range
    rw [e2] at hnd hp
    have hne : ∀ i ∈ ipre ++ ipost, i ≠ j := by
      intro i hi' e
      subst e
      rw [List.nodup_append] at hnd
      rcases List.mem_append.1 hi' with hi' | hi'
      · exact hnd.2.2 i hi' i (by simp) rfl
      · exact (List.nodup_cons.1 hnd.2.1).1 hi'
    have keep : ∀ i ∈ ipre ++ ipost, ∀ e, ents[i]? = some e → ∃ e', ents'[i]? = some e' ∧ e'.key = e.key ∧ e'.val = e.val := by
      intro i hi' e hie
      exact ⟨e, by simp only [ents', Array.getElem?_modify]; rw [if_neg (fun e => hne i hi' e.symm)]; exact hie, rfl, rfl⟩
    refine ⟨j, en.val, w1, ents', ipre, ipost, { en with key := kk }, ?_, hk3, by rw [hsz]; exact hp, ?_, by simp [ents', Array.getElem?_modify, h1], ?_, h3, denM_ents h6 fun i hi' => keep i (by simp [hi']), denM_ents h7 fun i hi' => keep i (by simp [hi'])⟩
    · have hk1' : (Instr.keyThatStays (((ents[j]?).map (·.key)).getD kv) kv).run P w = .ok kk w1 := by simpa [h1] using hk1
      have hbj : ((ents[j]?).map fun x => (x.born : Int)).getD 0 = (j : Int) := by rw [h1]; simp [hb j en h1]
      simp only [Instr.mapEntry, Sem.run_bind, run_underlying hu, Result.andThen, hgo, hch, f1, hk1']
      rw [hso _ hw1, hsz]
      simp only [Sem.run_pure, hbj]
      rfl
    · intro i e hie
      simp only [ents', Array.getElem?_modify] at hie
      split at hie
      · simp only [Option.map_eq_some_iff] at hie
        obtain ⟨e', h8, rfl⟩ := hie
        exact hb i e' h8
      · exact hb i e hie
    · rcases hk2 with rfl | rfl
      · exact h2
      · exact hk
  · obtain rfl := f2 hpre
    obtain ⟨i, zv, hi, hzv, hsv, hn⟩ := zeroT_spec hz
    let ents' := ents.push { key := kv, val := zv, born := ents.size }
    have hsz : ents'.size = ents.size + 1 := by simp [ents']
    have hlt : ∀ i ∈ idx, i < ents.size := fun i hi' => by simpa using hp.mem_iff.1 hi'
    refine ⟨ents.size, zv, w, ents', idx, [], _, ?_, .inl rfl, ?_, ?_, by simp [ents']; rfl, hk, toSV_den 8 zv _ hsv, denM_ents hd fun i hi' e hie => ⟨e, ?_, rfl, rfl⟩, by simp only [Gh.denM, denM]⟩
    · simp only [Instr.mapEntry, Sem.run_bind, run_underlying hu, Result.andThen, hgo, hch, f1, run_zeroValue' hi hzv]
      rw [hso _ hh, hsz]
      rfl
    · rw [hsz, List.range_succ]
      exact hp.append_right _
    · intro i e hie
      simp only [ents', Array.getElem?_push] at hie
      split at hie
      · rename_i hlt
        cases hie
        exact hlt.symm
      · exact hb i e hie
    · simp only [ents', Array.getElem?_push]
      rw [if_neg (by have := hlt i hi'; omega)]
      exact hie
theorem entSt_run {t : TypeId} {w : World} {m : Nat} {ents : Array MapEntry} (hh : w.heap[m]? = some (.map ents ents.size)) (hb : borns ents) {j : Nat} {en : MapEntry} (hj : ents[j]? = some en) (v : Value) :
    (Instr.entryStore t (.map (some m)) (goInt (j : Int)) v).run P w = .ok () (w.putObj m (.map (ents.modify j fun e => { e with val := v }) ents.size)) := by
  have hgo : (getObj m).run P w = .ok (.map ents ents.size) w := by simp [getObj, Sem.run, hh]
  have hso : ∀ (o : Obj), (setObj m o).run P w = .ok () (w.putObj m o) := by
    intro o; simp [setObj, Sem.run, hh, World.putObj]
  have hlt : j < ents.size := (Array.getElem?_eq_some_iff.1 hj).1
  have hfi : ents.findIdx? (fun e => (e.born : Int) == (j : Int)) = some j := by
    rw [Array.findIdx?_eq_some_iff_getElem]
    refine ⟨hlt, ?_, fun i hij => ?_⟩
    · have := hb j _ (Array.getElem?_eq_getElem hlt)
      simp [this]
    · have := hb i _ (Array.getElem?_eq_getElem (show i < ents.size by omega))
      simp [this]; omega
  simp only [Instr.entryStore, Sem.run_bind, Sem.run_pure, Result.andThen, hgo, asInt, asIntOf, goInt, hfi]
  exact hso _
def noStop : List TOper → Bool
  | [] => true
  | t :: ts => !isStop t.op && noStop ts
theorem evD_chain {r : Fr} (hm : P.follows .mixedOrders = true) : ∀ {ts : List TOper} {S : St} {log : List Lg} {it : List Nat} {K : St → Prop}, noStop ts = true → evD P r ts S log it K →
    ∀ (A : Array Oper) (os : List Oper), os.map (cOper P A true) = ts → ∃ ds Sf, Chain P A os S ds Sf ∧ chkGo it (log.reverse ++ ds.map (·.lg)) 0 [] [] = true ∧ K Sf
  | [], S, log, it, K, _, hK => fun A os hos => by
    have : os = [] := by cases os with | nil => rfl | cons o os => cases hos
    subst this
    rw [evD_nil, Ev_iff, Vc_iff] at hK
    exact ⟨[], S, ⟨rfl, rfl⟩, by simpa using hK.1, hK.2⟩
  | t :: ts, ⟨σ, h, mks⟩, log, it, K, hns, hK => fun A os hos => by
    simp only [noStop, Bool.and_eq_true, Bool.not_eq_true'] at hns
    cases os with
    | nil => cases hos
    | cons o os =>
    simp only [List.map_cons, List.cons.injEq] at hos
    obtain ⟨rfl, hos⟩ := hos
    rw [evD_cons] at hK
    obtain ⟨b, hg, hK⟩ := guardK_true hK
    cases b with
    | true =>
      simp only [hns.1] at hK
      have hK := lenK_iff _ _ hK
      have hb : (cOper P A true o).op ≠ .bad := fun e => by rw [e] at hK; exact hK
      obtain ⟨c1, c2⟩ := cOper_cases P A true o
      rcases c2 with ⟨c2, _⟩ | ⟨c2, _⟩
      · rw [c2] at hK
        obtain ⟨sv, upd, nb, h1, h2, h3⟩ := ev_sound o hK
        rw [setD_iff] at h1
        obtain ⟨h', hTD, l1, l2, l3⟩ := updK_wr h1
        obtain ⟨ds, Sf, k1, k2, k3⟩ := evD_chain hm hns.2 hTD A os hos
        exact ⟨⟨lgOf (cOper P A true o) upd nb, sv, upd⟩ :: ds, Sf, ⟨_, ds, ⟨match (cOper P A true o).dst with | none => σ | some n => σ.set n sv, h', mks⟩, rfl,
          .inl ⟨nb, rfl, hg, hb, h2.orun (ev_nodefer hK), fun p hp => (h3 p hp).imp id fun h => ⟨h.1, h.2.lt⟩⟩, ⟨rfl, l1, l2, l3, rfl⟩, k1⟩, by simpa using k2, k3⟩
      · exact absurd c2 hb
    | false =>
      simp only at hK
      rw [setD_iff] at hK
      obtain ⟨ds, Sf, k1, k2, k3⟩ := evD_chain hm hns.2 hK A os hos
      exact ⟨⟨lgOf (cOper P A true o) [] [], .tup [], []⟩ :: ds, Sf, ⟨_, ds, ⟨match (cOper P A true o).dst with | none => σ | some n => σ.set n (.tup []), h, mks⟩, rfl, .inr ⟨hg, rfl⟩, ⟨rfl, Nat.le_refl _, by simp, fun _ => rfl, rfl⟩, k1⟩, by simpa using k2, k3⟩
theorem cOpd_t {X : Operand} {m : Nat} (h : cOpd X = .t m) : X = .tmp m := by
  cases X <;> simp [cOpd] at h
  rw [h]
theorem inv_mapEnt {op : Op} {sh : TShape} {z : SV} {x k : TOpd} (h : cOp P op = .mapEnt sh z x k) : ∃ t kt e X K, op = .mapEntry t X K ∧ P.underlying t = some (.map kt e) ∧ zeroT P e = some z ∧ shapeT P 8 kt = some sh ∧ cOpd X = x ∧ cOpd K = k := by
  cases op <;> simp only [cOp] at h
  case mapEntry t X K =>
    split at h
    · rename_i kt e hu
      split at h
      · rename_i z' sh' hz hs
        cases h
        exact ⟨t, kt, e, X, K, rfl, hu, hz, hs, rfl, rfl⟩
      · cases h
    · cases h
  all_goals (first | (cases h; done) | skip)
  all_goals (try unfold cCall at h)
  all_goals (try unfold cBin at h)
  all_goals (repeat' split at h)
  all_goals (first | contradiction | (cases h; done))
theorem inv_entSt {op : Op} {x s v : TOpd} (h : cOp P op = .entSt x s v) : ∃ t X S V, op = .entryStore t X S V ∧ cOpd X = x ∧ cOpd S = s ∧ cOpd V = v := by
  cases op <;> simp only [cOp] at h
  case entryStore t X S V => cases h; exact ⟨t, X, S, V, rfl, rfl, rfl, rfl⟩
  all_goals (first | (cases h; done) | skip)
  all_goals (try unfold cCall at h)
  all_goals (try unfold cBin at h)
  all_goals (repeat' split at h)
  all_goals (first | contradiction | (cases h; done))
def tslot (σ : List SV) (v0 v1 : SV) (j : Nat) (sl sa se ss : Nat) (eL eA eM eX : Bool) (s : Nat) : SV :=
  if s = sl then (if eL = true then v0 else .junk) else if s = sa then (if eA = true then v1 else .junk) else if s = se then (if eM = true then .tup [.junk, .int .i64 j] else .junk) else
    if s = ss then (if eX = true then .int .i64 j else .junk) else getS σ s
structure TI (P : Program) (σ : List SV) (h : List LB) (b : Nat) (key v0 v1 : SV) (sl sa se ss : Nat) (es pre post : List (SV × SV)) (g0 : Gh) (w0 : World) (j : Nat) (eL eA eM eX : Bool) (g : Gh) (a : Act) (w : World) : Prop where
  ok : GOk g w
  ext : Ext g0 w0 g w All
  dom : ∀ c, g.dom c → c < h.length
  sz : a.tmps.size = σ.length
  tm : ∀ s, s < σ.length → g.den w (tslot σ v0 v1 j sl sa se ss eL eA eM eX s) (a.tmps.toList.getD s undef)
  hp : ∀ c, c ≠ b → lbden P w g c (hget h c)
  df : dfden g w a.defers
  mp : ∃ l ents idx, g.ι b = some l ∧ w.heap[l.blk]? = some (.map ents ents.size) ∧ idx.Perm (List.range ents.size) ∧ borns ents ∧ (eM = false → g.denM w es ents idx) ∧
    (eM = true → ∃ ipre ipost en, idx = ipre ++ j :: ipost ∧ ents[j]? = some en ∧ g.den w key en.key ∧ g.den w v0 en.val ∧ g.denM w pre ents ipre ∧ g.denM w post ents ipost)
theorem put_sz (a : Act) (d : Option Nat) (v : Value) : (a.put d v).tmps.size = a.tmps.size := by cases d <;> simp [Act.put]
theorem put_df (a : Act) (d : Option Nat) (v : Value) : (a.put d v).defers = a.defers := by cases d <;> rfl
theorem put_same {a : Act} {d : Nat} (h : d < a.tmps.size) (v : Value) : (a.put (some d) v).tmps.toList.getD d undef = v := by simp [Act.put, List.getD, h]
theorem put_other {a : Act} {d s : Nat} (h : d ≠ s) (v : Value) : (a.put (some d) v).tmps.toList.getD s undef = a.tmps.toList.getD s undef := by
  simp only [Act.put, Array.set!, Array.toList_setIfInBounds, List.getD]
  rw [List.getElem?_set_ne h]
section tail
variable {σ : List SV} {h : List LB} {b : Nat} {key v0 v1 : SV} {sl sa se ss : Nat} {es pre post : List (SV × SV)} {g0 : Gh} {w0 : World}
theorem TI.pure {j : Nat} {eL eA eM eX eL' eA' eX' : Bool} {g : Gh} {a : Act} {w : World} (hI : TI P σ h b key v0 v1 sl sa se ss es pre post g0 w0 j eL eA eM eX g a w) (hb : g.dom b) {o : Oper} {σ' : List SV} {h' : List LB} {nid : Nat} {sv : SV} {nb : List Nat}
    (hr : ORun P o σ' h' nid sv [] nb) (hops : ∀ t, t ∈ rds o.op.operands.toList → g.den w (getS σ' t) (a.tmps.toList.getD t undef)) (hnb : ∀ c ∈ nb, lbden P w g c (hget h' c)) {d : Nat} (hd : o.dst = some d) (hdl : d < σ.length)
    (htm : ∀ s, tslot σ v0 v1 j sl sa se ss eL' eA' eM eX' s = if s = d then sv else tslot σ v0 v1 j sl sa se ss eL eA eM eX s) {ro : Option Nat} {Q : Exit → Act → World → Prop} {K : Act → World → Prop}
    (hK : ∀ g' a' w', TI P σ h b key v0 v1 sl sa se ss es pre post g0 w0 j eL' eA' eM eX' g' a' w' → g'.dom b → K a' w') : o.uponIn (Fn ro) 0 P a K Q ((o.semAt ro a.eval).run P w) := by
  refine hr g a w ro K Q hI.ok ⟨_, hI.dom⟩ (by simp) (fun x hx => opd_den x fun t ht => hops t (by subst ht; exact rds_mem hx)) hnb fun v w' g' k1 k2 k3 _ k5 => ?_
  have hU : ∀ c, ¬ ids ([] : List (Nat × LB)) c := fun c => by simp [ids]
  refine hK g' _ w' ⟨k1, hI.ext.trans (k2.more fun _ _ => trivial), fun c hc => hI.dom c ((k5 c hc).resolve_right (hU c)), by rw [put_sz]; exact hI.sz, fun s hs => ?_, fun c hc => k2.lb hI.ok (hU c) (fun c' _ => hU c') (hI.hp c hc), by rw [put_df]; exact k2.df hI.df, ?_⟩ (k2.dom b hb)
  · rw [htm, hd]
    split
    · rename_i e
      rw [e, put_same (by rw [hI.sz]; exact hdl)]
      exact k3
    · rename_i e
      rw [put_other (fun h => e h.symm)]
      exact k2.den hI.ok (hI.tm s hs)
  · obtain ⟨l, ents, idx, m1, m2, m3, m4, m5, m6⟩ := hI.mp
    refine ⟨l, ents, idx, ((k2.ι b hb).1 (hU b)).trans m1, ?_, m3, m4, fun e => k2.denM hI.ok (m5 e), fun e => ?_⟩
    · rw [k2.old l.blk (hI.ok.own b l m1).2.1 (fun c _ hc => absurd hc (hU c))]; exact m2
    · obtain ⟨ipre, ipost, en, n1, n2, n3, n4, n5, n6⟩ := m6 e
      exact ⟨ipre, ipost, en, n1, n2, k2.den hI.ok n3, k2.den hI.ok n4, k2.denM hI.ok n5, k2.denM hI.ok n6⟩
theorem put_world {w w1 : World} {r : Nat} {ents ents' : Array MapEntry} (hw : w1 = w ∨ w1 = w.drew) (hh : w.heap[r]? = some (.map ents ents.size)) :
    (w1.putObj r (.map ents' ents'.size)).os = w.os ∧ (w1.putObj r (.map ents' ents'.size)).tape = w.tape ∧ (w1.putObj r (.map ents' ents'.size)).output = w.output ∧
      (w1.putObj r (.map ents' ents'.size)).heap.size = w.heap.size ∧ (∀ r', r' ≠ r → (w1.putObj r (.map ents' ents'.size)).heap[r']? = w.heap[r']?) ∧
      (w1.putObj r (.map ents' ents'.size)).heap[r]? = some (.map ents' ents'.size) := by
  have hlt : r < w.heap.size := (Array.getElem?_eq_some_iff.1 hh).1
  rcases hw with rfl | rfl
  · exact ⟨rfl, rfl, rfl, by simp, fun r hr => World.putObj_heap_other hr, World.putObj_heap_same hlt⟩
  · exact ⟨rfl, rfl, rfl, by simp [World.putObj_size], fun r hr => World.putObj_heap_other hr, World.putObj_heap_same hlt⟩
theorem TI.make {j : Nat} {eL eA : Bool} {g : Gh} {a : Act} {w : World} (hI : TI P σ h b key v0 v1 sl sa se ss es pre post g0 w0 j eL eA false false g a w) (hb : g.dom b) {o : Oper} {t kt et : TypeId} {sh : TShape} {z : SV} {m k : Nat}
    (hop : o.op = .mapEntry t (.tmp m) (.tmp k)) (hu : P.underlying t = some (.map kt et)) (hs : shapeT P 8 kt = some sh) (hz : zeroT P et = some z) (hd : o.dst = some se) (hsel : se < σ.length) (hml : m < σ.length) (hkl : k < σ.length)
    (hm : getS σ m = .mp b) (hk : getS σ k = key) (hmn : m ≠ sl ∧ m ≠ sa ∧ m ≠ se ∧ m ≠ ss) (hkn : k ≠ sl ∧ k ≠ sa ∧ k ≠ se ∧ k ≠ ss) (hse : se ≠ sl ∧ se ≠ sa) (ho : shOK sh key) (hes : ∀ e ∈ es, shOK sh e.1)
    (hcase : es = pre ++ (key, v0) :: post ∨ (post = [] ∧ v0 = z ∧ es = pre)) (hpre : ∀ e ∈ pre, key ≠ e.1) (hpost : ∀ e ∈ post, key ≠ e.1) (hni : ∀ i, b ∉ (hget h i).deps) {ro : Option Nat} {Q : Exit → Act → World → Prop} {K : Act → World → Prop}
    (hK : ∀ j' g' a' w', TI P σ h b key v0 v1 sl sa se ss es pre post g0 w0 j' eL eA true false g' a' w' → g'.dom b → K a' w') : o.uponIn (Fn ro) 0 P a K Q ((o.semAt ro a.eval).run P w) := by
  obtain ⟨l, ents, idx, hi, hh, hp, hbo, hd0, _⟩ := hI.mp
  have hdm := hd0 rfl
  have hcm := hI.tm m hml
  have hck := hI.tm k hkl
  simp only [tslot, if_neg hmn.1, if_neg hmn.2.1, if_neg hmn.2.2.1, if_neg hmn.2.2.2, hm] at hcm
  simp only [tslot, if_neg hkn.1, if_neg hkn.2.1, if_neg hkn.2.2.1, if_neg hkn.2.2.2, hk] at hck
  have em : a.eval (.tmp m) = .map (some l.blk) := by
    simp only [Gh.den, den] at hcm
    have := hcm.2.2 l hi
    simpa [Act.eval] using this
  have ek : a.tmps.toList.getD k undef = a.eval (.tmp k) := by simp [Act.eval]
  rw [ek] at hck
  obtain ⟨j', u, w1, ents', ipre, ipost, en, r1, r2, r3, r4, r5, r6, r7, r8, r9⟩ := mapEnt_run (P := P) hu hs hz (g := g) (w := w) hck ho hes hh hp hbo hdm hcase hpre hpost
  obtain ⟨q1, q2, q3, q4, q5, q6⟩ := put_world (ents' := ents') r2 hh
  obtain ⟨g1, g2⟩ := ext_set (U := fun c => c = b) hI.ok hi rfl q1 q2 q3 q4 q5
  have hx : (execOp a.eval o).run P w = .ok (.value (.tuple #[u, goInt (j' : Int)])) (w1.putObj l.blk (.map ents' ents'.size)) := by
    simp only [execOp, hop, Sem.run_bind, em, r1, Result.andThen, Sem.run_pure]
  rw [Oper.semAt_eq ro a.eval o (by rw [hop]; intro c hc; cases hc), hx, Oper.uponIn_value]
  refine hK j' g _ _ ⟨g1, hI.ext.trans (g2.more fun _ _ => trivial), hI.dom, by rw [put_sz]; exact hI.sz, fun s hs' => ?_, fun c hc => g2.lb hI.ok hc (fun c' hc' e => hni c (e ▸ hc')) (hI.hp c hc), by rw [put_df]; exact g2.df hI.df, ?_⟩ hb
  · rw [hd]
    by_cases e : s = se
    · subst e
      rw [put_same (by rw [hI.sz]; exact hsel)]
      simp only [tslot, if_neg hse.1, if_neg hse.2, if_true, Gh.den, den, denL]
      exact ⟨_, rfl, _, _, rfl, trivial, _, _, rfl, rfl, rfl⟩
    · rw [put_other (fun h => e h.symm)]
      have := g2.den hI.ok (hI.tm s hs')
      simp only [tslot, if_neg e] at this ⊢
      exact this
  · exact ⟨l, ents', ipre ++ j' :: ipost, hi, q6, r3, r4, fun e => (by cases e), fun _ => ⟨ipre, ipost, en, rfl, r5, g2.den hI.ok r6, g2.den hI.ok r7, g2.denM hI.ok r8, g2.denM hI.ok r9⟩⟩
theorem TI.keep {j : Nat} {g : Gh} {a : Act} {w : World} (hI : TI P σ h b key v0 v1 sl sa se ss es pre post g0 w0 j true true true true g a w) {o : Oper} {t : TypeId} {m : Nat}
    (hop : o.op = .entryStore t (.tmp m) (.tmp ss) (.tmp sa)) (hd : o.dst = none) (hml : m < σ.length) (hsl : sa < σ.length) (hssl : ss < σ.length) (hm : getS σ m = .mp b) (hmn : m ≠ sl ∧ m ≠ sa ∧ m ≠ se ∧ m ≠ ss)
    (hsa : sa ≠ sl) (hss : ss ≠ sl ∧ ss ≠ sa ∧ ss ≠ se) (hni : ∀ i, b ∉ (hget h i).deps) {σ4 : List SV} {h4 : List LB} {mks : List Nat} (hσ : σ4.length = σ.length)
    (hσ4 : ∀ s, getS σ4 s = if s = sl then v0 else if s = sa then v1 else if s = se then .junk else if s = ss then .junk else getS σ s) (hh4 : h.length ≤ h4.length) (hg4 : ∀ c, hget h4 c = if c = b then .map (pre ++ (key, v1) :: post) else hget h c)
    {ro : Option Nat} {Q : Exit → Act → World → Prop} {K : Act → World → Prop} (hK : ∀ g' a' w', Sim P g' ⟨σ4, h4, mks⟩ a' w' → Ext g0 w0 g' w' All → K a' w') : o.uponIn (Fn ro) 0 P a K Q ((o.semAt ro a.eval).run P w) := by
  obtain ⟨l, ents, idx, hi, hh, hp, hbo, _, hd1⟩ := hI.mp
  obtain ⟨ipre, ipost, en, rfl, n2, n3, n4, n5, n6⟩ := hd1 rfl
  have hcm := hI.tm m hml
  have hcs := hI.tm ss hssl
  have hca := hI.tm sa hsl
  simp only [tslot, if_neg hmn.1, if_neg hmn.2.1, if_neg hmn.2.2.1, if_neg hmn.2.2.2, hm] at hcm
  simp only [tslot, if_neg hss.1, if_neg hss.2.1, if_neg hss.2.2, if_true, Gh.den, den] at hcs
  simp only [tslot, if_neg hsa, if_true] at hca
  have em : a.eval (.tmp m) = .map (some l.blk) := by
    simp only [Gh.den, den] at hcm
    have := hcm.2.2 l hi
    simpa [Act.eval] using this
  have es' : a.eval (.tmp ss) = goInt (j : Int) := by
    have : a.tmps.toList.getD ss undef = goInt (j : Int) := hcs
    simpa [Act.eval] using this
  have ea : a.tmps.toList.getD sa undef = a.eval (.tmp sa) := by simp [Act.eval]
  rw [ea] at hca
  let ents' := ents.modify j fun e => { e with val := a.eval (.tmp sa) }
  have hsz : ents'.size = ents.size := by simp [ents']
  have r1 := entSt_run (P := P) (t := t) hh hbo n2 (a.eval (.tmp sa))
  rw [← hsz] at r1
  change (Instr.entryStore t (.map (some l.blk)) (goInt (j : Int)) (a.eval (.tmp sa))).run P w = .ok () (w.putObj l.blk (.map ents' ents'.size)) at r1
  obtain ⟨q1, q2, q3, q4, q5, q6⟩ := put_world (ents' := ents') (.inl rfl : w = w ∨ w = w.drew) hh
  obtain ⟨g1, g2⟩ := ext_set (U := fun c => c = b) hI.ok hi rfl q1 q2 q3 q4 q5
  have hx : (execOp a.eval o).run P w = .ok .skip (w.putObj l.blk (.map ents' ents'.size)) := by
    simp only [execOp, hop, Sem.run_bind, em, es', r1, Result.andThen, Sem.run_pure]
  have hnd : (ipre ++ j :: ipost).Nodup := hp.nodup_iff.2 List.nodup_range
  have hne : ∀ i ∈ ipre ++ ipost, i ≠ j := by
    intro i hi' e
    subst e
    rw [List.nodup_append] at hnd
    rcases List.mem_append.1 hi' with hi' | hi'
    · exact hnd.2.2 i hi' i (by simp) rfl
    · exact (List.nodup_cons.1 hnd.2.1).1 hi'
  have keep : ∀ i ∈ ipre ++ ipost, ∀ e, ents[i]? = some e → ∃ e', ents'[i]? = some e' ∧ e'.key = e.key ∧ e'.val = e.val := by
    intro i hi' e hie
    exact ⟨e, by simp only [ents', Array.getElem?_modify]; rw [if_neg (fun e => hne i hi' e.symm)]; exact hie, rfl, rfl⟩
  rw [Oper.semAt_eq ro a.eval o (by rw [hop]; intro c hc; cases hc), hx, Oper.uponIn_skip, hd]
  refine hK g _ _ ⟨g1, fun c hc => Nat.lt_of_lt_of_le (hI.dom c hc) hh4, ?_, fun c => ?_, g2.df hI.df⟩ (hI.ext.trans (g2.more fun _ _ => trivial))
  · refine denL_points (by rw [hσ, Array.length_toList, put_sz]; exact hI.sz) fun s hs' => ?_
    rw [hσ] at hs'
    have := g2.den hI.ok (hI.tm s hs')
    simp only [tslot, if_true] at this
    simp only [hσ4]
    by_cases e1 : s = sl
    · simp only [if_pos e1] at this ⊢; exact this
    · by_cases e2 : s = sa
      · simp only [if_neg e1, if_pos e2] at this ⊢; exact this
      · by_cases e3 : s = se
        · simp only [if_neg e1, if_neg e2, if_pos e3, Gh.den, den]
        · by_cases e4 : s = ss
          · simp only [if_neg e1, if_neg e2, if_neg e3, if_pos e4, Gh.den, den]
          · simp only [if_neg e1, if_neg e2, if_neg e3, if_neg e4] at this ⊢; exact this
  · simp only [hg4]
    by_cases e : c = b
    · subst e
      simp only [if_true]
      refine ⟨l, ents', ipre ++ j :: ipost, hi, q6, by rw [hsz]; exact hp, ?_, ?_⟩
      · intro i e hie
        simp only [ents', Array.getElem?_modify] at hie
        split at hie
        · simp only [Option.map_eq_some_iff] at hie
          obtain ⟨e', h8, rfl⟩ := hie
          exact hbo i e' h8
        · exact hbo i e hie
      · refine g2.denM hI.ok (denM_append (denM_ents n5 fun i hi' => keep i (by simp [hi'])) ?_)
        simp only [denM]
        exact ⟨j, ipost, { en with val := a.eval (.tmp sa) }, rfl, by simp [ents', Array.getElem?_modify, n2], n3, hca, denM_ents n6 fun i hi' => keep i (by simp [hi'])⟩
    · simp only [if_neg e]
      exact g2.lb hI.ok e (fun c' hc' e' => hni c (e' ▸ hc')) (hI.hp c e)
def flg (n : Nat) (eL eA eM eX : Bool) (q : Nat) : Bool := if q < n then true else if q = n then eL else if q = n + 1 then eA else if q = n + 2 then eM else if q = n + 3 then eX else false
theorem flg_lt {n : Nat} {eL eA eM eX : Bool} {q : Nat} (h : q < n) : flg n eL eA eM eX q = true := if_pos h
theorem flg_0 {n : Nat} {eL eA eM eX : Bool} : flg n eL eA eM eX n = eL := by
  unfold flg; rw [if_neg (by omega), if_pos rfl]
theorem flg_1 {n : Nat} {eL eA eM eX : Bool} : flg n eL eA eM eX (n + 1) = eA := by
  unfold flg; rw [if_neg (by omega), if_neg (by omega), if_pos rfl]
theorem flg_2 {n : Nat} {eL eA eM eX : Bool} : flg n eL eA eM eX (n + 2) = eM := by
  unfold flg; rw [if_neg (by omega), if_neg (by omega), if_neg (by omega), if_pos rfl]
theorem flg_3 {n : Nat} {eL eA eM eX : Bool} : flg n eL eA eM eX (n + 3) = eX := by
  unfold flg; rw [if_neg (by omega), if_neg (by omega), if_neg (by omega), if_neg (by omega), if_pos rfl]
theorem flg_4 {n : Nat} {eL eA eM eX : Bool} : flg n eL eA eM eX (n + 4) = false := by
  unfold flg; rw [if_neg (by omega), if_neg (by omega), if_neg (by omega), if_neg (by omega), if_neg (by omega)]
theorem flg_set {n : Nat} {eL eA eM eX eL' eA' eM' eX' : Bool} {i : Nat} (h0 : eL' = (eL || (n == i))) (h1 : eA' = (eA || (n + 1 == i))) (h2 : eM' = (eM || (n + 2 == i))) (h3 : eX' = (eX || (n + 3 == i))) (hi : n ≤ i ∧ i < n + 4) (q : Nat) :
    (flg n eL eA eM eX q || q == i) = flg n eL' eA' eM' eX' q := by
  by_cases q0 : q = n
  · subst q0; rw [flg_0, flg_0, h0]
  by_cases q1 : q = n + 1
  · subst q1; rw [flg_1, flg_1, h1]
  by_cases q2 : q = n + 2
  · subst q2; rw [flg_2, flg_2, h2]
  by_cases q3 : q = n + 3
  · subst q3; rw [flg_3, flg_3, h3]
  rcases Nat.lt_or_ge q n with h | h
  · rw [flg_lt h, flg_lt h]; rfl
  · have e : (q == i) = false := by simpa using (show ¬ q = i by omega)
    unfold flg
    rw [if_neg (by omega), if_neg q0, if_neg q1, if_neg q2, if_neg q3, if_neg (by omega), if_neg q0, if_neg q1, if_neg q2, if_neg q3, e]; rfl
theorem tslot_L {v1 : SV} {j : Nat} {eA eM eX : Bool} (s : Nat) : tslot σ v0 v1 j sl sa se ss true eA eM eX s = if s = sl then v0 else tslot σ v0 v1 j sl sa se ss false eA eM eX s := by
  unfold tslot; split <;> rfl
theorem tslot_A {j : Nat} {eL eM eX : Bool} (h : sa ≠ sl) (s : Nat) : tslot σ v0 v1 j sl sa se ss eL true eM eX s = if s = sa then v1 else tslot σ v0 v1 j sl sa se ss eL false eM eX s := by
  unfold tslot
  by_cases e : s = sa
  · subst e; simp [h]
  · simp [e]
theorem tslot_X {j : Nat} {eL eA eM : Bool} (h : ss ≠ sl ∧ ss ≠ sa ∧ ss ≠ se) (s : Nat) : tslot σ v0 v1 j sl sa se ss eL eA eM true s = if s = ss then .int .i64 j else tslot σ v0 v1 j sl sa se ss eL eA eM false s := by
  unfold tslot
  by_cases e : s = ss
  · subst e; simp [h.1, h.2.1, h.2.2]
  · simp [e]
theorem incr_any {A : Array Oper} {n : Nat} {oL oA oM oX oE : Oper} (hsz : A.size = n + 5) (a0 : A[n]? = some oL) (a1 : A[n + 1]? = some oA) (a2 : A[n + 2]? = some oM) (a3 : A[n + 3]? = some oX) (a4 : A[n + 4]? = some oE)
    (gL : oL.guard = none) (gA : oA.guard = none) (gM : oM.guard = none) (gX : oX.guard = none) (gE : oE.guard = none) (dL : oL.dst = some sl) (dA : oA.dst = some sa) (dM : oM.dst = some se) (dX : oX.dst = some ss) (dE : oE.dst = none)
    (pL : ∀ e ∈ cDeps oL, e < n) (pA : ∀ e ∈ cDeps oA, e < n + 1) (pA' : n ∈ cDeps oA) (pM : ∀ e ∈ cDeps oM, e < n) (pX : ∀ e ∈ cDeps oX, e < n + 3) (pX' : n + 2 ∈ cDeps oX) (pE : ∀ e ∈ cDeps oE, e < n + 4) (pE1 : n + 1 ∈ cDeps oE) (pE3 : n + 3 ∈ cDeps oE)
    (lsl : sl < σ.length) (lsa : sa < σ.length) (lse : se < σ.length) (lss : ss < σ.length) (hsa : sa ≠ sl) (hse : se ≠ sl ∧ se ≠ sa) (hss : ss ≠ sl ∧ ss ≠ sa ∧ ss ≠ se)
    (hL : ∀ es', es' = es ∨ es' = pre ++ (key, v0) :: post → ∃ h' nid, ORun P oL σ h' nid v0 [] [b] ∧ hget h' b = .map es') (rL : ∀ t ∈ rds oL.op.operands.toList, t < σ.length ∧ t ≠ sl ∧ t ≠ sa ∧ t ≠ se ∧ t ≠ ss)
    {nA nX : Nat} (hA : ORun P oA (σ.set sl v0) h nA v1 [] []) (rA : ∀ t ∈ rds oA.op.operands.toList, t < σ.length ∧ t ≠ sa ∧ t ≠ se ∧ t ≠ ss)
    (hX : ∀ j : Nat, ORun P oX (σ.set se (.tup [.junk, .int .i64 j])) h nX (.int .i64 j) [] []) (rX : ∀ t ∈ rds oX.op.operands.toList, t < σ.length ∧ t ≠ sl ∧ t ≠ sa ∧ t ≠ ss)
    {t t' kt et : TypeId} {sh : TShape} {z : SV} {m k : Nat} (hop : oM.op = .mapEntry t (.tmp m) (.tmp k)) (hu : P.underlying t = some (.map kt et)) (hs : shapeT P 8 kt = some sh) (hz : zeroT P et = some z) (hml : m < σ.length) (hkl : k < σ.length)
    (hm : getS σ m = .mp b) (hk : getS σ k = key) (hmn : m ≠ sl ∧ m ≠ sa ∧ m ≠ se ∧ m ≠ ss) (hkn : k ≠ sl ∧ k ≠ sa ∧ k ≠ se ∧ k ≠ ss) (ho : shOK sh key) (hes : ∀ e ∈ es, shOK sh e.1)
    (hcase : es = pre ++ (key, v0) :: post ∨ (post = [] ∧ v0 = z ∧ es = pre)) (hpre : ∀ e ∈ pre, key ≠ e.1) (hpost : ∀ e ∈ post, key ≠ e.1) (hni : ∀ i, b ∉ (hget h i).deps)
    (hopE : oE.op = .entryStore t' (.tmp m) (.tmp ss) (.tmp sa)) {σ4 : List SV} {h4 : List LB} {mks : List Nat} (hσ : σ4.length = σ.length)
    (hσ4 : ∀ s, getS σ4 s = if s = sl then v0 else if s = sa then v1 else if s = se then .junk else if s = ss then .junk else getS σ s) (hh4 : h.length ≤ h4.length) (hg4 : ∀ c, hget h4 c = if c = b then .map (pre ++ (key, v1) :: post) else hget h c)
    {ro : Option Nat} {Q : Exit → Act → World → Prop} (hQ : ∀ g' a' w', Sim P g' ⟨σ4, h4, mks⟩ a' w' → Ext g0 w0 g' w' All → Q .normal a' w') :
    ∀ (fuel : Nat) (listed : Array Bool) (eL eA eM eX : Bool) (j : Nat) (g : Gh) (a : Act) (w : World), TI P σ h b key v0 v1 sl sa se ss es pre post g0 w0 j eL eA eM eX g a w → g.dom b → listed.size = A.size →
      (∀ q, listed.getD q false = flg n eL eA eM eX q) → (eA = true → eL = true) → (eX = true → eM = true) → fuel = 1 + (!eL).toNat + (!eA).toNat + (!eM).toNat + (!eX).toNat → wpAnyIn (Fn ro) 0 P .any A Q fuel listed a w := by
  intro fuel
  induction fuel with
  | zero => intro listed eL eA eM eX j g a w _ _ _ _ _ _ hf; omega
  | succ f ih =>
    intro listed eL eA eM eX j g a w hI hb hls hl hAL hXM hf
    refine ⟨fun hnil => ?_, fun i hi => ?_⟩
    · exfalso
      have rdy : ∀ q x, A[q]? = some x → listed.getD q false = false → (∀ e ∈ cDeps x, listed.getD e false = true) → False := fun q x hx hE hd => by
        have hq : q < A.size := (Array.getElem?_eq_some_iff.1 hx).1
        have : q ∈ Region.ready .any A listed := by
          refine mem_ready.2 ⟨?_, x, hx, fun e he hb => ?_⟩
          · simp [hls, hq] at hE ⊢; exact hE
          · refine hd e.on ?_
            simp only [cDeps, List.mem_map, List.mem_filter]
            exact ⟨e, ⟨by simpa using he, hb⟩, rfl⟩
        rw [hnil] at this; cases this
      cases eL with
      | false => exact rdy n oL a0 (by rw [hl, flg_0]) fun e he => by rw [hl, flg_lt (pL e he)]
      | true =>
      cases eA with
      | false =>
        exact rdy (n + 1) oA a1 (by rw [hl, flg_1]) fun e he => by
          rw [hl]
          rcases Nat.lt_or_eq_of_le (Nat.lt_succ_iff.1 (pA e he)) with h | rfl
          · exact flg_lt h
          · exact flg_0
      | true =>
      cases eM with
      | false => exact rdy (n + 2) oM a2 (by rw [hl, flg_2]) fun e he => by rw [hl, flg_lt (pM e he)]
      | true =>
      cases eX with
      | false =>
        exact rdy (n + 3) oX a3 (by rw [hl, flg_3]) fun e he => by
          rw [hl]
          have := pX e he
          have : e < n ∨ e = n ∨ e = n + 1 ∨ e = n + 2 := by omega
          rcases this with h | rfl | rfl | rfl
          · exact flg_lt h
          · exact flg_0
          · exact flg_1
          · exact flg_2
      | true =>
        exact rdy (n + 4) oE a4 (by rw [hl, flg_4]) fun e he => by
          rw [hl]
          have := pE e he
          have : e < n ∨ e = n ∨ e = n + 1 ∨ e = n + 2 ∨ e = n + 3 := by omega
          rcases this with h | rfl | rfl | rfl | rfl
          · exact flg_lt h
          · exact flg_0
          · exact flg_1
          · exact flg_2
          · exact flg_3
    · obtain ⟨hi0, x, hx, hdp⟩ := mem_ready.1 hi
      have hlt : i < A.size := (Array.getElem?_eq_some_iff.1 hx).1
      have hE : listed.getD i false = false := by simp [hls, hlt] at hi0 ⊢; exact hi0
      have hE' : ∀ q, (listed.setIfInBounds i true).getD q false = (listed.getD q false || q == i) := by
        intro q
        by_cases e : i = q
        · subst e; simp [hls, hlt]
        · rw [getD_set_ne false e]
          have : (q == i) = false := by simpa using fun h => e h.symm
          rw [this, Bool.or_false]
      have hdeps : ∀ e ∈ cDeps x, listed.getD e false = true := fun e he => by
        simp only [cDeps, List.mem_map, List.mem_filter] at he
        obtain ⟨e, ⟨he, hb⟩, rfl⟩ := he
        exact hdp e (by simpa using he) hb
      have hin : ¬ i < n := fun h => by rw [hl, flg_lt h] at hE; cases hE
      have hcs : i = n ∨ i = n + 1 ∨ i = n + 2 ∨ i = n + 3 ∨ i = n + 4 := by omega
      rcases hcs with rfl | rfl | rfl | rfl | rfl
      · rw [a0] at hx; cases hx
        rw [hl, flg_0] at hE
        subst hE
        have hA0 : eA = false := by cases eA with | false => rfl | true => exact absurd (hAL rfl) (by simp)
        subst hA0
        unfold wpOpIn
        simp only [a0]
        rw [if_pos (by simp [Region.wanted, gL])]
        refine ⟨Fn_about P w ro a.eval oL, ?_⟩
        obtain ⟨h', nid, r1, r2⟩ := hL (if eM = true then pre ++ (key, v0) :: post else es) (by split; exact .inr rfl; exact .inl rfl)
        refine TI.pure (eL' := true) (eA' := false) (eX' := eX) hI hb r1 (fun t ht => ?_) (fun c hc => ?_) dL lsl tslot_L fun g' a' w' hI' hb' => ?_
        · obtain ⟨q0, q1, q2, q3, q4⟩ := rL t ht
          have := hI.tm t q0
          simpa only [tslot, if_neg q1, if_neg q2, if_neg q3, if_neg q4] using this
        · simp only [List.mem_singleton] at hc
          subst hc
          rw [r2]
          obtain ⟨l, ents, idx, m1, m2, m3, m4, m5, m6⟩ := hI.mp
          cases eM with
          | false => exact ⟨l, ents, idx, m1, m2, m3, m4, m5 rfl⟩
          | true =>
            obtain ⟨ipre, ipost, en, rfl, n2, n3, n4, n5, n6⟩ := m6 rfl
            refine ⟨l, ents, _, m1, m2, m3, m4, ?_⟩
            simp only [if_true]
            refine denM_append n5 ?_
            simp only [denM]
            exact ⟨j, ipost, en, rfl, n2, n3, n4, n6⟩
        · exact ih _ true false eM eX j g' a' w' hI' hb' (by simpa using hls) (fun q => by rw [hE', hl]; exact flg_set (by simp) (by simp) (by simp) (by simp) (by omega) q) (by simp) hXM (by simp at hf ⊢; omega)
      · rw [a1] at hx; cases hx
        rw [hl, flg_1] at hE
        subst hE
        have hL0 : eL = true := by have := hdeps n pA'; rwa [hl, flg_0] at this
        subst hL0
        unfold wpOpIn
        simp only [a1]
        rw [if_pos (by simp [Region.wanted, gA])]
        refine ⟨Fn_about P w ro a.eval oA, ?_⟩
        refine TI.pure (eL' := true) (eA' := true) (eX' := eX) hI hb hA (fun t ht => ?_) (by simp) dA lsa (tslot_A hsa) fun g' a' w' hI' hb' => ?_
        · obtain ⟨q0, q2, q3, q4⟩ := rA t ht
          have := hI.tm t q0
          rw [getS_set lsl]
          simpa only [tslot, if_neg q2, if_neg q3, if_neg q4, if_true] using this
        · exact ih _ true true eM eX j g' a' w' hI' hb' (by simpa using hls) (fun q => by rw [hE', hl]; exact flg_set (by simp) (by simp) (by simp) (by simp) (by omega) q) (by simp) hXM (by simp at hf ⊢; omega)
      · rw [a2] at hx; cases hx
        rw [hl, flg_2] at hE
        subst hE
        have hX0 : eX = false := by cases eX with | false => rfl | true => exact absurd (hXM rfl) (by simp)
        subst hX0
        unfold wpOpIn
        simp only [a2]
        rw [if_pos (by simp [Region.wanted, gM])]
        refine ⟨Fn_about P w ro a.eval oM, ?_⟩
        refine TI.make hI hb hop hu hs hz dM lse hml hkl hm hk hmn hkn hse ho hes hcase hpre hpost hni fun j' g' a' w' hI' hb' => ?_
        exact ih _ eL eA true false j' g' a' w' hI' hb' (by simpa using hls) (fun q => by rw [hE', hl]; exact flg_set (by simp) (by simp) (by simp) (by simp) (by omega) q) hAL (by simp) (by simp at hf ⊢; omega)
      · rw [a3] at hx; cases hx
        rw [hl, flg_3] at hE
        subst hE
        have hM0 : eM = true := by have := hdeps (n + 2) pX'; rwa [hl, flg_2] at this
        subst hM0
        unfold wpOpIn
        simp only [a3]
        rw [if_pos (by simp [Region.wanted, gX])]
        refine ⟨Fn_about P w ro a.eval oX, ?_⟩
        refine TI.pure (eL' := eL) (eA' := eA) (eX' := true) hI hb (hX j) (fun t ht => ?_) (by simp) dX lss (tslot_X hss) fun g' a' w' hI' hb' => ?_
        · obtain ⟨q0, q1, q2, q4⟩ := rX t ht
          have := hI.tm t q0
          rw [getS_set lse]
          simpa only [tslot, if_neg q1, if_neg q2, if_neg q4, if_true] using this
        · exact ih _ eL eA true true j g' a' w' hI' hb' (by simpa using hls) (fun q => by rw [hE', hl]; exact flg_set (by simp) (by simp) (by simp) (by simp) (by omega) q) hAL (by simp) (by simp at hf ⊢; omega)
      · rw [a4] at hx; cases hx
        have hA0 : eA = true := by have := hdeps (n + 1) pE1; rwa [hl, flg_1] at this
        have hX0 : eX = true := by have := hdeps (n + 3) pE3; rwa [hl, flg_3] at this
        have hL0 := hAL hA0
        have hM0 := hXM hX0
        subst hA0 hX0 hL0 hM0
        have hf0 : f = 0 := by simp at hf; omega
        subst hf0
        unfold wpOpIn
        simp only [a4]
        rw [if_pos (by simp [Region.wanted, gE])]
        refine ⟨Fn_about P w ro a.eval oE, ?_⟩
        refine TI.keep hI hopE dE hml lsa lss hm hmn hsa hss hni hσ hσ4 hh4 hg4 fun g' a' w' q1 q2 => ⟨?_, hQ g' a' w' q1 q2⟩
        rw [List.eq_nil_iff_forall_not_mem]
        intro q hq
        obtain ⟨q0, y, hy, _⟩ := mem_ready.1 hq
        have hql : q < A.size := (Array.getElem?_eq_some_iff.1 hy).1
        have : (listed.setIfInBounds (n + 4) true).getD q false = true := by
          rw [hE', hl]
          have : q < n ∨ q = n ∨ q = n + 1 ∨ q = n + 2 ∨ q = n + 3 ∨ q = n + 4 := by omega
          rcases this with h | rfl | rfl | rfl | rfl | rfl
          · rw [flg_lt h]; rfl
          · rw [flg_0]; rfl
          · rw [flg_1]; rfl
          · rw [flg_2]; rfl
          · rw [flg_3]; rfl
          · simp
        simp [hls, hql] at this q0
        rw [this] at q0; cases q0
end tail
def ltB : List SV → Nat → Bool
  | [], _ => false
  | _ :: _, 0 => true
  | _ :: l, n + 1 => ltB l n
theorem ltB_iff : ∀ {l : List SV} {n : Nat}, ltB l n = true → n < l.length
  | [], _, h => by cases h
  | _ :: _, 0, _ => by simp
  | _ :: l, n + 1, h => by have := ltB_iff (l := l) (n := n) h; simp; omega
def rdB (σ : List SV) (out : List Nat) : List Nat → Bool
  | [] => true
  | t :: ts => ltB σ t && !memB out t && rdB σ out ts
theorem rdB_iff {σ : List SV} {out : List Nat} : ∀ {ts : List Nat}, rdB σ out ts = true → ∀ t ∈ ts, t < σ.length ∧ t ∉ out
  | t :: ts, h, s, hs => by
    simp only [rdB, Bool.and_eq_true, Bool.not_eq_true'] at h
    rcases List.mem_cons.1 hs with rfl | hs
    · exact ⟨ltB_iff h.1.1, fun hm => by rw [memB_iff.2 hm] at h; exact absurd h.1.2 (by simp)⟩
    · exact rdB_iff h.2 s hs
def incrB (front : List TOper) (σ : List SV) (sl sa se ss m k : Nat) (dL dA dM dX dE rA : List Nat) : Bool :=
  noStop front && (covers (front.map fun t => lgOf t [] []).reverse dL && (covers (front.map fun t => lgOf t [] []).reverse dM && (allLt dA (front.length + 1) && (memB dA front.length && (allLt dX (front.length + 3) && (memB dX (front.length + 2) &&
    (allLt dE (front.length + 4) && (memB dE (front.length + 1) && (memB dE (front.length + 3) && (rdB σ [sl, sa, se, ss] [m, k] && (rdB σ [sa, se, ss] rA && (rdB σ [sa, se, ss] [sl] && (rdB σ [se, ss] [sa] && (rdB σ [ss] [se] && ltB σ ss))))))))))))))
def incrF (P : Program) (σ : List SV) (h : List LB) (mks : List Nat) (b : Nat) (opA : TOp) (sl sa se ss : Nat) (v0 : SV) (mk : SV → List (SV × SV)) (K : St → Prop) : Prop :=
  setD σ (some sl) v0 fun σ1 => lenK h fun nid => ev σ1 h nid opA fun v1 upd nb => match upd with
    | [] => match nb with
      | [] => setD σ1 (some sa) v1 fun σ2 => setD σ2 (some se) .junk fun σ3 => setD σ3 (some ss) .junk fun σ4 => updK h [(b, .map (mk v1))] fun h' => K ⟨σ4, h', mks⟩
      | _ :: _ => False
    | _ :: _ => False
def incrK (P : Program) (sh : TShape) (z : SV) (m k : Nat) (opA : TOp) (sl sa se ss : Nat) (K : St → Prop) : St → Prop
  | ⟨σ, h, mks⟩ => match getS σ m with
    | .mp b => match hget h b with
      | .map es => noIter h b (forceK (getS σ k) fun key => Vc (shOK sh key) ∧ Vc (∀ e ∈ es, shOK sh e.1) ∧
          ((∃ pre v0 post, es = pre ++ (key, v0) :: post ∧ (∀ e ∈ pre, key ≠ e.1) ∧ (∀ e ∈ post, key ≠ e.1) ∧ Ev (incrF P σ h mks b opA sl sa se ss v0 (fun v1 => pre ++ (key, v1) :: post) K)) ∨
           ((∀ e ∈ es, key ≠ e.1) ∧ Ev (incrF P σ h mks b opA sl sa se ss z (fun v1 => es ++ [(key, v1)]) K))))
      | _ => False
    | _ => False
def incrR (P : Program) (r : Fr) (ts : List TOper) (S : St) (Q : St → Prop) : Prop :=
  match ts.reverse with
  | ⟨none, .entSt (.t m2) (.t ss2) (.t sa2), none, dE, _⟩ :: ⟨some ss, .extract (.t se2) 1, none, dX, rX⟩ :: ⟨some se, .mapEnt sh z (.t m) (.t k), none, dM, _⟩ :: ⟨some sa, opA, none, dA, rA⟩ :: ⟨some sl, .lookup sh0 z0 false (.t m0) (.t k0), none, dL, rL⟩ :: rf =>
    Vc (sh0 = sh ∧ z0 = z ∧ m0 = m ∧ k0 = k ∧ m2 = m ∧ ss2 = ss ∧ sa2 = sa ∧ se2 = se ∧ rL = [m, k] ∧ rX = [se]) ∧ Vc (incrB rf.reverse S.σ sl sa se ss m k dL dA dM dX dE rA = true) ∧
      Ev (evD P r rf.reverse S [] (itersOf S.h) (incrK P sh z m k opA sl sa se ss Q))
  | _ => False
theorem covGo_congr : ∀ {l l' : List Lg} {m : List Nat}, l.map (·.deps) = l'.map (·.deps) → covGo l m = covGo l' m
  | [], [], _, _ => rfl
  | [], _ :: _, _, h => by simp at h
  | _ :: _, [], _, h => by simp at h
  | x :: l, y :: l', m, h => by
    simp only [List.map_cons, List.cons.injEq] at h
    have hl : l.length = l'.length := by have := congrArg List.length h.2; simpa using this
    simp only [covGo, h.1, hl]
    congr 1
    exact covGo_congr h.2
theorem covers_congr {l l' : List Lg} {m : List Nat} (h : l.map (·.deps) = l'.map (·.deps)) : covers l m = covers l' m := by
  have hl : l.length = l'.length := by have := congrArg List.length h; simpa using this
  unfold covers
  rw [covGo_congr h, hl]
theorem cOper_deps (P : Program) (A : Array Oper) (o : Oper) : (cOper P A true o).deps = cDeps o ∧ (cOper P A true o).reads = rds o.op.operands.toList := by
  unfold cOper
  cases hg : o.guard with
  | none => exact ⟨rfl, rfl⟩
  | some jw =>
    obtain ⟨j, want⟩ := jw
    simp only
    cases hs : (A[j]?).bind (·.dst) <;> exact ⟨rfl, rfl⟩
theorem cOper_inv {A : Array Oper} {o : Oper} {d : Option Nat} {op : TOp} {dp rd : List Nat} (h : cOper P A true o = ⟨d, op, none, dp, rd⟩) (hb : op ≠ .bad) : o.dst = d ∧ cOp P o.op = op ∧ o.guard = none ∧ cDeps o = dp ∧ rds o.op.operands.toList = rd := by
  obtain ⟨c1, c2⟩ := cOper_cases P A true o
  obtain ⟨c3, c4⟩ := cOper_deps P A o
  rw [h] at c1 c2 c3 c4
  simp only at c1 c2 c3 c4
  rcases c2 with ⟨c5, c6 | ⟨j, want, s, _, _, c6⟩⟩ | ⟨c5, _⟩
  · exact ⟨c1.symm, c5.symm, c6.1, c3.symm, c4.symm⟩
  · cases c6
  · exact absurd c5 hb
theorem incr_spec {σ : List SV} {h : List LB} {mks : List Nat} {b : Nat} {opA : TOp} {sl sa se ss : Nat} {v0 : SV} {mk : SV → List (SV × SV)} {K : St → Prop} (hF : incrF P σ h mks b opA sl sa se ss v0 mk K) {oA : Oper} (hop : cOp P oA.op = opA) :
    ∃ v1 h4 nid, ORun P oA (σ.set sl v0) h nid v1 [] [] ∧ K ⟨(((σ.set sl v0).set sa v1).set se .junk).set ss .junk, h4, mks⟩ ∧ h.length ≤ h4.length ∧ ∀ c, hget h4 c = if c = b then .map (mk v1) else hget h c := by
  unfold incrF at hF
  rw [setD_iff] at hF
  have hF := lenK_iff _ _ hF
  rw [← hop] at hF
  obtain ⟨v1, upd, nb, h1, h2, _⟩ := ev_sound oA hF
  cases upd with
  | cons p ps => exact h1.elim
  | nil =>
    cases nb with
    | cons p ps => exact h1.elim
    | nil =>
      simp only [setD_iff] at h1
      obtain ⟨h4, k1, k2, k3, k4⟩ := updK_wr h1
      refine ⟨v1, h4, _, h2.orun (ev_nodefer hF), k1, k2, fun c => ?_⟩
      rw [k4 c]
      simp only [wr]
theorem TWq.incr {r : Fr} {ts : List TOper} {S : St} {Q : Option Jump → St → Prop} (hI : Ev (incrR P r ts S (Q none))) : TWq P r (.region true ts) S Q := by
  rw [TWq_iff]
  intro hm kc g a w ro Q' hk hs hr hh
  cases kc <;> first | (cases hk; done) | skip
  rename_i id A d
  simp only [comp, TCode.region.injEq] at hk
  obtain ⟨rfl, hts⟩ := hk
  have hI := hI.at
  unfold incrR at hI
  split at hI
  case h_2 => exact hI.elim
  rename_i m2 ss2 sa2 dE rE ss se2 dX rX se sh z m k dM rM sa opA dA rA sl sh0 z0 m0 k0 dL rL rf hrev
  obtain ⟨⟨rfl, rfl, rfl, rfl, rfl, rfl, rfl, rfl, rfl, rfl⟩, ⟨hB⟩, hE⟩ := hI
  have hE := hE.at
  simp only [incrB, Bool.and_eq_true] at hB
  obtain ⟨b1, b2, b3, b4, b5, b6, b7, b8, b9, b10, b11, b12, b13, b14, b15, b16⟩ := hB
  rw [← hts, ← List.map_reverse] at hrev
  obtain ⟨oE, l1, e1, hoE, hrev1⟩ := List.map_eq_cons_iff.1 hrev
  obtain ⟨oX, l2, e2, hoX, hrev2⟩ := List.map_eq_cons_iff.1 hrev1
  obtain ⟨oM, l3, e3, hoM, hrev3⟩ := List.map_eq_cons_iff.1 hrev2
  obtain ⟨oA, l4, e4, hoA, hrev4⟩ := List.map_eq_cons_iff.1 hrev3
  obtain ⟨oL, l5, e5, hoL, hrev5⟩ := List.map_eq_cons_iff.1 hrev4
  have hA : A.toList = l5.reverse ++ [oL, oA, oM, oX, oE] := by
    rw [e2, e3, e4, e5] at e1
    have := congrArg List.reverse e1
    simpa using this
  clear hrev hrev1 hrev2 hrev3 hrev4 e1 e2 e3 e4 e5
  have hos : l5.reverse.map (cOper P A true) = rf.reverse := by rw [List.map_reverse, hrev5]
  obtain ⟨ds, Sf, h1, h2, h3⟩ := evD_chain hm b1 hE A l5.reverse hos
  have hck := chk_spec (by simpa using h2)
  have hlen : l5.reverse.length = rf.reverse.length := by rw [← hos, List.length_map]
  obtain ⟨c1, c2, c3, c4, c5, c6, c7⟩ := h1.end
  -- the operations
  obtain ⟨dl, opl, gl, depl, rdl⟩ := cOper_inv hoL (by simp)
  have hopA : opA ≠ .bad := fun e => by
    obtain ⟨σ, h, mks⟩ := Sf
    simp only [incrK] at h3
    split at h3
    · split at h3
      · obtain ⟨h3, _⟩ := noIter_spec h3
        rw [forceK_iff] at h3
        obtain ⟨_, _, ⟨_, _, _, _, _, _, h3⟩ | ⟨_, h3⟩⟩ := h3
        all_goals
          have h3 := h3.at
          unfold incrF at h3
          rw [setD_iff] at h3
          have h3 := lenK_iff _ _ h3
          rw [e] at h3
          exact h3
      · exact h3
    · exact h3
  obtain ⟨da, opa, ga, depa, rda⟩ := cOper_inv hoA hopA
  obtain ⟨dm, opm, gm, depm, rdm⟩ := cOper_inv hoM (by simp)
  obtain ⟨dx, opx, gx, depx, rdx⟩ := cOper_inv hoX (by simp)
  obtain ⟨de, ope, ge, depe, rde⟩ := cOper_inv hoE (by simp)
  obtain ⟨t, kt, et, X, K, hopm, hu, hz, hshp, hX, hK⟩ := inv_mapEnt opm
  obtain ⟨t', X', S', V', hope, hX', hS', hV'⟩ := inv_entSt ope
  obtain rfl := cOpd_t hX; obtain rfl := cOpd_t hK; obtain rfl := cOpd_t hX'; obtain rfl := cOpd_t hS'; obtain rfl := cOpd_t hV'
  -- the deps
  have hdeps : (ds.map (·.lg)).reverse.map (·.deps) = ((rf.reverse.map fun t => lgOf t [] []).reverse).map (·.deps) := by
    rw [List.map_reverse, List.map_reverse]
    congr 1
    rw [List.map_map, List.map_map]
    have : ∀ (os : List Oper) (S : St) (ds : List DS) (Sf : St), Chain P A os S ds Sf → ds.map ((fun x => x.deps) ∘ fun x => x.lg) = (os.map (cOper P A true)).map ((fun x => x.deps) ∘ fun t => lgOf t [] []) := by
      intro os
      induction os with
      | nil => intro S ds Sf hc; rw [hc.1]; rfl
      | cons o os ih =>
        intro S ds Sf hc
        obtain ⟨d, rest, S', rfl, q1, _, q3⟩ := hc
        simp only [List.map_cons, Function.comp]
        rw [(lg_upd q1).2.2.1]
        exact congrArg _ (ih S' rest Sf q3)
    rw [this _ _ _ _ h1, hos]
  have covL : covers (ds.map (·.lg)).reverse (cDeps oL) = true := by rw [depl, covers_congr hdeps]; exact b2
  have covM : covers (ds.map (·.lg)).reverse (cDeps oM) = true := by rw [depm, covers_congr hdeps]; exact b3
  have covlt : ∀ l, covers (ds.map (·.lg)).reverse l = true → ∀ e ∈ l, e < l5.reverse.length := fun l hl e he => by
    have := allLt_iff (Bool.and_eq_true_iff.1 hl).1 e he
    rw [List.length_reverse, List.length_map, c1] at this
    exact this
  -- slots
  obtain ⟨σ, h, mks⟩ := Sf
  simp only at c2 c3 c4 c5 c6 c7
  have s1 := rdB_iff b11
  have s2 := rdB_iff b12
  have s3 := rdB_iff b13 sl (by simp)
  have s4 := rdB_iff b14 sa2 (by simp)
  have s5 := rdB_iff b15 se2 (by simp)
  have s6 := ltB_iff b16
  have sm := s1 m2 (by simp)
  have sk := s1 k0 (by simp)
  simp only [List.mem_cons, List.not_mem_nil, or_false, not_or] at sm sk s3 s4 s5
  rw [← c2] at sm sk s3 s4 s5 s6
  have hneA : sa2 ≠ sl := fun e => s3.2.1 e.symm
  have hneE : se2 ≠ sl ∧ se2 ≠ sa2 := ⟨fun e => s3.2.2.1 e.symm, fun e => s4.2.1 e.symm⟩
  have hneS : ss2 ≠ sl ∧ ss2 ≠ sa2 ∧ ss2 ≠ se2 := ⟨fun e => s3.2.2.2 e.symm, fun e => s4.2.2 e.symm, fun e => s5.2 e.symm⟩
  -- the map
  simp only [incrK] at h3
  split at h3
  case h_2 => exact h3.elim
  rename_i b hmb
  split at h3
  case h_2 => exact h3.elim
  rename_i es hcs
  obtain ⟨h3, hni⟩ := noIter_spec h3
  rw [forceK_iff] at h3
  obtain ⟨⟨ho⟩, ⟨hes⟩, h3⟩ := h3
  have hbl : b < h.length := by
    rcases Nat.lt_or_ge b h.length with hl | hl
    · exact hl
    · rw [hget_out hl] at hcs; cases hcs
  obtain ⟨pre, post, v0, mk, hcase, hpre, hpost, hF, hmk⟩ : ∃ (pre post : List (SV × SV)) (v0 : SV) (mk : SV → List (SV × SV)), (es = pre ++ (getS σ k0, v0) :: post ∨ (post = [] ∧ v0 = z0 ∧ es = pre)) ∧ (∀ e ∈ pre, getS σ k0 ≠ e.1) ∧ (∀ e ∈ post, getS σ k0 ≠ e.1) ∧
      incrF P σ h mks b opA sl sa2 se2 ss2 v0 mk (Q none) ∧ ∀ v1, mk v1 = pre ++ (getS σ k0, v1) :: post := by
    rcases h3 with ⟨pre, v0, post, he, hpre, hpost, hF⟩ | ⟨hno, hF⟩
    · exact ⟨pre, post, v0, _, .inl he, hpre, hpost, hF.at, fun _ => rfl⟩
    · exact ⟨es, [], z0, _, .inr ⟨rfl, rfl, rfl⟩, hno, by simp, hF.at, fun _ => rfl⟩
  obtain ⟨v1, h4, nA, rA', kQ, l4, g4⟩ := incr_spec hF opa
  have hoL' : ∀ es', es' = es ∨ es' = pre ++ (getS σ k0, v0) :: post → ∃ h' nid, ORun P oL σ h' nid v0 [] [b] ∧ hget h' b = .map es' := by
    intro es' hes'
    have hg : hget (h.set b (.map es')) b = .map es' := by rw [hget_setD b hbl, if_pos rfl]
    have hsh : ∀ e ∈ es', shOK sh0 e.1 := by
      rcases hes' with rfl | rfl
      · exact hes
      · rcases hcase with he | ⟨rfl, rfl, rfl⟩
        · rw [← he]; exact hes
        · intro e he
          rcases List.mem_append.1 he with he | he
          · exact hes e he
          · simp at he; subst he; exact ho
    have hev : ev σ (h.set b (.map es')) (h.set b (.map es')).length (cOp P oL.op) (fun sv upd nb => sv = v0 ∧ upd = [] ∧ nb = [b]) := by
      rw [opl]
      simp only [ev, gv, hmb, hg, forceK_iff]
      refine ⟨⟨ho⟩, ⟨hsh⟩, ?_⟩
      rcases hes' with e | e
      · rcases hcase with he | ⟨e1, e2, e3⟩
        · exact .inl ⟨pre, v0, post, e.trans he, hpre, hpost, Ev.go (by simp)⟩
        · exact .inr ⟨by rw [e, e3]; exact hpre, Ev.go (by simp [e2])⟩
      · exact .inl ⟨pre, v0, post, e, hpre, hpost, Ev.go (by simp)⟩
    obtain ⟨sv, upd, nb, ⟨rfl, rfl, rfl⟩, q2, _⟩ := ev_sound oL hev
    exact ⟨_, _, q2.orun (ev_nodefer hev), hg⟩
  have hoX' : ∀ j : Nat, ORun P oX (σ.set se2 (.tup [.junk, .int .i64 j])) h h.length (.int .i64 j) [] [] := by
    intro j
    have hev : ev (σ.set se2 (.tup [.junk, .int .i64 j])) h h.length (cOp P oX.op) (fun sv upd nb => sv = .int .i64 j ∧ upd = [] ∧ nb = []) := by
      rw [opx]
      simp only [ev, gv, getS_set s5.1, if_true]
      refine ⟨?_, ?_⟩ <;> first | rfl | trivial | exact ⟨trivial, trivial⟩
    obtain ⟨sv, upd, nb, ⟨rfl, rfl, rfl⟩, q2, _⟩ := ev_sound oX hev
    exact q2.orun (ev_nodefer hev)
  -- the region
  have hn : l5.reverse.length = rf.reverse.length := hlen
  have hsz : A.size = l5.reverse.length + 5 := by rw [← Array.length_toList, hA]; simp
  have hat : ∀ q, A[l5.reverse.length + q]? = [oL, oA, oM, oX, oE][q]? := fun q => by
    rw [← Array.getElem?_toList, hA, List.getElem?_append_right (by omega)]
    congr 1
    omega
  refine wpIn_region_any hm ?_
  obtain ⟨d1, d2⟩ := ext_drew (U := All) hs.ok
  have hd : w.drew = { w with drawn := w.drawn + 1 } := rfl
  rw [← hd]
  have hf : ∀ j, (Array.replicate A.size false).getD j false = false := by
    intro j
    simp only [Array.getD_eq_getD_getElem?, Array.getElem?_replicate]
    split <;> rfl
  have hdn : Down ds (fun j => (Array.replicate A.size false).getD j false) := by
    intro i d _ hE
    simp only [hf] at hE; cases hE
  have hDI : DInv P S ds (fun j => (Array.replicate A.size false).getD j false) g w g a w.drew := by
    refine ⟨d1, d2, fun b hb => .inl (hs.lt b hb), ?_, fun s hs' => ?_, fun b => ?_, d2.df hs.df⟩
    · have := denL_len hs.tm; simpa using this
    · rw [runW_stay fun j W _ _ => hf _]
      exact d2.den hs.ok (getS_den hs.tm s)
    · rw [runW_stay fun j W _ _ => hf _]
      exact (ext_drew (U := fun _ => False) hs.ok).2.lb hs.ok (fun h => h) (fun _ _ h => h) (hs.hp b)
  have hc : ((List.range A.size).countP fun j => !(Array.replicate A.size false).getD j false) = A.size := by simp [hf]
  refine draw_tail (g0 := g) (w0 := w) h1 hck hA (by simp) (fun i o hio => ?_) (fun listed g' a' w' hsz' hE' hsim hext => ?_) A.size (Array.replicate A.size false) g a w.drew (by simp) (fun j _ => hf j) hdn hDI hc
  · have hi5 : i < 5 := by have := (List.getElem?_eq_some_iff.1 hio).1; simpa using this
    have hcs : i = 0 ∨ i = 1 ∨ i = 2 ∨ i = 3 ∨ i = 4 := by omega
    rcases hcs with rfl | rfl | rfl | rfl | rfl
    · simp at hio; subst hio; exact .inl covL
    · simp at hio; subst hio; exact .inr ⟨_, by rw [depa]; exact memB_iff.1 b5, by omega⟩
    · simp at hio; subst hio; exact .inl covM
    · simp at hio; subst hio; exact .inr ⟨_, by rw [depx]; exact memB_iff.1 b7, by omega⟩
    · simp at hio; subst hio; exact .inr ⟨_, by rw [depe]; exact memB_iff.1 b9, by omega⟩
  · obtain ⟨l, ents, idx, q1, q2, q3, q4, q5⟩ : ∃ l ents idx, g'.ι b = some l ∧ w'.heap[l.blk]? = some (.map ents ents.size) ∧ idx.Perm (List.range ents.size) ∧ borns ents ∧ g'.denM w' es ents idx := by
      have := hsim.hp b
      simp only [hcs] at this
      exact this
    show wpAnyIn (Fn ro) 0 P .any A Q' 5 listed a' w'
    refine incr_any (g0 := g) (w0 := w) (n := l5.reverse.length) (t := t) (t' := t') (key := getS σ k0) (v0 := v0) (v1 := v1) (pre := pre) (post := post) (es := es) (σ := σ) (h := h) (b := b)
      (σ4 := (((σ.set sl v0).set sa2 v1).set se2 .junk).set ss2 .junk) (h4 := h4) (mks := mks) hsz (by simpa using hat 0) (by simpa using hat 1) (by simpa using hat 2) (by simpa using hat 3) (by simpa using hat 4)
      gl ga gm gx ge dl da dm dx de (covlt _ covL) (fun e he => ?_) ?_ (covlt _ covM) (fun e he => ?_) ?_ (fun e he => ?_) ?_ ?_ s3.1 s4.1 s5.1 s6 hneA hneE hneS hoL' (fun t ht => ?_) rA' (fun t ht => ?_) hoX' (fun t ht => ?_)
      hopm hu hshp hz sm.1 sk.1 hmb rfl sm.2 sk.2 ho hes hcase hpre hpost hni hope (by simp) (fun s => ?_) l4 (fun c => by rw [g4 c, hmk]) (fun g'' a'' w'' r1 r2 => hh none _ g'' a'' w'' kQ r1 (r2.exw _))
      5 listed false false false false 0 g' a' w' ⟨hsim.ok, hext, hsim.lt, ?_, fun s hs' => ?_, fun c _ => hsim.hp c, hsim.df, ?_⟩ (hsim.ok.own b l q1).1 hsz' (fun q => ?_) (by simp) (by simp) rfl
    · rw [depa] at he; have := allLt_iff b4 e he; omega
    · rw [depa, hn]; exact memB_iff.1 b5
    · rw [depx] at he; have := allLt_iff b6 e he; omega
    · rw [depx, hn]; exact memB_iff.1 b7
    · rw [depe] at he; have := allLt_iff b8 e he; omega
    · rw [depe, hn]; exact memB_iff.1 b9
    · rw [depe, hn]; exact memB_iff.1 b10
    · rw [rdl] at ht
      simp only [List.mem_cons, List.not_mem_nil, or_false] at ht
      rcases ht with rfl | rfl
      · exact sm
      · exact sk
    · rw [rda] at ht
      have := s2 t ht
      simp only [List.mem_cons, List.not_mem_nil, or_false, not_or] at this
      rw [c2]
      exact this
    · rw [rdx] at ht
      simp only [List.mem_cons, List.not_mem_nil, or_false] at ht
      subst ht
      exact ⟨s5.1, hneE.1, hneE.2, s5.2⟩
    · have z1 : sl < σ.length := s3.1
      rw [getS_set (by simpa using s6), getS_set (by simpa using s5.1), getS_set (by simpa using s4.1), getS_set z1]
      by_cases e1 : s = sl
      · subst e1
        rw [if_neg (Ne.symm hneS.1), if_neg (Ne.symm hneE.1), if_neg (Ne.symm hneA), if_pos rfl, if_pos rfl]
      · by_cases e2 : s = sa2
        · subst e2
          rw [if_neg (Ne.symm hneS.2.1), if_neg (Ne.symm hneE.2), if_pos rfl, if_neg e1, if_pos rfl]
        · by_cases e3 : s = se2
          · subst e3
            rw [if_neg (Ne.symm hneS.2.2), if_pos rfl, if_neg e1, if_neg e2, if_pos rfl]
          · by_cases e4 : s = ss2
            · subst e4
              rw [if_pos rfl, if_neg e1, if_neg e2, if_neg e3, if_pos rfl]
            · rw [if_neg e4, if_neg e3, if_neg e2, if_neg e1, if_neg e1, if_neg e2, if_neg e3, if_neg e4]
    · have := denL_len hsim.tm; simpa using this
    · unfold tslot
      simp only [Bool.false_eq_true, if_false]
      have := getS_den hsim.tm s
      split
      · trivial
      · split
        · trivial
        · split
          · trivial
          · split
            · trivial
            · exact this
    · exact ⟨l, ents, idx, q1, q2, q3, q4, fun _ => q5, fun e => by cases e⟩
    · rw [hE']
      unfold flg
      split
      · rename_i e; exact decide_eq_true e
      · rename_i e
        rw [decide_eq_false e]
        (repeat' split) <;> rfl
end
end Go.TV
/- The value calculus, part 2R: trees whose blocks have other numbers (for calls in a bigger book). -/
namespace Go.TV
open Go.RowKit
mutual
def renS (π : Nat → Nat) : SV → SV
  | .ptr b off => .ptr (π b) off
  | .eptr b sz i off => .eptr (π b) sz i off
  | .own b => .own (π b)
  | .mp b => .mp (π b)
  | .yield b => .yield (π b)
  | .fn f fs cs => .fn f (renL π fs) (renL π cs)
  | .agg cs => .agg (renL π cs)
  | .tup cs => .tup (renL π cs)
  | .iface t v => .iface t (renS π v)
  | s => s
def renL (π : Nat → Nat) : List SV → List SV
  | [] => []
  | s :: ss => renS π s :: renL π ss
end
def renM (π : Nat → Nat) (es : List (SV × SV)) : List (SV × SV) := es.map fun e => (renS π e.1, renS π e.2)
mutual
theorem den_ren {w : World} {imm D D' : Nat → Prop} {ι ι' : Env} {π : Nat → Nat} (hD : ∀ b, D b ↔ D' (π b)) (hι : ∀ b, D b → ι b = ι' (π b)) : ∀ (s : SV) {v : Value}, den w imm s D ι v ↔ den w imm (renS π s) D' ι' v
  | .junk, _ => by simp only [renS, den]
  | .int _ _, _ => by simp only [renS, den]
  | .bool _, _ => by simp only [renS, den]
  | .str _, _ => by simp only [renS, den]
  | .nilp, _ => by simp only [renS, den]
  | .nils, _ => by simp only [renS, den]
  | .nilm, _ => by simp only [renS, den]
  | .nilfn, _ => by simp only [renS, den]
  | .niface, _ => by simp only [renS, den]
  | .ptr b off, v => by
    simp only [renS, den]
    constructor
    · rintro ⟨h1, h2, h3⟩; exact ⟨(hD b).1 h1, h2, fun l hl => h3 l ((hι b h1).trans hl)⟩
    · rintro ⟨h1, h2, h3⟩; exact ⟨(hD b).2 h1, h2, fun l hl => h3 l ((hι b ((hD b).2 h1)).symm.trans hl)⟩
  | .eptr b sz i off, v => by
    simp only [renS, den]
    constructor
    · rintro ⟨h1, h2, h3⟩; exact ⟨(hD b).1 h1, h2, fun l hl => h3 l ((hι b h1).trans hl)⟩
    · rintro ⟨h1, h2, h3⟩; exact ⟨(hD b).2 h1, h2, fun l hl => h3 l ((hι b ((hD b).2 h1)).symm.trans hl)⟩
  | .own b, v => by
    simp only [renS, den]
    constructor
    · rintro ⟨h1, h2, h3⟩; exact ⟨(hD b).1 h1, h2, fun l hl => h3 l ((hι b h1).trans hl)⟩
    · rintro ⟨h1, h2, h3⟩; exact ⟨(hD b).2 h1, h2, fun l hl => h3 l ((hι b ((hD b).2 h1)).symm.trans hl)⟩
  | .mp b, v => by
    simp only [renS, den]
    constructor
    · rintro ⟨h1, h2, h3⟩; exact ⟨(hD b).1 h1, h2, fun l hl => h3 l ((hι b h1).trans hl)⟩
    · rintro ⟨h1, h2, h3⟩; exact ⟨(hD b).2 h1, h2, fun l hl => h3 l ((hι b ((hD b).2 h1)).symm.trans hl)⟩
  | .yield b, v => by
    simp only [renS, den]
    constructor
    · rintro ⟨h1, h2, h3⟩; exact ⟨(hD b).1 h1, h2, fun l hl => h3 l ((hι b h1).trans hl)⟩
    · rintro ⟨h1, h2, h3⟩; exact ⟨(hD b).2 h1, h2, fun l hl => h3 l ((hι b ((hD b).2 h1)).symm.trans hl)⟩
  | .fn f fs cs, v => by
    simp only [renS, den]
    constructor
    · rintro ⟨vf, vc, e, h1, h2⟩; exact ⟨vf, vc, e, (denL_ren hD hι fs).1 h1, (denL_ren hD hι cs).1 h2⟩
    · rintro ⟨vf, vc, e, h1, h2⟩; exact ⟨vf, vc, e, (denL_ren hD hι fs).2 h1, (denL_ren hD hι cs).2 h2⟩
  | .agg cs, v => by
    simp only [renS, den]
    constructor
    · rintro ⟨vs, e, h1⟩; exact ⟨vs, e, (denL_ren hD hι cs).1 h1⟩
    · rintro ⟨vs, e, h1⟩; exact ⟨vs, e, (denL_ren hD hι cs).2 h1⟩
  | .tup cs, v => by
    simp only [renS, den]
    constructor
    · rintro ⟨vs, e, h1⟩; exact ⟨vs, e, (denL_ren hD hι cs).1 h1⟩
    · rintro ⟨vs, e, h1⟩; exact ⟨vs, e, (denL_ren hD hι cs).2 h1⟩
  | .iface t s, v => by
    simp only [renS, den]
    constructor
    · rintro ⟨u, e, h1⟩; exact ⟨u, e, (den_ren hD hι s).1 h1⟩
    · rintro ⟨u, e, h1⟩; exact ⟨u, e, (den_ren hD hι s).2 h1⟩
  | .sl _ _, _ => by simp only [renS, den]
  | .iptr _ _, _ => by simp only [renS, den]
  | .imap _, _ => by simp only [renS, den]
theorem denL_ren {w : World} {imm D D' : Nat → Prop} {ι ι' : Env} {π : Nat → Nat} (hD : ∀ b, D b ↔ D' (π b)) (hι : ∀ b, D b → ι b = ι' (π b)) : ∀ (ss : List SV) {vs : List Value}, denL w imm ss D ι vs ↔ denL w imm (renL π ss) D' ι' vs
  | [], _ => by simp only [renL, denL]
  | s :: ss, vs => by
    simp only [renL, denL]
    constructor
    · rintro ⟨u, us, e, h1, h2⟩; exact ⟨u, us, e, (den_ren hD hι s).1 h1, (denL_ren hD hι ss).1 h2⟩
    · rintro ⟨u, us, e, h1, h2⟩; exact ⟨u, us, e, (den_ren hD hι s).2 h1, (denL_ren hD hι ss).2 h2⟩
end
theorem denM_ren {w : World} {imm D D' : Nat → Prop} {ι ι' : Env} {π : Nat → Nat} (hD : ∀ b, D b ↔ D' (π b)) (hι : ∀ b, D b → ι b = ι' (π b)) : ∀ (es : List (SV × SV)) {ents : Array MapEntry} {idx : List Nat}, denM w imm es D ι ents idx ↔ denM w imm (renM π es) D' ι' ents idx
  | [], _, _ => by simp only [renM, List.map_nil, denM]
  | (k, v) :: es, ents, idx => by
    simp only [renM, List.map_cons, denM]
    constructor
    · rintro ⟨i, rest, e, h1, h2, h3, h4, h5⟩; exact ⟨i, rest, e, h1, h2, (den_ren hD hι k).1 h3, (den_ren hD hι v).1 h4, (denM_ren hD hι es).1 h5⟩
    · rintro ⟨i, rest, e, h1, h2, h3, h4, h5⟩; exact ⟨i, rest, e, h1, h2, (den_ren hD hι k).2 h3, (den_ren hD hι v).2 h4, (denM_ren hD hι es).2 h5⟩
theorem renL_len (π : Nat → Nat) : ∀ l : List SV, (renL π l).length = l.length
  | [] => rfl
  | _ :: l => by simp [renL, renL_len π l]
def renB (π : Nat → Nat) : LB → LB
  | .cells cs => .cells (renL π cs)
  | .arr e sz es => .arr e sz (renL π es)
  | .map es => .map (renM π es)
  | _ => .dead
def LB.plain : LB → Bool
  | .dead | .cells _ | .arr _ _ _ | .map _ => true
  | _ => false
theorem lb_ren {P : Program} {w : World} {g g' : Gh} {π : Nat → Nat} (himm : g.imm = g'.imm) (hD : ∀ b, g.dom b ↔ g'.dom (π b)) (hι : ∀ b, g.dom b → g.ι b = g'.ι (π b)) {b : Nat} {x : LB} (hb : g.dom b) (hp : x.plain = true) : lbden P w g b x ↔ lbden P w g' (π b) (renB π x) := by
  have hi := hι b hb
  cases x with
  | dead => simp only [renB, lbden]
  | cells cs =>
    simp only [renB, lbden, Gh.denL, ← himm]
    rw [hi]
    constructor
    · rintro ⟨l, vs, t, h1, h2, h3⟩; exact ⟨l, vs, t, h1, h2, (denL_ren hD hι cs).1 h3⟩
    · rintro ⟨l, vs, t, h1, h2, h3⟩; exact ⟨l, vs, t, h1, h2, (denL_ren hD hι cs).2 h3⟩
  | arr e sz es =>
    simp only [renB, lbden, Gh.denL, ← himm, renL_len]
    rw [hi]
    constructor
    · rintro ⟨l, vs, h1, h2, h3, h4⟩; exact ⟨l, vs, h1, h2, (denL_ren hD hι es).1 h3, h4⟩
    · rintro ⟨l, vs, h1, h2, h3, h4⟩; exact ⟨l, vs, h1, h2, (denL_ren hD hι es).2 h3, h4⟩
  | map es =>
    simp only [renB, lbden, Gh.denM, ← himm]
    rw [hi]
    constructor
    · rintro ⟨l, ents, idx, h1, h2, h3, h4, h5⟩; exact ⟨l, ents, idx, h1, h2, h3, h4, (denM_ren hD hι es).1 h5⟩
    · rintro ⟨l, ents, idx, h1, h2, h3, h4, h5⟩; exact ⟨l, ents, idx, h1, h2, h3, h4, (denM_ren hD hι es).2 h5⟩
  | _ => simp [LB.plain] at hp
end Go.TV
/- The value calculus, part 2S: a contract told of a small book, used in a bigger one. -/
namespace Go.TV
open Go.RowKit
theorem hget_range {f : Nat → LB} {n B : Nat} : hget ((List.range n).map f) B = if B < n then f B else .dead := by
  have h : ∀ (l : List LB) (B : Nat), hget l B = (l[B]?).getD .dead := by
    intro l
    induction l with
    | nil => intro B; rfl
    | cons a l ih => intro B; cases B with
      | zero => rfl
      | succ B => simpa [hget] using ih B
  rw [h]
  by_cases hB : B < n
  · simp [hB]
  · simp [hB]
structure After (π : Nat → Nat) (H h' H' : List LB) (n : Nat) : Prop where
  len : H'.length = H.length + (h'.length - n)
  in_ : ∀ a, a < n ∨ a < h'.length → hget H' (π a) = renB π (hget h' a)
  out : ∀ B, (∀ a, π a ≠ B) → hget H' B = hget H B
open Classical in
theorem TF.frame {P : Program} {f : FuncId} {args : List SV} {h : List LB} {Q : SV → List LB → Prop} (hT : TF P f args h Q) {H : List LB} (π : Nat → Nat) (hinj : ∀ a b, π a = π b → a = b) (hlt : ∀ a, a < h.length → π a < H.length) (hnew : ∀ a, h.length ≤ a → π a = H.length + (a - h.length))
    (hbk : ∀ a, a < h.length → (hget h a).plain = true ∧ hget H (π a) = renB π (hget h a)) (hdep : ∀ B, (∀ a, π a ≠ B) → ∀ d ∈ (hget H B).deps, ∀ a, π a ≠ d) (hQ : ∀ s h', Q s h' → ∀ b, (hget h' b).plain = true) :
    TF P f (renL π args) H fun s' H' => ∃ s h', Q s h' ∧ s' = renS π s ∧ After π H h' H' h.length := by
  refine ⟨hT.ok, fun hm g w vals hno hg hdl hda hlb => ?_⟩
  let g0 : Gh := { dom := fun b => g.dom (π b), ι := fun b => g.ι (π b), imm := g.imm, hid := g.hid, flr := g.flr }
  have hD : ∀ b, g0.dom b ↔ g.dom (π b) := fun _ => Iff.rfl
  have hι : ∀ b, g0.dom b → g0.ι b = g.ι (π b) := fun _ _ => rfl
  have hg0 : GOk g0 w := ⟨fun b l hl => hg.own _ l hl, fun b b' l l' h1 h2 e => hinj _ _ (hg.inj _ _ l l' h1 h2 e), hg.immlt, hg.hlt, hg.himm, fun b l hl => hg.hown _ l hl, hg.flr⟩
  have hdl0 : ∀ b, g0.dom b → b < h.length := fun b hb => by
    rcases Nat.lt_or_ge b h.length with h1 | h1
    · exact h1
    · have := hdl _ hb; rw [hnew b h1] at this; omega
  have hhd : ∀ (l : List LB) (n : Nat), l.length ≤ n → hget l n = .dead := by
    intro l
    induction l with
    | nil => intro n _; rfl
    | cons a l ih => intro n hn; cases n with
      | zero => simp at hn
      | succ n => exact ih n (by simpa using hn)
  have hlb0 : ∀ b, lbden P w g0 b (hget h b) := fun b => by
    rcases Nat.lt_or_ge b h.length with h1 | h1
    · obtain ⟨h2, h3⟩ := hbk b h1
      have h4 := hlb (π b)
      rw [h3] at h4
      by_cases hd : g0.dom b
      · exact (lb_ren (g := g0) (g' := g) rfl hD hι hd h2).2 h4
      · have hn : g.ι (π b) = none := by
          cases hi : g.ι (π b) with
          | none => rfl
          | some l => exact absurd (hg.own _ _ hi).1 hd
        cases hx : hget h b with
        | dead => trivial
        | cells cs => rw [hx] at h4; obtain ⟨l, vs, t, k, _⟩ := h4; rw [hn] at k; cases k
        | arr e sz es => rw [hx] at h4; obtain ⟨l, vs, k, _⟩ := h4; rw [hn] at k; cases k
        | map es => rw [hx] at h4; obtain ⟨l, en, ix, k, _⟩ := h4; rw [hn] at k; cases k
        | _ => rw [hx] at h2; simp [LB.plain] at h2
    · rw [hhd h b h1]; trivial
  refine (hT.run hm g0 w vals hno hg0 hdl0 ((denL_ren hD hι args).2 hda) hlb0).mono ?_
  rintro _ w' ⟨v, s, h', g1, rfl, q, k1, k2, k3, k4, k5⟩
  let g' : Gh := { dom := fun B => (∃ a, π a = B ∧ g1.dom a) ∨ ((∀ a, π a ≠ B) ∧ g.dom B), ι := fun B => if hx : ∃ a, π a = B then g1.ι hx.choose else g.ι B, imm := g1.imm, hid := g1.hid, flr := g1.flr }
  have hin : ∀ a, g'.ι (π a) = g1.ι a := fun a => by
    have hx : ∃ b, π b = π a := ⟨a, rfl⟩
    simp only [g', dif_pos hx]
    rw [hinj _ _ hx.choose_spec]
  have hout : ∀ B, (∀ a, π a ≠ B) → g'.ι B = g.ι B := fun B hB => by
    have hx : ¬ ∃ b, π b = B := fun ⟨b, e⟩ => hB b e
    simp only [g', dif_neg hx]
  have hD1 : ∀ b, g1.dom b ↔ g'.dom (π b) := fun b => by
    constructor
    · intro hb; exact .inl ⟨b, rfl, hb⟩
    · rintro (⟨a, e, ha⟩ | ⟨hB, _⟩)
      · rw [← hinj _ _ e]; exact ha
      · exact absurd rfl (hB b)
  have hι1 : ∀ b, g1.dom b → g1.ι b = g'.ι (π b) := fun b _ => (hin b).symm
  have hno1 : g1.hid = none := k5.hid.trans hno
  have hcase : ∀ B, (∃ a, π a = B) ∨ ∀ a, π a ≠ B := fun B => by
    by_cases hx : ∃ a, π a = B
    · exact .inl hx
    · exact .inr fun a e => hx ⟨a, e⟩
  have hmix : ∀ a B l l', g1.ι a = some l → (∀ a, π a ≠ B) → g.ι B = some l' → l.blk ≠ l'.blk := fun a B l l' h1 hB h2 e => by
    rcases k5.newι a l h1 with h3 | h3 | ⟨b0, l0, _, h3, h4⟩
    · exact hB a (hg.inj _ _ _ _ h3 h2 e)
    · have := (hg.own _ _ h2).2.1; omega
    · exact hB b0 (hg.inj _ _ _ _ h3 h2 (h4.trans e))
  have hext : Ext g w g' w' (fun B => ∃ a, π a = B) := by
    refine ⟨k5.os, k5.tape, k5.output, k5.size, fun B hB => ?_, fun B hB => ⟨fun hn => hout B fun a e => hn ⟨a, e⟩, ?_⟩, k5.imm, k5.hid, k5.flr, fun r hr hn => k5.old r hr fun b l _ hl => hn (π b) l ⟨b, rfl⟩ hl, fun B l hl => ?_, fun r hr => ?_⟩
    · rcases hcase B with ⟨a, rfl⟩ | hB'
      · exact .inl ⟨a, rfl, k5.dom a hB⟩
      · exact .inr ⟨hB', hB⟩
    · rcases hcase B with ⟨a, rfl⟩ | hB'
      · rw [hin]; exact (k5.ι a hB).2
      · exact .inl (hout B hB')
    · rcases hcase B with ⟨a, rfl⟩ | hB'
      · rw [hin] at hl
        rcases k5.newι a l hl with h3 | h3 | ⟨b0, l0, _, h3, h4⟩
        · exact .inl h3
        · exact .inr (.inl h3)
        · exact .inr (.inr ⟨π b0, l0, ⟨b0, rfl⟩, h3, h4⟩)
      · rw [hout B hB'] at hl; exact .inl hl
    · rcases k5.newimm r hr with h3 | h3 | ⟨b0, l0, _, h3, h4⟩
      · exact .inl h3
      · exact .inr (.inl h3)
      · exact .inr (.inr ⟨π b0, l0, ⟨b0, rfl⟩, h3, h4⟩)
  have hok : GOk g' w' := by
    refine ⟨fun B l hl => ?_, fun B B' l l' h1 h2 e => ?_, k1.immlt, fun r ⟨X, e, _⟩ => (by rw [hno1] at e; cases e), fun r ⟨X, e, _⟩ => (by rw [hno1] at e; cases e), fun B l _ ⟨X, e, _⟩ => (by rw [hno1] at e; cases e), k1.flr⟩
    · rcases hcase B with ⟨a, rfl⟩ | hB
      · rw [hin] at hl
        obtain ⟨h3, h4, h5⟩ := k1.own a l hl
        exact ⟨(hD1 a).1 h3, h4, h5⟩
      · rw [hout B hB] at hl
        obtain ⟨h3, h4, h5⟩ := hg.own B l hl
        refine ⟨.inr ⟨hB, h3⟩, Nat.lt_of_lt_of_le h4 k5.size, fun hi => ?_⟩
        rcases k5.newimm _ hi with h6 | h6 | ⟨b0, l0, _, h6, h7⟩
        · exact h5 h6
        · omega
        · exact hB b0 (hg.inj _ _ _ _ h6 hl h7)
    · rcases hcase B with ⟨a, rfl⟩ | hB <;> rcases hcase B' with ⟨a', rfl⟩ | hB'
      · rw [hin] at h1 h2; rw [k1.inj a a' l l' h1 h2 e]
      · rw [hin] at h1; rw [hout B' hB'] at h2; exact absurd e (hmix a B' l l' h1 hB' h2)
      · rw [hout B hB] at h1; rw [hin] at h2; exact absurd e.symm (hmix a' B l' l h2 hB h1)
      · rw [hout B hB] at h1; rw [hout B' hB'] at h2; exact hg.inj B B' l l' h1 h2 e
  let H' : List LB := (List.range (H.length + (h'.length - h.length))).map fun B => if hx : ∃ a, π a = B then renB π (hget h' hx.choose) else hget H B
  have hH : ∀ B, hget H' B = if B < H.length + (h'.length - h.length) then (if hx : ∃ a, π a = B then renB π (hget h' hx.choose) else hget H B) else .dead := fun B => hget_range
  have hHin : ∀ a, a < h.length ∨ a < h'.length → hget H' (π a) = renB π (hget h' a) := fun a ha => by
    have hx : ∃ b, π b = π a := ⟨a, rfl⟩
    have hb : π a < H.length + (h'.length - h.length) := by
      rcases Nat.lt_or_ge a h.length with h1 | h1
      · have := hlt a h1; omega
      · rw [hnew a h1]; omega
    rw [hH, if_pos hb, dif_pos hx, hinj _ _ hx.choose_spec]
  have hHout : ∀ B, (∀ a, π a ≠ B) → hget H' B = hget H B := fun B hB => by
    have hx : ¬ ∃ b, π b = B := fun ⟨b, e⟩ => hB b e
    have hBl : B < H.length := by
      rcases Nat.lt_or_ge B H.length with h1 | h1
      · exact h1
      · exact absurd (by rw [hnew _ (by omega : h.length ≤ h.length + (B - H.length))]; omega) (hB (h.length + (B - H.length)))
    rw [hH, if_pos (by omega), dif_neg hx]
  have hHl : H'.length = H.length + (h'.length - h.length) := by simp [H']
  refine ⟨v, renS π s, H', g', rfl, ⟨s, h', q, rfl, hHl, hHin, hHout⟩, hok, fun B hB => ?_, (den_ren hD1 hι1 s).1 k3, fun B => ?_, hext.more fun _ _ => trivial⟩
  · rw [hHl]
    rcases hB with ⟨a, rfl, ha⟩ | ⟨_, hB⟩
    · have := k2 a ha
      rcases Nat.lt_or_ge a h.length with h1 | h1
      · have := hlt a h1; omega
      · rw [hnew a h1]; omega
    · have := hdl B hB; omega
  · rcases hcase B with ⟨a, rfl⟩ | hB
    · by_cases ha : a < h.length ∨ a < h'.length
      · rw [hHin a ha]
        by_cases hd : g1.dom a
        · exact (lb_ren (g := g1) (g' := g') rfl hD1 hι1 hd (hQ s h' q a)).1 (k4 a)
        · have hn : g1.ι a = none := by
            cases hi : g1.ι a with
            | none => rfl
            | some l => exact absurd (k1.own _ _ hi).1 hd
          have h4 := k4 a
          have h2 := hQ s h' q a
          cases hx : hget h' a with
          | dead => trivial
          | cells cs => rw [hx] at h4; obtain ⟨l, vs, t, k, _⟩ := h4; rw [hn] at k; cases k
          | arr e sz es => rw [hx] at h4; obtain ⟨l, vs, k, _⟩ := h4; rw [hn] at k; cases k
          | map es => rw [hx] at h4; obtain ⟨l, en, ix, k, _⟩ := h4; rw [hn] at k; cases k
          | _ => rw [hx] at h2; simp [LB.plain] at h2
      · rw [hhd H' (π a) (by rw [hHl, hnew a (by omega)]; omega)]; trivial
    · rw [hHout B hB]
      exact hext.lb hg (fun ⟨a, e⟩ => hB a e) (fun d hd ⟨a, e⟩ => hdep B hB d hd a e) (hlb B)
def piOf : List Nat → Nat → Nat → Nat
  | [], N, a => N + a
  | p :: _, _, 0 => p
  | _ :: ps, N, a + 1 => piOf ps N a
theorem piOf_new : ∀ {pl : List Nat} {N a : Nat}, pl.length ≤ a → piOf pl N a = N + (a - pl.length)
  | [], N, a, _ => by simp [piOf]
  | p :: ps, N, 0, h => by simp at h
  | p :: ps, N, a + 1, h => by simp only [piOf, List.length_cons]; rw [piOf_new (by simpa using h)]; omega
theorem piOf_mem : ∀ {pl : List Nat} {N a : Nat}, a < pl.length → piOf pl N a ∈ pl
  | p :: ps, N, 0, _ => by simp [piOf]
  | p :: ps, N, a + 1, h => by simp only [piOf]; exact List.mem_cons_of_mem _ (piOf_mem (by simpa using h))
theorem piOf_inj : ∀ {pl : List Nat} {N : Nat}, pl.Nodup → (∀ p ∈ pl, p < N) → ∀ a b, piOf pl N a = piOf pl N b → a = b
  | [], N, _, _, a, b, e => by simp only [piOf] at e; omega
  | p :: ps, N, hn, hl, a, b, e => by
    rw [List.nodup_cons] at hn
    have hne : ∀ c, piOf ps N c ≠ p := fun c e => by
      rcases Nat.lt_or_ge c ps.length with h | h
      · exact hn.1 (e ▸ piOf_mem h)
      · rw [piOf_new h] at e; have := hl p (by simp); omega
    cases a with
    | zero => cases b with
      | zero => rfl
      | succ b => simp only [piOf] at e; exact absurd e.symm (hne b)
    | succ a => cases b with
      | zero => simp only [piOf] at e; exact absurd e (hne a)
      | succ b => simp only [piOf] at e; rw [piOf_inj hn.2 (fun q hq => hl q (by simp [hq])) a b e]
theorem hget_ext : ∀ {a b : List LB}, a.length = b.length → (∀ n, n < a.length → hget a n = hget b n) → a = b
  | [], [], _, _ => rfl
  | [], _ :: _, h, _ => by simp at h
  | _ :: _, [], h, _ => by simp at h
  | x :: a, y :: b, h, hh => by
    have h0 := hh 0 (by simp)
    simp only [hget] at h0
    rw [h0, hget_ext (a := a) (b := b) (by simpa using h) fun n hn => hh (n + 1) (by simpa using hn)]
theorem After.eq {pl : List Nat} {H h' H' H1 : List LB} (ha : After (piOf pl H.length) H h' H' pl.length) (hl : H1.length = H.length + (h'.length - pl.length)) (hin : ∀ a, a < pl.length ∨ a < h'.length → hget H1 (piOf pl H.length a) = renB (piOf pl H.length) (hget h' a))
    (hout : ∀ B, B < H.length → B ∉ pl → hget H1 B = hget H B) : H' = H1 := by
  refine hget_ext (by rw [ha.len, hl]) fun n hn => ?_
  rw [ha.len] at hn
  by_cases hx : ∃ a, (a < pl.length ∨ a < h'.length) ∧ piOf pl H.length a = n
  · obtain ⟨a, h1, rfl⟩ := hx
    rw [ha.in_ a h1, hin a h1]
  · have hnp : n ∉ pl := fun hm => by
      have key : ∀ {pl : List Nat} {N : Nat}, n ∈ pl → ∃ a, a < pl.length ∧ piOf pl N a = n := by
        intro pl
        induction pl with
        | nil => intro N h; cases h
        | cons p ps ih =>
          intro N h
          rcases List.mem_cons.1 h with rfl | h
          · exact ⟨0, by simp, rfl⟩
          · obtain ⟨a, h1, h2⟩ := ih (N := N) h
            exact ⟨a + 1, by simpa using h1, h2⟩
      obtain ⟨a, h1, h2⟩ := key (N := H.length) hm
      exact hx ⟨a, .inl h1, h2⟩
    have hnl : n < H.length := by
      rcases Nat.lt_or_ge n H.length with h | h
      · exact h
      · exact absurd ⟨n - H.length + pl.length, .inr (by omega), by rw [piOf_new (by omega)]; omega⟩ hx
    rw [hout n hnl hnp, ha.out n fun a e => ?_]
    rcases Nat.lt_or_ge a pl.length with h | h
    · exact hnp (e ▸ piOf_mem h)
    · rw [piOf_new h] at e; omega
section
variable {P : Program} {r : Fr}
theorem TSq.callF {t : TOper} {ts : List TOper} {σ : List SV} {H : List LB} {mks : List Nat} {K : St → Prop} {f : FuncId} {args : List SV} {h : List LB} {Q : SV → List LB → Prop} (hT : TF P f args h Q) (pl : List Nat) (ho : r.opn = false) (hg : guardK σ t.guard (· = true))
    (hF : calleeK σ t.op fun f' a => f' = f ∧ a = renL (piOf pl H.length) args) (hlen : h.length = pl.length) (hnd : pl.Nodup) (hlt : ∀ p ∈ pl, p < H.length)
    (hbk : ∀ a, a < h.length → (hget h a).plain = true ∧ hget H (piOf pl H.length a) = renB (piOf pl H.length) (hget h a)) (hdep : ∀ B, B ∉ pl → ∀ d ∈ (hget H B).deps, d ∉ pl ∧ d < H.length) (hQ : ∀ s h', Q s h' → ∀ b, (hget h' b).plain = true)
    (hK : ∀ s h' H', Q s h' → After (piOf pl H.length) H h' H' pl.length → setD σ t.dst (renS (piOf pl H.length) s) fun σ' => Ev (evR P r ts ⟨σ', H', mks⟩ K)) : TSq P r (t :: ts) ⟨σ, H, mks⟩ K := by
  have hnot : ∀ B, (∀ a, piOf pl H.length a ≠ B) → B ∉ pl := fun B hB hm => by
    have key : ∀ {pl : List Nat} {N : Nat}, B ∈ pl → ∃ a, piOf pl N a = B := by
      intro pl
      induction pl with
      | nil => intro N h; cases h
      | cons p ps ih =>
        intro N h
        rcases List.mem_cons.1 h with rfl | h
        · exact ⟨0, rfl⟩
        · obtain ⟨a, h2⟩ := ih (N := N) h
          exact ⟨a + 1, h2⟩
    obtain ⟨a, e⟩ := key (N := H.length) hm
    exact hB a e
  refine TSq.callT ho hg (calleeK_const hF ((hT.frame (H := H) (piOf pl H.length) (piOf_inj hnd hlt) (fun a ha => hlt _ (piOf_mem (by omega))) (fun a ha => by rw [hlen]; exact piOf_new (by omega)) hbk (fun B hB d hd a e => ?_) hQ).mono ?_))
  · obtain ⟨h1, h2⟩ := hdep B (hnot B hB) d hd
    rcases Nat.lt_or_ge a pl.length with h | h
    · exact h1 (e ▸ piOf_mem h)
    · rw [piOf_new h] at e; omega
  · rintro s' H' ⟨s, h', q, rfl, ha⟩
    rw [hlen] at ha
    exact hK s h' H' q ha
end
end Go.TV
/- The value calculus, part 2T: a told call inside a region in any order; maps published where they lie in cells and own slices. -/
namespace Go.TV
open Go.RowKit
mutual
theorem clo_ren (π : Nat → Nat) : ∀ (s : SV), clo s → renS π s = s
  | .junk, _ => rfl
  | .int _ _, _ => rfl
  | .bool _, _ => rfl
  | .str _, _ => rfl
  | .nilp, _ => rfl
  | .nils, _ => rfl
  | .nilm, _ => rfl
  | .nilfn, _ => rfl
  | .niface, _ => rfl
  | .ptr _ _, h => by simp only [clo] at h
  | .eptr _ _ _ _, h => by simp only [clo] at h
  | .own _, h => by simp only [clo] at h
  | .mp _, h => by simp only [clo] at h
  | .yield _, h => by simp only [clo] at h
  | .fn _ fs cs, h => by
    simp only [clo] at h
    simp only [renS, cloL_ren π fs h.1, cloL_ren π cs h.2]
  | .agg cs, h => by
    simp only [clo] at h
    simp only [renS, cloL_ren π cs h]
  | .tup cs, h => by
    simp only [clo] at h
    simp only [renS, cloL_ren π cs h]
  | .iface _ s, h => by
    simp only [clo] at h
    simp only [renS, clo_ren π s h]
  | .sl _ _, _ => rfl
  | .iptr _ _, _ => rfl
  | .imap _, _ => rfl
theorem cloL_ren (π : Nat → Nat) : ∀ (ss : List SV), cloL ss → renL π ss = ss
  | [], _ => rfl
  | s :: ss, h => by
    simp only [cloL] at h
    simp only [renL, clo_ren π s h.1, cloL_ren π ss h.2]
end
theorem cloM_ren (π : Nat → Nat) {es : List (SV × SV)} (h : cloM es) : renM π es = es := by
  unfold renM
  conv => rhs; rw [← List.map_id es]
  exact List.map_congr_left fun e he => by rw [clo_ren π e.1 (h e he).1, clo_ren π e.2 (h e he).2]; rfl
section
variable {P : Program} {r : Fr}
open Classical in
theorem TF.orun {o : Oper} {σ : List SV} {H : List LB} {nid : Nat} {f : FuncId} {args args' : List SV} {h h1 : List LB} {s1 s' : SV} {us : List (Nat × LB)} {pl : List Nat} (hm : P.follows .mixedOrders = true) (hT : TF P f args h fun s h' => h' = h1 ∧ s = s1)
    (hF : calleeK σ (cOp P o.op) fun f' a => f' = f ∧ a = args') (hlen : h.length = pl.length) (hlen1 : h1.length = pl.length) (hnd : pl.Nodup) (ha : ∀ N, renL (piOf pl N) args = args') (hs : ∀ N, renS (piOf pl N) s1 = s')
    (hbk : ∀ N a, a < pl.length → (hget h a).plain = true ∧ hget H (piOf pl N a) = renB (piOf pl N) (hget h a))
    (hb1 : ∀ N a, a < pl.length → (hget h1 a).plain = true ∧ us[a]? = some (piOf pl N a, renB (piOf pl N) (hget h1 a))) (hul : us.length = pl.length) : ORun P o σ H nid s' us pl := by
  obtain ⟨f', args1, ⟨hf, ha1⟩, h2, h3⟩ := callee_run hF
  subst hf; subst ha1
  intro g a w ro next Q k1 kN _ k3 k4 k5
  obtain ⟨vals, d1, d2⟩ := h3 g a w hT.ok k3
  rw [Oper.semAt_eq ro a.eval o h2, d2, Oper.uponIn_enter]
  refine ⟨fun h => by simp [Fn, Fence.wide] at h, CallsIn_ro ro ?_⟩
  obtain ⟨N0, hN0⟩ := kN
  obtain ⟨N, hNle, hplN⟩ : ∃ N, N0 ≤ N ∧ ∀ p ∈ pl, p < N := by
    have : ∀ l : List Nat, ∃ M, ∀ p ∈ l, p < M := by
      intro l
      induction l with
      | nil => exact ⟨0, by simp⟩
      | cons x l ih =>
        obtain ⟨M, hM⟩ := ih
        refine ⟨max M (x + 1), fun p hp => ?_⟩
        rcases List.mem_cons.1 hp with rfl | hp
        · omega
        · have := hM p hp; omega
    obtain ⟨M, hM⟩ := this pl
    exact ⟨max N0 M, by omega, fun p hp => by have := hM p hp; omega⟩
  have hinj := piOf_inj hnd hplN
  have hbig : ∀ b, pl.length ≤ b → ¬ g.dom (piOf pl N b) := fun b hb hd => by
    have := hN0 _ hd
    rw [piOf_new hb] at this; omega
  have hids : ∀ B, ids us B ↔ ∃ a, a < pl.length ∧ piOf pl N a = B := fun B => by
    unfold ids
    constructor
    · intro hB
      obtain ⟨p, hp, rfl⟩ := List.mem_map.1 hB
      obtain ⟨i, hi⟩ := List.getElem?_of_mem hp
      have hil : i < pl.length := by have := (List.getElem?_eq_some_iff.1 hi).1; omega
      have := (hb1 N i hil).2
      rw [hi] at this
      exact ⟨i, hil, by rw [Option.some.inj this]⟩
    · rintro ⟨a, hal, rfl⟩
      exact List.mem_map.2 ⟨_, List.mem_of_getElem? (hb1 N a hal).2, rfl⟩
  let g0 : Gh := { dom := fun b => g.dom (piOf pl N b), ι := fun b => g.ι (piOf pl N b), imm := g.imm, hid := none, flr := g.flr }
  have hD : ∀ b, g0.dom b ↔ g.dom (piOf pl N b) := fun _ => Iff.rfl
  have hι : ∀ b, g0.dom b → g0.ι b = g.ι (piOf pl N b) := fun _ _ => rfl
  have hg0 : GOk g0 w := ⟨fun b l hl => k1.own _ l hl, fun b b' l l' h1 h2 e => hinj _ _ (k1.inj _ _ l l' h1 h2 e), k1.immlt, fun r ⟨X, e, _⟩ => (by cases e), fun r ⟨X, e, _⟩ => (by cases e), fun b l _ ⟨X, e, _⟩ => (by cases e), k1.flr⟩
  have hdl0 : ∀ b, g0.dom b → b < h.length := fun b hb => by
    rw [hlen]
    rcases Nat.lt_or_ge b pl.length with h1 | h1
    · exact h1
    · exact absurd hb (hbig b h1)
  have hhd : ∀ (l : List LB) (n : Nat), l.length ≤ n → hget l n = .dead := by
    intro l
    induction l with
    | nil => intro n _; rfl
    | cons a l ih => intro n hn; cases n with
      | zero => simp at hn
      | succ n => exact ih n (by simpa using hn)
  have hlb0 : ∀ b, lbden P w g0 b (hget h b) := fun b => by
    rcases Nat.lt_or_ge b pl.length with h1 | h1
    · obtain ⟨h2, h3⟩ := hbk N b h1
      have h4 := k4 (piOf pl N b) (piOf_mem h1)
      rw [h3] at h4
      by_cases hd : g0.dom b
      · exact (lb_ren (g := g0) (g' := g) rfl hD hι hd h2).2 h4
      · have hn : g.ι (piOf pl N b) = none := by
          cases hi : g.ι (piOf pl N b) with
          | none => rfl
          | some l => exact absurd (k1.own _ _ hi).1 hd
        cases hx : hget h b with
        | dead => trivial
        | cells cs => rw [hx] at h4; obtain ⟨l, vs, t, k, _⟩ := h4; rw [hn] at k; cases k
        | arr e sz es => rw [hx] at h4; obtain ⟨l, vs, k, _⟩ := h4; rw [hn] at k; cases k
        | map es => rw [hx] at h4; obtain ⟨l, en, ix, k, _⟩ := h4; rw [hn] at k; cases k
        | _ => rw [hx] at h2; simp [LB.plain] at h2
    · rw [hhd h b (by omega)]; trivial
  refine (hT.run hm g0 w vals rfl hg0 hdl0 ((denL_ren hD hι args).2 (by rw [ha N]; exact d1)) hlb0).mono ?_
  rintro _ w' ⟨v, s, h', g1, rfl, ⟨rfl, rfl⟩, q1, q2, q3, q4, q5⟩
  let g' : Gh := { dom := fun B => (∃ a, piOf pl N a = B ∧ g1.dom a) ∨ ((∀ a, piOf pl N a ≠ B) ∧ g.dom B), ι := fun B => if hx : ∃ a, piOf pl N a = B then g1.ι hx.choose else g.ι B, imm := g1.imm, hid := g.hid, flr := g.flr }
  have hin : ∀ a, g'.ι (piOf pl N a) = g1.ι a := fun a => by
    have hx : ∃ b, piOf pl N b = piOf pl N a := ⟨a, rfl⟩
    simp only [g', dif_pos hx]
    rw [hinj _ _ hx.choose_spec]
  have hout : ∀ B, (∀ a, piOf pl N a ≠ B) → g'.ι B = g.ι B := fun B hB => by
    have hx : ¬ ∃ b, piOf pl N b = B := fun ⟨b, e⟩ => hB b e
    simp only [g', dif_neg hx]
  have hD1 : ∀ b, g1.dom b ↔ g'.dom (piOf pl N b) := fun b => by
    constructor
    · intro hb; exact .inl ⟨b, rfl, hb⟩
    · rintro (⟨a, e, ha⟩ | ⟨hB, _⟩)
      · rw [← hinj _ _ e]; exact ha
      · exact absurd rfl (hB b)
  have hι1 : ∀ b, g1.dom b → g1.ι b = g'.ι (piOf pl N b) := fun b _ => (hin b).symm
  have hcase : ∀ B, (∃ a, piOf pl N a = B) ∨ ∀ a, piOf pl N a ≠ B := fun B => by
    by_cases hx : ∃ a, piOf pl N a = B
    · exact .inl hx
    · exact .inr fun a e => hx ⟨a, e⟩
  have hsm : ∀ b l, g0.ι b = some l → b < pl.length := fun b l hl => by
    have := hdl0 b (hg0.own b l hl).1
    omega
  have hU : ∀ b l, g0.ι b = some l → ids us (piOf pl N b) := fun b l hl => (hids _).2 ⟨b, hsm b l hl, rfl⟩
  have hmix : ∀ a B l l', g1.ι a = some l → (∀ a, piOf pl N a ≠ B) → g.ι B = some l' → l.blk ≠ l'.blk := fun a B l l' h1 hB h2 e => by
    rcases q5.newι a l h1 with h3 | h3 | ⟨b0, l0, _, h3, h4⟩
    · exact hB a (k1.inj _ _ _ _ h3 h2 e)
    · have := (k1.own _ _ h2).2.1; omega
    · exact hB b0 (k1.inj _ _ _ _ h3 h2 (h4.trans e))
  have hext : Ext g w g' w' (ids us) := by
    refine ⟨q5.os, q5.tape, q5.output, q5.size, fun B hB => ?_, fun B hB => ⟨fun hn => ?_, ?_⟩, q5.imm, rfl, rfl, fun r hr hn => q5.old r hr fun b l _ hl => hn (piOf pl N b) l (hU b l hl) hl, fun B l hl => ?_, fun r hr => ?_⟩
    · rcases hcase B with ⟨a, rfl⟩ | hB'
      · exact .inl ⟨a, rfl, q5.dom a hB⟩
      · exact .inr ⟨hB', hB⟩
    · rcases hcase B with ⟨a, rfl⟩ | hB'
      · rcases Nat.lt_or_ge a pl.length with h1 | h1
        · exact absurd ((hids _).2 ⟨a, h1, rfl⟩) hn
        · exact absurd hB (hbig a h1)
      · exact hout B hB'
    · rcases hcase B with ⟨a, rfl⟩ | hB'
      · rw [hin]; exact (q5.ι a hB).2
      · exact .inl (hout B hB')
    · rcases hcase B with ⟨a, rfl⟩ | hB'
      · rw [hin] at hl
        rcases q5.newι a l hl with h3 | h3 | ⟨b0, l0, _, h3, h4⟩
        · exact .inl h3
        · exact .inr (.inl h3)
        · exact .inr (.inr ⟨piOf pl N b0, l0, hU b0 l0 h3, h3, h4⟩)
      · rw [hout B hB'] at hl; exact .inl hl
    · rcases q5.newimm r hr with h3 | h3 | ⟨b0, l0, _, h3, h4⟩
      · exact .inl h3
      · exact .inr (.inl h3)
      · exact .inr (.inr ⟨piOf pl N b0, l0, hU b0 l0 h3, h3, h4⟩)
  have hok : GOk g' w' := by
    refine ⟨fun B l hl => ?_, fun B B' l l' h1 h2 e => ?_, q1.immlt, fun r hr => Nat.lt_of_lt_of_le (k1.hlt r hr) q5.size, fun r hr hi => ?_, fun B l hl hr => ?_, Nat.le_trans k1.flr q5.size⟩
    · rcases hcase B with ⟨a, rfl⟩ | hB
      · rw [hin] at hl
        obtain ⟨h3, h4, h5⟩ := q1.own a l hl
        exact ⟨(hD1 a).1 h3, h4, h5⟩
      · rw [hout B hB] at hl
        obtain ⟨h3, h4, h5⟩ := k1.own B l hl
        refine ⟨.inr ⟨hB, h3⟩, Nat.lt_of_lt_of_le h4 q5.size, fun hi => ?_⟩
        rcases q5.newimm _ hi with h6 | h6 | ⟨b0, l0, _, h6, h7⟩
        · exact h5 h6
        · omega
        · exact hB b0 (k1.inj _ _ _ _ h6 hl h7)
    · rcases hcase B with ⟨a, rfl⟩ | hB <;> rcases hcase B' with ⟨a', rfl⟩ | hB'
      · rw [hin] at h1 h2; rw [q1.inj a a' l l' h1 h2 e]
      · rw [hin] at h1; rw [hout B' hB'] at h2; exact absurd e (hmix a B' l l' h1 hB' h2)
      · rw [hout B hB] at h1; rw [hin] at h2; exact absurd e.symm (hmix a' B l' l h2 hB h1)
      · rw [hout B hB] at h1; rw [hout B' hB'] at h2; exact k1.inj B B' l l' h1 h2 e
    · have hr' : g.hd r := hr
      rcases q5.newimm r hi with h6 | h6 | ⟨b0, l0, _, h6, h7⟩
      · exact k1.himm r hr' h6
      · have := k1.hlt r hr'; omega
      · exact k1.hown _ l0 h6 (h7 ▸ hr')
    · have hr' : g.hd l.blk := hr
      rcases hcase B with ⟨a, rfl⟩ | hB
      · rw [hin] at hl
        rcases q5.newι a l hl with h3 | h3 | ⟨b0, l0, _, h3, h4⟩
        · exact k1.hown _ l h3 hr'
        · have := k1.hlt _ hr'; omega
        · exact k1.hown _ l0 h3 (h4 ▸ hr')
      · rw [hout B hB] at hl
        exact k1.hown B l hl hr'
  refine k5 v w' g' hok hext (by rw [← hs N]; exact (den_ren hD1 hι1 s).1 q3) (fun p hp => ?_) fun B hB => ?_
  · obtain ⟨i, hi⟩ := List.getElem?_of_mem hp
    have hil : i < pl.length := by have := (List.getElem?_eq_some_iff.1 hi).1; omega
    obtain ⟨p1, p2⟩ := hb1 N i hil
    rw [hi] at p2
    obtain rfl := Option.some.inj p2
    by_cases hd : g1.dom i
    · exact (lb_ren (g := g1) (g' := g') rfl hD1 hι1 hd p1).1 (q4 i)
    · have hn : g1.ι i = none := by
        cases hi : g1.ι i with
        | none => rfl
        | some l => exact absurd (q1.own _ _ hi).1 hd
      have h4 := q4 i
      cases hx : hget h' i with
      | dead => trivial
      | cells cs => rw [hx] at h4; obtain ⟨l, vs, t, k, _⟩ := h4; rw [hn] at k; cases k
      | arr e sz es => rw [hx] at h4; obtain ⟨l, vs, k, _⟩ := h4; rw [hn] at k; cases k
      | map es => rw [hx] at h4; obtain ⟨l, en, ix, k, _⟩ := h4; rw [hn] at k; cases k
      | _ => rw [hx] at p1; simp [LB.plain] at p1
  · rcases hB with ⟨a, rfl, ha⟩ | ⟨_, hB⟩
    · have := q2 a ha
      exact .inr ((hids _).2 ⟨a, by omega, rfl⟩)
    · exact .inl hB
theorem TDq.callF {t : TOper} {ts : List TOper} {σ : List SV} {H : List LB} {mks : List Nat} {log : List Lg} {it : List Nat} {K : St → Prop} {f : FuncId} {args args' : List SV} {h h1 : List LB} {s1 s' : SV} (pl : List Nat) (us : List (Nat × LB))
    (hT : TF P f args h fun s h' => h' = h1 ∧ s = s1) (hg : guardK σ t.guard (· = true)) (hF : calleeK σ t.op fun f' a => f' = f ∧ a = args') (hlen : h.length = pl.length) (hlen1 : h1.length = pl.length) (hnd : pl.Nodup) (hlt : ∀ p ∈ pl, p < H.length)
    (ha : ∀ N, renL (piOf pl N) args = args') (hs : ∀ N, renS (piOf pl N) s1 = s') (hbk : ∀ N a, a < pl.length → (hget h a).plain = true ∧ hget H (piOf pl N a) = renB (piOf pl N) (hget h a))
    (hb1 : ∀ N a, a < pl.length → (hget h1 a).plain = true ∧ us[a]? = some (piOf pl N a, renB (piOf pl N) (hget h1 a))) (hul : us.length = pl.length)
    (hK : Ev (setD σ t.dst s' fun σ' => updK H us fun H' => evD P r ts ⟨σ', H', mks⟩ (lgOf t us pl :: log) it K)) : TDq P r (t :: ts) ⟨σ, H, mks⟩ log it K := by
  rw [TDq_iff]
  refine TD.step hg (calleeK_ne (k := fun _ _ => True) (calleeK_mono (fun _ _ _ => trivial) hF)) fun hm o ho1 ho2 => ⟨s', us, pl, TF.orun hm hT (by rw [ho2]; exact hF) hlen hlen1 hnd ha hs hbk hb1 hul, fun p hp => ?_, ?_⟩
  · obtain ⟨i, hi⟩ := List.getElem?_of_mem hp
    have hil : i < pl.length := by have := (List.getElem?_eq_some_iff.1 hi).1; omega
    have p2 := (hb1 0 i hil).2
    rw [hi] at p2
    obtain rfl := Option.some.inj p2
    exact .inr ⟨piOf_mem hil, hlt _ (piOf_mem hil)⟩
  · have := hK.at
    rw [setD_iff] at this ⊢
    have mono : ∀ {us : List (Nat × LB)} {h : List LB} {k k' : List LB → Prop}, (∀ l, k l → k' l) → updK h us k → updK h us k' := by
      have mg : ∀ {h : List LB} {n : Nat} {b : LB} {k k' : List LB → Prop}, (∀ l, k l → k' l) → updGo h n b k → updGo h n b k' := by
        intro h
        induction h with
        | nil => intro n b k k' hk hu; cases n <;> first | exact hk _ hu | exact hu
        | cons x h ih => intro n b k k' hk hu; cases n <;> first | exact hk _ hu | exact ih (fun l => hk _) hu
      intro us
      induction us with
      | nil => exact fun hk h => hk _ h
      | cons u us ih => exact fun hk h => mg (fun l hl => ih hk hl) h
    exact mono (fun l hl => evD_sound hl) this
theorem TF.same {f : FuncId} {args : List SV} {H : List LB} {Q Q' : SV → List LB → Prop} (hT : TF P f args H Q) (hq : ∀ s H', Q s H' → ∃ H1, Q' s H1 ∧ H'.length ≤ H1.length ∧ ∀ b, hget H1 b = hget H' b) : TF P f args H Q' :=
  ⟨hT.ok, fun hm g w vals h0 h1 h2 h3 h4 => (hT.run hm g w vals h0 h1 h2 h3 h4).mono fun _ _ ⟨v, s, h', g', e, q, k1, k2, k3, k4, k5⟩ => by
    obtain ⟨H1, q1, q2, q3⟩ := hq s h' q
    exact ⟨v, s, H1, g', e, q1, k1, fun b hb => Nat.lt_of_lt_of_le (k2 b hb) q2, k3, fun b => by rw [q3 b]; exact k4 b, k5⟩⟩
theorem hget_big : ∀ {l : List LB} {n : Nat}, l.length ≤ n → hget l n = .dead
  | [], _, _ => rfl
  | _ :: l, 0, h => by simp at h
  | _ :: l, n + 1, h => hget_big (l := l) (by simpa using h)
theorem TSq.callX {α : Type} (pr : α → Prop) {t : TOper} {ts : List TOper} {σ : List SV} {H : List LB} {mks : List Nat} {K : St → Prop} {f : FuncId} {args args' : List SV} {h : List LB} {h1 : α → List LB} {s1 s' : α → SV} (pl : List Nat) (us : α → List (Nat × LB))
    (hT : TF P f args h fun s h' => ∃ x, pr x ∧ s = s1 x ∧ h' = h1 x) (ho : r.opn = false) (hg : guardK σ t.guard (· = true)) (hF : calleeK σ t.op fun f' a => f' = f ∧ a = args') (hlen : h.length = pl.length) (hnd : pl.Nodup) (hlt : ∀ p ∈ pl, p < H.length)
    (ha : renL (piOf pl H.length) args = args') (hbk : ∀ a, a < pl.length → (hget h a).plain = true ∧ hget H (piOf pl H.length a) = renB (piOf pl H.length) (hget h a)) (hit : meets pl (itersOf H) = false) (hil : allLt (itersOf H) H.length = true)
    (hle : ∀ x, pr x → pl.length ≤ (h1 x).length) (hs : ∀ x, pr x → renS (piOf pl H.length) (s1 x) = s' x)
    (hb1 : ∀ x, pr x → ∀ a, a < (h1 x).length → (hget (h1 x) a).plain = true ∧ (us x)[a]? = some (piOf pl H.length a, renB (piOf pl H.length) (hget (h1 x) a))) (hul : ∀ x, pr x → (us x).length = (h1 x).length)
    (hK : ∀ x, pr x → Ev (setD σ t.dst (s' x) fun σ' => updK H (us x) fun H' => evR P r ts ⟨σ', H', mks⟩ K)) : TSq P r (t :: ts) ⟨σ, H, mks⟩ K := by
  have hnot : ∀ B, (∀ a, piOf pl H.length a ≠ B) → B ∉ pl := fun B hB hm => by
    have key : ∀ {pl : List Nat} {N : Nat}, B ∈ pl → ∃ a, piOf pl N a = B := by
      intro pl
      induction pl with
      | nil => intro N h; cases h
      | cons p ps ih =>
        intro N h
        rcases List.mem_cons.1 h with rfl | h
        · exact ⟨0, rfl⟩
        · obtain ⟨a, h2⟩ := ih (N := N) h
          exact ⟨a + 1, h2⟩
    obtain ⟨a, e⟩ := key (N := H.length) hm
    exact hB a e
  have hFr : TF P f args' H fun s' H' => ∃ s h', (∃ x, pr x ∧ s = s1 x ∧ h' = h1 x) ∧ s' = renS (piOf pl H.length) s ∧ After (piOf pl H.length) H h' H' h.length := by
    rw [← ha]
    refine hT.frame (H := H) (piOf pl H.length) (piOf_inj hnd hlt) (fun a ha => hlt _ (piOf_mem (by omega))) (fun a ha => by rw [hlen]; exact piOf_new (by omega)) (fun a ha => hbk a (by omega)) (fun B hB d hd a e => ?_) ?_
    · have hd' := itersOf_mem hd
      have h1 : d ∉ pl := fun hm => by
        have : meets pl (itersOf H) = true := meets_iff.2 ⟨d, hm, hd'⟩
        rw [hit] at this; cases this
      have h2 := allLt_iff hil d hd'
      rcases Nat.lt_or_ge a pl.length with h | h
      · exact h1 (e ▸ piOf_mem h)
      · rw [piOf_new h] at e; omega
    · rintro s h' ⟨x, hx, rfl, rfl⟩ b
      rcases Nat.lt_or_ge b (h1 x).length with hb | hb
      · exact (hb1 x hx b hb).1
      · rw [hget_big hb]; rfl
  refine TSq.callT ho hg (calleeK_const hF (hFr.same ?_))
  · rintro _ H' ⟨_, _, ⟨x, hx, rfl, rfl⟩, rfl, hA⟩
    rw [hlen] at hA
    have hK := (hK x hx).at
    rw [setD_iff] at hK
    obtain ⟨H1, e1, l1, l2, l3⟩ := updK_wr hK
    refine ⟨H1, ?_, ?_, fun b => ?_⟩
    · rw [hs x hx, setD_iff]
      exact Ev.go e1
    · rw [hA.len]
      rcases Nat.lt_or_ge pl.length (h1 x).length with h | h
      · have hm := (hb1 x hx ((h1 x).length - 1) (by omega)).2
        have := l2 _ (List.mem_of_getElem? hm)
        simp only at this
        rw [piOf_new (by omega)] at this
        omega
      · omega
    · rw [l3 b]
      by_cases hk : keys (us x) b
      · obtain ⟨v, m1, m2⟩ := wr_in (W := us x) (hget H) hk
        rw [m2]
        obtain ⟨i, hi⟩ := List.getElem?_of_mem m1
        have hil : i < (h1 x).length := by have := (List.getElem?_eq_some_iff.1 hi).1; rw [hul x hx] at this; exact this
        have p2 := (hb1 x hx i hil).2
        rw [hi] at p2
        have p3 := Option.some.inj p2
        simp only [Prod.mk.injEq] at p3
        obtain ⟨rfl, rfl⟩ := p3
        exact (hA.in_ i (.inr hil)).symm
      · rw [wr_out hk]
        by_cases hx' : ∃ a, piOf pl H.length a = b
        · obtain ⟨a, rfl⟩ := hx'
          have hal : (h1 x).length ≤ a := by
            rcases Nat.lt_or_ge a (h1 x).length with h | h
            · exact absurd (List.mem_map.2 ⟨_, List.mem_of_getElem? (hb1 x hx a h).2, rfl⟩) hk
            · exact h
          have hle' := hle x hx
          rw [piOf_new (by omega), hget_big (by omega), hget_big (by rw [hA.len]; omega)]
        · exact (hA.out b fun a e => hx' ⟨a, e⟩).symm
theorem TSq.callD {t : TOper} {ts : List TOper} {σ : List SV} {H : List LB} {mks : List Nat} {K : St → Prop} {f : FuncId} {args args' : List SV} {h h1 : List LB} {s1 s' : SV} (pl : List Nat) (us : List (Nat × LB))
    (hT : TF P f args h fun s h' => h' = h1 ∧ s = s1) (ho : r.opn = false) (hg : guardK σ t.guard (· = true)) (hF : calleeK σ t.op fun f' a => f' = f ∧ a = args') (hlen : h.length = pl.length) (hnd : pl.Nodup) (hlt : ∀ p ∈ pl, p < H.length)
    (ha : renL (piOf pl H.length) args = args') (hbk : ∀ a, a < pl.length → (hget h a).plain = true ∧ hget H (piOf pl H.length a) = renB (piOf pl H.length) (hget h a)) (hit : meets pl (itersOf H) = false) (hil : allLt (itersOf H) H.length = true)
    (hle : pl.length ≤ h1.length) (hs : renS (piOf pl H.length) s1 = s')
    (hb1 : ∀ a, a < h1.length → (hget h1 a).plain = true ∧ us[a]? = some (piOf pl H.length a, renB (piOf pl H.length) (hget h1 a))) (hul : us.length = h1.length)
    (hK : Ev (setD σ t.dst s' fun σ' => updK H us fun H' => evR P r ts ⟨σ', H', mks⟩ K)) : TSq P r (t :: ts) ⟨σ, H, mks⟩ K :=
  TSq.callX (α := Unit) (fun _ => True) (h1 := fun _ => h1) (s1 := fun _ => s1) (s' := fun _ => s') pl (fun _ => us) (hT.mono fun _ _ q => ⟨(), trivial, q.2, q.1⟩) ho hg hF hlen hnd hlt ha hbk hit hil (fun _ _ => hle) (fun _ _ => hs) (fun _ _ => hb1) (fun _ _ => hul) fun _ _ => hK
end
def subMA (b : Nat) (es : List (SV × SV)) : SV → SV
  | .mp n => match Nat.beq n b with
    | true => .imap es
    | false => .mp n
  | s => s
def subMAL (b : Nat) (es : List (SV × SV)) : List SV → List SV
  | [] => []
  | s :: ss => subMA b es s :: subMAL b es ss
def subMT (b : Nat) (es : List (SV × SV)) : SV → SV
  | .mp n => match Nat.beq n b with
    | true => .imap es
    | false => .mp n
  | .agg cs => .agg (subMAL b es cs)
  | .tup cs => .tup (subMAL b es cs)
  | s => s
def subMH (b : Nat) (es : List (SV × SV)) : LB → LB
  | .cells cs => .cells (subMAL b es cs)
  | .arr e s xs => .arr e s (subMAL b es xs)
  | lb => lb
def subMTK (b : Nat) (es : List (SV × SV)) : List SV → (List SV → Prop) → Prop
  | [], k => k []
  | s :: ss, k => forceK (subMT b es s) fun s' => subMTK b es ss fun l => k (s' :: l)
def subMHK (b : Nat) (es : List (SV × SV)) : List LB → (List LB → Prop) → Prop
  | [], k => k []
  | x :: xs, k => subMHK b es xs fun l => k (subMH b es x :: l)
def pubM (b : Nat) (S : St) (k : St → Prop) : Prop :=
  match hget S.h b with
  | .map es => Vc (cloM es) ∧ Ev (noIter S.h b (subMTK b es S.σ fun σ' => subMHK b es S.h fun h1 => updGo h1 b .dead fun h' => k ⟨σ', h', S.mks⟩))
  | _ => False
theorem subMA_den {w : World} {imm D : Nat → Prop} {ι : Env} {b : Nat} {es : List (SV × SV)} (hs : ∀ v, den w imm (.mp b) D ι v → den w imm (.imap es) D ι v) {s : SV} {v : Value} (h : den w imm s D ι v) : den w imm (subMA b es s) D ι v := by
  cases s <;> try exact h
  rename_i n
  simp only [subMA]
  cases e : Nat.beq n b with
  | true => obtain rfl := Nat.eq_of_beq_eq_true e; exact hs v h
  | false => exact h
theorem subMAL_den {w : World} {imm D : Nat → Prop} {ι : Env} {b : Nat} {es : List (SV × SV)} (hs : ∀ v, den w imm (.mp b) D ι v → den w imm (.imap es) D ι v) : ∀ {ss : List SV} {vs : List Value}, denL w imm ss D ι vs → denL w imm (subMAL b es ss) D ι vs
  | [], vs, h => h
  | s :: ss, vs, h => by
    simp only [denL, subMAL] at h ⊢
    obtain ⟨u, us, rfl, h1, h2⟩ := h
    exact ⟨u, us, rfl, subMA_den hs h1, subMAL_den hs h2⟩
theorem subMT_den {w : World} {imm D : Nat → Prop} {ι : Env} {b : Nat} {es : List (SV × SV)} (hs : ∀ v, den w imm (.mp b) D ι v → den w imm (.imap es) D ι v) {s : SV} {v : Value} (h : den w imm s D ι v) : den w imm (subMT b es s) D ι v := by
  cases s with
  | mp n =>
    simp only [subMT]
    cases e : Nat.beq n b with
    | true => obtain rfl := Nat.eq_of_beq_eq_true e; exact hs v h
    | false => exact h
  | agg cs =>
    simp only [subMT, den] at h ⊢
    obtain ⟨vs, rfl, h⟩ := h
    exact ⟨vs, rfl, subMAL_den hs h⟩
  | tup cs =>
    simp only [subMT, den] at h ⊢
    obtain ⟨vs, rfl, h⟩ := h
    exact ⟨vs, rfl, subMAL_den hs h⟩
  | _ => exact h
theorem subMTK_eq {b : Nat} {es : List (SV × SV)} : ∀ {σ : List SV} {k : List SV → Prop}, subMTK b es σ k → k (σ.map (subMT b es))
  | [], _, h => h
  | s :: ss, k, h => by
    have h := forceK_iff.1 h
    exact subMTK_eq (σ := ss) (k := fun l => k (subMT b es s :: l)) h
theorem subMHK_eq {b : Nat} {es : List (SV × SV)} : ∀ {xs : List LB} {k : List LB → Prop}, subMHK b es xs k → k (xs.map (subMH b es))
  | [], _, h => h
  | x :: xs, k, h => subMHK_eq (xs := xs) (k := fun l => k (subMH b es x :: l)) h
theorem subMAL_len {b : Nat} {es : List (SV × SV)} : ∀ (xs : List SV), (subMAL b es xs).length = xs.length
  | [] => rfl
  | _ :: xs => by simp [subMAL, subMAL_len xs]
theorem subMAL_keep {b : Nat} {es : List (SV × SV)} : ∀ (xs : List SV), (∀ s ∈ xs, ∀ n, s ≠ .mp n) → subMAL b es xs = xs
  | [], _ => rfl
  | s :: xs, h => by
    simp only [subMAL]
    rw [subMAL_keep xs fun s hs => h s (by simp [hs])]
    have := h s (by simp)
    cases s <;> first | rfl | (exact absurd rfl (this _))
section
variable {P : Program} {r : Fr}
theorem pubM_spec {b B : Nat} {S : St} {k : St → Prop} (h : pubM b S k) : ∃ S', k S' ∧ Wk P B S S' := by
  unfold pubM at h
  split at h
  · rename_i es he
    obtain ⟨⟨hc⟩, h⟩ := h
    obtain ⟨h, hno⟩ := noIter_spec h.at
    have h := updGo_spec (subMHK_eq (subMTK_eq h))
    obtain ⟨h', h1, h2, h3, h4, h5⟩ := h
    refine ⟨_, h1, fun g a w hs => ?_⟩
    have hbb := hs.hp b
    rw [he] at hbb
    obtain ⟨l, hl⟩ : ∃ l, g.ι b = some l := ⟨_, hbb.choose_spec.choose_spec.choose_spec.1⟩
    have hblt : b < S.h.length := hs.lt b (hs.ok.own b l hl).1
    have bk : Bk P g S.h w := ⟨hs.ok, hs.lt, hs.hp⟩
    obtain ⟨r2, r3⟩ := pub_book (h' := S.h.set b .dead) bk hl (by simp) (by rw [hget_setD b hblt]; simp) (fun c hc => by rw [hget_setD c hblt]; simp [hc]) hno
    have hsl : ∀ v, den w (g.pub b l.blk).imm (.mp b) g.dom g.ι v → den w (g.pub b l.blk).imm (.imap es) g.dom g.ι v := fun v hv => by
      simp only [den] at hv
      exact clo_den _ (by simp only [clo]) (imap_of_mp (imm := (g.pub b l.blk).imm) hl hbb hc (v := v) (by simp only [Gh.den, den]; exact hv) (fun r hr => .inl hr) (.inr rfl))
    have himm : ∀ r, g.imm r → (g.pub b l.blk).imm r := fun r hr => .inl hr
    have hι : ∀ c l', g.dom c → (g.pub b l.blk).ι c = some l' → g.ι c = some l' := fun c l' _ hc => by
      simp only [Gh.pub] at hc
      split at hc
      · cases hc
      · exact hc
    refine ⟨g.pub b l.blk, ⟨r2.ok, fun c hc' => ?_, ?_, fun c => ?_, r3.df hs.df⟩, r3.exw B⟩
    · have := r2.lt c hc'
      simp at this h2
      simp only; omega
    · exact denL.mono (fun _ h => h) (fun _ _ => rfl) _ (fun _ h => h) hι (map_denL (subMT_den hsl) (denL_imm himm hs.tm))
    · simp only
      by_cases hcb : c = b
      · subst hcb; rw [h4]; trivial
      · rw [h5 c hcb, hget_map rfl]
        have := r2.hp c
        rw [hget_setD c hblt, if_neg hcb] at this
        cases hg : hget S.h c <;> rw [hg] at this <;> try exact this
        · rename_i cs
          have hcc := hs.hp c
          rw [hg] at hcc
          obtain ⟨l', vs, t, q1, q2, q3⟩ := hcc
          refine ⟨l', vs, t, by simp [Gh.pub, hcb, q1], q2, ?_⟩
          exact denL.mono (fun _ h => h) (fun _ _ => rfl) _ (fun _ h => h) hι (subMAL_den hsl (denL_imm himm q3))
        · rename_i e1 s1 xs
          have hcc := hs.hp c
          rw [hg] at hcc
          obtain ⟨l', vs, q1, q2, q3, q4, q5⟩ := hcc
          refine ⟨l', vs, by simp [Gh.pub, hcb, q1], by simpa [subMAL_len] using q2, ?_, q4, q5⟩
          exact denL.mono (fun _ h => h) (fun _ _ => rfl) _ (fun _ h => h) hι (subMAL_den hsl (denL_imm himm q3))
  · exact h.elim
theorem TWq.post {c : TCode} {S : St} {Q : Option Jump → St → Prop} (h : TWq P r c S fun j S' => ∃ S'', Wk P r.base S' S'' ∧ Q j S'') : TWq P r c S Q := by
  rw [TWq_iff] at h ⊢
  exact fun hm k g a w ro q hk hs hr hh => h hm k g a w ro q hk hs hr fun j S' g' a' w' ⟨S'', hw, hq⟩ q1 q2 => by
    obtain ⟨g1, s1, e1⟩ := hw g' a' w' q1
    exact hh j S'' g1 a' w' hq s1 (q2.trans e1)
theorem TWq.postM (b : Nat) {c : TCode} {S : St} {Q : Option Jump → St → Prop} (h : TWq P r c S fun j S' => match j with
    | none => pubM b S' (Q none)
    | some j => Q (some j) S') : TWq P r c S Q := by
  refine TWq.post ?_
  rw [TWq_iff] at h ⊢
  refine TW.mono h fun j S' hq => ?_
  cases j with
  | none =>
    obtain ⟨S'', h1, h2⟩ := pubM_spec (P := P) (B := r.base) hq
    exact ⟨S'', h2, h1⟩
  | some j => exact ⟨S', Wk.refl _ _, hq⟩
theorem TSq.pubM (b : Nat) {ts : List TOper} {S : St} {K : St → Prop} (h : Ev (pubM b S fun S' => evR P r ts S' K)) : TSq P r ts S K := by
  obtain ⟨S', h1, h2⟩ := pubM_spec h.at
  exact TSq.wk h2 (TSq_iff.2 (evR_sound h1))
theorem TWq.pubM (b : Nat) {c : TCode} {S : St} {Q : Option Jump → St → Prop} (h : Ev (pubM b S fun S' => evC P r c S' Q)) : TWq P r c S Q := by
  obtain ⟨S', h1, h2⟩ := pubM_spec h.at
  exact TWq.wk h2 (TWq_iff.2 (evC_sound h1))
end
end Go.TV
