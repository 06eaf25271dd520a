/- The value calculus, third part: calls, loops, iterators, and how a statement comes of a contract. -/
import Derived.Test.YtjadiajfbflghaaGreatB2
import Derived.Maps.RangeRun
import Derived.RangeFuncNested
import Derived.Lib.SliceRun
import Derived.ProofKit
import Derived.OpenShut
import Derived.ChangeOld
import Derived.Stop.Joined
set_option linter.unusedSimpArgs false
set_option linter.unusedVariables false
/- The value calculus, part 2D: calls of functions that touch nothing: with closed arguments; with blocks that are lent for the call. -/
namespace Go.TV
open Go.RowKit
mutual
def lendK : Nat → List LB → SV → (SV → List Nat → Prop) → Prop
 | 0, _, _, _ => False
 | n + 1, h, s, k => match s with
  | .own b => match hget h b with
   | .arr _ sz es => Vc (cloL es) ∧ k (.sl sz es) [b]
   | _ => False
  | .osl b sz off n => match hget h b with
   | .arr _ sz' es => eqK sz sz' (Vc (cloL es) ∧ k (.sl sz ((es.drop off).take n)) [b])
   | _ => False
  | .mp b => match hget h b with
   | .map es => Vc (cloM es) ∧ k (.imap es) [b]
   | _ => False
  | .ptr b off => match hget h b with
   | .cells cs => lendLK n h cs fun cs' nb => k (.iptr (.agg cs') off) (b :: nb)
   | _ => False
  | .agg cs => lendLK n h cs fun cs' nb => k (.agg cs') nb
  | .tup cs => lendLK n h cs fun cs' nb => k (.tup cs') nb
  | .fn f fs cs => lendLK n h fs fun fs' nb => lendLK n h cs fun cs' nb' => k (.fn f fs' cs') (nb ++ nb')
  | .iface t v => lendK n h v fun v' nb => k (.iface t v') nb
  | .eptr _ _ _ _ => False
  | .csl _ _ _ _ => False
  | .yield _ => False
  | s => forceK s fun s => k s []
def lendLK : Nat → List LB → List SV → (List SV → List Nat → Prop) → Prop
 | 0, _, _, _ => False
 | n + 1, h, ss, k => match ss with
  | [] => k [] []
  | s :: ss => lendK n h s fun s' nb => lendLK n h ss fun ss' nb' => k (s' :: ss') (nb ++ nb')
end
def immOf (g : Gh) (nb : List Nat) (r : Nat) : Prop := g.imm r ∨ ∃ b ∈ nb, ∃ l, g.ι b = some l ∧ l.blk = r
section
variable {P : Program}
theorem immOf_mono {g : Gh} {nb nb' : List Nat} (h : ∀ b ∈ nb, b ∈ nb') {r : Nat} (hr : immOf g nb r) : immOf g nb' r :=
 hr.imp id fun ⟨b, hb, l, h1, h2⟩ => ⟨b, h b hb, l, h1, h2⟩
theorem den_imm {w : World} {imm imm' : Nat → Prop} {s : SV} {v : Value} {D : Nat → Prop} {ι : Env} (h : ∀ r, imm r → imm' r) (hd : den w imm s D ι v) : den w imm' s D ι v :=
 den.mono h (fun _ _ => rfl) s (fun _ h => h) (fun _ _ _ h => h) hd
theorem denL_imm {w : World} {imm imm' : Nat → Prop} {s : List SV} {v : List Value} {D : Nat → Prop} {ι : Env} (h : ∀ r, imm r → imm' r) (hd : denL w imm s D ι v) : denL w imm' s D ι v :=
 denL.mono h (fun _ _ => rfl) s (fun _ h => h) (fun _ _ _ h => h) hd
theorem lend_spec (n : Nat) : (∀ {h : List LB} {s : SV} {k : SV → List Nat → Prop}, lendK n h s k → ∃ s' nb, k s' nb ∧ clo s' ∧ ∀ (g : Gh) (w : World) (v : Value), (∀ b ∈ nb, lbden P w g b (hget h b)) → g.den w s v →
   den w (immOf g nb) s' (fun _ => False) (fun _ => none) v) ∧
  (∀ {h : List LB} {ss : List SV} {k : List SV → List Nat → Prop}, lendLK n h ss k → ∃ ss' nb, k ss' nb ∧ cloL ss' ∧ ∀ (g : Gh) (w : World) (vs : List Value), (∀ b ∈ nb, lbden P w g b (hget h b)) → g.denL w ss vs →
   denL w (immOf g nb) ss' (fun _ => False) (fun _ => none) vs) := by
 induction n with
 | zero => exact ⟨fun h => h.elim, fun h => h.elim⟩
 | succ n ih =>
  obtain ⟨ih1, ih2⟩ := ih
  constructor
  ·intro h s k hk
   have same : ∀ {s : SV}, clo s → k s [] → ∃ s' nb, k s' nb ∧ clo s' ∧ ∀ (g : Gh) (w : World) (v : Value), (∀ b ∈ nb, lbden P w g b (hget h b)) → g.den w s v → den w (immOf g nb) s' (fun _ => False) (fun _ => none) v :=
    fun hc hk => ⟨_, [], hk, hc, fun g w v hb hd => clo_den _ hc (den_imm (fun r hr => .inl hr) hd)⟩
   cases s with
   | ptr b off =>
    rw [lendK] at hk
    split at hk
    ·rename_i cs hcs
     obtain ⟨cs', nb, k1, k2, k3⟩ := ih2 hk
     refine ⟨_, _, k1, by simp only [clo], fun g w v hb hd => ?_⟩
     have hbb := hb b (by simp)
     rw [hcs] at hbb
     obtain ⟨l, vs, t, e1, e2, e3⟩ := hbb
     refine iptr_of_ptr e1 e2 hd ?_ (.inr ⟨b, by simp, l, e1, rfl⟩)
     exact denL_imm (fun r hr => immOf_mono (fun c hc => by simp [hc]) hr) (k3 g w vs.toList (fun c hc => hb c (by simp [hc])) e3)
    ·exact hk.elim
   | own b =>
    rw [lendK] at hk
    split at hk
    ·rename_i e sz es he
     obtain ⟨hc, hk⟩ := hk
     refine ⟨_, _, hk, by simp only [clo], fun g w v hb hd => ?_⟩
     have hbb := hb b (by simp)
     rw [he] at hbb
     obtain ⟨l, hl⟩ : ∃ l, g.ι b = some l := ⟨_, hbb.choose_spec.choose_spec.1⟩
     exact sl_of_own hl hbb hc.h hd (fun r hr => .inl hr) (.inr ⟨b, by simp, l, hl, rfl⟩)
    ·exact hk.elim
   | osl b sz off n =>
    rw [lendK] at hk
    split at hk
    ·rename_i e sz' es he
     rw [eqK_iff] at hk
     obtain ⟨rfl, hc, hk⟩ := hk
     refine ⟨_, _, hk, by simp only [clo], fun g w v hb hd => ?_⟩
     have hbb := hb b (by simp)
     rw [he] at hbb
     obtain ⟨l, hl⟩ : ∃ l, g.ι b = some l := ⟨_, hbb.choose_spec.choose_spec.1⟩
     exact sl_of_osl hl hbb hc.h hd (fun r hr => .inl hr) (.inr ⟨b, by simp, l, hl, rfl⟩)
    ·exact hk.elim
   | mp b =>
    rw [lendK] at hk
    split at hk
    ·rename_i es he
     obtain ⟨hc, hk⟩ := hk
     refine ⟨_, _, hk, by simp only [clo], fun g w v hb hd => ?_⟩
     have hbb := hb b (by simp)
     rw [he] at hbb
     obtain ⟨l, hl⟩ : ∃ l, g.ι b = some l := ⟨_, hbb.choose_spec.choose_spec.choose_spec.1⟩
     exact imap_of_mp hl hbb hc.h hd (fun r hr => .inl hr) (.inr ⟨b, by simp, l, hl, rfl⟩)
    ·exact hk.elim
   | agg cs =>
    rw [lendK] at hk
    obtain ⟨cs', nb, k1, k2, k3⟩ := ih2 hk
    refine ⟨_, _, k1, by simpa only [clo] using k2, fun g w v hb hd => ?_⟩
    simp only [Gh.den, den] at hd ⊢
    obtain ⟨vs, rfl, hd⟩ := hd
    exact ⟨vs, rfl, k3 g w vs hb hd⟩
   | tup cs =>
    rw [lendK] at hk
    obtain ⟨cs', nb, k1, k2, k3⟩ := ih2 hk
    refine ⟨_, _, k1, by simpa only [clo] using k2, fun g w v hb hd => ?_⟩
    simp only [Gh.den, den] at hd ⊢
    obtain ⟨vs, rfl, hd⟩ := hd
    exact ⟨vs, rfl, k3 g w vs hb hd⟩
   | fn f fs cs =>
    rw [lendK] at hk
    obtain ⟨fs', nb, k1, k2, k3⟩ := ih2 hk
    obtain ⟨cs', nb', m1, m2, m3⟩ := ih2 k1
    refine ⟨_, _, m1, by simp only [clo]; exact ⟨k2, m2⟩, fun g w v hb hd => ?_⟩
    simp only [Gh.den, den] at hd ⊢
    obtain ⟨vf, vc, rfl, d1, d2⟩ := hd
    exact ⟨vf, vc, rfl, denL_imm (fun r hr => immOf_mono (fun c hc => by simp [hc]) hr) (k3 g w vf (fun c hc => hb c (by simp [hc])) d1),
     denL_imm (fun r hr => immOf_mono (fun c hc => by simp [hc]) hr) (m3 g w vc (fun c hc => hb c (by simp [hc])) d2)⟩
   | iface t x =>
    rw [lendK] at hk
    obtain ⟨x', nb, k1, k2, k3⟩ := ih1 hk
    refine ⟨_, _, k1, by simpa only [clo] using k2, fun g w v hb hd => ?_⟩
    simp only [Gh.den, den] at hd ⊢
    obtain ⟨u, rfl, hd⟩ := hd
    exact ⟨u, rfl, k3 g w u hb hd⟩
   | eptr b sz i off => exact hk.elim
   | csl b off n cap => exact hk.elim
   | yield b => exact hk.elim
   | _ => exact same (by simp only [clo]) hk
  ·intro h ss k hk
   cases ss with
   | nil => exact ⟨[], [], hk, trivial, fun g w vs hb hd => by simpa only [Gh.denL, denL] using hd⟩
   | cons s ss =>
    rw [lendLK] at hk
    obtain ⟨s', nb, k1, k2, k3⟩ := ih1 hk
    obtain ⟨ss', nb', m1, m2, m3⟩ := ih2 k1
    refine ⟨_, _, m1, ⟨k2, m2⟩, fun g w vs hb hd => ?_⟩
    simp only [Gh.denL, denL] at hd ⊢
    obtain ⟨u, us, rfl, d1, d2⟩ := hd
    exact ⟨u, us, rfl, den_imm (fun r hr => immOf_mono (fun c hc => by simp [hc]) hr) (k3 g w u (fun c hc => hb c (by simp [hc])) d1),
     denL_imm (fun r hr => immOf_mono (fun c hc => by simp [hc]) hr) (m3 g w us (fun c hc => hb c (by simp [hc])) d2)⟩
theorem immOf_lt {g : Gh} {w : World} (hg : GOk g w) {nb : List Nat} {r : Nat} (h : immOf g nb r) : r < w.heap.size := by
 rcases h with h | ⟨b, _, l, h1, rfl⟩
 ·exact hg.immlt r h
 ·exact (hg.own b l h1).2.1
theorem ext_same {g : Gh} {w w' : World} {imm imm' : Nat → Prop} (hg : GOk g w) (h : Ext (none0 imm) w (none0 imm') w' All) (U : Nat → Prop) : GOk g w' ∧ Ext g w g w' U :=
  ⟨⟨fun b l hl => let ⟨p1, p2, p3⟩ := hg.own b l hl; ⟨p1, Nat.lt_of_lt_of_le p2 h.size, p3⟩, hg.inj, fun r hr => Nat.lt_of_lt_of_le (hg.immlt r hr) h.size, fun r hr => Nat.lt_of_lt_of_le (hg.hlt r hr) h.size, hg.himm, hg.hown, Nat.le_trans hg.flr h.size⟩,
   ⟨h.os, h.tape, h.output, h.size, fun _ h => h, fun _ _ => ⟨fun _ => rfl, .inl rfl⟩, fun _ h => h, rfl, rfl, fun r hr _ => h.old r hr (fun b l _ hl => by cases hl), fun _ _ h => .inl h, fun _ h => .inl h⟩⟩
theorem PF.lend {f : FuncId} {args : List SV} {Q : SV → Prop} {n : Nat} {h : List LB} (hl : lendLK n h args fun args' _ => PF P f args' Q) {K : SV → List LB → Prop} (hK : ∀ s, Q s → scal s ∧ K s h) : TF P f args h K := by
 obtain ⟨args', nb, hp, hc, hs⟩ := (lend_spec (P := P) n).2 hl
 refine ⟨hp.ok, fun hm g w vals _ h1 h2 h3 h4 => (hp.run hm (immOf g nb) w vals (fun r hr => immOf_lt h1 hr) (hs g w vals (fun b _ => h4 b) h3)).mono ?_⟩
 rintro _ w' ⟨v, s, imm', rfl, q, c, k1, k2, k3⟩
 obtain ⟨e1, e2⟩ := ext_same h1 k3 (fun _ => False)
 obtain ⟨q1, q2⟩ := hK s q
 exact ⟨v, s, h, g, rfl, q2, e1, h2, scal_den s q1 k2, fun b => e2.lb h1 (fun h => h) (fun _ _ h => h) (h4 b), e2.more fun _ _ => trivial⟩
theorem calleeK_mono {σ : List SV} {op : TOp} {k k' : FuncId → List SV → Prop} (hk : ∀ f a, k f a → k' f a) (h : calleeK σ op k) : calleeK σ op k' := by
 have mm : ∀ {xs : List TOpd} {k k' : List SV → Prop}, (∀ l, k l → k' l) → mapK σ xs k → mapK σ xs k' := by
  intro xs
  induction xs with
  | nil => exact fun hk h => hk _ h
  | cons x xs ih => exact fun hk h => forceK_iff.2 (ih (fun l => hk _) (forceK_iff.1 h))
 have mc : ∀ {xs l : List SV} {k k' : List SV → Prop}, (∀ l, k l → k' l) → catK xs l k → catK xs l k' := by
  intro xs
  induction xs with
  | nil => exact fun hk h => hk _ h
  | cons x xs ih => exact fun hk h => ih (fun l => hk _) h
 cases op with
 | call f xs => exact mm (fun l => hk _ l) h
 | callv x xs =>
  simp only [calleeK] at h ⊢
  cases e : gv σ x with
  | fn f fs cs => rw [e] at h; exact mm (fun l => mc fun l => mc fun l => hk _ l) h
  | _ => rw [e] at h; exact h.elim
 | _ => exact h.elim
theorem PF.orun {o : Oper} {σ : List SV} {h : List LB} {nid : Nat} {v : SV} (hm : P.follows .mixedOrders = true) (hF : calleeK σ (cOp P o.op) fun f args => PF P f args (· = v) ∧ cloL args) : ORun P o σ h nid v [] [] := by
 obtain ⟨f, args, ⟨hp, hc⟩, h2, h3⟩ := callee_run hF
 intro g a w ro next Q k1 _ k2 k3 k4 k5
 obtain ⟨vals, d1, d2⟩ := h3 g a w hp.ok k3
 rw [Oper.semAt_eq ro a.eval o h2, d2, Oper.uponIn_enter]
 refine ⟨fun h => by simp [Fn, Fence.wide] at h, CallsIn_ro ro ((hp.run hm g.imm w vals k1.immlt (cloL_den args hc d1)).mono ?_)⟩
 rintro _ w' ⟨u, s, imm', rfl, rfl, c, q1, q2, q3⟩
 obtain ⟨e1, e2⟩ := ext_grow k1 q3 q1 (ids [])
 exact k5 u w' _ e1 e2 (clo_den s c q2) (by simp) fun b hb => .inl hb
theorem PF.orun_lend {o : Oper} {σ : List SV} {h : List LB} {nid : Nat} {v : SV} {n : Nat} {K : List Nat → Prop} (hm : P.follows .mixedOrders = true) (hF : calleeK σ (cOp P o.op) fun f args => lendLK n h args fun args' nb => PF P f args' (· = v) ∧ K nb) (hv : scal v) :
  ∃ nb, K nb ∧ ORun P o σ h nid v [] nb := by
 obtain ⟨f, args, hl, h2, h3⟩ := callee_run hF
 obtain ⟨args', nb, ⟨hp, hKn⟩, hc, hs⟩ := (lend_spec (P := P) n).2 hl
 refine ⟨nb, hKn, ?_⟩
 intro g a w ro next Q k1 _ k2 k3 k4 k5
 obtain ⟨vals, d1, d2⟩ := h3 g a w hp.ok k3
 rw [Oper.semAt_eq ro a.eval o h2, d2, Oper.uponIn_enter]
 refine ⟨fun h => by simp [Fn, Fence.wide] at h, CallsIn_ro ro ((hp.run hm (immOf g nb) w vals (fun r hr => immOf_lt k1 hr) (hs g w vals k4 d1)).mono ?_)⟩
 rintro _ w' ⟨u, s, imm', rfl, rfl, c, q1, q2, q3⟩
 obtain ⟨e1, e2⟩ := ext_same k1 q3 (ids [])
 exact k5 u w' _ e1 e2 (scal_den s hv q2) (by simp) fun b hb => .inl hb
theorem TS.ostep {r : Fr} {t : TOper} {ts : List TOper} {S : St} {K : St → Prop} (hg : guardK S.σ t.guard (· = true)) (hb : t.op ≠ .bad)
  (hh : P.follows .mixedOrders = true → ∀ o : Oper, o.dst = t.dst → cOp P o.op = t.op → ∃ sv nb, ORun P o S.σ S.h S.h.length sv [] nb ∧ setD S.σ t.dst sv fun σ' => TS P r ts ⟨σ', S.h, S.mks⟩ K) : TS P r (t :: ts) S K := by
 intro hm A i g a w ro Q hd hs hr hq hp
 obtain ⟨o, hget, e, hdrop⟩ := drop_cons hd
 subst e
 have hget : A[i]? = some o := by simpa using hget
 rw [List.length_cons]
 obtain ⟨hdst, hc⟩ := cOper_cases P A false o
 rcases hc with ⟨hop, hgd⟩ | ⟨hbad, hgd⟩
 ·have hw := guard_wanted hg hgd fun _ _ _ _ _ => getS_den hs.tm _
  obtain ⟨sv, nb, h1, h2⟩ := hh hm o hdst.symm hop.symm
  refine wpOps_cons hget ?_
  rw [if_pos hw]
  refine h1 g a w ro _ Q hs.ok ⟨_, hs.lt⟩ (by simp) (fun x _ => opd_den x fun t _ => getS_den hs.tm t) (fun b _ => hs.hp b) fun v w' g' k1 k2 k3 _ k5 => ?_
  rw [hdst] at h2
  obtain ⟨σ', q1, q2⟩ := put_tm h2 (k2.denL hs.ok hs.tm) k3
  refine q1 hm A (i + 1) g' (a.put o.dst v) w' ro Q hdrop ⟨k1, fun b hb => (k5 b hb).elim (hs.lt b) fun q => by simp [ids] at q, q2, fun b => k2.lb hs.ok (by simp [ids]) (by simp [ids]) (hs.hp b), ?_⟩ (k2.ro hr) (fun S'' g'' a'' w'' r1 r2 r3 => hq S'' g'' a'' w'' r1 r2 ((k2.exw _).trans r3)) (hp.trans (k2.exw _))
  have : (a.put o.dst v).defers = a.defers := by cases o.dst <;> rfl
  rw [this]
  exact k2.df hs.df
 ·exact absurd hbad hb
theorem TSq.pure {r : Fr} {t : TOper} {ts : List TOper} {S : St} {K : St → Prop} {v : SV} (hg : guardK S.σ t.guard (· = true)) (hF : calleeK S.σ t.op fun f args => PF P f args (· = v) ∧ cloL args)
  (hK : Ev (setD S.σ t.dst v fun σ' => evR P r ts ⟨σ', S.h, S.mks⟩ K)) : TSq P r (t :: ts) S K := by
 rw [TSq_iff]
 refine TS.ostep hg (calleeK_ne hF) fun hm o _ ho2 => ⟨v, [], PF.orun hm (by rw [ho2]; exact hF), ?_⟩
 have := hK.at
 rw [setD_iff] at this ⊢
 exact evR_sound this
theorem TSq.lend {r : Fr} {t : TOper} {ts : List TOper} {S : St} {K : St → Prop} {v : SV} (hg : guardK S.σ t.guard (· = true)) (hF : calleeK S.σ t.op fun f args => lendLK 60 S.h args fun args' _ => PF P f args' (· = v) ∧ Ev (setD S.σ t.dst v fun σ' => evR P r ts ⟨σ', S.h, S.mks⟩ K)) (hv : scal v) : TSq P r (t :: ts) S K := by
 rw [TSq_iff]
 refine TS.ostep hg (calleeK_ne hF) fun hm o _ ho2 => ?_
 rw [← ho2] at hF
 obtain ⟨nb, hK, h2⟩ := PF.orun_lend (nid := S.h.length) hm hF hv
 refine ⟨v, nb, h2, ?_⟩
 have := hK.at
 rw [setD_iff] at this ⊢
 exact evR_sound this
theorem TDq.pure {r : Fr} {t : TOper} {ts : List TOper} {S : St} {log : List Lg} {it : List Nat} {K : St → Prop} {v : SV} (hg : guardK S.σ t.guard (· = true)) (hF : calleeK S.σ t.op fun f args => PF P f args (· = v) ∧ cloL args)
  (hK : Ev (setD S.σ t.dst v fun σ' => evD P r ts ⟨σ', S.h, S.mks⟩ (lgOf t [] [] :: log) it K)) : TDq P r (t :: ts) S log it K := by
 rw [TDq_iff]
 refine TD.step hg (calleeK_ne hF) fun hm o ho1 ho2 => ⟨v, [], [], PF.orun hm (by rw [ho2]; exact hF), by simp, ?_⟩
 have := hK.at
 rw [setD_iff] at this ⊢
 exact evD_sound this
theorem TDq.lend {r : Fr} {t : TOper} {ts : List TOper} {S : St} {log : List Lg} {it : List Nat} {K : St → Prop} {v : SV} (hg : guardK S.σ t.guard (· = true))
  (hF : calleeK S.σ t.op fun f args => lendLK 60 S.h args fun args' nb => PF P f args' (· = v) ∧ Ev (setD S.σ t.dst v fun σ' => evD P r ts ⟨σ', S.h, S.mks⟩ (lgOf t [] nb :: log) it K)) (hv : scal v) : TDq P r (t :: ts) S log it K := by
 rw [TDq_iff]
 refine TD.step hg (calleeK_ne hF) fun hm o ho1 ho2 => ?_
 rw [← ho2] at hF
 obtain ⟨nb, h1, h2⟩ := PF.orun_lend (nid := S.h.length) hm hF hv
 refine ⟨v, [], nb, h2, by simp, ?_⟩
 have := h1.at
 rw [setD_iff] at this ⊢
 exact evD_sound this
end
end Go.TV
/- The value calculus, part 2E: iterating over a map; states that tell less; calls of yield. -/
namespace Go.TV
open Go.RowKit
section
variable {P : Program} {r : Fr}
theorem denM_split {w : World} {imm D : Nat → Prop} {ι : Env} {ents : Array MapEntry} {i : Nat} {b : List Nat} : ∀ {a : List Nat} {es : List (SV × SV)}, denM w imm es D ι ents (a ++ i :: b) →
  ∃ pre k v post e, es = pre ++ (k, v) :: post ∧ ents[i]? = some e ∧ den w imm k D ι e.key ∧ den w imm v D ι e.val ∧ denM w imm (pre ++ post) D ι ents (a ++ b)
 | [], [], h => by simp [denM] at h
 | [], (k, v) :: es, h => by
  simp only [List.nil_append, denM] at h
  obtain ⟨i', rest, e, h1, h2, h3, h4, h5⟩ := h
  cases h1
  exact ⟨[], k, v, es, e, rfl, h2, h3, h4, h5⟩
 | j :: a, [], h => by simp [denM] at h
 | j :: a, (k, v) :: es, h => by
  simp only [List.cons_append, denM] at h
  obtain ⟨i', rest, e, h1, h2, h3, h4, h5⟩ := h
  cases h1
  obtain ⟨pre, k', v', post, e', rfl, q1, q2, q3, q4⟩ := denM_split (a := a) h5
  exact ⟨(k, v) :: pre, k', v', post, e', rfl, q1, q2, q3, by simp only [List.cons_append, denM]; exact ⟨_, _, e, rfl, h2, h3, h4, q4⟩⟩
def isNextT : TOp → Bool
 | .next _ => true
 | _ => false
theorem cBin_next {op : BinOp} {t : TypeId} {x y : Operand} : isNextT (cBin P op t x y) = false := by
 unfold cBin
 (repeat' split) <;> rfl
theorem cCall_next {c : Call} : isNextT (cCall P c) = false := by
 unfold cCall
 (repeat' split) <;> rfl
theorem cOp_next {op : Op} {x : TOpd} (h : cOp P op = .next x) : ∃ y, op = .next y false ∧ cOpd y = x := by
 by_cases hn : ∃ y, op = .next y false
 ·obtain ⟨y, rfl⟩ := hn
  exact ⟨y, rfl, by simpa [cOp] using h⟩
 ·exfalso
  have hb : isNextT (cOp P op) = false := by
   cases op
   case next y s =>
    cases s with
    | false => exact absurd ⟨y, rfl⟩ hn
    | true => rfl
   case call c => exact cCall_next
   case binOp => exact cBin_next
   all_goals
    unfold cOp
    (repeat' split) <;> first | rfl | (simp_all; done)
  rw [h] at hb
  cases hb
theorem TSq.next {t : TOper} {ts : List TOper} {S : St} {K : St → Prop} {x : TOpd} {b : Nat} {src : SV} {left : List (SV × SV)} {cur : Option (SV × SV)} (hg : guardK S.σ t.guard (· = true))
  (ht : t.op = .next x) (hx : gv S.σ x = .ptr b 0) (hb : hget S.h b = .iter src left cur)
  (h0 : left = [] → Ev (setD S.σ t.dst (.tup [.bool false]) fun σ' => evR P r ts ⟨σ', S.h, S.mks⟩ K))
  (h1 : ∀ pre k v post, left = pre ++ (k, v) :: post → Ev (setD S.σ t.dst (.tup [.bool true, k, v]) fun σ' => updK S.h [(b, .iter src (pre ++ post) (some (k, v)))] fun h' => evR P r ts ⟨σ', h', S.mks⟩ K)) :
  TSq P r (t :: ts) S K := by
 rw [TSq_iff]
 intro hm A i g a w ro Q hd hs hr hq hp
 obtain ⟨o, hget', e, hdrop⟩ := drop_cons hd
 subst e
 have hget' : A[i]? = some o := by simpa using hget'
 rw [List.length_cons]
 obtain ⟨hdst, hc⟩ := cOper_cases P A false o
 rcases hc with ⟨hop, hgd⟩ | ⟨hbad, hgd⟩
 case inr => rw [hbad] at ht; cases ht
 have hw := guard_wanted hg hgd fun _ _ _ _ _ => getS_den hs.tm _
 refine wpOps_cons hget' ?_
 rw [if_pos hw]
 rw [hop] at ht
 obtain ⟨y, ho, hy⟩ := cOp_next ht
 have hnd : ∀ c, o.op ≠ .defer c := by rw [ho]; simp
 rw [Oper.semAt_eq ro a.eval o hnd]
 have hyd : g.den w (gv S.σ (cOpd y)) (a.eval y) := opd_den y fun t _ => getS_den hs.tm t
 rw [hy, hx] at hyd
 simp only [Gh.den, den] at hyd
 have hbd := hs.hp b
 rw [hb] at hbd
 obtain ⟨l, m, seen, ents, idx, i1, i2, i3, i4, i5, i6, i7, i8, i9⟩ := hbd
 have hyv := hyd.2.2 l i1
 have hrun := run_next_at (P := P) w o.type l.blk m ents.size ents.size seen ents ents.size i2 i4 (fun x hx => by
  obtain ⟨j, hj, e⟩ := List.getElem_of_mem hx
  have hj' : j < ents.size := by simpa using hj
  have := i5 j x (by rw [← e]; simp [hj'])
  omega) (Nat.le_refl _)
 have hex : (execOp a.eval o).run P w = (Sem.bind (Instr.next (.pointer (some ⟨l.blk, 0, none⟩)) false o.type) fun v => Sem.pure (Next.value v)).run P w := by
  obtain ⟨dst, op, ty, pos, aft, gd⟩ := o
  simp only at ho
  subst ho
  simp only [execOp, hyv]
  rfl
 rcases hrun with ⟨hz, hrun⟩ | ⟨en, hen, w1, hw1, hrun⟩
 ·have hleft : left = [] := by
   have : idx = [] := by
    rw [List.eq_nil_iff_forall_not_mem]
    intro j hj
    obtain ⟨q1, q2⟩ := (i7 j).1 hj
    have he : ents[j] ∈ (leftOf ents seen).toList := by
     have hb := i5 j ents[j] (by simp [q1])
     simp only [leftOf, Array.toList_filter, List.mem_filter]
     refine ⟨by simp, ?_⟩
     rw [hb]
     simpa using q2
    have hz' : (leftOf ents seen).toList = [] := List.eq_nil_of_length_eq_zero (by rw [Array.length_toList]; exact hz)
    rw [hz'] at he
    cases he
   subst this
   cases left with
   | nil => rfl
   | cons e es => obtain ⟨k, v⟩ := e; simp [Gh.denM, denM] at i8
  have := (h0 hleft).at
  rw [hex, show ∀ (s : Sem Value) (k : Value → Sem Next), (s.bind k).run P w = (s.run P w).andThen fun v w => (k v).run P w from fun s k => Sem.run_bind P w s k, hrun]
  simp only [Result.andThen, Sem.run_pure, Oper.uponIn_value]
  rw [hdst] at this
  obtain ⟨σ', q1, q2⟩ := put_tm this hs.tm (show g.den w (.tup [.bool false]) (.tuple #[.bool false]) by
   simp only [Gh.den, den]; exact ⟨[.bool false], rfl, by simp only [denL]; exact ⟨_, _, rfl, by simp only [den], rfl⟩⟩)
  refine evR_sound q1 hm A (i + 1) g (a.put o.dst _) w ro Q hdrop ⟨hs.ok, hs.lt, q2, hs.hp, ?_⟩ hr hq hp
  have : (a.put o.dst (.tuple #[.bool false])).defers = a.defers := by cases o.dst <;> rfl
  rw [this]
  exact hs.df
 ·have hj : ∃ j, ents[j]? = some en ∧ en.born = j ∧ j ∉ seen.toList := by
   simp only [leftOf, Array.toList_filter, List.mem_filter] at hen
   obtain ⟨q1, q2⟩ := hen
   obtain ⟨j, hj, e⟩ := List.getElem_of_mem q1
   have hj' : j < ents.size := by simpa using hj
   have h1 : ents[j]? = some en := by rw [← e]; simp [hj']
   refine ⟨j, h1, i5 j en h1, ?_⟩
   rw [i5 j en h1] at q2
   simpa using q2
  obtain ⟨j, j1, j2, j3⟩ := hj
  have hjs : j < ents.size := (Array.getElem?_eq_some_iff.1 j1).1
  obtain ⟨ia, ib, hidx⟩ := List.append_of_mem ((i7 j).2 ⟨hjs, j3⟩)
  subst hidx
  obtain ⟨pre, k, v, post, en', rfl, q1, q2, q3, q4⟩ := denM_split i8
  rw [j1] at q1; cases q1
  have := (h1 pre k v post rfl).at
  rw [hex, show ∀ (s : Sem Value) (k : Value → Sem Next), (s.bind k).run P w = (s.run P w).andThen fun v w => (k v).run P w from fun s k => Sem.run_bind P w s k, hrun]
  simp only [Result.andThen, Sem.run_pure, Oper.uponIn_value]
  rw [hdst] at this
  have hu : w1.heap = w.heap ∧ w1.os = w.os ∧ w1.tape = w.tape ∧ w1.output = w.output := by
   rcases hw1 with rfl | rfl <;> exact ⟨rfl, rfl, rfl, rfl⟩
  obtain ⟨u1, u2, u3, u4⟩ := hu
  have hlt := (hs.ok.own b l i1).2.1
  obtain ⟨x1, x2⟩ := ext_set (U := fun c => c = b) hs.ok i1 rfl (w' := ChangeMaps.setBlock w1 l.blk (.mapIter (some m) ents.size (seen.push en.born) ents.size)) u2 u3 u4 (by simp [ChangeMaps.setBlock, u1]) fun r hr => by
   simp only [ChangeMaps.setBlock, u1]
   rw [Array.getElem?_setIfInBounds_ne (Ne.symm hr)]
  have hnew : (ChangeMaps.setBlock w1 l.blk (.mapIter (some m) ents.size (seen.push en.born) ents.size)).heap[l.blk]? = some (.mapIter (some m) ents.size (seen.push en.born) ents.size) := by
   simp [ChangeMaps.setBlock, u1, hlt]
  have hmb : (ChangeMaps.setBlock w1 l.blk (.mapIter (some m) ents.size (seen.push en.born) ents.size)).heap[m]? = some (.map ents ents.size) := by
   have hne : m ≠ l.blk := fun e => by rw [e, i2] at i4; cases i4
   simp only [ChangeMaps.setBlock, u1]
   rw [Array.getElem?_setIfInBounds_ne (Ne.symm hne)]
   exact i4
  obtain ⟨σ', p1, p2⟩ := put_tm (g := g) (w := ChangeMaps.setBlock w1 l.blk (.mapIter (some m) ents.size (seen.push en.born) ents.size)) this (x2.denL hs.ok hs.tm)
   (show g.den _ (.tup [.bool true, k, v]) (.tuple #[.bool true, en.key, en.val]) by
    simp only [Gh.den, den]
    exact ⟨[.bool true, en.key, en.val], rfl, by simp only [denL]; exact ⟨_, _, rfl, by simp only [den], _, _, rfl, x2.den hs.ok q2, _, _, rfl, x2.den hs.ok q3, rfl⟩⟩)
  obtain ⟨h', k1, k2, k3, k4⟩ := updK_spec p1
  refine evR_sound k1 hm A (i + 1) g (a.put o.dst _) _ ro Q hdrop ⟨x1, fun c hc => Nat.lt_of_lt_of_le (hs.lt c hc) k2, p2, fun c => ?_, ?_⟩ (x2.ro hr) (fun S'' g'' a'' w'' r1 r2 r3 => hq S'' g'' a'' w'' r1 r2 ((x2.exw _).trans r3)) (hp.trans (x2.exw _))
  ·rcases k4 c with ⟨p, hp, rfl, e⟩ | ⟨hno, e⟩
   ·simp only [List.mem_singleton] at hp
    subst hp
    simp only at e ⊢
    rw [e]
    refine ⟨l, m, seen.push en.born, ents, ia ++ ib, i1, hnew, ?_, hmb, i5, ?_, fun c => ?_, x2.denM hs.ok q4, fun k' v' e => ?_⟩
    ·exact i3
    ·rw [List.nodup_append] at i6 ⊢
     obtain ⟨n1, n2, n3⟩ := i6
     exact ⟨n1, (List.nodup_cons.1 n2).2, fun c hc d hd => n3 c hc d (List.mem_cons_of_mem _ hd)⟩
    ·have hmid := i7 c
     rw [List.nodup_append] at i6
     obtain ⟨n1, n2, n3⟩ := i6
     have n2 := List.nodup_cons.1 n2
     simp only [List.mem_append, List.mem_cons] at hmid ⊢
     rw [Array.toList_push, List.mem_append, List.mem_singleton, j2]
     constructor
     ·intro hc
      have := hmid.1 (hc.elim .inl fun q => .inr (.inr q))
      refine ⟨this.1, fun q => q.elim this.2 fun q => ?_⟩
      subst q
      rcases hc with hc | hc
      ·exact n3 c hc c (by simp) rfl
      ·exact n2.1 hc
     ·rintro ⟨c1, c2⟩
      rcases hmid.2 ⟨c1, fun q => c2 (.inl q)⟩ with q | q | q
      ·exact .inl q
      ·exact absurd (.inr q) c2
      ·exact .inr q
    ·cases e
     exact ⟨en.born, en, by simp, by rw [j2]; exact j1, x2.den hs.ok q2, x2.den hs.ok q3⟩
   ·simp only at e ⊢
    rw [e]
    refine hs.rest (upd := [(b, .iter src (pre ++ post) (some (k, v)))]) (x2.more fun c hc => by subst hc; simp [ids]) (fun p hp => ?_) c hno
    simp only [List.mem_singleton] at hp
    subst hp
    exact .inr (by simp [Safe, hb])
  ·have : (a.put o.dst (.tuple #[.bool true, en.key, en.val])).defers = a.defers := by cases o.dst <;> rfl
   rw [this]
   exact x2.df hs.df
end
end Go.TV
/- The value calculus, part 2F: a state that tells less, worked out: slots and blocks forgotten, blocks at other numbers. -/
namespace Go.TV
open Go.RowKit
def plOf : List (Nat × Nat) → Nat → Nat
 | [], n => n
 | (a, b) :: r, n => match Nat.beq a n with
  | true => b
  | false => plOf r n
def ltK (a b : Nat) (k : Prop) : Prop :=
 match Nat.ble (a + 1) b with
 | true => k
 | false => False
theorem ltK_iff {a b : Nat} {k : Prop} : ltK a b k ↔ (a < b ∧ k) := by
 unfold ltK
 cases h : Nat.ble (a + 1) b with
 | true => exact ⟨fun hk => ⟨Nat.le_of_ble_eq_true h, hk⟩, fun hk => hk.2⟩
 | false => exact ⟨fun hk => hk.elim, fun ⟨e, _⟩ => by rw [Nat.ble_eq_true_of_le e] at h; cases h⟩
mutual
def fit (pl : List (Nat × Nat)) (L : Nat) : SV → SV → Prop → Prop
 | .junk, _, K => K
 | .one, s, K => match s with
  | .junk => False
  | .agg _ => False
  | .tup _ => False
  | _ => K
 | .int k n, s, K => match s with
  | .int k' m => eqK (ikn k') (ikn k) (Vc (m = n) ∧ Ev K)
  | _ => False
 | .bool b, s, K => match s with
  | .bool b' => Vc (b' = b) ∧ Ev K
  | _ => False
 | .str b, s, K => match s with
  | .str b' => Vc (b' = b) ∧ Ev K
  | _ => False
 | .nilp, s, K => match s with
  | .nilp => K
  | _ => False
 | .nils, s, K => match s with
  | .nils => K
  | _ => False
 | .nilm, s, K => match s with
  | .nilm => K
  | _ => False
 | .nilfn, s, K => match s with
  | .nilfn => K
  | _ => False
 | .niface, s, K => match s with
  | .niface => K
  | _ => False
 | .ptr n o, s, K => match s with
  | .ptr m o' => eqK (plOf pl n) m (ltK n L (Vc (o' = o) ∧ Ev K))
  | _ => False
 | .eptr n sz i o, s, K => match s with
  | .eptr m sz' i' o' => eqK (plOf pl n) m (ltK n L (Vc (sz' = sz ∧ i' = i ∧ o' = o) ∧ Ev K))
  | _ => False
 | .csl n sz o k, s, K => match s with
  | .csl m sz' o' k' => eqK (plOf pl n) m (ltK n L (Vc (sz' = sz ∧ o' = o ∧ k' = k) ∧ Ev K))
  | _ => False
 | .osl n sz o k, s, K => match s with
  | .osl m sz' o' k' => eqK (plOf pl n) m (ltK n L (Vc (sz' = sz ∧ o' = o ∧ k' = k) ∧ Ev K))
  | _ => False
 | .own n, s, K => match s with
  | .own m => eqK (plOf pl n) m (ltK n L K)
  | _ => False
 | .mp n, s, K => match s with
  | .mp m => eqK (plOf pl n) m (ltK n L K)
  | _ => False
 | .yield n, s, K => match s with
  | .yield m => eqK (plOf pl n) m (ltK n L K)
  | _ => False
 | .fn f fs cs, s, K => match s with
  | .fn f' fs' cs' => eqK f' f (fitL pl L fs fs' (fitL pl L cs cs' K))
  | _ => False
 | .agg cs, s, K => match s with
  | .agg cs' => fitL pl L cs cs' K
  | _ => False
 | .tup cs, s, K => match s with
  | .tup cs' => fitL pl L cs cs' K
  | _ => False
 | .iface t v, s, K => match s with
  | .iface t' v' => eqK t' t (fit pl L v v' K)
  | _ => False
 | .sl sz es, s, K => match s with
  | .sl sz' es' => eqK sz' sz (Vc (es' = es) ∧ Ev K)
  | .nils => Vc (es = []) ∧ Ev K
  | _ => False
 | .iptr e o, s, K => match s with
  | .iptr e' o' => Vc (e' = e ∧ o' = o) ∧ Ev K
  | _ => False
 | .imap es, s, K => match s with
  | .imap es' => Vc (es' = es) ∧ Ev K
  | _ => False
def fitL (pl : List (Nat × Nat)) (L : Nat) : List SV → List SV → Prop → Prop
 | [], ss, K => match ss with
  | [] => K
  | _ :: _ => False
 | t :: ts, ss, K => match ss with
  | [] => False
  | s :: ss => fit pl L t s (fitL pl L ts ss K)
end
section
variable {w : World} {imm D D' : Nat → Prop} {ι ι' : Env} {pl : List (Nat × Nat)} {L : Nat}
mutual
theorem fit_spec (hD : ∀ n, n < L → D (plOf pl n) → D' n) (hι : ∀ n l, n < L → ι' n = some l → ι (plOf pl n) = some l) :
  ∀ (t s : SV) {K : Prop} {v : Value}, fit pl L t s K → den w imm s D ι v → K ∧ den w imm t D' ι' v
 | .junk, s, K, v, h, _ => by simp only [fit] at h; exact ⟨h, by simp only [den]⟩
 | .one, s, K, v, h, hd => by
  have h1 := den_one hd
  cases s <;> simp only [fit] at h <;> first | exact h.elim | exact ⟨h, by simp only [den]; exact h1⟩
 | .int k n, s, K, v, h, hd => by
  cases s <;> simp only [fit, eqK_iff, Vc_iff, Ev_iff] at h <;> try (exact h.elim)
  obtain ⟨h1, rfl, h2⟩ := h
  rw [← ikn_inj h1]
  simp only [den] at hd ⊢
  exact ⟨h2, hd⟩
 | .bool b, s, K, v, h, hd => by
  cases s <;> simp only [fit, Vc_iff, Ev_iff] at h <;> try (exact h.elim)
  obtain ⟨rfl, h2⟩ := h
  simp only [den] at hd ⊢
  exact ⟨h2, hd⟩
 | .str b, s, K, v, h, hd => by
  cases s <;> simp only [fit, Vc_iff, Ev_iff] at h <;> try (exact h.elim)
  obtain ⟨rfl, h2⟩ := h
  simp only [den] at hd ⊢
  exact ⟨h2, hd⟩
 | .nilp, s, K, v, h, hd => by
  cases s <;> simp only [fit] at h <;> try (exact h.elim)
  simp only [den] at hd ⊢; exact ⟨h, hd⟩
 | .nils, s, K, v, h, hd => by
  cases s <;> simp only [fit] at h <;> try (exact h.elim)
  simp only [den] at hd ⊢; exact ⟨h, hd⟩
 | .nilm, s, K, v, h, hd => by
  cases s <;> simp only [fit] at h <;> try (exact h.elim)
  simp only [den] at hd ⊢; exact ⟨h, hd⟩
 | .nilfn, s, K, v, h, hd => by
  cases s <;> simp only [fit] at h <;> try (exact h.elim)
  simp only [den] at hd ⊢; exact ⟨h, hd⟩
 | .niface, s, K, v, h, hd => by
  cases s <;> simp only [fit] at h <;> try (exact h.elim)
  simp only [den] at hd ⊢; exact ⟨h, hd⟩
 | .ptr n o, s, K, v, h, hd => by
  cases s <;> simp only [fit, eqK_iff, ltK_iff, Vc_iff, Ev_iff] at h <;> try (exact h.elim)
  obtain ⟨h1, h2, rfl, h3⟩ := h
  simp only [den] at hd ⊢
  exact ⟨h3, hD n h2 (by rw [h1]; exact hd.1), hd.2.1, fun l hl => hd.2.2 l (by rw [← h1]; exact hι n l h2 hl)⟩
 | .eptr n sz i o, s, K, v, h, hd => by
  cases s <;> simp only [fit, eqK_iff, ltK_iff, Vc_iff, Ev_iff] at h <;> try (exact h.elim)
  obtain ⟨h1, h2, ⟨rfl, rfl, rfl⟩, h3⟩ := h
  simp only [den] at hd ⊢
  exact ⟨h3, hD n h2 (by rw [h1]; exact hd.1), hd.2.1, fun l hl => hd.2.2 l (by rw [← h1]; exact hι n l h2 hl)⟩
 | .csl n sz o k, s, K, v, h, hd => by
  cases s <;> simp only [fit, eqK_iff, ltK_iff, Vc_iff, Ev_iff] at h <;> try (exact h.elim)
  obtain ⟨h1, h2, ⟨rfl, rfl, rfl⟩, h3⟩ := h
  simp only [den] at hd ⊢
  exact ⟨h3, hD n h2 (by rw [h1]; exact hd.1), hd.2.1, fun l hl => hd.2.2 l (by rw [← h1]; exact hι n l h2 hl)⟩
 | .osl n sz o k, s, K, v, h, hd => by
  cases s <;> simp only [fit, eqK_iff, ltK_iff, Vc_iff, Ev_iff] at h <;> try (exact h.elim)
  obtain ⟨h1, h2, ⟨rfl, rfl, rfl⟩, h3⟩ := h
  simp only [den] at hd ⊢
  exact ⟨h3, hD n h2 (by rw [h1]; exact hd.1), hd.2.1, fun l hl => hd.2.2 l (by rw [← h1]; exact hι n l h2 hl)⟩
 | .own n, s, K, v, h, hd => by
  cases s <;> simp only [fit, eqK_iff, ltK_iff] at h <;> try (exact h.elim)
  obtain ⟨h1, h2, h3⟩ := h
  simp only [den] at hd ⊢
  exact ⟨h3, hD n h2 (by rw [h1]; exact hd.1), hd.2.1, fun l hl => hd.2.2 l (by rw [← h1]; exact hι n l h2 hl)⟩
 | .mp n, s, K, v, h, hd => by
  cases s <;> simp only [fit, eqK_iff, ltK_iff] at h <;> try (exact h.elim)
  obtain ⟨h1, h2, h3⟩ := h
  simp only [den] at hd ⊢
  exact ⟨h3, hD n h2 (by rw [h1]; exact hd.1), hd.2.1, fun l hl => hd.2.2 l (by rw [← h1]; exact hι n l h2 hl)⟩
 | .yield n, s, K, v, h, hd => by
  cases s <;> simp only [fit, eqK_iff, ltK_iff] at h <;> try (exact h.elim)
  obtain ⟨h1, h2, h3⟩ := h
  simp only [den] at hd ⊢
  exact ⟨h3, hD n h2 (by rw [h1]; exact hd.1), hd.2.1, fun l hl => hd.2.2 l (by rw [← h1]; exact hι n l h2 hl)⟩
 | .fn f fs cs, s, K, v, h, hd => by
  cases s <;> simp only [fit, eqK_iff] at h <;> try (exact h.elim)
  obtain ⟨rfl, h2⟩ := h
  simp only [den] at hd ⊢
  obtain ⟨vf, vc, e, d1, d2⟩ := hd
  obtain ⟨h3, h4⟩ := fitL_spec hD hι fs _ h2 d1
  obtain ⟨h5, h6⟩ := fitL_spec hD hι cs _ h3 d2
  exact ⟨h5, vf, vc, e, h4, h6⟩
 | .agg cs, s, K, v, h, hd => by
  cases s <;> simp only [fit] at h <;> try (exact h.elim)
  simp only [den] at hd ⊢
  obtain ⟨vs, e, d1⟩ := hd
  obtain ⟨h3, h4⟩ := fitL_spec hD hι cs _ h d1
  exact ⟨h3, vs, e, h4⟩
 | .tup cs, s, K, v, h, hd => by
  cases s <;> simp only [fit] at h <;> try (exact h.elim)
  simp only [den] at hd ⊢
  obtain ⟨vs, e, d1⟩ := hd
  obtain ⟨h3, h4⟩ := fitL_spec hD hι cs _ h d1
  exact ⟨h3, vs, e, h4⟩
 | .iface t u, s, K, v, h, hd => by
  cases s <;> simp only [fit, eqK_iff] at h <;> try (exact h.elim)
  obtain ⟨rfl, h⟩ := h
  simp only [den] at hd ⊢
  obtain ⟨u', e, d1⟩ := hd
  obtain ⟨h3, h4⟩ := fit_spec hD hι u _ h d1
  exact ⟨h3, u', e, h4⟩
 | .sl sz es, s, K, v, h, hd => by
  cases s <;> simp only [fit, eqK_iff, Vc_iff, Ev_iff] at h <;> try (exact h.elim)
  ·obtain ⟨rfl, h2⟩ := h
   simp only [den] at hd ⊢
   exact ⟨h2, none, 0, [], by simpa using hd, by simp, by simp only [denL], by simp⟩
  ·obtain ⟨rfl, rfl, h2⟩ := h
   simp only [den] at hd ⊢
   exact ⟨h2, hd⟩
 | .iptr e o, s, K, v, h, hd => by
  cases s <;> simp only [fit, Vc_iff, Ev_iff] at h <;> try (exact h.elim)
  obtain ⟨⟨rfl, rfl⟩, h2⟩ := h
  simp only [den] at hd ⊢
  exact ⟨h2, hd⟩
 | .imap es, s, K, v, h, hd => by
  cases s <;> simp only [fit, Vc_iff, Ev_iff] at h <;> try (exact h.elim)
  obtain ⟨rfl, h2⟩ := h
  simp only [den] at hd ⊢
  exact ⟨h2, hd⟩
theorem fitL_spec (hD : ∀ n, n < L → D (plOf pl n) → D' n) (hι : ∀ n l, n < L → ι' n = some l → ι (plOf pl n) = some l) :
  ∀ (ts ss : List SV) {K : Prop} {vs : List Value}, fitL pl L ts ss K → denL w imm ss D ι vs → K ∧ denL w imm ts D' ι' vs
 | [], ss, K, vs, h, hd => by
  cases ss <;> simp only [fitL] at h <;> try (exact h.elim)
  simp only [denL] at hd ⊢; exact ⟨h, hd⟩
 | t :: ts, ss, K, vs, h, hd => by
  cases ss <;> simp only [fitL] at h <;> try (exact h.elim)
  simp only [denL] at hd ⊢
  obtain ⟨u, us, e, d1, d2⟩ := hd
  obtain ⟨h1, h2⟩ := fit_spec hD hι t _ h d1
  obtain ⟨h3, h4⟩ := fitL_spec hD hι ts _ h1 d2
  exact ⟨h3, u, us, e, h2, h4⟩
end
end
def LB.live : LB → Bool
 | .dead => false
 | _ => true
def liveK (b : LB) (k : Prop) : Prop :=
 match b with
 | .dead => False
 | _ => k
theorem liveK_iff {b : LB} {k : Prop} : liveK b k ↔ (b.live = true ∧ k) := by cases b <;> simp [liveK, LB.live]
def pinK (pl : List (Nat × Nat)) (L : Nat) : Nat → Prop → Prop
 | 0, k => k
 | m + 1, k => eqK (plOf pl (m + 1)) (m + 1) (ltK (m + 1) L (pinK pl L m k))
def fitB (pl : List (Nat × Nat)) (L : Nat) (TH : List LB) (n : Nat) (t s : LB) (K : Prop) : Prop :=
 match t with
 | .dead => K
 | .cells cs => match s with
  | .cells cs' => fitL pl L cs cs' K
  | _ => False
 | .arr e sz es => match s with
  | .arr e' sz' es' => eqK e' e (eqK sz' sz (Vc (es' = es) ∧ Vc (cloL es) ∧ Ev K))
  | _ => False
 | .map es => match s with
  | .map es' => Vc (es' = es) ∧ Vc (cloM es) ∧ Ev K
  | _ => False
 | .iter src left cur => match s with
  | .iter src' left' _ => match cur with
   | some _ => False
   | none => match src, src' with
    | .mp n, .mp m => eqK (plOf pl n) m (ltK n L (liveK (hget TH n) (Vc (left' = left) ∧ Vc (cloM left) ∧ Ev K)))
    | .imap es, .imap es' => Vc (es' = es) ∧ Vc (left' = left) ∧ Vc (cloM left) ∧ Ev K
    | _, _ => False
  | _ => False
 | .loop st pend σ ps as bd => match s with
  | .loop st' pend' σ' ps' as' bd' => Vc (st' = st ∧ pend' = pend) ∧ Vc (ps' = ps ∧ as' = as ∧ bd' = bd) ∧ Ev (fitL pl L σ σ' K)
  | _ => False
 | .dcol => match s with
  | .dcol => K
  | _ => False
 | .tok Φ => match s with
  | .tok Φ' => Vc (Φ' = Φ) ∧ (eqK n 0 (Ev K))
  | _ => False
 | .tokp m ls Φ => match s with
  | .tokp m' ls' Φ' => Vc (m' = m ∧ ls' = ls ∧ Φ' = Φ) ∧ (eqK n 0 (pinK pl L m (Ev K)))
  | _ => False
def fitH (pl : List (Nat × Nat)) (L : Nat) (TH SH : List LB) : Nat → List LB → Prop → Prop
 | _, [], K => K
 | n, t :: ts, K => fitB pl L TH n t (hget SH (plOf pl n)) (fitH pl L TH SH (n + 1) ts K)
def srcs (pl : List (Nat × Nat)) : Nat → List LB → List Nat
 | _, [] => []
 | n, t :: ts => match t with
  | .dead => srcs pl (n + 1) ts
  | _ => plOf pl n :: srcs pl (n + 1) ts
def nodK : List Nat → Prop → Prop
 | [], k => k
 | x :: xs, k => outK x xs (nodK xs k)
def basesK (B : Nat) : List (Nat × Nat) → Prop → Prop
 | [], k => k
 | (a, _) :: r, k => ltK B (a + 1) (basesK B r k)
def distK (pl : List (Nat × Nat)) (TH : List LB) (k : Prop) : Prop :=
 match pl with
 | [] => k
 | _ => nodK (srcs pl 0 TH) k
def fitS (B : Nat) (pl : List (Nat × Nat)) (S T : St) : Prop :=
 lenK T.h fun L => ltK B (L + 1) (basesK B pl (distK pl T.h (fitL pl L T.σ S.σ (fitH pl L T.h S.h 0 T.h True))))
section
variable {P : Program}
theorem pinK_spec {pl : List (Nat × Nat)} {L : Nat} : ∀ {m : Nat} {k : Prop}, pinK pl L m k → (∀ i, i < m → plOf pl (i + 1) = i + 1 ∧ i + 1 < L) ∧ k
 | 0, _, h => ⟨fun _ h => by omega, h⟩
 | m + 1, k, h => by
  simp only [pinK, eqK_iff, ltK_iff] at h
  obtain ⟨h1, h2, h3⟩ := h
  obtain ⟨h4, h5⟩ := pinK_spec h3
  refine ⟨fun i hi => ?_, h5⟩
  by_cases e : i = m
  ·subst e; exact ⟨h1, h2⟩
  ·exact h4 i (by omega)
theorem basesK_spec {B : Nat} : ∀ {pl : List (Nat × Nat)} {k : Prop}, basesK B pl k → (∀ n, n < B → plOf pl n = n) ∧ k
 | [], _, h => ⟨fun _ _ => rfl, h⟩
 | (a, b) :: r, k, h => by
  simp only [basesK, ltK_iff] at h
  obtain ⟨h1, h2⟩ := h
  obtain ⟨h3, h4⟩ := basesK_spec h2
  refine ⟨fun n hn => ?_, h4⟩
  simp only [plOf]
  cases he : Nat.beq a n with
  | true => have := Nat.eq_of_beq_eq_true he; omega
  | false => exact h3 n hn
theorem nodK_spec : ∀ {l : List Nat} {k : Prop}, nodK l k → l.Nodup ∧ k
 | [], _, h => ⟨List.nodup_nil, h⟩
 | x :: xs, k, h => by
  simp only [nodK, outK_iff] at h
  obtain ⟨h1, h2⟩ := h
  obtain ⟨h3, h4⟩ := nodK_spec h2
  exact ⟨List.nodup_cons.2 ⟨h1, h3⟩, h4⟩
theorem srcs_mem {pl : List (Nat × Nat)} : ∀ {n : Nat} {ts : List LB} {m : Nat}, (hget ts m).live = true → plOf pl (n + m) ∈ srcs pl n ts
 | n, [], m, h => by simp [hget, LB.live] at h
 | n, t :: ts, 0, h => by
  simp only [hget] at h
  cases t <;> simp [srcs, LB.live] at h ⊢
 | n, t :: ts, m + 1, h => by
  simp only [hget] at h
  have := srcs_mem (pl := pl) (n := n + 1) h
  rw [show n + 1 + m = n + (m + 1) by omega] at this
  cases t <;> simp [srcs, this]
theorem srcs_inj {pl : List (Nat × Nat)} : ∀ {n : Nat} {ts : List LB}, (srcs pl n ts).Nodup → ∀ {a b : Nat}, (hget ts a).live = true → (hget ts b).live = true → plOf pl (n + a) = plOf pl (n + b) → a = b
 | n, [], _, a, b, h, _, _ => by simp [hget, LB.live] at h
 | n, t :: ts, hn, a, b, ha, hb, e => by
  have hn' : (srcs pl (n + 1) ts).Nodup := by cases t <;> simp [srcs] at hn <;> first | exact hn | exact hn.2
  cases a with
  | zero =>
   cases b with
   | zero => rfl
   | succ b =>
    exfalso
    simp only [hget] at ha hb
    have := srcs_mem (pl := pl) (n := n + 1) hb
    rw [show n + 1 + b = n + (b + 1) by omega, ← e] at this
    cases t <;> simp [srcs, LB.live] at hn ha <;> exact hn.1 (by simpa using this)
  | succ a =>
   cases b with
   | zero =>
    exfalso
    simp only [hget] at ha hb
    have := srcs_mem (pl := pl) (n := n + 1) ha
    rw [show n + 1 + a = n + (a + 1) by omega, e] at this
    cases t <;> simp [srcs, LB.live] at hn hb <;> exact hn.1 (by simpa using this)
   | succ b =>
    simp only [hget] at ha hb
    have := srcs_inj hn' ha hb (by rw [show n + 1 + a = n + (a + 1) by omega, show n + 1 + b = n + (b + 1) by omega]; exact e)
    omega
theorem distK_spec {pl : List (Nat × Nat)} {TH : List LB} {k : Prop} (h : distK pl TH k) : (∀ a b, (hget TH a).live = true → (hget TH b).live = true → plOf pl a = plOf pl b → a = b) ∧ k := by
 unfold distK at h
 split at h
 ·exact ⟨fun a b _ _ e => e, h⟩
 ·obtain ⟨h1, h2⟩ := nodK_spec h
  exact ⟨fun a b ha hb e => srcs_inj (n := 0) h1 ha hb (by simpa using e), h2⟩
def Gh.ren (g : Gh) (pl : List (Nat × Nat)) (L : Nat) (TH : List LB) : Gh :=
 { dom := fun n => n < L ∧ g.dom (plOf pl n), ι := fun n => if n < L ∧ (hget TH n).live = true then g.ι (plOf pl n) else none, imm := g.imm, hid := g.hid, flr := g.flr }
theorem ren_ι {g : Gh} {pl : List (Nat × Nat)} {L : Nat} {TH : List LB} {n : Nat} {l : Loc} (h : (g.ren pl L TH).ι n = some l) : g.ι (plOf pl n) = some l ∧ n < L ∧ (hget TH n).live = true := by
 simp only [Gh.ren] at h
 split at h
 ·rename_i hc; exact ⟨h, hc.1, hc.2⟩
 ·cases h
theorem fitB_spec {g : Gh} {w : World} {pl : List (Nat × Nat)} {TH : List LB} {L : Nat} {n m : Nat} {t s : LB} {K : Prop} (ht : hget TH n = t) (hL : L = TH.length) (hnm : plOf pl n = m) (h : fitB pl L TH n t s K) (hs : lbden P w g m s) :
  K ∧ lbden P w (g.ren pl L TH) n t := by
 have hD : ∀ n, n < L → g.dom (plOf pl n) → (g.ren pl L TH).dom n := fun n h1 h2 => ⟨h1, h2⟩
 have hι : ∀ n l, n < L → (g.ren pl L TH).ι n = some l → g.ι (plOf pl n) = some l := fun n l _ h => (ren_ι h).1
 have hn : t.live = true → n < L := fun hl => by
  rw [hL]
  rcases Nat.lt_or_ge n TH.length with q | q
  ·exact q
  ·exfalso
   have hh : ∀ {l : List LB} {k : Nat}, l.length ≤ k → hget l k = .dead := by
    intro l
    induction l with
    | nil => intro k _; rfl
    | cons x l ih => intro k hk; cases k with
     | zero => simp at hk
     | succ k => exact ih (by simpa using hk)
   rw [hh q] at ht
   subst ht
   cases hl
 have hat : ∀ l, t.live = true → g.ι m = some l → (g.ren pl L TH).ι n = some l := fun l hl hi => by
  simp only [Gh.ren]
  rw [if_pos ⟨hn hl, by rw [ht]; exact hl⟩, hnm]
  exact hi
 cases t with
 | dead => exact ⟨h, trivial⟩
 | cells cs =>
  cases s <;> simp only [fitB] at h <;> try (exact h.elim)
  obtain ⟨l, vs, ty, h1, h2, h3⟩ := hs
  obtain ⟨k1, k2⟩ := fitL_spec hD hι cs _ h h3
  exact ⟨k1, l, vs, ty, hat l rfl h1, h2, k2⟩
 | arr e sz es =>
  cases s <;> simp only [fitB, eqK_iff, Vc_iff, Ev_iff] at h <;> try (exact h.elim)
  obtain ⟨rfl, rfl, rfl, hc, hK⟩ := h
  obtain ⟨l, vs, h1, hn, h2, h3, h4⟩ := hs
  exact ⟨hK, l, vs, hat l rfl h1, hn, cloL_den _ hc h2, h3, h4⟩
 | map es =>
  cases s <;> simp only [fitB, Vc_iff, Ev_iff] at h <;> try (exact h.elim)
  obtain ⟨rfl, hc, hK⟩ := h
  obtain ⟨l, ents, idx, h1, h2, h3, h4, h5⟩ := hs
  exact ⟨hK, l, ents, idx, hat l rfl h1, h2, h3, h4, cloM_den hc h5⟩
 | iter src left cur =>
  cases s <;> simp only [fitB] at h <;> try (exact h.elim)
  rename_i src' left' cur'
  cases cur with
  | some c => exact h.elim
  | none =>
   simp only at h
   obtain ⟨l, mm, seen, ents, idx, h1, h2, h3, h4, h5, h6, h7, h8, h9⟩ := hs
   split at h
   ·rename_i a b
    simp only [eqK_iff, ltK_iff, liveK_iff, Vc_iff, Ev_iff] at h
    obtain ⟨e1, e2, e3, rfl, hc, hK⟩ := h
    refine ⟨hK, l, mm, seen, ents, idx, hat l rfl h1, h2, .inl ?_, h4, h5, h6, h7, cloM_den hc h8, fun _ _ e => by cases e⟩
    rcases h3 with ⟨mb, lm, q1, q2, q3⟩ | ⟨⟨_, q⟩, _⟩
    ·cases q1
     refine ⟨a, lm, rfl, ?_, q3⟩
     simp only [Gh.ren]
     rw [if_pos ⟨e2, e3⟩, e1]
     exact q2
    ·cases q
   ·rename_i es es'
    simp only [Vc_iff, Ev_iff] at h
    obtain ⟨rfl, rfl, hc, hK⟩ := h
    refine ⟨hK, l, mm, seen, ents, idx, hat l rfl h1, h2, .inr ?_, h4, h5, h6, h7, cloM_den hc h8, fun _ _ e => by cases e⟩
    rcases h3 with ⟨mb, lm, q1, q2, q3⟩ | ⟨_, q2⟩
    ·cases q1
    ·exact ⟨⟨_, rfl⟩, q2⟩
   ·exact h.elim
 | loop st pend σ ps as bd =>
  cases s <;> simp only [fitB, Vc_iff, Ev_iff] at h <;> try (exact h.elim)
  obtain ⟨⟨rfl, rfl⟩, ⟨rfl, rfl, rfl⟩, hf⟩ := h
  obtain ⟨l, fn, tmps, ac, bc, d, h1, h2, h3, h4, h5⟩ := hs
  obtain ⟨k1, k2⟩ := fitL_spec hD hι σ _ hf h3
  exact ⟨k1, l, fn, tmps, ac, bc, d, hat l rfl h1, h2, k2, h4, h5⟩
 | dcol =>
  cases s <;> simp only [fitB] at h <;> try (exact h.elim)
  obtain ⟨l, h1, h2⟩ := hs
  exact ⟨h, l, hat l rfl h1, h2⟩
 | tok Φ =>
  cases s <;> simp only [fitB, eqK_iff, Vc_iff, Ev_iff] at h <;> try (exact h.elim)
  obtain ⟨rfl, hz, hK⟩ := h
  obtain ⟨h0, l, H, h1, h2, h3⟩ := hs
  exact ⟨hK, hz, l, H, hat l rfl h1, h2, h3⟩
 | tokp m ls Φ =>
  cases s <;> simp only [fitB, eqK_iff, Vc_iff, Ev_iff] at h <;> try (exact h.elim)
  obtain ⟨⟨rfl, rfl, rfl⟩, hz, hp⟩ := h
  obtain ⟨hp, hK⟩ := pinK_spec hp
  obtain ⟨h0, hpin, l, H, h1, h2, h3⟩ := hs
  refine ⟨hK, hz, fun i hi => ?_, l, H, hat l rfl h1, h2, h3⟩
  obtain ⟨e1, e2⟩ := hp i hi
  obtain ⟨p1, p2⟩ := hpin i hi
  exact ⟨hD _ e2 (by rw [e1]; exact p1), fun k hk => p2 k (by have := hι _ k e2 hk; rwa [e1] at this)⟩
theorem fitH_spec {g : Gh} {w : World} {pl : List (Nat × Nat)} {TH SH : List LB} {L : Nat} (hL : L = TH.length) (hs : ∀ b, lbden P w g b (hget SH b)) : ∀ {n : Nat} {ts : List LB} {K : Prop}, (∀ m, hget TH (n + m) = hget ts m) →
  fitH pl L TH SH n ts K → K ∧ ∀ m, lbden P w (g.ren pl L TH) (n + m) (hget ts m)
 | n, [], K, _, h => ⟨h, fun m => trivial⟩
 | n, t :: ts, K, he, h => by
  simp only [fitH] at h
  obtain ⟨h1, h2⟩ := fitB_spec (g := g) (w := w) (n := n) (by simpa [hget] using he 0) hL rfl h (hs _)
  obtain ⟨h3, h4⟩ := fitH_spec (n := n + 1) (ts := ts) hL hs (fun m => by rw [show n + 1 + m = n + (m + 1) by omega, he]; rfl) h1
  refine ⟨h3, fun m => ?_⟩
  cases m with
  | zero => exact h2
  | succ m => have := h4 m; rw [show n + 1 + m = n + (m + 1) by omega] at this; exact this
theorem Wk.fit {B : Nat} (pl : List (Nat × Nat)) {S T : St} (h : fitS B pl S T) : Wk P B S T := by
 intro g a w hs
 have h := lenK_iff _ _ h
 simp only [ltK_iff] at h
 obtain ⟨hB, h⟩ := h
 obtain ⟨hb, h⟩ := basesK_spec h
 obtain ⟨hdi, h⟩ := distK_spec h
 have hD : ∀ n, n < T.h.length → g.dom (plOf pl n) → (g.ren pl T.h.length T.h).dom n := fun n h1 h2 => ⟨h1, h2⟩
 have hι : ∀ n l, n < T.h.length → (g.ren pl T.h.length T.h).ι n = some l → g.ι (plOf pl n) = some l := fun n l _ h => (ren_ι h).1
 obtain ⟨h, htm⟩ := fitL_spec hD hι _ _ h hs.tm
 obtain ⟨_, hhp⟩ := fitH_spec (P := P) (n := 0) rfl hs.hp (fun m => by simp) h
 refine ⟨g.ren pl T.h.length T.h, ⟨⟨fun b l hl => ?_, fun b b' l l' hl hl' e => ?_, hs.ok.immlt, hs.ok.hlt, hs.ok.himm, fun b l hl => hs.ok.hown _ l (ren_ι hl).1, hs.ok.flr⟩, fun b hb => hb.1, htm, fun b => by simpa using hhp b, ?_⟩,
  ⟨rfl, rfl, rfl, Nat.le_refl _, fun b hb' hd => ⟨by omega, by rw [hb b hb']; exact hd⟩, fun b hb' _ => ?_, fun _ h => h, fun h => h, rfl, fun r hr => .inl hr, fun _ _ _ _ => rfl, fun b l hl => .inr ⟨_, l, (ren_ι hl).1, rfl⟩, fun r hr => .inl hr⟩⟩
 ·obtain ⟨q1, q2, q3⟩ := ren_ι hl
  obtain ⟨p1, p2, p3⟩ := hs.ok.own _ l q1
  exact ⟨⟨q2, p1⟩, p2, p3⟩
 ·obtain ⟨q1, q2, q3⟩ := ren_ι hl
  obtain ⟨p1, p2, p3⟩ := ren_ι hl'
  exact hdi b b' q3 p3 (hs.ok.inj _ _ _ _ q1 p1 e)
 ·obtain ⟨rs, e1, e2, e3⟩ := hs.df
  exact ⟨rs, e1, e2, fun r hr => let ⟨k1, k2, k3, k4, k5⟩ := e3 r hr; ⟨k1, k2, fun b l hl => k3 _ l (ren_ι hl).1, k4, k5⟩⟩
 ·simp only [Gh.ren]
  split
  ·rw [hb b hb']; exact .inl rfl
  ·exact .inr rfl
end
end Go.TV
/- The value calculus, part 2G: calls of yield; iterators. -/
namespace Go.TV
open Go.RowKit
structure Apart (l : Nat) (H imm : Nat → Prop) (w : World) : Prop where
 llt : l < w.heap.size
 hlt : ∀ r, H r → r < w.heap.size
 ilt : ∀ r, imm r → r < w.heap.size
 hi : ∀ r, H r → ¬ imm r
 li : ¬ imm l
 lh : ¬ H l
structure RStep (l : Nat) (H imm : Nat → Prop) (w : World) (H' imm' : Nat → Prop) (w' : World) : Prop where
 os : w'.os = w.os
 tape : w'.tape = w.tape
 output : w'.output = w.output
 size : w.heap.size ≤ w'.heap.size
 up : ∀ r, imm r → imm' r
 old : ∀ r, r < w.heap.size → ¬ H r → r ≠ l → w'.heap[r]? = w.heap[r]?
 newH : ∀ r, H' r → H r ∨ w.heap.size ≤ r
 newimm : ∀ r, imm' r → imm r ∨ w.heap.size ≤ r ∨ H r
def YS (P : Program) (Φ : TokP) (y : List SV) (Φ' Ψ : TokP) : Prop :=
 ∀ (l : Nat) (H imm : Nat → Prop) (w : World) (vals : List Value), Apart l H imm w → Φ l H imm w → denL w imm y (fun _ => False) (fun _ => none) vals →
  ∃ fn tmps ac bc, (Instr.yield l vals.toArray).run P w = .ok (.round l fn tmps ac bc) w ∧ RoundIn (Fn none) 0 P l fn tmps ac bc w fun e w' =>
   ∃ (b : Bool) (H' imm' : Nat → Prop), e = .returned (.bool b) ∧ RStep l H imm w H' imm' w' ∧ Apart l H' imm' w' ∧ (b = true → Tok Φ' l H' imm' w') ∧ (b = false → Tok Ψ l H' imm' w')
structure IT (P : Program) (f : FuncId) (fs cs : List SV) (ys : List (List SV)) : Prop where
 ok : ∃ t, fnOf P f = some t
 run : P.follows .mixedOrders = true → ∀ (Φ : Nat → TokP) (Ψ : TokP), (∀ (i : Nat) (y : List SV), ys[i]? = some y → YS P (Φ i) y (Φ (i + 1)) Ψ) →
  ∀ (l : Nat) (H imm : Nat → Prop) (w : World) (vf vc : List Value), Apart l H imm w → denL w imm fs (fun _ => False) (fun _ => none) vf → denL w imm cs (fun _ => False) (fun _ => none) vc → Tok (Φ 0) l H imm w →
  CallsIn (Fn none) 0 P f (vf ++ .func (.yield l) #[] #[] :: vc).toArray w fun e w' => ∃ v H' imm', e = .returned v ∧ Apart l H' imm' w' ∧ (Tok (Φ ys.length) l H' imm' w' ∨ Tok Ψ l H' imm' w')
section
variable {P : Program} {r : Fr}
theorem lb_keep {g g' : Gh} {w w' : World} {b : Nat} {lb : LB} (hdom : ∀ b, g.dom b → g'.dom b) (hιo : ∀ b l, g.dom b → g'.ι b = some l → g.ι b = some l) (himm : ∀ r, g.imm r → g'.imm r) (hih : ∀ r, g.imm r → w'.heap[r]? = w.heap[r]?)
  (hb : ∀ l, g.ι b = some l → g'.ι b = some l ∧ w'.heap[l.blk]? = w.heap[l.blk]?) (hdep : ∀ d ∈ lb.deps, ∀ l, g.ι d = some l → g'.ι d = some l ∧ w'.heap[l.blk]? = w.heap[l.blk]?)
  (htok : ∀ Φ, (lb = .tok Φ ∨ ∃ m ls, lb = .tokp m ls Φ) → lbden P w g b lb → lbden P w' g' b lb) (hd : lbden P w g b lb) : lbden P w' g' b lb := by
 have kd : ∀ {s v}, g.den w s v → g'.den w' s v := fun h => den.mono himm hih _ hdom hιo h
 have kL : ∀ {s v}, g.denL w s v → g'.denL w' s v := fun h => denL.mono himm hih _ hdom hιo h
 have kM : ∀ {es ents idx}, g.denM w es ents idx → g'.denM w' es ents idx := fun h => denM.mono himm hih _ hdom hιo h
 cases lb with
 | dead => trivial
 | cells cs =>
  obtain ⟨l, vs, t, h1, h2, h3⟩ := hd
  obtain ⟨h4, h5⟩ := hb l h1
  exact ⟨l, vs, t, h4, h5.trans h2, kL h3⟩
 | arr e sz es =>
  obtain ⟨l, vs, h1, hn, h2, h3, h4⟩ := hd
  obtain ⟨h5, h6⟩ := hb l h1
  exact ⟨l, vs, h5, hn, kL h2, h3, ownsRow_block h4 h6⟩
 | map es =>
  obtain ⟨l, ents, idx, h1, h2, h3, h4, h5⟩ := hd
  obtain ⟨h6, h7⟩ := hb l h1
  exact ⟨l, ents, idx, h6, h7.trans h2, h3, h4, kM h5⟩
 | iter src left cur =>
  obtain ⟨l, m, seen, ents, idx, h1, h2, h3, h4, h5, h6, h7, h8, h9⟩ := hd
  obtain ⟨k1, k2⟩ := hb l h1
  have hm : w'.heap[m]? = w.heap[m]? ∧ ((∃ mb lm, src = .mp mb ∧ g'.ι mb = some lm ∧ m = lm.blk) ∨ ((∃ es, src = .imap es) ∧ g'.imm m)) := by
   rcases h3 with ⟨mb, lm, rfl, h3, rfl⟩ | ⟨h3, hi⟩
   ·obtain ⟨k3, k4⟩ := hdep mb (by simp [LB.deps]) lm h3
    exact ⟨k4, .inl ⟨mb, lm, rfl, k3, rfl⟩⟩
   ·exact ⟨hih m hi, .inr ⟨h3, himm m hi⟩⟩
  refine ⟨l, m, seen, ents, idx, k1, k2.trans h2, hm.2, hm.1.trans h4, h5, h6, h7, kM h8, fun k v e => ?_⟩
  obtain ⟨i, en, e1, e2, e3, e4⟩ := h9 k v e
  exact ⟨i, en, e1, e2, kd e3, kd e4⟩
 | loop st pend σ ps as bd =>
  obtain ⟨l, fn, tmps, ac, bc, d, h1, h2, h3, h4, h5⟩ := hd
  obtain ⟨h6, h7⟩ := hb l h1
  exact ⟨l, fn, tmps, ac, bc, d, h6, h7.trans h2, kL h3, h4, h5⟩
 | dcol =>
  obtain ⟨l, h1, h2⟩ := hd
  obtain ⟨h6, h7⟩ := hb l h1
  exact ⟨l, h6, h7.trans h2⟩
 | tok Φ => exact htok Φ (.inl rfl) hd
 | tokp m ls Φ => exact htok Φ (.inr ⟨m, ls, rfl⟩) hd
theorem TSq.yield {t : TOper} {ts : List TOper} {S : St} {K : St → Prop} {x : TOpd} {xs : List TOpd} {y : List SV} {Φ Φ' Ψ : TokP} (hg : guardK S.σ t.guard (· = true))
  (ht : t.op = .callv x xs) (hx : gv S.σ x = .yield 0) (hb : hget S.h 0 = .tok Φ) (hni : noIter S.h 0 True) (hy : mapK S.σ xs fun as => as = y) (hcl : cloL y) (hs : YS P Φ y Φ' Ψ)
  (h1 : Ev (setD S.σ t.dst (.bool true) fun σ' => updK S.h [(0, .tok Φ')] fun h' => evR P r ts ⟨σ', h', S.mks⟩ K))
  (h0 : Ev (setD S.σ t.dst (.bool false) fun σ' => updK S.h [(0, .tok Ψ)] fun h' => evR P r ts ⟨σ', h', S.mks⟩ K)) : TSq P r (t :: ts) S K := by
 rw [TSq_iff]
 intro hm A i g a w ro Q hd hsim hr hq hp
 obtain ⟨o, hget', e, hdrop⟩ := drop_cons hd
 subst e
 have hget' : A[i]? = some o := by simpa using hget'
 rw [List.length_cons]
 obtain ⟨hdst, hc⟩ := cOper_cases P A false o
 rcases hc with ⟨hop, hgd⟩ | ⟨hbad, hgd⟩
 case inr => rw [hbad] at ht; cases ht
 have hw := guard_wanted hg hgd fun _ _ _ _ _ => getS_den hsim.tm _
 refine wpOps_cons hget' ?_
 rw [if_pos hw]
 rw [hop] at ht
 obtain ⟨c, fo, ho, hcal, hcs⟩ := cOp_call (P := P) (op := o.op) (by rw [ht]; rfl)
 have hcs : cOp P o.op = .callv (cOpd fo) (c.args.toList.map cOpd) := by
  rcases hcs with ⟨f, _, e⟩ | e
  ·rw [ht] at e; cases e
  ·exact e
 rw [ht] at hcs
 simp only [TOp.callv.injEq] at hcs
 obtain ⟨rfl, rfl⟩ := hcs
 have hnd : ∀ c, o.op ≠ .defer c := by rw [ho]; simp
 rw [Oper.semAt_eq ro a.eval o hnd]
 have hfd : g.den w (gv S.σ (cOpd fo)) (a.eval fo) := opd_den fo fun t _ => getS_den hsim.tm t
 rw [hx] at hfd
 simp only [Gh.den, den] at hfd
 have hbd := hsim.hp 0
 rw [hb] at hbd
 obtain ⟨_, l, H, i1, i2, i3⟩ := hbd
 have hfv := hfd.2.2 l i1
 obtain ⟨ys, hys, hyd⟩ := mapK_spec hy
 subst hys
 have hH : ∀ r, H r ↔ g.hd r := fun r => ⟨fun h => ⟨H, i2, h⟩, fun ⟨H', e, h⟩ => by rw [i2] at e; cases e; exact h⟩
 have hap : Apart l.blk H g.imm w := ⟨(hsim.ok.own 0 l i1).2.1, fun r hr => hsim.ok.hlt r ((hH r).1 hr), hsim.ok.immlt, fun r hr => hsim.ok.himm r ((hH r).1 hr), (hsim.ok.own 0 l i1).2.2, fun h => hsim.ok.hown 0 l i1 ((hH _).1 h)⟩
 have hvals : denL w g.imm ys (fun _ => False) (fun _ => none) (c.args.toList.map a.eval) := cloL_den _ hcl (hyd (w := w) (imm := g.imm) (D := g.dom) (ι := g.ι) a.eval fun x _ => opd_den x fun t _ => getS_den hsim.tm t)
 obtain ⟨fn, tmps, ac, bc, hrun, hround⟩ := hs l.blk H g.imm w _ hap (i3 _ _ (TStep.refl _ _ _ _) hsim.ok.immlt) hvals
 have hex : (execOp a.eval o).run P w = .ok (.round l.blk fn tmps ac bc) w := by
  obtain ⟨dst, op, ty, pos, aft, gd⟩ := o
  simp only at ho
  subst ho
  simp only [execOp, resolve, hcal, hfv, Deferred.ofValue, Sem.run_bind, Sem.run_pure, Result.andThen, invoke]
  rw [← hrun]
  congr 2
  apply Array.ext'
  simp
 rw [hex, Oper.uponIn_round]
 refine ⟨fun h => by simp [Fn, Fence.wide] at h, RoundIn.mono (show RoundIn (Fn ro) 0 P l.blk fn tmps ac bc w _ from hround) ?_⟩
 rintro _ w' ⟨b, H', imm', rfl, hst, hap', ht1, ht0⟩
 -- the ghost behind the round
 have hblk : ∀ b' l', g.ι b' = some l' → b' ≠ 0 → w'.heap[l'.blk]? = w.heap[l'.blk]? := fun b' l' hl hne =>
  hst.old _ (hsim.ok.own b' l' hl).2.1 (fun h => hsim.ok.hown b' l' hl ((hH _).1 h)) fun e => hne (hsim.ok.inj b' 0 l' l hl i1 e)
 have hih : ∀ r, g.imm r → w'.heap[r]? = w.heap[r]? := fun r hr => hst.old r (hsim.ok.immlt r hr) (fun h => hsim.ok.himm r ((hH _).1 h) hr) fun e => hap.li (e ▸ hr)
 let g' : Gh := { dom := g.dom, ι := g.ι, imm := imm', hid := some H', flr := g.flr }
 have hok : GOk g' w' := by
  refine ⟨fun b' l' hl => ?_, hsim.ok.inj, hap'.ilt, fun r ⟨H'', e, h⟩ => ?_, fun r ⟨H'', e, h⟩ => ?_, fun b' l' hl ⟨H'', e, h⟩ => ?_, Nat.le_trans hsim.ok.flr hst.size⟩
  ·obtain ⟨p1, p2, p3⟩ := hsim.ok.own b' l' hl
   refine ⟨p1, Nat.lt_of_lt_of_le p2 hst.size, fun hh => ?_⟩
   by_cases e : b' = 0
   ·subst e; rw [i1] at hl; cases hl; exact hap'.li hh
   ·rcases hst.newimm _ hh with q | q | q
    ·exact p3 q
    ·omega
    ·exact hsim.ok.hown b' l' hl ((hH _).1 q)
  ·cases e; exact hap'.hlt r h
  ·cases e; exact hap'.hi r h
  ·cases e
   rcases hst.newH _ h with q | q
   ·exact hsim.ok.hown b' l' hl ((hH _).1 q)
   ·have := (hsim.ok.own b' l' hl).2.1; omega
 have hexw : Exw r.base g w g' w' := by
  refine ⟨hst.os, hst.tape, hst.output, hst.size, fun _ _ h => h, fun _ _ _ => .inl rfl, hst.up, fun h => ?_, rfl, fun r ⟨H'', e, h⟩ => ?_, fun r hr hh hn => ?_, fun b' l' hl => .inr ⟨b', l', hl, rfl⟩, fun r hr => ?_⟩
  ·rw [i2] at h; cases h
  ·cases e; exact (hst.newH r h).imp (hH r).1 id
  ·exact hst.old r hr (fun h => hh ((hH r).1 h)) fun e => hn 0 l i1 e.symm
  ·rcases hst.newimm r hr with q | q | q
   ·exact .inl q
   ·exact .inr (.inl q)
   ·exact .inr (.inr (.inr ((hH r).1 q)))
 have noit : ∀ {h : List LB} {b : Nat} {k : Prop}, noIter h b k → ∀ c, b ∉ (hget h c).deps := by
  intro h b k
  induction h with
  | nil => intro _ c; simp [hget, LB.deps]
  | cons x h ih =>
   intro hk c
   cases x with
   | iter src left cur =>
    cases src with
    | mp mb =>
     simp only [noIter] at hk
     cases c with
     | zero => simp [hget, LB.deps]; exact fun e => hk.1 e.symm
     | succ c => exact ih hk.2 c
    | _ => cases c with
     | zero => simp [hget, LB.deps]
     | succ c => exact ih hk c
   | _ => cases c with
    | zero => simp [hget, LB.deps]
    | succ c => exact ih hk c
 have fin : ∀ (b : Bool) (Φ2 : TokP), Tok Φ2 l.blk H' imm' w' → (setD S.σ o.dst (.bool b) fun σ' => updK S.h [(0, .tok Φ2)] fun h' => evR P r ts ⟨σ', h', S.mks⟩ K) → wpOpsIn (Fn ro) 0 P A Q (List.range' (i + 1) ts.length) (a.put o.dst (.bool b)) w' := by
  intro b Φ2 htok hK
  obtain ⟨σ', p1, p2⟩ := put_tm (g := g') (w := w') (a := a) hK (denL.mono hst.up hih _ (fun _ h => h) (fun _ _ _ h => h) hsim.tm) (show g'.den w' (.bool b) (.bool b) by simp only [Gh.den, den])
  obtain ⟨h', k1, k2, k3, k4⟩ := updK_spec p1
  refine evR_sound k1 hm A (i + 1) g' (a.put o.dst (.bool b)) w' ro Q hdrop ⟨hok, fun c hc => Nat.lt_of_lt_of_le (hsim.lt c hc) k2, p2, fun c => ?_, ?_⟩ (hexw.ro hr) (fun S'' g'' a'' w'' r1 r2 r3 => hq S'' g'' a'' w'' r1 r2 (hexw.trans r3)) (hp.trans hexw)
  ·rcases k4 c with ⟨p, hp, rfl, e⟩ | ⟨hno, e⟩
   ·simp only [List.mem_singleton] at hp
    subst hp
    simp only at e ⊢
    rw [e]
    exact ⟨rfl, l, H', i1, rfl, htok⟩
   ·simp only at e ⊢
    rw [e]
    have hc0 : c ≠ 0 := fun e => hno (0, .tok Φ2) (by simp) e.symm
    refine lb_keep (g := g) (w := w) (fun _ h => h) (fun _ _ _ h => h) hst.up hih (fun l' hl => ⟨hl, hblk c l' hl hc0⟩) (fun d hd l' hl => ⟨hl, hblk d l' hl fun e => ?_⟩) (fun Φ3 e q => ?_) (hsim.hp c)
    ·subst e; exact noit hni c hd
    ·rcases e with e | ⟨m, ls, e⟩ <;> (rw [e] at q; exact absurd q.1 hc0)
  ·have : (a.put o.dst (.bool b)).defers = a.defers := by cases o.dst <;> rfl
   rw [this]
   exact hexw.df hsim.df
 cases b with
 | true => have := h1.at; rw [hdst] at this; exact fin true Φ' (ht1 rfl) this
 | false => have := h0.at; rw [hdst] at this; exact fin false Ψ (ht0 rfl) this
theorem IT.of {f : FuncId} {t : TFn} {fs cs : List SV} {ys : List (List SV)} (hf : fnOf P f = some t) (hcf : cloL fs) (hcc : cloL cs)
  (hb : ∀ (Φ : Nat → TokP) (Ψ : TokP), (∀ (i : Nat) (y : List SV), ys[i]? = some y → YS P (Φ i) y (Φ (i + 1)) Ψ) →
   TW P (frm none 1 true) t.body ⟨fillJ (fs ++ .yield 0 :: cs) t.ntmps, [.tok (Φ 0)], []⟩ (endK t.results fun _ h' => Vc (hget h' 0 = .tok (Φ ys.length) ∨ hget h' 0 = .tok Ψ))) : IT P f fs cs ys := by
 refine ⟨⟨t, hf⟩, fun hm Φ Ψ hy l H imm w vf vc hap h1 h2 h3 => ?_⟩
 let g : Gh := { dom := fun b => b = 0, ι := fun b => if b = 0 then some ⟨l, 0, 0⟩ else none, imm := imm, hid := some H, flr := 0 }
 have hι : ∀ b l', g.ι b = some l' → b = 0 ∧ l' = ⟨l, 0, 0⟩ := by
  intro b l' h
  simp only [g] at h
  split at h
  ·rename_i e; exact ⟨e, (Option.some.inj h).symm⟩
  ·cases h
 have hok : GOk g w := by
  refine ⟨fun b l' h => ?_, fun b b' l1 l2 k1 k2 _ => by rw [(hι b l1 k1).1, (hι b' l2 k2).1], hap.ilt, fun r ⟨H', e, h⟩ => by cases e; exact hap.hlt r h, fun r ⟨H', e, h⟩ => by cases e; exact hap.hi r h, fun b l' h ⟨H', e, q⟩ => ?_, Nat.zero_le _⟩
  ·obtain ⟨rfl, rfl⟩ := hι b l' h
   exact ⟨rfl, hap.llt, hap.li⟩
  ·obtain ⟨rfl, rfl⟩ := hι b l' h
   cases e; exact hap.lh q
 have hargs : g.denL w (fs ++ .yield 0 :: cs) (vf ++ .func (.yield l) #[] #[] :: vc) := by
  refine denL_append (cloL_den fs hcf h1) ?_
  simp only [denL]
  refine ⟨_, _, rfl, ?_, cloL_den cs hcc h2⟩
  simp only [den]
  refine ⟨rfl, ⟨l, rfl⟩, fun l' h => ?_⟩
  obtain ⟨_, rfl⟩ := hι 0 l' h
  rfl
 refine (body_run true hf (h := [.tok (Φ 0)]) (hb Φ Ψ hy) hm g w _ (by simp) hok (fun b hb => by simp only [g] at hb; subst hb; simp) hargs (fun b => ?_)).mono ?_
 ·cases b with
  | zero => exact ⟨rfl, ⟨l, 0, 0⟩, H, by simp [g], rfl, h3⟩
  | succ b => exact trivial
 ·rintro _ w' ⟨v, s, h', g', rfl, q, k1, k2, k3, k4, k5⟩
  have hend : ∀ Φ2, hget h' 0 = .tok Φ2 → ∃ H' imm', Apart l H' imm' w' ∧ Tok Φ2 l H' imm' w' := by
   intro Φ2 e
   have hb := k4 0
   rw [e] at hb
   obtain ⟨_, l', H', i1, i2, i3⟩ := hb
   have hl : l'.blk = l := by
    rcases k5.ι 0 (by simp) rfl with q | q
    ·rw [q] at i1
     obtain ⟨_, rfl⟩ := hι 0 l' i1
     rfl
    ·rw [q] at i1; cases i1
   subst hl
   have hH : ∀ r, H' r → g'.hd r := fun r h => ⟨H', i2, h⟩
   exact ⟨H', g'.imm, ⟨(k1.own 0 l' i1).2.1, fun r hr => k1.hlt r (hH r hr), k1.immlt, fun r hr => k1.himm r (hH r hr), (k1.own 0 l' i1).2.2, fun h => k1.hown 0 l' i1 (hH _ h)⟩, i3⟩
  rcases q.h with q | q
  ·obtain ⟨H', imm', q1, q2⟩ := hend _ q
   exact ⟨v, H', imm', rfl, q1, .inl q2⟩
  ·obtain ⟨H', imm', q1, q2⟩ := hend _ q
   exact ⟨v, H', imm', rfl, q1, .inr q2⟩
end
end Go.TV
/- The value calculus, part 2H: ranging over an iterator. -/
namespace Go.TV
open Go.RowKit
def loopK (b : LB) (k : List SV → List Nat → TCode → TCode → Prop) : Prop :=
 match b with
 | .loop _ _ σ ps as bd => k σ ps as bd
 | _ => False
def loopRK (b : LB) (k : List SV → List Nat → TCode → TCode → Prop) : Prop :=
 match b with
 | .loop st pend σ ps as bd => match st, pend with
  | .ready, none => k σ ps as bd
  | _, _ => False
 | _ => False
theorem loopK_spec {b : LB} {k : List SV → List Nat → TCode → TCode → Prop} (h : loopK b k) : ∃ st pend σ ps as bd, b = .loop st pend σ ps as bd ∧ k σ ps as bd := by
 cases b <;> simp only [loopK] at h <;> first | exact h.elim | exact ⟨_, _, _, _, _, _, rfl, h⟩
theorem loopRK_spec {b : LB} {k : List SV → List Nat → TCode → TCode → Prop} (h : loopRK b k) : ∃ σ ps as bd, b = .loop .ready none σ ps as bd ∧ k σ ps as bd := by
 cases b <;> simp only [loopRK] at h <;> try (exact h.elim)
 split at h
 ·exact ⟨_, _, _, _, rfl, h⟩
 ·exact h.elim
def putPs : List SV → List Nat → List SV → List SV
 | σ, [], _ => σ
 | σ, p :: ps, ys => match ys with
  | [] => σ
  | y :: ys => putPs (σ.set p y) ps ys
section
variable {P : Program} {r : Fr}
theorem putPs_den {w : World} {imm D : Nat → Prop} {ι : Env} : ∀ {ps : List Nat} {σ ys : List SV} {vs us : List Value}, denL w imm σ D ι vs → denL w imm ys D ι us →
  denL w imm (putPs σ ps ys) D ι ((ps.zip us).foldl (fun (t : List Value) (p : Nat × Value) => t.set p.1 p.2) vs)
 | [], σ, ys, vs, us, h, _ => by simpa [putPs] using h
 | p :: ps, σ, [], vs, us, h, h' => by
  simp only [denL] at h'
  subst h'
  simpa [putPs] using h
 | p :: ps, σ, y :: ys, vs, us, h, h' => by
  simp only [denL] at h'
  obtain ⟨u, us', rfl, h1, h2⟩ := h'
  simp only [putPs, List.zip_cons_cons, List.foldl_cons]
  exact putPs_den (denL_set h h1) h2
theorem foldl_toList {ps : List (Nat × Value)} : ∀ {a : Array Value}, (ps.foldl (fun (t : Array Value) (p : Nat × Value) => t.setIfInBounds p.1 p.2) a).toList = ps.foldl (fun (t : List Value) (p : Nat × Value) => t.set p.1 p.2) a.toList := by
 induction ps with
 | nil => intro a; rfl
 | cons p ps ih => intro a; simp only [List.foldl_cons]; rw [ih]; simp
theorem Sim.loopAt {g : Gh} {S : St} {a : Act} {w : World} (hs : Sim P g S a w) {nl : Nat} {st : LoopState} {pend : Option Jump} {σ : List SV} {ps : List Nat} {as bd : TCode} (hl : hget S.h nl = .loop st pend σ ps as bd) :
  ∃ (l : Loc) (q : Loop), g.ι nl = some l ∧ w.heap[l.blk]? = some (.loop q) ∧ q.state = st ∧ q.params = ps.toArray ∧ q.pending = pend.map Jump.code ∧ g.denL w σ q.tmps.toList ∧ comp P q.assign = as ∧ comp P q.body = bd ∧
   ∀ (st' : LoopState) (pend' : Option Jump), ∃ h', Sim P g ⟨S.σ, h', S.mks⟩ a (w.putObj l.blk (.loop { q with state := st', pending := pend'.map Jump.code })) ∧
    Ext g w g (w.putObj l.blk (.loop { q with state := st', pending := pend'.map Jump.code })) (fun b => b = nl) ∧
    h' = S.h.set nl (.loop st' pend' σ ps as bd) := by
 have hb := hs.hp nl
 rw [hl] at hb
 obtain ⟨l, fn, tmps, ac, bc, d, h1, h2, h3, h4, h5⟩ := hb
 refine ⟨l, _, h1, h2, rfl, rfl, rfl, h3, h4, h5, fun st' pend' => ?_⟩
 obtain ⟨x1, x2⟩ := ext_set (U := fun b => b = nl) hs.ok h1 rfl (w' := w.putObj l.blk (.loop { state := st', pending := pend'.map Jump.code, fn, tmps, params := ps.toArray, assign := ac, body := bc, defers := d })) rfl rfl rfl (by simp [World.putObj]) fun r hr => by rw [World.putObj_heap_other hr]
 have hlt : nl < S.h.length := hs.lt nl (hs.ok.own nl l h1).1
 have hg1 : ∀ c, c ≠ nl → hget (S.h.set nl (.loop st' pend' σ ps as bd)) c = hget S.h c := by
  have key : ∀ (h : List LB) (n c : Nat) (b : LB), c ≠ n → hget (h.set n b) c = hget h c := by
   intro h
   induction h with
   | nil => intros; rfl
   | cons x h ih =>
    intro n c b hne
    cases n <;> cases c <;> simp_all [hget]
  exact fun c hc => key _ _ _ _ hc
 have hg2 : hget (S.h.set nl (.loop st' pend' σ ps as bd)) nl = .loop st' pend' σ ps as bd := by
  have key : ∀ (h : List LB) (n : Nat) (b : LB), n < h.length → hget (h.set n b) n = b := by
   intro h
   induction h with
   | nil => intro n b hn; simp at hn
   | cons x h ih =>
    intro n b hn
    cases n
    ·rfl
    ·exact ih _ _ (by simpa using hn)
  exact key _ _ _ hlt
 refine ⟨S.h.set nl (.loop st' pend' σ ps as bd), ⟨x1, fun b hb => by simpa using hs.lt b hb, x2.denL hs.ok hs.tm, fun c => ?_, x2.df hs.df⟩, x2, rfl⟩
 by_cases hc : c = nl
 ·subst hc
  simp only
  rw [hg2]
  exact ⟨l, fn, tmps, ac, bc, d, h1, World.putObj_heap_same (hs.ok.own c l h1).2.1, x2.denL hs.ok h3, h4, h5⟩
 ·simp only
  rw [hg1 c hc]
  refine hs.rest (upd := [(nl, .loop st' pend' σ ps as bd)]) (x2.more fun b hb => by subst hb; simp [ids]) (fun p hp => ?_) c fun p hp => ?_
  ·simp only [List.mem_singleton] at hp
   subst hp
   exact .inr (by simp [Safe, hl])
  ·simp only [List.mem_singleton] at hp
   subst hp
   exact fun e => hc e.symm
structure RInv (P : Program) (r : Fr) (ro : Option Nat) (g0 : Gh) (w0 : World) (a1 : Act) (σc : List SV) (mks : List Nat) (nl : Nat) (h : List LB) (g : Gh) (w : World) : Prop where
 sim : Sim P g ⟨σc, h, mks⟩ a1 w
 exw : Exw r.base g0 w0 g w
 df0 : dfden g0 w0 a1.defers
 ro : roOK g r ro
def RTok (P : Program) (r : Fr) (ro : Option Nat) (g0 : Gh) (w0 : World) (a1 : Act) (σc : List SV) (mks : List Nat) (nl : Nat) (ok : List LB → Prop) : TokP := fun l H imm w =>
 ∃ (g : Gh) (h : List LB), ok h ∧ RInv P r ro g0 w0 a1 σc mks nl h g w ∧ g.imm = imm ∧ (∃ ll, g.ι nl = some ll ∧ ll.blk = l) ∧ (∀ b l', g.ι b = some l' → l'.blk = l ∨ H l'.blk) ∧ (∀ q, g.hd q → H q) ∧ (∀ q, q < w0.heap.size → imm q ∨ q = l ∨ H q)
theorem RTok.stable {ro : Option Nat} {g0 : Gh} {w0 : World} {a1 : Act} {σc : List SV} {mks : List Nat} {nl : Nat} {ok : List LB → Prop} {l : Nat} {H imm imm' : Nat → Prop} {w w' : World}
  (h : RTok P r ro g0 w0 a1 σc mks nl ok l H imm w) (ht : TStep l H imm w imm' w') (hlt : ∀ q, imm' q → q < w'.heap.size) : RTok P r ro g0 w0 a1 σc mks nl ok l H imm' w' := by
 obtain ⟨g, hh, hok, hi, rfl, ⟨ll, e1, e2⟩, hown, hhd, hold⟩ := h
 let g' : Gh := { dom := g.dom, ι := g.ι, imm := imm', hid := g.hid, flr := g.flr }
 have hblk : ∀ b l', g.ι b = some l' → w'.heap[l'.blk]? = w.heap[l'.blk]? := fun b l' hl => ht.old _ ((hown b l' hl).imp id .inl)
 have hih : ∀ q, g.imm q → w'.heap[q]? = w.heap[q]? := fun q hq => ht.old q (.inr (.inr hq))
 have hgok : GOk g' w' := by
  refine ⟨fun b l' hl => ?_, hi.sim.ok.inj, hlt, fun q hq => Nat.lt_of_lt_of_le (hi.sim.ok.hlt q hq) ht.size, fun q hq hh => ?_, hi.sim.ok.hown, Nat.le_trans hi.sim.ok.flr ht.size⟩
  ·obtain ⟨p1, p2, p3⟩ := hi.sim.ok.own b l' hl
   refine ⟨p1, Nat.lt_of_lt_of_le p2 ht.size, fun hh => ?_⟩
   exact (ht.new _ hh).elim p3 fun q => q (hown b l' hl)
  ·exact (ht.new _ hh).elim (hi.sim.ok.himm q hq) fun p => p (.inr (hhd q hq))
 refine ⟨g', hh, hok, ⟨⟨hgok, hi.sim.lt, denL.mono ht.up hih _ (fun _ h => h) (fun _ _ _ h => h) hi.sim.tm, fun b => ?_, ?_⟩, ?_, hi.df0, ?_⟩, rfl, ⟨ll, e1, e2⟩, hown, hhd, fun q hq => (hold q hq).imp (ht.up q) id⟩
 ·refine lb_keep (g := g) (w := w) (fun _ h => h) (fun _ _ _ h => h) ht.up hih (fun l' hl => ⟨hl, hblk b l' hl⟩) (fun d _ l' hl => ⟨hl, hblk d l' hl⟩) (fun Φ e hd => ?_) (hi.sim.hp b)
  have key : ∀ (l2 : Loc) (H2 : Nat → Prop), g.ι b = some l2 → g.hid = some H2 → Tok Φ l2.blk H2 g.imm w → Tok Φ l2.blk H2 imm' w' := fun l2 H2 i1 i2 i3 => by
   have hH2 : ∀ q, H2 q → g.hd q := fun q h => ⟨H2, i2, h⟩
   refine i3.step ⟨ht.os, ht.tape, ht.output, ht.size, ht.up, fun q hq => ?_, fun q hq => ?_⟩
   ·rcases hq with rfl | hq | hq
    ·exact hblk b l2 i1
    ·exact ht.old q (.inr (.inl (hhd q (hH2 q hq))))
    ·exact hih q hq
   ·rcases ht.new q hq with p | p
    ·exact .inl p
    ·refine .inr fun hh => p ?_
     rcases hh with rfl | hh
     ·exact hown b l2 i1
     ·exact .inr (hhd q (hH2 q hh))
  rcases e with e | ⟨m, ls, e⟩
  ·rw [e] at hd ⊢
   obtain ⟨h0, l2, H2, i1, i2, i3⟩ := hd
   exact ⟨h0, l2, H2, i1, i2, key l2 H2 i1 i2 i3⟩
  ·rw [e] at hd ⊢
   obtain ⟨h0, hp, l2, H2, i1, i2, i3⟩ := hd
   exact ⟨h0, hp, l2, H2, i1, i2, key l2 H2 i1 i2 i3⟩
 ·obtain ⟨rs, e1, e2, e3⟩ := hi.sim.df
  obtain ⟨rs0, f1, f2, f3⟩ := hi.df0
  have hrs : rs = rs0 := by
   rw [e1] at f1
   have : Function.Injective markOf := fun a b h => by simpa [markOf] using h
   exact List.map_inj_right this |>.1 f1
  subst hrs
  refine ⟨rs, e1, e2, fun q hq => ?_⟩
  obtain ⟨k1, k2, k3, k4, k5⟩ := e3 q hq
  have hlt : q < w0.heap.size := (Array.getElem?_eq_some_iff.1 (f3 q hq).2.1).1
  have hin := hold q hlt
  refine ⟨k1, (ht.old q (hin.elim (fun h => .inr (.inr h)) (fun h => h.imp id .inl))).trans k2, k3, k4, fun hh => ?_⟩
  rcases ht.new q hh with p | p
  ·exact k5 p
  ·rcases hin with h | h
   ·exact k5 h
   ·exact p h
 ·have hx := hi.exw
  refine ⟨ht.os.trans hx.os, ht.tape.trans hx.tape, ht.output.trans hx.output, Nat.le_trans hx.size ht.size, hx.dom, hx.ι, fun q hq => ht.up q (hx.imm q hq), hx.hno, hx.flr, hx.newhid, fun q hq hh hn => ?_, hx.newι, fun q hq => ?_⟩
  ·rw [← hx.old q hq hh hn]
   exact ht.old q ((hold q hq).elim (fun h => .inr (.inr h)) (fun h => h.imp id .inl))
  ·rcases ht.new q hq with p | p
   ·exact hx.newimm q p
   ·rcases Nat.lt_or_ge q w0.heap.size with h | h
    ·rcases hold q h with h | h
     ·exact hx.newimm q h
     ·exact absurd h p
    ·exact .inr (.inl h)
 ·have := hi.ro
  unfold roOK at this ⊢
  exact this
theorem RTok.tok {ro : Option Nat} {g0 : Gh} {w0 : World} {a1 : Act} {σc : List SV} {mks : List Nat} {nl : Nat} {ok : List LB → Prop} {l : Nat} {H imm : Nat → Prop} {w : World}
  (h : RTok P r ro g0 w0 a1 σc mks nl ok l H imm w) : Tok (RTok P r ro g0 w0 a1 σc mks nl ok) l H imm w := fun _ _ ht hlt => h.stable ht hlt
def WkH (P : Program) (B : Nat) (h h' : List LB) : Prop := Wk P B ⟨[], h, []⟩ ⟨[], h', []⟩
def endR (nl : Nat) (j : Option Jump) (S : St) (k : List LB → Prop) : Prop :=
 loopK (hget S.h nl) fun σ ps as bd => updGo S.h nl (.loop (if j.isNone then .ready else .done) j σ ps as bd) k
theorem updGo_set {h : List LB} {n : Nat} {b : LB} {k : List LB → Prop} (hn : n < h.length) (hk : updGo h n b k) : k (h.set n b) := by
 induction h generalizing n k with
 | nil => simp at hn
 | cons x h ih =>
  cases n with
  | zero => exact hk
  | succ n => exact ih (by simpa using hn) hk
def RoundT (P : Program) (r1 : Fr) (nl : Nat) (as bd : TCode) (S : St) (R : Option Jump → List LB → Prop) : Prop :=
 TW P r1 as S fun j S' => match j with
  | some _ => False
  | none => loopRK (hget S'.h nl) fun σ ps as' bd' => updGo S'.h nl (.loop .busy none σ ps as' bd') fun h2 => TW P r1 bd ⟨S'.σ, h2, S'.mks⟩ fun j S3 => endR nl j S3 (R j)
theorem Exw.le {B B' : Nat} {g g' : Gh} {w w' : World} (h : Exw B g w g' w') (hB : B' ≤ B) : Exw B' g w g' w' :=
 ⟨h.os, h.tape, h.output, h.size, fun b hb => h.dom b (Nat.lt_of_lt_of_le hb hB), fun b hb => h.ι b (Nat.lt_of_lt_of_le hb hB), h.imm, h.hno, h.flr, h.newhid, h.old, h.newι, h.newimm⟩
theorem Exw.immHeap {B : Nat} {g g' : Gh} {w w' : World} (hg : GOk g w) (h : Exw B g w g' w') (q : Nat) (hq : g.imm q) : w'.heap[q]? = w.heap[q]? :=
 h.old q (hg.immlt q hq) (fun hh => hg.himm q hh hq) fun b l hl e => (hg.own b l hl).2.2 (e ▸ hq)
theorem Exw.denL_kept {B : Nat} {g g' : Gh} {w w' : World} (hg : GOk g w) (h : Exw B g w g' w') {σ : List SV} {vs : List Value} (hσ : fitL [] B σ σ True) (hd : g.denL w σ vs) : g'.denL w' σ vs := by
 have h1 := (fitL_spec (w := w) (imm := g.imm) (D := g.dom) (D' := fun n => n < B ∧ g.dom n) (ι := g.ι) (ι' := g.ι) (pl := []) (L := B) (fun n h1 h2 => ⟨h1, h2⟩) (fun n l _ h => h) σ σ hσ hd).2
 exact denL.mono h.imm (h.immHeap hg) _ (fun b hb => h.dom b hb.1 hb.2) (fun b l hb hl => by
  rcases h.ι b hb.1 hb.2 with e | e
  ·exact e ▸ hl
  ·rw [e] at hl; cases hl) h1
theorem roundT_ys {ro : Option Nat} {g0 : Gh} {w0 : World} {a1 : Act} {σc : List SV} {mks : List Nat} {nl B1 : Nat} {ps : List Nat} {as bd : TCode} {y : List SV} {ok okT okF : List LB → Prop} (hm : P.follows .mixedOrders = true)
  (hB : r.base ≤ B1) (hnl : nl < B1) (hσ : fitL [] B1 σc σc True) (hlen : y.length = ps.length)
  (hT : ∀ h, okT h → ∃ st pend σ ps as bd, hget h nl = .loop st pend σ ps as bd) (hF : ∀ h, okF h → ∃ st pend σ ps as bd, hget h nl = .loop st pend σ ps as bd)
  (hok : ∀ h, ok h → hget h nl = .loop .ready none σc ps as bd ∧ RoundT P (frm (some nl) B1 r.opn) nl as bd ⟨putPs σc ps y, h, []⟩ fun j h3 => match j with
   | none => ∃ h4, WkH P B1 h3 h4 ∧ okT h4
   | some _ => ∃ h4, WkH P B1 h3 h4 ∧ okF h4) : YS P (RTok P r ro g0 w0 a1 σc mks nl ok) y (RTok P r ro g0 w0 a1 σc mks nl okT) (RTok P r ro g0 w0 a1 σc mks nl okF) := by
 intro l H imm w vals hap hΦ hvals
 obtain ⟨g, hh, hokh, hi, rfl, ⟨ll, e1, e2⟩, hown, hhd, hold⟩ := hΦ
 subst e2
 obtain ⟨hget1, hround⟩ := hok hh hokh
 obtain ⟨l', q, q1, q2, q3, q4, q5, q6, q7, q8, _⟩ := hi.sim.loopAt hget1
 rw [e1] at q1; cases q1
 have hvl : vals.length = y.length := denL_len hvals
 refine ⟨q.fn, _, q.assign, q.body, run_yield q2 (by rw [q4]; simp [hvl, hlen]), ?_⟩
 rw [q4]
 have htm : g.denL w (putPs σc ps y) ((ps.toArray.zip vals.toArray).foldl (fun tmps (x : Nat × Value) => tmps.setIfInBounds x.1 x.2) q.tmps).toList := by
  have := putPs_den (ps := ps) q6 (denL.mono (D' := g.dom) (ι' := g.ι) (fun _ h => h) (fun _ _ => rfl) _ (fun _ h => h.elim) (fun _ _ h _ => h.elim) hvals)
  rw [← foldl_toList] at this
  have e : ps.toArray.zip vals.toArray = (ps.zip vals).toArray := by simp
  rw [e]
  simpa using this
 -- the round's relation to what lay before the loop
 have hr1 : ∀ g', Exw B1 g w g' w → roOK g' (frm (some nl) B1 r.opn) (some ll.blk) := fun g' hx => by
  refine ⟨fun ho => hx.hno (hi.ro.1 ho), hnl, hx.dom nl hnl (hi.sim.ok.own nl ll e1).1, ll.blk, rfl, fun l3 h3 => ?_⟩
  rcases hx.ι nl hnl (hi.sim.ok.own nl ll e1).1 with h | h
  ·rw [h, e1] at h3; cases h3; rfl
  ·rw [h] at h3; cases h3
 refine roundIn_of_wpIn trivial (?_ : q.assign.wpIn (Fn (some ll.blk)) 0 P _ _ w)
 refine hround hm q.assign g { tmps := _, defers := [] } w (some ll.blk) _ q7 ⟨hi.sim.ok, hi.sim.lt, htm, hi.sim.hp, ⟨[], rfl, List.nodup_nil, by simp⟩⟩ (hr1 g (Exw.refl _ _ _)) (fun j S' g' a' w' hQ hs' hx' => ?_) PanOK.frm
 cases j with
 | some j => exact hQ.elim
 | none =>
  simp only at hQ
  obtain ⟨σ2, ps2, as2, bd2, hg2, hQ⟩ := loopRK_spec hQ
  obtain ⟨l2, q', c1, c2, c3, c4, c5, c6, c7, c8, c9⟩ := hs'.loopAt hg2
  have hl2 : l2 = ll := by
   rcases hx'.ι nl hnl (hi.sim.ok.own nl ll e1).1 with h | h
   ·rw [h, e1] at c1; cases c1; rfl
   ·rw [h] at c1; cases c1
  subst hl2
  obtain ⟨h', d1, d2, rfl⟩ := c9 .busy none
  have hlt : nl < S'.h.length := hs'.lt nl (hs'.ok.own nl l2 c1).1
  refine ⟨_, run_beginRound c2 c3, ?_⟩
  have hQ := updGo_set hlt hQ
  have hq5 : q'.pending = none := by rw [c5]; rfl
  have hwq : w'.putObj l2.blk (.loop { q' with state := .busy }) = w'.putObj l2.blk (.loop { q' with state := .busy, pending := (none : Option Jump).map Jump.code }) := by
   congr 2
   obtain ⟨⟩ := q'
   simp at hq5 ⊢
   exact hq5
  rw [hwq]
  have hx2 : Exw B1 g w g' (w'.putObj l2.blk (.loop { q' with state := .busy, pending := (none : Option Jump).map Jump.code })) := hx'.trans (d2.exw _)
  have hro2 : roOK g' (frm (some nl) B1 r.opn) (some l2.blk) := d2.ro (hx'.ro (hr1 g (Exw.refl _ _ _)))
  have fin : ∀ (j : Option Jump) (S3 : St) (g3 : Gh) (a3 : Act) (w3 : World), (endR nl j S3 fun h3 => match j with
   | none => ∃ h4, WkH P B1 h3 h4 ∧ okT h4
   | some _ => ∃ h4, WkH P B1 h3 h4 ∧ okF h4) → Sim P g3 S3 a3 w3 → Exw B1 g w g3 w3 → ∃ v w4, (Instr.endRound l2.blk (j.map Jump.code)).run P w3 = .ok v w4 ∧
    ∃ (b : Bool) (H' imm' : Nat → Prop), Ending.returned v = .returned (.bool b) ∧ RStep l2.blk H g.imm w H' imm' w4 ∧ Apart l2.blk H' imm' w4 ∧ (b = true → Tok (RTok P r ro g0 w0 a1 σc mks nl okT) l2.blk H' imm' w4) ∧ (b = false → Tok (RTok P r ro g0 w0 a1 σc mks nl okF) l2.blk H' imm' w4) := by
   intro j S3 g3 a3 w3 hE hs3 hx3
   obtain ⟨st3, pend3, σ3, ps3, as3, bd3, hg3, hE⟩ := loopK_spec hE
   obtain ⟨l3, q3, f1, f2, f3, f4, f5, f6, f7, f8, f9⟩ := hs3.loopAt hg3
   have hl3 : l3 = l2 := by
    rcases hx3.ι nl hnl (hi.sim.ok.own nl l2 e1).1 with h | h
    ·rw [h, e1] at f1; cases f1; rfl
    ·rw [h] at f1; cases f1
   subst hl3
   obtain ⟨h', m1, m2, rfl⟩ := f9 (if j.isNone then .ready else .done) j
   have hE := updGo_set (hs3.lt nl (hs3.ok.own nl l3 f1).1) hE
   refine ⟨_, _, run_endRound (j.map Jump.code) f2, j.isNone, ?_⟩
   have hjn : (j.map Jump.code).isNone = j.isNone := by cases j <;> rfl
   rw [hjn]
   generalize hw4 : w3.putObj l3.blk (.loop { q3 with state := if j.isNone then .ready else .done, pending := j.map Jump.code }) = w4 at m1 m2 ⊢
   have hbase : Sim P g3 ⟨[], S3.h.set nl (.loop (if j.isNone then .ready else .done) j σ3 ps3 as3 bd3), []⟩ { tmps := #[], defers := [] } w4 := ⟨m1.ok, m1.lt, by simp [Gh.denL, denL], m1.hp, ⟨[], rfl, List.nodup_nil, by simp⟩⟩
   have hx4 : Exw B1 g w g3 w4 := hx3.trans (m2.exw _)
   -- what is told behind the round
   have key : ∀ (okX : List LB → Prop), (∀ h, okX h → ∃ st pend σ ps as bd, hget h nl = .loop st pend σ ps as bd) → (∃ h4, WkH P B1 (S3.h.set nl (.loop (if j.isNone then .ready else .done) j σ3 ps3 as3 bd3)) h4 ∧ okX h4) →
     ∃ (H' imm' : Nat → Prop), RStep l3.blk H g.imm w H' imm' w4 ∧ Apart l3.blk H' imm' w4 ∧ Tok (RTok P r ro g0 w0 a1 σc mks nl okX) l3.blk H' imm' w4 := by
    rintro okX hX ⟨h4, hwk, hok4⟩
    obtain ⟨g4, s4, x4⟩ := hwk g3 _ w4 hbase
    have hx5 : Exw B1 g w g4 w4 := hx4.trans x4
    obtain ⟨st, pend, σ', ps', as', bd', hg4⟩ := hX h4 hok4
    have hl4 : g4.ι nl = some l3 := by
     have := s4.hp nl
     simp only at this
     rw [hg4] at this
     obtain ⟨l5, fn, tmps, ac, bc, d, z1, _⟩ := this
     rcases hx5.ι nl hnl (hi.sim.ok.own nl l3 e1).1 with h | h
     ·rw [h, e1]
     ·rw [h] at z1; cases z1
    have hol := s4.ok.own nl l3 hl4
    have hnewι : ∀ b l', g4.ι b = some l' → l'.blk = l3.blk ∨ (l'.blk ≠ l3.blk ∧ ¬ g4.imm l'.blk ∧ (H l'.blk ∨ w.heap.size ≤ l'.blk) ∧ l'.blk < w4.heap.size) := by
     intro b l' hl
     by_cases e : l'.blk = l3.blk
     ·exact .inl e
     ·refine .inr ⟨e, (s4.ok.own b l' hl).2.2, ?_, (s4.ok.own b l' hl).2.1⟩
      rcases hx5.newι b l' hl with h | ⟨b0, l0, h1, h2⟩
      ·exact .inr h
      ·rcases hown b0 l0 h1 with h | h
       ·exact absurd (h2 ▸ h) e
       ·exact .inl (h2 ▸ h)
    have hnewhd : ∀ q, g4.hd q → (q ≠ l3.blk ∧ ¬ g4.imm q ∧ (H q ∨ w.heap.size ≤ q) ∧ q < w4.heap.size) := by
     intro q hq
     exact ⟨fun e => s4.ok.hown nl l3 hl4 (e ▸ hq), s4.ok.himm q hq, (hx5.newhid q hq).imp (hhd q) id, s4.ok.hlt q hq⟩
    refine ⟨fun q => q ≠ l3.blk ∧ ¬ g4.imm q ∧ (H q ∨ w.heap.size ≤ q) ∧ q < w4.heap.size, g4.imm, ⟨hx5.os, hx5.tape, hx5.output, hx5.size, hx5.imm, fun q hq hH hne => ?_, fun q hq => hq.2.2.1, fun q hq => ?_⟩,
     ⟨hol.2.1, fun q hq => hq.2.2.2, s4.ok.immlt, fun q hq => hq.2.1, hol.2.2, fun h => h.1 rfl⟩, RTok.tok ⟨g4, h4, hok4, ⟨⟨s4.ok, s4.lt, hx5.denL_kept hi.sim.ok hσ hi.sim.tm, s4.hp, hx5.df hi.sim.df⟩, hi.exw.trans (hx5.le hB), hi.df0, (hx5.le hB).ro hi.ro⟩, rfl, ⟨l3, hl4, rfl⟩, hnewι, hnewhd, fun q hq => ?_⟩⟩
    ·exact hx5.old q hq (fun h => hH (hhd q h)) fun b l' hl e => by
      rcases hown b l' hl with h | h
      ·exact hne (e ▸ h)
      ·exact hH (e ▸ h)
    ·rcases hx5.newimm q hq with h | h | ⟨b, l', h1, h2⟩ | h
     ·exact .inl h
     ·exact .inr (.inl h)
     ·rcases hown b l' h1 with h3 | h3
      ·rw [← h2, h3] at hq; exact absurd hq hol.2.2
      ·exact .inr (.inr (h2 ▸ h3))
     ·exact .inr (.inr (hhd q h))
    ·rcases hold q hq with h | h | h
     ·exact .inl (hx5.imm q h)
     ·exact .inr (.inl h)
     ·by_cases hi4 : g4.imm q
      ·exact .inl hi4
      ·by_cases hql : q = l3.blk
       ·exact .inr (.inl hql)
       ·exact .inr (.inr ⟨hql, hi4, .inl h, Nat.lt_of_lt_of_le (Nat.lt_of_lt_of_le hq hi.exw.size) hx5.size⟩)
   cases j with
   | none =>
    obtain ⟨H', imm', k1, k2, k3⟩ := key okT hT hE
    exact ⟨H', imm', rfl, k1, k2, fun _ => k3, fun h => by cases h⟩
   | some j =>
    obtain ⟨H', imm', k1, k2, k3⟩ := key okF hF hE
    exact ⟨H', imm', rfl, k1, k2, (fun h => by cases h), fun _ => k3⟩
  refine hQ hm q.body g' a' _ (some l2.blk) _ q8 d1 hro2 (fun j S3 g3 a3 w3 hE hs3 hx3 => ?_) PanOK.frm
  obtain ⟨v, w4, hrun, hR⟩ := fin j S3 g3 a3 w3 hE hs3 (hx2.trans hx3)
  cases j with
  | none => exact ⟨v, w4, hrun, hR⟩
  | some j =>
   cases j with
   | ret => exact ⟨v, w4, hrun, hR⟩
   | exit id => exact ⟨v, w4, hrun, hR⟩
end
end Go.TV
/- The value calculus, part 2I: the statement that ranges over an iterator. -/
namespace Go.TV
open Go.RowKit
section
variable {P : Program} {r : Fr}
theorem hget_append_lt : ∀ {h : List LB} {k : List LB} {n : Nat}, n < h.length → hget (h ++ k) n = hget h n
 | [], _, _, h => by simp at h
 | _ :: _, _, 0, _ => rfl
 | _ :: h, k, n + 1, hn => by simpa [hget] using hget_append_lt (h := h) (k := k) (by simpa using hn)
theorem hget_append_at : ∀ {h : List LB} {b : LB}, hget (h ++ [b]) h.length = b
 | [], _ => rfl
 | _ :: h, b => by simpa [hget] using hget_append_at (h := h) (b := b)
theorem hget_ge : ∀ {h : List LB} {n : Nat}, h.length ≤ n → hget h n = .dead
 | [], _, _ => rfl
 | _ :: h, 0, hn => by simp at hn
 | _ :: h, n + 1, hn => by simpa [hget] using hget_ge (h := h) (by simpa using hn)
theorem Sim.push {g : Gh} {S : St} {a : Act} {w : World} (hs : Sim P g S a w) (o : Obj) (lb : LB) (hlb : ∀ g', g'.ι S.h.length = some ⟨w.heap.size, 0, 0⟩ → Ext g w g' (w.alloc o) (fun _ => False) → lbden P (w.alloc o) g' S.h.length lb) :
  ∃ g', Sim P g' ⟨S.σ, S.h ++ [lb], S.mks⟩ a (w.alloc o) ∧ Ext g w g' (w.alloc o) (fun _ => False) ∧ g'.ι S.h.length = some ⟨w.heap.size, 0, 0⟩ ∧ g'.dom S.h.length := by
 have hfr : ¬ g.dom S.h.length := fun h => Nat.lt_irrefl _ (hs.lt _ h)
 obtain ⟨x1, x2⟩ := ext_alloc (U := fun _ => False) hs.ok hfr o 0 0
 refine ⟨_, ⟨x1, fun b hb => ?_, x2.denL hs.ok hs.tm, fun b => ?_, x2.df hs.df⟩, x2, Gh.add_ι_self _ _ _, .inr rfl⟩
 ·rcases hb with hb | hb
  ·have := hs.lt b hb; simp; omega
  ·subst hb; simp
 ·rcases Nat.lt_trichotomy b S.h.length with h | h | h
  ·simp only
   rw [hget_append_lt h]
   exact x2.lb hs.ok (fun h => h) (fun _ _ h => h) (hs.hp b)
  ·subst h
   simp only
   rw [hget_append_at]
   exact hlb _ (Gh.add_ι_self _ _ _) x2
  ·simp only
   rw [hget_ge (by simp; omega)]
   trivial
theorem Sim.forget {g : Gh} {σ : List SV} {h : List LB} {mks : List Nat} {a : Act} {w : World} (hs : Sim P g ⟨σ, h, mks⟩ a w) (n : Nat) : Sim P g ⟨σ, h.set n .dead, mks⟩ a w := by
 refine ⟨hs.ok, fun b hb => by simpa using hs.lt b hb, hs.tm, fun b => ?_, hs.df⟩
 have key : ∀ (h : List LB) (n c : Nat), hget (h.set n .dead) c = .dead ∨ hget (h.set n .dead) c = hget h c := by
  intro h
  induction h with
  | nil => intro n c; exact .inr rfl
  | cons x h ih =>
   intro n c
   cases n <;> cases c <;> simp [hget]
   exact ih _ _
 rcases key h n b with e | e
 ·simp only; rw [e]; trivial
 ·simp only; rw [e]; exact hs.hp b
theorem Sim.unset {g : Gh} {σ : List SV} {h : List LB} {mks : List Nat} {a : Act} {w : World} {n : Nat} {b : LB} (hs : Sim P g ⟨σ, h.set n b, mks⟩ a w) : Sim P g ⟨σ, h.set n .dead, mks⟩ a w := by
 have := hs.forget n
 simpa using this
theorem Exw.alloc {B : Nat} {g : Gh} {w : World} (hg : GOk g w) (o : Obj) : Exw B g w g (w.alloc o) :=
 ⟨rfl, rfl, rfl, by simp, fun _ _ h => h, fun _ _ _ => .inl rfl, fun _ h => h, fun h => h, rfl, fun r hr => .inl hr, fun r hr _ _ => Below.heap_alloc _ _ _ hr, fun b l hl => .inr ⟨b, l, hl, rfl⟩, fun r hr => .inl hr⟩
theorem Sim.mark {g : Gh} {S : St} {a : Act} {w : World} (hs : Sim P g S a w) : Sim P g S { a with defers := markOf w.heap.size :: a.defers } (w.alloc (.deferred (some []))) := by
 have hx : Exw 0 g w g (w.alloc (.deferred (some []))) := Exw.alloc hs.ok _
 have hsz : (w.alloc (.deferred (some []))).heap.size = w.heap.size + 1 := by simp
 have hold : ∀ r, r < w.heap.size → (w.alloc (.deferred (some []))).heap[r]? = w.heap[r]? := fun r hr => Below.heap_alloc _ _ _ hr
 have hext : Ext g w g (w.alloc (.deferred (some []))) (fun _ => False) := ⟨rfl, rfl, rfl, by simp, fun _ h => h, fun _ _ => ⟨fun _ => rfl, .inl rfl⟩, fun _ h => h, rfl, rfl, fun r hr _ => hold r hr, fun _ _ h => .inl h, fun _ h => .inl h⟩
 refine ⟨⟨fun b l hl => let ⟨x, y, z⟩ := hs.ok.own b l hl; ⟨x, by omega, z⟩, hs.ok.inj, fun r hr => by have := hs.ok.immlt r hr; omega, fun r hr => by have := hs.ok.hlt r hr; omega, hs.ok.himm, hs.ok.hown, by have := hs.ok.flr; omega⟩, hs.lt, hext.denL hs.ok hs.tm, fun b => hext.lb hs.ok (fun h => h) (fun _ _ h => h) (hs.hp b), ?_⟩
 obtain ⟨rs, e1, e2, e3⟩ := hext.df hs.df
 obtain ⟨rs', f1, f2, f3⟩ := hs.df
 have hlt : ∀ r ∈ rs, r < w.heap.size := by
  have hrs : rs = rs' := by
   rw [e1] at f1
   have : Function.Injective markOf := fun a b h => by simpa [markOf] using h
   exact List.map_inj_right this |>.1 f1
  intro r hr
  rw [hrs] at hr
  exact (Array.getElem?_eq_some_iff.1 (f3 r hr).2.1).1
 refine ⟨w.heap.size :: rs, by simp [e1], List.nodup_cons.2 ⟨fun h => Nat.lt_irrefl _ (hlt _ h), e2⟩, fun r hr => ?_⟩
 rcases List.mem_cons.1 hr with rfl | hr
 ·exact ⟨hs.ok.flr, World.alloc_heap_new w _, fun b l hl e => by have := (hs.ok.own b l hl).2.1; omega, fun h => by have := hs.ok.hlt _ h; omega, fun h => by have := hs.ok.immlt _ h; omega⟩
 ·exact e3 r hr
theorem TW.rfunc {x : TOpd} {ps : List Nat} {as bd : TCode} {S : St} {Q : Option Jump → St → Prop} {f : FuncId} {fs cs : List SV} {ys : List (List SV)} (o : Bool) (σc : List SV) (nl : Nat)
  (hnl : nl = S.h.length) (hx : gv S.σ x = .fn f fs cs) (hcf : cloL fs) (hcc : cloL cs) (hit : IT P f fs cs ys) (hlen : ∀ y ∈ ys, y.length = ps.length)
  (ho : match r.lp with
   | none => o = true
   | some b => o = false ∧ loopK (hget S.h b) fun _ _ _ _ => True)
  (hB : r.base ≤ nl + 1) (hσ : fitL [] (nl + 1) σc σc True)
  (ok : Nat → List LB → Prop) (okF : Jump → List LB → Prop)
  (h0 : ∃ h1, Wk P (nl + 1) ⟨S.σ, (S.h ++ [.loop .ready none S.σ ps as bd]), S.mks⟩ ⟨σc, h1, S.mks⟩ ∧ ok 0 h1)
  (hget1 : ∀ i h, ok i h → hget h nl = .loop .ready none σc ps as bd) (hget2 : ∀ j h, okF j h → ∃ σ ps as bd, hget h nl = .loop .done (some j) σ ps as bd)
  (hround : ∀ i y h, ys[i]? = some y → ok i h → RoundT P (frm (some nl) (nl + 1) r.opn) nl as bd ⟨putPs σc ps y, h, []⟩ fun j h3 => match j with
   | none => ∃ h4, WkH P (nl + 1) h3 h4 ∧ ok (i + 1) h4
   | some j => ∃ h4, WkH P (nl + 1) h3 h4 ∧ okF j h4)
  (hQ : ∀ h, ok ys.length h → Q none ⟨σc, h.set nl .dead, S.mks⟩) (hQF : ∀ j h, okF j h → Q (some j) ⟨σc, h.set nl .dead, S.mks⟩) : TW P r (.rfunc x ps as bd) S Q := by
 intro hm k g a w ro Q' hk hs hr hh hp
 cases k <;> first | (cases hk; done) | skip
 rename_i kf kps kas kbd
 simp only [comp, TCode.rfunc.injEq] at hk
 obtain ⟨rfl, hkp, hka, hkb⟩ := hk
 have hfd : g.den w (gv S.σ (cOpd kf)) (a.eval kf) := opd_den kf fun t _ => getS_den hs.tm t
 rw [hx] at hfd
 simp only [Gh.den, den] at hfd
 obtain ⟨vf, vc, hfv, df1, df2⟩ := hfd
 refine wpIn_rangeFunc fun fn _ => ?_
 -- the record is laid
 have henter : ∃ (l : Nat) (mark : List Deferred) (w1 : World) (g1 : Gh), (Instr.enterLoop fn a.tmps kps kas kbd (Fn ro).round).run P w = .ok (l, mark) w1 ∧
   Sim P g1 ⟨S.σ, (S.h ++ [.loop .ready none S.σ ps as bd]), S.mks⟩ { a with defers := mark ++ a.defers } w1 ∧ Exw r.base g w g1 w1 ∧ (∃ ll, g1.ι nl = some ll ∧ ll.blk = l) := by
  have hround : (Fn ro).round = ro := rfl
  rw [hround]
  cases o with
  | true =>
   have hro : ro = none := by
    have h2 := hr.2
    cases hlp : r.lp with
    | none => rw [hlp] at h2; exact h2
    | some b => rw [hlp] at ho; exact absurd ho.1 (by simp)
   subst hro
   obtain ⟨g2, s2, x2, i2, d2⟩ := (Sim.mark hs).push (.loop { state := .ready, pending := none, fn, tmps := a.tmps, params := kps, assign := kas, body := kbd, defers := w.heap.size }) (.loop .ready none S.σ ps as bd) fun g' hg' hx' =>
    ⟨_, fn, a.tmps, kas, kbd, w.heap.size, hg', by rw [← hkp]; simpa using World.alloc_heap_new (w.alloc (.deferred (some []))) _, hx'.denL (Sim.mark hs).ok (Sim.mark hs).tm, hka, hkb⟩
   refine ⟨_, _, _, g2, run_enterLoop_outer fn a.tmps kps kas kbd, s2, (Exw.alloc hs.ok _).trans (x2.exw _), ⟨⟨(w.alloc (.deferred (some []))).heap.size, 0, 0⟩, ?_, ?_⟩⟩
   ·rw [hnl]; simpa using i2
   ·simp
  | false =>
   have hlp : ∃ b, r.lp = some b ∧ loopK (hget S.h b) fun _ _ _ _ => True := by
    cases hlp : r.lp with
    | none => rw [hlp] at ho; cases ho
    | some b => rw [hlp] at ho; exact ⟨b, rfl, ho.2⟩
   obtain ⟨b, hlp, hb⟩ := hlp
   obtain ⟨st, pend, σb, psb, asb, bdb, eb, _⟩ := loopK_spec hb
   obtain ⟨lb, qb, b1, b2, _⟩ := hs.loopAt eb
   have h2 := hr.2
   rw [hlp] at h2
   obtain ⟨_, _, q, rfl, hq⟩ := h2
   have := hq lb b1
   subst this
   obtain ⟨g2, s2, x2, i2, d2⟩ := hs.push (.loop { state := .ready, pending := none, fn, tmps := a.tmps, params := kps, assign := kas, body := kbd, defers := qb.defers }) (.loop .ready none S.σ ps as bd) fun g' hg' hx' =>
    ⟨_, fn, a.tmps, kas, kbd, qb.defers, hg', by rw [← hkp]; simpa using World.alloc_heap_new w _, hx'.denL hs.ok hs.tm, hka, hkb⟩
   refine ⟨_, _, _, g2, run_enterLoop_inner b2 fn a.tmps kps kas kbd, ?_, x2.exw _, ⟨⟨w.heap.size, 0, 0⟩, ?_, ?_⟩⟩
   ·simpa using s2
   ·rw [hnl]; simpa using i2
   ·rfl
 obtain ⟨l, mark, w1, g1, e1, s1, x1, ⟨ll, hll, hlb⟩⟩ := henter
 subst hlb
 obtain ⟨t, ht⟩ := hit.ok
 obtain ⟨h1, hwk, hok0⟩ := h0
 obtain ⟨g2, s2, x2⟩ := hwk g1 _ w1 s1
 have hx12 : Exw r.base g w g2 w1 := x1.trans (x2.le hB)
 have hll2 : g2.ι nl = some ll := by
  have := s2.hp nl
  simp only at this
  rw [hget1 0 h1 hok0] at this
  obtain ⟨l5, fn', tmps, ac, bc, d, z1, _⟩ := this
  rcases x2.ι nl (by omega) (s1.ok.own nl ll hll).1 with h | h
  ·rw [h, hll]
  ·rw [h] at z1; cases z1
 have hol := s2.ok.own nl ll hll2
 -- the call
 refine ⟨ll.blk, mark, w1, { target := .fn (.func f) (vc.toArray), args := (vf ++ [Value.func (.yield ll.blk) #[] #[]]).toArray }, w1, f, (vf ++ Value.func (.yield ll.blk) #[] #[] :: vc).toArray, w1, e1, ?_, fun _ _ => trivial, ?_, (fun h => by simp [Fn, Fence.wide] at h), ?_⟩
 ·simp only [rangeCall, resolve, hfv, Deferred.ofValue]
  simp [Act.eval]
 ·simp only [invoke]
  rw [run_callFunc ht]
  simp
 ·let H0 : Nat → Prop := fun q => q < w1.heap.size ∧ ¬ g2.imm q ∧ q ≠ ll.blk
  have hap : Apart ll.blk H0 g2.imm w1 := ⟨hol.2.1, fun q hq => hq.1, s2.ok.immlt, fun q hq => hq.2.1, hol.2.2, fun h => h.2.2 rfl⟩
  have htok0 : Tok (RTok P r ro g2 w1 { a with defers := mark ++ a.defers } σc (S.mks) nl (ok 0)) ll.blk H0 g2.imm w1 := by
   refine RTok.tok ⟨g2, h1, hok0, ⟨s2, Exw.refl _ _ _, s2.df, hx12.ro hr⟩, rfl, ⟨ll, hll2, rfl⟩, fun b l' hl => ?_, fun q hq => ?_, fun q hq => ?_⟩
   ·by_cases e : l'.blk = ll.blk
    ·exact .inl e
    ·have := s2.ok.own b l' hl
     exact .inr ⟨this.2.1, this.2.2, e⟩
   ·exact ⟨s2.ok.hlt q hq, s2.ok.himm q hq, fun e => s2.ok.hown nl ll hll2 (e ▸ hq)⟩
   ·by_cases h1 : g2.imm q
    ·exact .inl h1
    ·by_cases h2 : q = ll.blk
     ·exact .inr (.inl h2)
     ·exact .inr (.inr ⟨hq, h1, h2⟩)
  have hdf : ∀ {ss : List SV} {vs : List Value}, cloL ss → g.denL w ss vs → denL w1 g2.imm ss (fun _ => False) (fun _ => none) vs := fun hc hd =>
   cloL_den _ hc (denL.mono (D' := g.dom) (ι' := g.ι) hx12.imm (hx12.immHeap hs.ok) _ (fun _ h => h) (fun _ _ _ h => h) hd)
  have hcall := hit.run hm (fun i => RTok P r ro g2 w1 { a with defers := mark ++ a.defers } σc (S.mks) nl (ok i)) (RTok P r ro g2 w1 { a with defers := mark ++ a.defers } σc (S.mks) nl fun h => ∃ j, okF j h)
   (fun i y hy => roundT_ys (okT := ok (i + 1)) (okF := fun h => ∃ j, okF j h) hm hB (by omega) hσ (hlen y (List.mem_of_getElem? hy)) (fun h hh => ⟨_, _, _, _, _, _, hget1 _ h hh⟩) (fun h ⟨j, hh⟩ => by
     obtain ⟨σ', ps', as', bd', e⟩ := hget2 j h hh
     exact ⟨_, _, _, _, _, _, e⟩) fun h hh => ⟨hget1 i h hh, by
     have hRT := hround i y h hy hh
     refine TW.mono hRT fun j S' hj => ?_
     cases j with
     | some j => exact hj
     | none =>
      simp only at hj ⊢
      obtain ⟨σ', ps', as', bd', e, hj⟩ := loopRK_spec hj
      rw [e]
      simp only [loopRK]
      have mono : ∀ {h : List LB} {n : Nat} {b : LB} {k k' : List LB → Prop}, (∀ l, k l → k' l) → updGo h n b k → updGo h n b k' := by
       intro h
       induction h with
       | nil => intro n b k k' hk hu; cases n <;> first | exact hk _ hu | exact hu
       | cons x h ih => intro n b k k' hk hu; cases n <;> first | exact hk _ hu | exact ih (fun l => hk _) hu
      refine mono (fun h2 hT => TW.mono hT fun j S3 hE => ?_) hj
      unfold endR at hE ⊢
      obtain ⟨st3, pend3, σ3, ps3, as3, bd3, e3, hE⟩ := loopK_spec hE
      rw [e3]
      simp only [loopK]
      refine mono (fun h3 hR => ?_) hE
      cases j with
      | none => exact hR
      | some j => obtain ⟨h4, q1, q2⟩ := hR; exact ⟨h4, q1, j, q2⟩⟩)
   ll.blk H0 g2.imm w1 vf vc hap (hdf hcf df1) (hdf hcc df2) htok0
  refine CallsIn_ro ro (hcall.mono ?_)
  rintro _ w3 ⟨v, H', imm', rfl, hap', hend⟩
  have fin : ∀ (okX : List LB → Prop) (j : Option Jump) (st : LoopState), st ≠ .busy → (∀ h, okX h → ∃ σ ps as bd, hget h nl = .loop st j σ ps as bd) → (∀ h, okX h → Q j ⟨σc, h.set nl .dead, S.mks⟩) →
    RTok P r ro g2 w1 { a with defers := mark ++ a.defers } σc (S.mks) nl okX ll.blk H' imm' w3 → rangePost (Fn ro) 0 P ll.blk Q' { a with defers := mark ++ a.defers } (.returned v) w3 := by
   rintro okX j st hst hgX hQX ⟨g3, h3, hok3, hi3, hi4, ⟨l3, e3, e4⟩, hown, hhd, hold⟩
   obtain ⟨σ', ps', as', bd', hg3⟩ := hgX h3 hok3
   obtain ⟨l5, q, q1, q2, q3, q4, q5, q6, q7, q8, q9⟩ := hi3.sim.loopAt hg3
   rw [e3] at q1; cases q1
   obtain ⟨h', d1, d2, rfl⟩ := q9 .exhausted j
   have hpq : ({ q with state := .exhausted } : Loop) = { q with state := .exhausted, pending := j.map Jump.code } := by
    obtain ⟨⟩ := q
    simp at q5 ⊢
    exact q5
   have hrun := run_endLoop (P := P) q2 (by rw [q3]; exact hst)
   rw [e4, hpq] at hrun
   rw [e4] at d1 d2
   refine ⟨_, _, hrun, ?_⟩
   have hfin := hh j _ g3 { a with defers := mark ++ a.defers } _ (hQX h3 hok3) d1.unset (hx12.trans (hi3.exw.trans (d2.exw _)))
   rw [q5]
   cases j with
   | none => exact hfin
   | some j =>
    cases j with
    | ret => exact wpIn_ret hfin
    | exit id => exact wpIn_exit hfin
  rcases hend with hend | hend
  ·exact fin (ok ys.length) none .ready (by simp) (fun h hh => ⟨_, _, _, _, hget1 _ h hh⟩) hQ (hend _ _ (TStep.refl _ _ _ _) hap'.ilt)
  ·obtain ⟨g3, h3, ⟨j, hj⟩, rest⟩ := hend _ _ (TStep.refl _ _ _ _) hap'.ilt
   exact fin (okF j) (some j) .done (by simp) (hget2 j) (hQF j) ⟨g3, h3, hj, rest⟩
end
end Go.TV
/- The value calculus, part 2J: the rules for loops, as the evaluator meets them. -/
namespace Go.TV
open Go.RowKit
def upd1 (h : List LB) (b : Nat) (lb : LB) : List LB := if b < h.length then h.set b lb else h ++ [lb]
def mkH (h : List LB) (us : List (Nat × LB)) : List LB := us.foldl (fun h p => upd1 h p.1 p.2) h
def junkK : List Nat → List SV → (List SV → Prop) → Prop
 | [], σ, k => k σ
 | j :: js, σ, k => setK σ j .junk fun σ' => junkK js σ' k
def chK : List (Nat × SV) → List SV → (List SV → Prop) → Prop
 | [], σ, k => k σ
 | (n, s) :: ch, σ, k => forceK s fun s => setK σ n s fun σ' => chK ch σ' k
def mkσ (σ : List SV) (js : List Nat) (ch : List (Nat × SV)) : List SV := ch.foldl (fun σ p => σ.set p.1 p.2) (js.foldl (fun σ j => σ.set j .junk) σ)
def mkSt (S : St) (js : List Nat) (ch : List (Nat × SV)) (bl : List (Nat × LB)) : St := ⟨mkσ S.σ js ch, mkH S.h bl, S.mks⟩
def mkStK (S : St) (js : List Nat) (ch : List (Nat × SV)) (bl : List (Nat × LB)) (k : St → Prop) : Prop :=
 junkK js S.σ fun σ1 => chK ch σ1 fun σ2 => updK S.h bl fun h' => k ⟨σ2, h', S.mks⟩
theorem updGo_eq : ∀ {h : List LB} {b : Nat} {lb : LB} {k : List LB → Prop}, updGo h b lb k → k (upd1 h b lb)
 | [], 0, lb, k, hk => hk
 | [], _ + 1, lb, k, hk => hk.elim
 | x :: h, 0, lb, k, hk => by simpa [upd1, updGo] using hk
 | x :: h, n + 1, lb, k, hk => by
  have := updGo_eq (h := h) hk
  unfold upd1 at this ⊢
  by_cases hn : n < h.length
  ·rw [if_pos hn] at this; rw [if_pos (by simpa using hn)]; exact this
  ·rw [if_neg hn] at this; rw [if_neg (by simpa using hn)]; exact this
theorem updK_eq : ∀ {us : List (Nat × LB)} {h : List LB} {k : List LB → Prop}, updK h us k → k (mkH h us)
 | [], _, _, hk => hk
 | (b, lb) :: us, h, k, hk => updK_eq (us := us) (updGo_eq hk)
theorem junkK_eq : ∀ {js : List Nat} {σ : List SV} {k : List SV → Prop}, junkK js σ k → k (js.foldl (fun σ j => σ.set j .junk) σ)
 | [], _, _, h => h
 | j :: js, σ, k, h => junkK_eq (js := js) ((setK_iff _ _ _ _).1 h)
theorem chK_eq : ∀ {ch : List (Nat × SV)} {σ : List SV} {k : List SV → Prop}, chK ch σ k → k (ch.foldl (fun σ p => σ.set p.1 p.2) σ)
 | [], _, _, h => h
 | (n, s) :: ch, σ, k, h => chK_eq (ch := ch) ((setK_iff _ _ _ _).1 (forceK_iff.1 h))
theorem mkStK_eq {S : St} {js : List Nat} {ch : List (Nat × SV)} {bl : List (Nat × LB)} {k : St → Prop} (h : mkStK S js ch bl k) : k (mkSt S js ch bl) :=
 updK_eq (k := fun h' => k ⟨_, h', S.mks⟩) (chK_eq (k := fun σ2 => updK S.h bl fun h' => k ⟨σ2, h', S.mks⟩) (junkK_eq h))
def asgR : List TOper → List Nat
 | [] => []
 | t :: ts => match t.dst with
  | none => asgR ts
  | some n => n :: asgR ts
def catN : List Nat → List Nat → List Nat
 | [], l => l
 | x :: xs, l => x :: catN xs l
def asg : TCode → List Nat
 | .region _ ops => asgR ops
 | .seq a b => catN (asg a) (asg b)
 | .cond _ a b => catN (asg a) (asg b)
 | .block _ c => asg c
 | .loop c => asg c
 | .scope c => asg c
 | _ => []
section
variable {P : Program} {r : Fr}
theorem TWq.loop {α : Type} (ch : α → List (Nat × SV)) (bl : α → List (Nat × LB)) (pre : α → Prop) (μ : α → Nat) (x0 : α) (p0 p1 : List (Nat × Nat)) {c : TCode} {S : St} {Q : Option Jump → St → Prop}
  (h0 : Ev (mkStK S (asg c) (ch x0) (bl x0) fun T => fitS r.base p0 S T)) (hp : pre x0)
  (step : ∀ x, pre x → Ev (mkStK S (asg c) (ch x) (bl x) fun S1 => evC P r c S1 fun j S' => match j with
   | none => Vc (∃ y, pre y ∧ μ y < μ x ∧ Ev (mkStK S (asg c) (ch y) (bl y) fun T => fitS r.base p1 S' T))
   | some j => Q (some j) S')) : TWq P r (.loop c) S Q := by
 rw [TWq_iff]
 refine TW.loop (fun x => mkSt S (asg c) (ch x) (bl x)) pre μ x0 (Wk.fit p0 (mkStK_eq h0.at)) hp fun x hx => ?_
 have := mkStK_eq (step x hx).at
 refine TW.mono (evC_sound this) fun j S' h => ?_
 cases j with
 | none =>
  obtain ⟨y, h1, h2, h3⟩ := h.h
  exact ⟨y, Wk.fit p1 (mkStK_eq h3.at), h1, h2⟩
 | some j => exact h
theorem TWq.wk {c : TCode} {S S' : St} {Q : Option Jump → St → Prop} (hw : Wk P r.base S S') (h : TWq P r c S' Q) : TWq P r c S Q := by
 rw [TWq_iff] at h ⊢; exact TW.wk hw h
def catB : List LB → List LB → (List LB → Prop) → Prop
 | [], l, k => k l
 | x :: xs, l, k => catB xs l fun r => k (x :: r)
theorem catB_eq : ∀ {xs l : List LB} {k : List LB → Prop}, catB xs l k → k (xs ++ l)
 | [], _, _, h => h
 | x :: xs, l, k, h => by simpa using catB_eq (xs := xs) h
def putPsK : List Nat → List SV → List SV → (List SV → Prop) → Prop
 | [], _, σ, k => k σ
 | p :: ps, ys, σ, k => match ys with
  | [] => k σ
  | y :: ys => forceK y fun y => setK σ p y fun σ' => putPsK ps ys σ' k
theorem putPsK_eq : ∀ {ps : List Nat} {ys σ : List SV} {k : List SV → Prop}, putPsK ps ys σ k → k (putPs σ ps ys)
 | [], _, _, _, h => by simpa [putPsK, putPs] using h
 | p :: ps, [], σ, k, h => by simpa [putPsK, putPs] using h
 | p :: ps, y :: ys, σ, k, h => by
  simp only [putPsK, forceK_iff, setK_iff] at h
  simpa [putPs] using putPsK_eq (ps := ps) h
def enterK (S : St) (ps : List Nat) (as bd : TCode) (k : List LB → Nat → Prop) : Prop := lenK S.h fun n => catB S.h [.loop .ready none S.σ ps as bd] fun h => k h n
theorem enterK_eq {S : St} {ps : List Nat} {as bd : TCode} {k : List LB → Nat → Prop} (h : enterK S ps as bd k) : k (S.h ++ [LB.loop .ready none S.σ ps as bd]) S.h.length := catB_eq (lenK_iff _ _ h)
def lpK (r : Fr) (o : Bool) (h : List LB) (k : Prop) : Prop :=
 match r.lp, o with
 | none, true => k
 | some b, false => loopK (hget h b) fun _ _ _ _ => k
 | _, _ => False
theorem lpK_spec {o : Bool} {h : List LB} {k : Prop} (hk : lpK r o h k) : (match r.lp with
   | none => o = true
   | some b => o = false ∧ loopK (hget h b) fun _ _ _ _ => True) ∧ k := by
 unfold lpK at hk
 split at hk
 ·rename_i e; rw [e]; exact ⟨rfl, hk⟩
 ·rename_i b e
  rw [e]
  obtain ⟨st, pend, σ, ps, as, bd, e2, h2⟩ := loopK_spec hk
  exact ⟨⟨rfl, by rw [e2]; trivial⟩, h2⟩
 ·exact hk.elim
def endE (nl : Nat) (h1 : List LB) (p1 : List (Nat × Nat)) (us : List (Nat × LB)) (h3 : List LB) : Prop := updK h1 us fun T => fitS (nl + 1) p1 ⟨[], h3, []⟩ ⟨[], T, []⟩
theorem TWq.rng {γ α β : Type} (o : Bool) (L : List γ) (enc : γ → List SV) (bl : Nat → α → List (Nat × LB)) (pre : Nat → α → Prop) (x0 : α) (je : β → Jump) (ble : β → List (Nat × LB)) (preE : β → Prop) (p0 p1 p2 : List (Nat × Nat))
  {x : TOpd} {ps : List Nat} {as bd : TCode} {S : St} {Q : Option Jump → St → Prop} {f : FuncId} {fs cs : List SV} (hx : gv S.σ x = .fn f fs cs) (hit : IT P f fs cs (L.map enc)) (hcf : cloL fs) (hcc : cloL cs) (hlen : ∀ v, (enc v).length = ps.length)
  (hp : pre 0 x0)
  (h0 : Ev (enterK S ps as bd fun h1 nl => lpK r o S.h (ltK r.base (nl + 2) (updK h1 (bl 0 x0) fun T => fitS (nl + 1) p0 ⟨S.σ, h1, S.mks⟩ ⟨S.σ, T, S.mks⟩))))
  (hσ : Ev (enterK S ps as bd fun _ nl => fitL [] (nl + 1) S.σ S.σ True))
  (hbl : ∀ i x, pre i x → Ev (enterK S ps as bd fun h1 nl => updK h1 (bl i x) fun T => hget T nl = .loop .ready none S.σ ps as bd))
  (hround : ∀ i v x, L[i]? = some v → pre i x → Ev (enterK S ps as bd fun h1 nl => updK h1 (bl i x) fun h => putPsK ps (enc v) S.σ fun σ =>
   evC P (frm (some nl) (nl + 1) r.opn) as ⟨σ, h, []⟩ fun j S' => match j with
    | some _ => False
    | none => loopRK (hget S'.h nl) fun σ' ps' as' bd' => updGo S'.h nl (.loop .busy none σ' ps' as' bd') fun h2 => evC P (frm (some nl) (nl + 1) r.opn) bd ⟨S'.σ, h2, S'.mks⟩ fun j S3 => match j with
     | none => endR nl none S3 fun h3 => Vc (∃ x', pre (i + 1) x' ∧ Ev (endE nl h1 p1 (bl (i + 1) x') h3))
     | some j => endR nl (some j) S3 fun h3 => Vc (∃ z, je z = j ∧ preE z ∧ Ev (updK h1 (ble z) fun h1' => endE nl h1' p2 [(nl, .loop .done (some j) S.σ ps as bd)] h3))))
  (hQ : ∀ x, pre L.length x → Ev (enterK S ps as bd fun h1 nl => updK h1 (bl L.length x) fun h => updGo h nl .dead fun h' => Q none ⟨S.σ, h', S.mks⟩))
  (hQF : ∀ z, preE z → Ev (enterK S ps as bd fun h1 nl => updK h1 (ble z) fun h => updGo h nl .dead fun h' => Q (some (je z)) ⟨S.σ, h', S.mks⟩)) : TWq P r (.rfunc x ps as bd) S Q := by
 rw [TWq_iff]
 have h0 := enterK_eq h0.at
 obtain ⟨hlp, h0⟩ := lpK_spec h0
 simp only [ltK_iff] at h0
 obtain ⟨hB, h0⟩ := h0
 have h0 := updK_eq h0
 have hσ := enterK_eq hσ.at
 have hlenH : S.h.length < (S.h ++ [LB.loop .ready none S.σ ps as bd]).length := by simp
 generalize hnl : S.h.length = nl at *
 have hset : ∀ (h : List LB) (us : List (Nat × LB)), nl < h.length → nl < (mkH h us).length := by
  intro h us
  induction us generalizing h with
  | nil => exact id
  | cons u us ih =>
   intro hn
   refine ih (upd1 h u.1 u.2) ?_
   unfold upd1
   split
   ·simpa using hn
   ·simp; omega
 have hup : ∀ (h : List LB) (b : LB), nl < h.length → upd1 h nl b = h.set nl b := fun h b hn => if_pos hn
 refine TW.rfunc (ok := fun i h => ∃ x, pre i x ∧ h = mkH (S.h ++ [LB.loop .ready none S.σ ps as bd]) (bl i x))
  (okF := fun j h => ∃ z, je z = j ∧ preE z ∧ h = upd1 (mkH (S.h ++ [LB.loop .ready none S.σ ps as bd]) (ble z)) nl (.loop .done (some j) S.σ ps as bd)) o S.σ nl hnl.symm hx hcf hcc hit ?_ hlp (by omega) hσ
  ⟨_, Wk.fit p0 h0, x0, hp, rfl⟩ ?_ ?_ ?_ ?_ ?_
 ·intro y hy
  obtain ⟨v, _, rfl⟩ := List.mem_map.1 hy
  exact hlen v
 ·rintro i h ⟨x, hx, rfl⟩
  have := enterK_eq (hbl i x hx).at
  rw [hnl] at this
  exact updK_eq this
 ·rintro j h ⟨z, rfl, _, rfl⟩
  refine ⟨S.σ, ps, as, bd, ?_⟩
  rw [hup _ _ (hset _ _ hlenH)]
  have key : ∀ (h : List LB) (n : Nat) (b : LB), n < h.length → hget (h.set n b) n = b := by
   intro h
   induction h with
   | nil => intro n b hn; simp at hn
   | cons x h ih =>
    intro n b hn
    cases n
    ·rfl
    ·exact ih _ _ (by simpa using hn)
  exact key _ _ _ (hset _ _ hlenH)
 ·rintro i y h hy ⟨x, hx, rfl⟩
  rw [List.getElem?_map, Option.map_eq_some_iff] at hy
  obtain ⟨v, hv, rfl⟩ := hy
  have h1 := enterK_eq (hround i v x hv hx).at
  rw [hnl] at h1
  have h1 := evC_sound (putPsK_eq (updK_eq h1))
  refine TW.mono h1 fun j S' h => ?_
  cases j with
  | some j => exact h
  | none =>
   simp only at h ⊢
   obtain ⟨σ', ps', as', bd', e, h⟩ := loopRK_spec h
   rw [e]
   simp only [loopRK]
   have mono : ∀ {h : List LB} {n : Nat} {b : LB} {k k' : List LB → Prop}, (∀ l, k l → k' l) → updGo h n b k → updGo h n b k' := by
    intro h
    induction h with
    | nil => intro n b k k' hk hu; cases n <;> first | exact hk _ hu | exact hu
    | cons x h ih => intro n b k k' hk hu; cases n <;> first | exact hk _ hu | exact ih (fun l => hk _) hu
   refine mono (fun h2 hT => TW.mono (evC_sound hT) fun j S3 hE => ?_) h
   cases j with
   | none =>
    unfold endR at hE ⊢
    obtain ⟨st3, pend3, σ3, ps3, as3, bd3, e3, hE⟩ := loopK_spec hE
    rw [e3]
    simp only [loopK]
    refine mono (fun h3 hR => ?_) hE
    obtain ⟨x', q1, q2⟩ := hR.h
    exact ⟨_, Wk.fit p1 (updK_eq q2.at), x', q1, rfl⟩
   | some j =>
    unfold endR at hE ⊢
    obtain ⟨st3, pend3, σ3, ps3, as3, bd3, e3, hE⟩ := loopK_spec hE
    rw [e3]
    simp only [loopK]
    refine mono (fun h3 hR => ?_) hE
    obtain ⟨z, rfl, q0, q2⟩ := hR.h
    have q2 := updK_eq (updK_eq q2.at)
    exact ⟨_, Wk.fit p2 q2, z, rfl, q0, rfl⟩
 ·rintro h ⟨x, hx, rfl⟩
  rw [List.length_map] at hx ⊢
  have := enterK_eq (hQ x hx).at
  rw [hnl] at this
  have := updGo_eq (updK_eq this)
  rwa [hup _ _ (hset _ _ hlenH)] at this
 ·rintro j h ⟨z, rfl, hz, rfl⟩
  have := enterK_eq (hQF z hz).at
  rw [hnl] at this
  have := updGo_eq (updK_eq this)
  rw [hup _ _ (hset _ _ hlenH)] at this ⊢
  simpa using this
theorem IT.ev {f : FuncId} {t : TFn} {fs cs : List SV} {γ : Type} {L : List γ} {enc : γ → List SV} (hf : fnOf P f = some t) (hcf : cloL fs) (hcc : cloL cs)
  (hb : ∀ (Φ : Nat → TokP) (Ψ : TokP), (∀ (i : Nat) (v : γ), L[i]? = some v → YS P (Φ i) (enc v) (Φ (i + 1)) Ψ) →
   Ev (catK fs (.yield 0 :: cs) fun as => evC P (frm none 1 true) t.body ⟨fillJ as t.ntmps, [.tok (Φ 0)], []⟩ (endK t.results fun _ h' => Vc (hget h' 0 = .tok (Φ L.length) ∨ hget h' 0 = .tok Ψ)))) : IT P f fs cs (L.map enc) := by
 refine IT.of hf hcf hcc fun Φ Ψ hy => ?_
 have := catK_iff (hb Φ Ψ fun i v hv => hy i (enc v) (by simp [hv])).at
 rw [List.length_map]
 exact evC_sound this
end
end Go.TV
/- The value calculus, part 2K: calls whose result is a bool; slices against nil; maps looked up; blocks published. -/
namespace Go.TV
open Go.RowKit
section
variable {P : Program} {r : Fr}
theorem TSq.pureB {t : TOper} {ts : List TOper} {S : St} {K : St → Prop} {b : Bool} (hg : guardK S.σ t.guard (· = true)) (hF : calleeK S.σ t.op fun f args => PF P f args (· = .bool b) ∧ cloL args)
  (hT : b = true → Ev (setD S.σ t.dst (.bool true) fun σ' => evR P r ts ⟨σ', S.h, S.mks⟩ K)) (hN : b = false → Ev (setD S.σ t.dst (.bool false) fun σ' => evR P r ts ⟨σ', S.h, S.mks⟩ K)) : TSq P r (t :: ts) S K := by
 cases b with
 | true => exact TSq.pure hg hF (hT rfl)
 | false => exact TSq.pure hg hF (hN rfl)
theorem lend_mono (n : Nat) : (∀ {h : List LB} {s : SV} {k k' : SV → List Nat → Prop}, (∀ a b, k a b → k' a b) → lendK n h s k → lendK n h s k') ∧
  (∀ {h : List LB} {s : List SV} {k k' : List SV → List Nat → Prop}, (∀ a b, k a b → k' a b) → lendLK n h s k → lendLK n h s k') := by
 induction n with
 | zero => exact ⟨fun _ h => h.elim, fun _ h => h.elim⟩
 | succ n ih =>
  obtain ⟨ih1, ih2⟩ := ih
  constructor
  ·intro h s k k' hk hl
   cases s <;> simp only [lendK, forceK] at hl ⊢ <;> first | exact hk _ _ hl | exact hl.elim | skip
   ·split at hl <;> first | exact hl.elim | (rename_i e; exact ih2 (fun _ _ => hk _ _) hl)
   ·split at hl <;> first | exact hl.elim | exact ⟨hl.1, hk _ _ hl.2⟩
   ·split at hl <;> first | exact hl.elim | (rw [eqK_iff] at hl ⊢; exact ⟨hl.1, hl.2.1, hk _ _ hl.2.2⟩)
   ·split at hl <;> first | exact hl.elim | exact ⟨hl.1, hk _ _ hl.2⟩
   ·exact ih2 (fun _ _ => ih2 fun _ _ => hk _ _) hl
   ·exact ih2 (fun _ _ => hk _ _) hl
   ·exact ih2 (fun _ _ => hk _ _) hl
   ·exact ih1 (fun _ _ => hk _ _) hl
  ·intro h s k k' hk hl
   cases s <;> simp only [lendLK] at hl ⊢
   ·exact hk _ _ hl
   ·exact ih1 (fun _ _ => ih2 fun _ _ => hk _ _) hl
theorem TDq.pureB {t : TOper} {ts : List TOper} {S : St} {log : List Lg} {it : List Nat} {K : St → Prop} {b : Bool} (hg : guardK S.σ t.guard (· = true)) (hF : calleeK S.σ t.op fun f args => PF P f args (· = .bool b) ∧ cloL args)
  (hT : b = true → Ev (setD S.σ t.dst (.bool true) fun σ' => evD P r ts ⟨σ', S.h, S.mks⟩ (lgOf t [] [] :: log) it K)) (hN : b = false → Ev (setD S.σ t.dst (.bool false) fun σ' => evD P r ts ⟨σ', S.h, S.mks⟩ (lgOf t [] [] :: log) it K)) : TDq P r (t :: ts) S log it K := by
 cases b with
 | true => exact TDq.pure hg hF (hT rfl)
 | false => exact TDq.pure hg hF (hN rfl)
theorem calleeK_const {σ : List SV} {op : TOp} {f0 : FuncId} {a0 : List SV} {k : FuncId → List SV → Prop} (hF : calleeK σ op fun f a => f = f0 ∧ a = a0) (hk : k f0 a0) : calleeK σ op k :=
 calleeK_mono (fun f a h => by obtain ⟨rfl, rfl⟩ := h; exact hk) hF
theorem TSq.pureC {t : TOper} {ts : List TOper} {σ : List SV} {h : List LB} {mks : List Nat} {K : St → Prop} {f : FuncId} {args : List SV} {v : SV} (hc : PF P f args (· = v)) (hcl : cloL args) (hg : guardK σ t.guard (· = true)) (hF : calleeK σ t.op fun f' a => f' = f ∧ a = args)
  (hK : Ev (setD σ t.dst v fun σ' => evR P r ts ⟨σ', h, mks⟩ K)) : TSq P r (t :: ts) ⟨σ, h, mks⟩ K := TSq.pure hg (calleeK_const hF ⟨hc, hcl⟩) hK
theorem TSq.pureBC {t : TOper} {ts : List TOper} {σ : List SV} {h : List LB} {mks : List Nat} {K : St → Prop} {f : FuncId} {args : List SV} {b : Bool} (hc : PF P f args (· = .bool b)) (hcl : cloL args) (hg : guardK σ t.guard (· = true)) (hF : calleeK σ t.op fun f' a => f' = f ∧ a = args)
  (hT : b = true → Ev (setD σ t.dst (.bool true) fun σ' => evR P r ts ⟨σ', h, mks⟩ K)) (hN : b = false → Ev (setD σ t.dst (.bool false) fun σ' => evR P r ts ⟨σ', h, mks⟩ K)) : TSq P r (t :: ts) ⟨σ, h, mks⟩ K :=
 TSq.pureB hg (calleeK_const hF ⟨hc, hcl⟩) hT hN
theorem TDq.pureC {t : TOper} {ts : List TOper} {σ : List SV} {h : List LB} {mks : List Nat} {log : List Lg} {it : List Nat} {K : St → Prop} {f : FuncId} {args : List SV} {v : SV} (hc : PF P f args (· = v)) (hcl : cloL args) (hg : guardK σ t.guard (· = true)) (hF : calleeK σ t.op fun f' a => f' = f ∧ a = args)
  (hK : Ev (setD σ t.dst v fun σ' => evD P r ts ⟨σ', h, mks⟩ (lgOf t [] [] :: log) it K)) : TDq P r (t :: ts) ⟨σ, h, mks⟩ log it K := TDq.pure hg (calleeK_const hF ⟨hc, hcl⟩) hK
theorem TDq.pureBC {t : TOper} {ts : List TOper} {σ : List SV} {h : List LB} {mks : List Nat} {log : List Lg} {it : List Nat} {K : St → Prop} {f : FuncId} {args : List SV} {b : Bool} (hc : PF P f args (· = .bool b)) (hcl : cloL args) (hg : guardK σ t.guard (· = true)) (hF : calleeK σ t.op fun f' a => f' = f ∧ a = args)
  (hT : b = true → Ev (setD σ t.dst (.bool true) fun σ' => evD P r ts ⟨σ', h, mks⟩ (lgOf t [] [] :: log) it K)) (hN : b = false → Ev (setD σ t.dst (.bool false) fun σ' => evD P r ts ⟨σ', h, mks⟩ (lgOf t [] [] :: log) it K)) : TDq P r (t :: ts) ⟨σ, h, mks⟩ log it K :=
 TDq.pureB hg (calleeK_const hF ⟨hc, hcl⟩) hT hN
theorem TSq.pureQ {t : TOper} {ts : List TOper} {σ : List SV} {h : List LB} {mks : List Nat} {K : St → Prop} {f : FuncId} {args : List SV} {Q : SV → Prop} (ho : r.opn = false) (hc : PF P f args Q) (hcl : cloL args) (hg : guardK σ t.guard (· = true)) (hF : calleeK σ t.op fun f' a => f' = f ∧ a = args)
  (hK : ∀ s, Q s → clo s → Ev (setD σ t.dst s fun σ' => evR P r ts ⟨σ', h, mks⟩ K)) : TSq P r (t :: ts) ⟨σ, h, mks⟩ K :=
 TSq.call ho hg (calleeK_const hF (hc.tf hcl fun s h1 h2 => (hK s h1 h2).at))
theorem TSq.lendC {t : TOper} {ts : List TOper} {σ : List SV} {h : List LB} {mks : List Nat} {K : St → Prop} {f : FuncId} {args : List SV} {v : SV} (hc : PF P f args (· = v)) (hv : scal v) (hg : guardK σ t.guard (· = true)) (hF : calleeK σ t.op fun f' a => f' = f ∧ Ev (lendLK 60 h a fun a' _ => a' = args))
  (hK : Ev (setD σ t.dst v fun σ' => evR P r ts ⟨σ', h, mks⟩ K)) : TSq P r (t :: ts) ⟨σ, h, mks⟩ K := by
 refine TSq.lend hg (calleeK_mono (fun f' a h => ?_) hF) hv
 obtain ⟨rfl, h⟩ := h
 exact (lend_mono 60).2 (fun a' nb e => by subst e; exact ⟨hc, hK⟩) h.at
theorem TSq.lendBC {t : TOper} {ts : List TOper} {σ : List SV} {h : List LB} {mks : List Nat} {K : St → Prop} {f : FuncId} {args : List SV} {b : Bool} (hc : PF P f args (· = .bool b)) (hg : guardK σ t.guard (· = true)) (hF : calleeK σ t.op fun f' a => f' = f ∧ Ev (lendLK 60 h a fun a' _ => a' = args))
  (hT : b = true → Ev (setD σ t.dst (.bool true) fun σ' => evR P r ts ⟨σ', h, mks⟩ K)) (hN : b = false → Ev (setD σ t.dst (.bool false) fun σ' => evR P r ts ⟨σ', h, mks⟩ K)) : TSq P r (t :: ts) ⟨σ, h, mks⟩ K := by
 cases b with
 | true => exact TSq.lendC hc (by simp [scal]) hg hF (hT rfl)
 | false => exact TSq.lendC hc (by simp [scal]) hg hF (hN rfl)
theorem TDq.lendC {t : TOper} {ts : List TOper} {σ : List SV} {h : List LB} {mks : List Nat} {log : List Lg} {it : List Nat} {K : St → Prop} {f : FuncId} {args : List SV} {v : SV} (hc : PF P f args (· = v)) (hv : scal v) (hg : guardK σ t.guard (· = true))
  (hF : calleeK σ t.op fun f' a => f' = f ∧ Ev (lendLK 60 h a fun a' nb => a' = args ∧ Ev (setD σ t.dst v fun σ' => evD P r ts ⟨σ', h, mks⟩ (lgOf t [] nb :: log) it K))) : TDq P r (t :: ts) ⟨σ, h, mks⟩ log it K := by
 refine TDq.lend hg (calleeK_mono (fun f' a h => ?_) hF) hv
 obtain ⟨rfl, h⟩ := h
 exact (lend_mono 60).2 (fun a' nb e => by obtain ⟨rfl, e⟩ := e; exact ⟨hc, e⟩) h.at
theorem TSq.callT {t : TOper} {ts : List TOper} {σ : List SV} {h : List LB} {mks : List Nat} {K : St → Prop} (ho : r.opn = false) (hg : guardK σ t.guard (· = true))
  (hF : calleeK σ t.op fun f args => TF P f args h fun s h' => setD σ t.dst s fun σ' => Ev (evR P r ts ⟨σ', h', mks⟩ K)) : TSq P r (t :: ts) ⟨σ, h, mks⟩ K := by
 refine TSq.call ho hg (calleeK_mono (fun f a h => h.mono fun s h' q => ?_) hF)
 rw [setD_iff] at q ⊢
 exact q.at
theorem TSq.wk {ts : List TOper} {S S' : St} {K : St → Prop} (hw : Wk P r.base S S') (h : TSq P r ts S' K) : TSq P r ts S K := by
 rw [TSq_iff] at h ⊢
 intro hm A i g a w ro Q hd hs hr hq hp
 obtain ⟨g1, s1, e1⟩ := hw g a w hs
 exact h hm A i g1 a w ro Q hd s1 (e1.ro hr) (fun S'' g' a' w' q1 q2 q3 => hq S'' g' a' w' q1 q2 (e1.trans q3)) (hp.trans e1)
theorem TSq.go {ts : List TOper} {S : St} {K : St → Prop} (h : Ev (evR P r ts S K)) : TSq P r ts S K := by
 rw [TSq_iff]; exact evR_sound h.at
theorem TWq.loopP {α : Type} (ch : α → List (Nat × SV)) (bl : α → List (Nat × LB)) (pre : α → Prop) (μ : α → Nat) (x0 : α) (p0 : List (Nat × Nat)) {c : TCode} {S : St} {Q : Option Jump → St → Prop}
  (h0 : Ev (mkStK S (asg c) (ch x0) (bl x0) fun T => fitS r.base p0 S T)) (hp : pre x0)
  (step : ∀ x, pre x → Ev (mkStK S (asg c) (ch x) (bl x) fun S1 => evC P r c S1 fun j S' => match j with
   | none => Vc (∃ (p1 : List (Nat × Nat)) (y : α), pre y ∧ μ y < μ x ∧ Ev (mkStK S (asg c) (ch y) (bl y) fun T => fitS r.base p1 S' T))
   | some j => Q (some j) S')) : TWq P r (.loop c) S Q := by
 rw [TWq_iff]
 refine TW.loop (fun x => mkSt S (asg c) (ch x) (bl x)) pre μ x0 (Wk.fit p0 (mkStK_eq h0.at)) hp fun x hx => ?_
 have := mkStK_eq (step x hx).at
 refine TW.mono (evC_sound this) fun j S' h => ?_
 cases j with
 | none =>
  obtain ⟨p1, y, h1, h2, h3⟩ := h.h
  exact ⟨y, Wk.fit p1 (mkStK_eq h3.at), h1, h2⟩
 | some j => exact h
theorem getK_of {l : List SV} {n : Nat} {s : SV} {k : SV → Prop} (h : l[n]? = some s) (hk : Ev (k s)) : getK l n k := by
 induction l generalizing n with
 | nil => simp at h
 | cons a l ih =>
  cases n with
  | zero => simp at h; subst h; exact hk.at
  | succ n => exact ih (by simpa using h)
theorem upd_cases {k : SV} {es : List (SV × SV)} {A : List (SV × SV) → SV → List (SV × SV) → Prop} {B : Prop} (hn : (es.map (·.1)).Nodup)
  (h1 : ∀ pre v0 post, es = pre ++ (k, v0) :: post → A pre v0 post) (h2 : (∀ e ∈ es, k ≠ e.1) → B) :
  (∃ pre v0 post, es = pre ++ (k, v0) :: post ∧ (∀ e ∈ pre, k ≠ e.1) ∧ (∀ e ∈ post, k ≠ e.1) ∧ A pre v0 post) ∨ ((∀ e ∈ es, k ≠ e.1) ∧ B) := by
 by_cases h : ∃ v, (k, v) ∈ es
 ·obtain ⟨v0, hv⟩ := h
  obtain ⟨pre, post, rfl⟩ := List.append_of_mem hv
  simp only [List.map_append, List.map_cons, List.nodup_append, List.nodup_cons] at hn
  obtain ⟨n1, ⟨n2, n3⟩, n4⟩ := hn
  refine .inl ⟨pre, v0, post, rfl, fun e he => ?_, fun e he => ?_, h1 pre v0 post rfl⟩
  ·exact fun q => n4 e.1 (List.mem_map.2 ⟨e, he, rfl⟩) k (by simp) q.symm
  ·exact fun q => n2 (List.mem_map.2 ⟨e, he, q.symm⟩)
 ·have : ∀ e ∈ es, k ≠ e.1 := fun e he q => h ⟨e.2, by rw [q]; exact he⟩
  exact .inr ⟨this, h2 this⟩
theorem PF.fit {f : FuncId} {args args' : List SV} {Q : SV → Prop} (h : PF P f args Q) (hf : Ev (fitL [] 0 args args' True)) : PF P f args' Q :=
 ⟨h.ok, fun hm imm w vals h1 h2 => h.run hm imm w vals h1 (fitL_spec (D := fun _ => False) (D' := fun _ => False) (ι := fun _ => none) (ι' := fun _ => none) (fun _ _ h => h) (fun _ _ _ h => h) _ _ hf.at h2).2⟩
theorem PF.res {f : FuncId} {args : List SV} {Q Q' : SV → Prop} (h : PF P f args Q) (hq : ∀ s, Q s → clo s → ∃ s', Q' s' ∧ clo s' ∧ Ev (TV.fit [] 0 s' s True)) : PF P f args Q' :=
 ⟨h.ok, fun hm imm w vals h1 h2 => (h.run hm imm w vals h1 h2).mono fun _ _ ⟨v, s, imm', e, q, hc, hi, hd, rest⟩ => by
  obtain ⟨s', q1, q2, q3⟩ := hq s q hc
  exact ⟨v, s', imm', e, q1, q2, hi, (fit_spec (D := fun _ => False) (D' := fun _ => False) (ι := fun _ => none) (ι' := fun _ => none) (fun _ _ h => h) (fun _ _ _ h => h) s' s q3.at hd).2, rest⟩⟩
def isNilT : TOp → Bool
 | .isnil _ _ => true
 | _ => false
theorem cOp_isnil {op : Op} {neg : Bool} {x : TOpd} (h : cOp P op = .isnil neg x) : ∃ bo t e a b yt, op = .binOp bo t a b yt ∧ cOpd a = x ∧ cOpd b = .c .nils ∧ P.underlying t = some (.slice e) ∧ ((bo = .eql ∧ neg = false) ∨ (bo = .neq ∧ neg = true)) := by
 by_cases hb : ∃ bo t a b yt, op = .binOp bo t a b yt
 ·obtain ⟨bo, t, a, b, yt, rfl⟩ := hb
  have e : cOp P (.binOp bo t a b yt) = cBin P bo t a b := rfl
  rw [e] at h
  unfold cBin at h
  split at h
  ·split at h <;> cases h
  ·cases h
  ·rename_i el hu
   split at h
   ·rename_i hbb
    cases h
    exact ⟨_, _, _, _, _, _, rfl, rfl, hbb, hu, .inl ⟨rfl, rfl⟩⟩
   ·rename_i hbb
    cases h
    exact ⟨_, _, _, _, _, _, rfl, rfl, hbb, hu, .inr ⟨rfl, rfl⟩⟩
   ·cases h
  ·split at h
   ·cases h
   ·split at h <;> cases h
  ·cases h
 ·exfalso
  have : isNilT (cOp P op) = false := by
   cases op
   case binOp bo t a b yt => exact absurd ⟨bo, t, a, b, yt, rfl⟩ hb
   case call c =>
    have e : cOp P (.call c) = cCall P c := rfl
    rw [e]
    unfold cCall
    (repeat' split) <;> rfl
   all_goals
    unfold cOp
    (repeat' split) <;> first | rfl | (simp_all; done)
  rw [h] at this
  cases this
theorem toSV_nils {v : Value} (h : toSV 8 v = some .nils) : v = .slice none 0 0 := by
 have := toSV_den (w := default) (imm := fun _ => False) (D := fun _ => False) (ι := fun _ => none) 8 v .nils h
 simpa [den] using this
theorem TSq.isnil {t : TOper} {ts : List TOper} {S : St} {K : St → Prop} {neg : Bool} {x : TOpd} (hg : guardK S.σ t.guard (· = true)) (ht : t.op = .isnil neg x)
  (h : match gv S.σ x with
   | .nils => Ev (setD S.σ t.dst (.bool !neg) fun σ' => evR P r ts ⟨σ', S.h, S.mks⟩ K)
   | .sl _ es => (es = [] → Ev (setD S.σ t.dst (.bool !neg) fun σ' => evR P r ts ⟨σ', S.h, S.mks⟩ K)) ∧ Ev (setD S.σ t.dst (.bool neg) fun σ' => evR P r ts ⟨σ', S.h, S.mks⟩ K)
   | .own b => match hget S.h b with
    | .arr _ _ _ => Ev (setD S.σ t.dst (.bool neg) fun σ' => evR P r ts ⟨σ', S.h, S.mks⟩ K)
    | _ => False
   | _ => False) : TSq P r (t :: ts) S K := by
 rw [TSq_iff]
 intro hm A i g a w ro Q hd hs hr hq hp
 obtain ⟨o, hget', e, hdrop⟩ := drop_cons hd
 subst e
 have hget' : A[i]? = some o := by simpa using hget'
 rw [List.length_cons]
 obtain ⟨hdst, hc⟩ := cOper_cases P A false o
 rcases hc with ⟨hop, hgd⟩ | ⟨hbad, hgd⟩
 case inr => rw [hbad] at ht; cases ht
 have hw := guard_wanted hg hgd fun _ _ _ _ _ => getS_den hs.tm _
 refine wpOps_cons hget' ?_
 rw [if_pos hw]
 rw [hop] at ht
 obtain ⟨bo, ty, el, x', y', yt, ho, hx', hy', hu, hbo⟩ := cOp_isnil ht
 have hnd : ∀ c, o.op ≠ .defer c := by rw [ho]; simp
 rw [Oper.semAt_eq ro a.eval o hnd]
 have hxd : g.den w (gv S.σ (cOpd x')) (a.eval x') := opd_den x' fun t _ => getS_den hs.tm t
 rw [hx'] at hxd
 have hyv : a.eval y' = .slice none 0 0 := by
  cases y' with
  | tmp t => cases hy'
  | const v =>
   simp only [cOpd, TOpd.c.injEq] at hy'
   cases hv : toSV 8 v with
   | none => rw [hv] at hy'; cases hy'
   | some s => rw [hv] at hy'; simp at hy'; subst hy'; exact toSV_nils hv
  | global n => simp [cOpd] at hy'
  | func f => simp [cOpd] at hy'
 have hrun : ∀ ad n c, a.eval x' = .slice ad n c → (execOp a.eval o).run P w = .ok (.value (.bool (if neg then !ad.isNone else ad.isNone))) w := by
  intro ad n c hxv
  obtain ⟨dst, op, ty2, pos, aft, gd⟩ := o
  simp only at ho
  subst ho
  rcases hbo with ⟨rfl, rfl⟩ | ⟨rfl, rfl⟩
  ·have h1 := Lib.run_eql_slice_nil (P := P) w ty el ad n c 0 0 hu
   simp [execOp, hxv, hyv, eqGuard, h1]
  ·have h1 : (binOp .neq ty (.slice ad n c) (.slice none 0 0)).run P w = .ok (.bool (!ad.isNone)) w := by
    simp only [binOp]
    simp [Op.equal, Op.maxDepth, Lib.run_equalIn_slice_nil w 9999 ty el ad n c 0 0 hu]
   simp [execOp, hxv, hyv, eqGuard, h1]
 have fin : ∀ (b : Bool), (execOp a.eval o).run P w = .ok (.value (.bool b)) w → (setD S.σ o.dst (.bool b) fun σ' => evR P r ts ⟨σ', S.h, S.mks⟩ K) → o.uponIn (Fn ro) 0 P a (wpOpsIn (Fn ro) 0 P A Q (List.range' (i + 1) ts.length)) Q ((execOp a.eval o).run P w) := by
  intro b hrun hK
  rw [hrun, Oper.uponIn_value]
  obtain ⟨σ', q1, q2⟩ := put_tm hK hs.tm (show g.den w (.bool b) (.bool b) by simp only [Gh.den, den])
  refine evR_sound q1 hm A (i + 1) g (a.put o.dst _) w ro Q hdrop ⟨hs.ok, hs.lt, q2, hs.hp, ?_⟩ hr hq hp
  have : (a.put o.dst (.bool b)).defers = a.defers := by cases o.dst <;> rfl
  rw [this]
  exact hs.df
 rw [hdst] at h
 split at h
 ·rename_i e
  rw [e] at hxd
  simp only [Gh.den, den] at hxd
  refine fin (!neg) ?_ h.at
  rw [hrun none 0 0 hxd]
  cases neg <;> rfl
 ·rename_i sz es e
  rw [e] at hxd
  simp only [Gh.den, den] at hxd
  obtain ⟨ad, cap, vs, e1, e2, e3, e4⟩ := hxd
  cases ad with
  | none =>
   have : es = [] := by
    cases es with
    | nil => rfl
    | cons s es =>
     simp only [denL] at e3
     obtain ⟨u, us, rfl, _⟩ := e3
     obtain ⟨_, _, _, _, q, _⟩ := e4 0 u rfl
     cases q
   refine fin (!neg) ?_ (h.1 this).at
   rw [hrun none _ _ e1]
   cases neg <;> rfl
  | some ad =>
   refine fin neg ?_ h.2.at
   rw [hrun (some ad) _ _ e1]
   cases neg <;> rfl
 ·rename_i b e
  split at h
  ·rename_i e' sz es hb
   rw [e] at hxd
   simp only [Gh.den, den] at hxd
   have hbd := hs.hp b
   rw [hb] at hbd
   obtain ⟨l, vs, i1, _⟩ := hbd
   refine fin neg ?_ h.at
   rw [hrun _ _ _ (hxd.2.2 l i1)]
   cases neg <;> rfl
  ·exact h.elim
 ·exact h.elim
end
end Go.TV
/- The value calculus, part 2L: the last operation of a region in any order; slices published where a state holds them; calls that return a slice of their own. -/
namespace Go.TV
open Go.RowKit
section
variable {P : Program} {r : Fr}
theorem cDeps_eq {A : Array Oper} {o : Oper} (hb : (cOper P A true o).op ≠ .bad) : cDeps o = (cOper P A true o).deps := by
 unfold cOper at hb ⊢
 cases hg : o.guard with
 | none => rfl
 | some jw =>
  obtain ⟨j', want⟩ := jw
  simp only
  cases hs : (A[j']?).bind (·.dst) <;> rfl
theorem TDq.last {t : TOper} {S : St} {log : List Lg} {it : List Nat} {K : St → Prop} (hg : t.guard = none) (hb : isCallT t.op = true) (hchk : chkGo it log.reverse 0 [] [] = true) (hcov : covers log t.deps = true)
  (h : TSq P r [⟨t.dst, t.op, none, [], []⟩] S K) : TDq P r [t] S log it K := by
 rw [TDq_iff]
 intro hm A os hos
 cases os with
 | nil => cases hos
 | cons o os =>
  cases os with
  | cons o' os => cases hos
  | nil =>
   simp only [List.map_cons, List.map_nil, List.cons.injEq, and_true] at hos
   subst hos
   have hne : (cOper P A true o).op ≠ .bad := fun e => by rw [e] at hb; cases hb
   have heq : cOper P A false o = ⟨(cOper P A true o).dst, (cOper P A true o).op, none, [], []⟩ := by
    unfold cOper at hg hne ⊢
    cases hgd : o.guard with
    | none => rfl
    | some jw =>
     obtain ⟨j', want⟩ := jw
     simp only [hgd] at hg hne ⊢
     cases hs : (A[j']?).bind (·.dst) with
     | none => rfl
     | some s => simp only [hs] at hg; cases hg
   refine ⟨[], [o], [], S, rfl, ⟨rfl, rfl⟩, by simpa using hchk, .inr ⟨o, rfl, by rw [cDeps_eq hne]; simpa using hcov, ?_⟩⟩
   rw [heq]
   exact TSq_iff.1 h
def subA (b sz : Nat) (es : List SV) : SV → SV
 | .own n => match Nat.beq n b with
  | true => .sl sz es
  | false => .own n
 | s => s
def subAL (b sz : Nat) (es : List SV) : List SV → List SV
 | [] => []
 | s :: ss => subA b sz es s :: subAL b sz es ss
def subT (b sz : Nat) (es : List SV) : SV → SV
 | .own n => match Nat.beq n b with
  | true => .sl sz es
  | false => .own n
 | .agg cs => .agg (subAL b sz es cs)
 | .tup cs => .tup (subAL b sz es cs)
 | s => s
def subH (b sz : Nat) (es : List SV) : LB → LB
 | .cells cs => .cells (subAL b sz es cs)
 | lb => lb
theorem subA_den {w : World} {imm D : Nat → Prop} {ι : Env} {b sz : Nat} {es : List SV} (hs : ∀ v, den w imm (.own b) D ι v → den w imm (.sl sz es) D ι v) {s : SV} {v : Value} (h : den w imm s D ι v) : den w imm (subA b sz es s) D ι v := by
 cases s <;> try exact h
 rename_i n
 simp only [subA]
 cases e : Nat.beq n b with
 | true => obtain rfl := Nat.eq_of_beq_eq_true e; exact hs v h
 | false => exact h
theorem subAL_den {w : World} {imm D : Nat → Prop} {ι : Env} {b sz : Nat} {es : List SV} (hs : ∀ v, den w imm (.own b) D ι v → den w imm (.sl sz es) D ι v) : ∀ {ss : List SV} {vs : List Value}, denL w imm ss D ι vs → denL w imm (subAL b sz es ss) D ι vs
 | [], vs, h => h
 | s :: ss, vs, h => by
  simp only [denL, subAL] at h ⊢
  obtain ⟨u, us, rfl, h1, h2⟩ := h
  exact ⟨u, us, rfl, subA_den hs h1, subAL_den hs h2⟩
theorem subT_den {w : World} {imm D : Nat → Prop} {ι : Env} {b sz : Nat} {es : List SV} (hs : ∀ v, den w imm (.own b) D ι v → den w imm (.sl sz es) D ι v) {s : SV} {v : Value} (h : den w imm s D ι v) : den w imm (subT b sz es s) D ι v := by
 cases s with
 | own n =>
  simp only [subT]
  cases e : Nat.beq n b with
  | true => obtain rfl := Nat.eq_of_beq_eq_true e; exact hs v h
  | false => exact h
 | agg cs =>
  simp only [subT, den] at h ⊢
  obtain ⟨vs, rfl, h⟩ := h
  exact ⟨vs, rfl, subAL_den hs h⟩
 | tup cs =>
  simp only [subT, den] at h ⊢
  obtain ⟨vs, rfl, h⟩ := h
  exact ⟨vs, rfl, subAL_den hs h⟩
 | _ => exact h
def subTK (b sz : Nat) (es : List SV) : List SV → (List SV → Prop) → Prop
 | [], k => k []
 | s :: ss, k => forceK (subT b sz es s) fun s' => subTK b sz es ss fun l => k (s' :: l)
def subHK (b sz : Nat) (es : List SV) : List LB → (List LB → Prop) → Prop
 | [], k => k []
 | x :: xs, k => subHK b sz es xs fun l => k (subH b sz es x :: l)
def pubB (b : Nat) (S : St) (k : St → Prop) : Prop :=
 match hget S.h b with
 | .arr _ sz es => Vc (cloL es) ∧ Ev (subTK b sz es S.σ fun σ' => subHK b sz es S.h fun h1 => updGo h1 b .dead fun h' => k ⟨σ', h', S.mks⟩)
 | _ => False
theorem subTK_eq {b sz : Nat} {es : List SV} : ∀ {σ : List SV} {k : List SV → Prop}, subTK b sz es σ k → k (σ.map (subT b sz es))
 | [], _, h => h
 | s :: ss, k, h => by
  have h := forceK_iff.1 h
  exact subTK_eq (σ := ss) (k := fun l => k (subT b sz es s :: l)) h
theorem subHK_eq {b sz : Nat} {es : List SV} : ∀ {xs : List LB} {k : List LB → Prop}, subHK b sz es xs k → k (xs.map (subH b sz es))
 | [], _, h => h
 | x :: xs, k, h => subHK_eq (xs := xs) (k := fun l => k (subH b sz es x :: l)) h
theorem hget_map {f : LB → LB} (hf : f .dead = .dead) : ∀ {h : List LB} {b : Nat}, hget (h.map f) b = f (hget h b)
 | [], _ => hf.symm
 | _ :: _, 0 => rfl
 | _ :: h, b + 1 => by simp only [List.map_cons, hget]; exact hget_map hf
theorem map_denL {w : World} {imm D : Nat → Prop} {ι : Env} {f : SV → SV} (hf : ∀ {s v}, den w imm s D ι v → den w imm (f s) D ι v) : ∀ {ss : List SV} {vs : List Value}, denL w imm ss D ι vs → denL w imm (ss.map f) D ι vs
 | [], vs, h => h
 | s :: ss, vs, h => by
  simp only [denL, List.map_cons] at h ⊢
  obtain ⟨u, us, rfl, h1, h2⟩ := h
  exact ⟨u, us, rfl, hf h1, map_denL hf h2⟩
theorem hget_setD : ∀ {h : List LB} {b : Nat} {x : LB} (c : Nat), b < h.length → hget (h.set b x) c = if c = b then x else hget h c
 | [], _, _, _, hb => by simp at hb
 | _ :: _, 0, _, 0, _ => rfl
 | _ :: _, 0, _, c + 1, _ => by simp [hget]
 | _ :: _, b + 1, _, 0, _ => by simp [hget]
 | _ :: h, b + 1, x, c + 1, hb => by
  simp only [List.set_cons_succ, hget]
  rw [hget_setD (h := h) c (by simpa using hb)]
  simp
theorem pubB_spec {b B : Nat} {S : St} {k : St → Prop} (h : pubB b S k) : ∃ S', k S' ∧ Wk P B S S' := by
 unfold pubB at h
 split at h
 ·rename_i e sz es he
  obtain ⟨⟨hc⟩, h⟩ := h
  have h := updGo_spec (subHK_eq (subTK_eq h.at))
  obtain ⟨h', h1, h2, h3, h4, h5⟩ := h
  refine ⟨_, h1, fun g a w hs => ?_⟩
  have hbb := hs.hp b
  rw [he] at hbb
  obtain ⟨l, hl⟩ : ∃ l, g.ι b = some l := ⟨_, hbb.choose_spec.choose_spec.1⟩
  have hblt : b < S.h.length := hs.lt b (hs.ok.own b l hl).1
  have bk : Bk P g S.h w := ⟨hs.ok, hs.lt, hs.hp⟩
  obtain ⟨r2, r3⟩ := pub_book (h' := S.h.set b .dead) bk hl (by simp) (by rw [hget_setD b hblt]; simp) (fun c hc => by rw [hget_setD c hblt]; simp [hc])
   (bk.nodep (fun es e => by rw [he] at e; cases e) (fun e => by rw [he] at e; cases e) (fun _ e => by rw [he] at e; cases e) (fun _ _ _ e => by rw [he] at e; cases e))
  have hsl : ∀ v, den w (g.pub b l.blk).imm (.own b) g.dom g.ι v → den w (g.pub b l.blk).imm (.sl sz es) g.dom g.ι v := fun v hv => by
   simp only [den] at hv
   exact clo_den _ (by simp only [clo]) (sl_of_own (imm := (g.pub b l.blk).imm) hl hbb hc (v := v) (by simp only [Gh.den, den]; exact hv) (fun r hr => .inl hr) (.inr rfl))
  have himm : ∀ r, g.imm r → (g.pub b l.blk).imm r := fun r hr => .inl hr
  have hι : ∀ c l', g.dom c → (g.pub b l.blk).ι c = some l' → g.ι c = some l' := fun c l' _ hc => by
   simp only [Gh.pub] at hc
   split at hc
   ·cases hc
   ·exact hc
  refine ⟨g.pub b l.blk, ⟨r2.ok, fun c hc' => ?_, ?_, fun c => ?_, r3.df hs.df⟩, r3.exw B⟩
  ·have := r2.lt c hc'
   simp at this h2
   simp only; omega
  ·exact denL.mono (fun _ h => h) (fun _ _ => rfl) _ (fun _ h => h) hι (map_denL (subT_den hsl) (denL_imm himm hs.tm))
  ·simp only
   by_cases hcb : c = b
   ·subst hcb; rw [h4]; trivial
   ·rw [h5 c hcb, hget_map rfl]
    have := r2.hp c
    rw [hget_setD c hblt, if_neg hcb] at this
    cases hg : hget S.h c <;> rw [hg] at this <;> try exact this
    rename_i cs
    have hcc := hs.hp c
    rw [hg] at hcc
    obtain ⟨l', vs, t, q1, q2, q3⟩ := hcc
    refine ⟨l', vs, t, by simp [Gh.pub, hcb, q1], q2, ?_⟩
    exact denL.mono (fun _ h => h) (fun _ _ => rfl) _ (fun _ h => h) hι (subAL_den hsl (denL_imm himm q3))
 ·exact h.elim
theorem TSq.pubS (b : Nat) {ts : List TOper} {S : St} {K : St → Prop} (h : Ev (pubB b S fun S' => evR P r ts S' K)) : TSq P r ts S K := by
 obtain ⟨S', h1, h2⟩ := pubB_spec h.at
 exact TSq.wk h2 (TSq_iff.2 (evR_sound h1))
theorem TWq.pubS (b : Nat) {c : TCode} {S : St} {Q : Option Jump → St → Prop} (h : Ev (pubB b S fun S' => evC P r c S' Q)) : TWq P r c S Q := by
 obtain ⟨S', h1, h2⟩ := pubB_spec h.at
 exact TWq.wk h2 (TWq_iff.2 (evC_sound h1))
def ownG (l : Loc) (imm : Nat → Prop) : Gh := ⟨fun b => b = 0, fun b => if b = 0 then some l else none, imm, none, 0⟩
structure PO (P : Program) (f : FuncId) (args : List SV) (e : TypeId) (sz : Nat) (es : List SV) : Prop where
 ok : ∃ t, fnOf P f = some t
 run : P.follows .mixedOrders = true → ∀ (imm : Nat → Prop) (w : World) (vals : List Value), (∀ r, imm r → r < w.heap.size) → denL w imm args (fun _ => False) (fun _ => none) vals →
  CallsIn (Fn none) 0 P f vals.toArray w fun en w' => ∃ (v : Value) (imm' : Nat → Prop) (l : Loc), en = .returned v ∧ v = .slice (some ⟨l.blk, 0, none⟩) l.len l.cap ∧ w.heap.size ≤ l.blk ∧ GOk (ownG l imm') w' ∧
   lbden P w' (ownG l imm') 0 (.arr e sz es) ∧ Ext (none0 imm) w (none0 imm') w' All
def isArrK (e : TypeId) (sz : Nat) (es : List SV) (h : List LB) (s : SV) : Prop :=
 match s with
 | .own b => match hget h b with
  | .arr e' sz' es' => eqK e e' (eqK sz sz' (Vc (es' = es)))
  | _ => False
 | _ => False
theorem PO.of {f : FuncId} {args : List SV} {e : TypeId} {sz : Nat} {es : List SV} (hc : cloL es) (h : TF P f args [] fun s h' => isArrK e sz es h' s) : PO P f args e sz es := by
 refine ⟨h.ok, fun hm imm w vals h1 h2 => (h.run hm (none0 imm) w vals rfl (none0_ok h1) (fun b hb => hb.elim) h2 (fun b => trivial)).mono ?_⟩
 rintro _ w' ⟨v, s, h', g', rfl, q, k1, k2, k3, k4, k5⟩
 unfold isArrK at q
 split at q
 ·rename_i b
  split at q
  ·rename_i e' sz' es' he
   rw [eqK_iff, eqK_iff] at q
   obtain ⟨rfl, rfl, ⟨rfl⟩⟩ := q
   have hb := k4 b
   rw [he] at hb
   obtain ⟨l, vs, q1, q2, q3, q4, q5⟩ := hb
   simp only [Gh.den, den] at k3
   have hv := k3.2.2 l q1
   have hfresh : w.heap.size ≤ l.blk := by
    rcases k5.newι b l q1 with h | h | ⟨_, _, _, h, _⟩
    ·cases h
    ·exact h
    ·cases h
   obtain ⟨o1, o2, o3⟩ := k1.own b l q1
   refine ⟨v, g'.imm, l, rfl, hv, hfresh, ⟨fun c l' hl => ?_, fun c c' l1 l2 e1 e2 _ => ?_, k1.immlt, fun r ⟨H, e, _⟩ => (by cases e), fun r ⟨H, e, _⟩ => (by cases e), fun c l' _ ⟨H, e, _⟩ => (by cases e), Nat.zero_le _⟩, ?_, ?_⟩
   ·simp only [ownG] at hl
    split at hl
    ·cases hl; rename_i e; exact ⟨e, o2, o3⟩
    ·cases hl
   ·simp only [ownG] at e1 e2
    split at e1
    ·split at e2
     ·omega
     ·cases e2
    ·cases e1
   ·exact ⟨l, vs, by simp [ownG], q2, cloL_den es' hc q3, q4, q5⟩
   ·exact ⟨k5.os, k5.tape, k5.output, k5.size, fun _ h => h, fun _ h => h.elim, k5.imm, rfl, rfl, k5.old, fun b l hl => (by cases hl), k5.newimm⟩
  ·exact q.elim
 ·exact q.elim
theorem scalS_den {w w' : World} {imm imm' D D' : Nat → Prop} {ι ι' : Env} : ∀ {ss : List SV} {vs : List Value}, (∀ s ∈ ss, scal s) → denL w imm ss D ι vs → denL w' imm' ss D' ι' vs
 | [], _, _, h => h
 | s :: ss, vs, hs, h => by
  simp only [denL] at h ⊢
  obtain ⟨u, us, rfl, h1, h2⟩ := h
  exact ⟨u, us, rfl, scal_den s (hs s (by simp)) h1, scalS_den (fun x hx => hs x (by simp [hx])) h2⟩
theorem PO.orun_lend {o : Oper} {σ : List SV} {h : List LB} {nid n : Nat} {e : TypeId} {sz : Nat} {es : List SV} {K : List Nat → Prop} (hm : P.follows .mixedOrders = true)
  (hF : calleeK σ (cOp P o.op) fun f args => lendLK n h args fun args' nb => PO P f args' e sz es ∧ K nb) (hv : ∀ s ∈ es, scal s) :
  ∃ nb, K nb ∧ ORun P o σ h nid (.own nid) [(nid, .arr e sz es)] nb := by
 obtain ⟨f, args, hl, h2, h3⟩ := callee_run hF
 obtain ⟨args', nb, ⟨hp, hKn⟩, hc, hs⟩ := (lend_spec (P := P) n).2 hl
 refine ⟨nb, hKn, ?_⟩
 intro g a w ro next Q k1 _ k2 k3 k4 k5
 obtain ⟨vals, d1, d2⟩ := h3 g a w hp.ok k3
 rw [Oper.semAt_eq ro a.eval o h2, d2, Oper.uponIn_enter]
 refine ⟨fun h => by simp [Fn, Fence.wide] at h, CallsIn_ro ro ((hp.run hm (immOf g nb) w vals (fun r hr => immOf_lt k1 hr) (hs g w vals k4 d1)).mono ?_)⟩
 rintro _ w' ⟨u, imm', l, rfl, hu, hfr, q1, q2, q3⟩
 have hnd : ¬ g.dom nid := k2 (nid, .arr e sz es) (by simp) (Nat.le_refl _)
 have hl2 : l.blk < w'.heap.size := (q1.own 0 l (by simp [ownG])).2.1
 obtain ⟨l0, vs, r1, r2, r3, r4, r5⟩ := q2
 have e0 : l = l0 := by simpa [ownG] using r1
 subst e0
 refine k5 u w' ⟨fun c => g.dom c ∨ c = nid, fun c => if c = nid then some l else g.ι c, g.imm, g.hid, g.flr⟩ ⟨fun c l' hl => ?_, fun c c' l1 l2 e1 e2 e3 => ?_, fun r hr => Nat.lt_of_lt_of_le (k1.immlt r hr) q3.size, fun r hr => Nat.lt_of_lt_of_le (k1.hlt r hr) q3.size, k1.himm, fun c l' hl hh => ?_, Nat.le_trans k1.flr q3.size⟩
  ⟨q3.os, q3.tape, q3.output, q3.size, fun _ h => .inl h, fun c hc' => ?_, fun _ h => h, rfl, rfl, fun r hr _ => q3.old r hr (fun b l _ hl => by cases hl), fun c l' hl => ?_, fun _ h => .inl h⟩ ?_ ?_ ?_
 ·simp only at hl
  split at hl
  ·cases hl; rename_i e; exact ⟨.inr e, hl2, fun hh => by have := k1.immlt _ hh; omega⟩
  ·obtain ⟨p1, p2, p3⟩ := k1.own c l' hl
   exact ⟨.inl p1, Nat.lt_of_lt_of_le p2 q3.size, p3⟩
 ·simp only at e1 e2
  split at e1
  ·split at e2
   ·omega
   ·cases e1; have := (k1.own c' l2 e2).2.1; omega
  ·split at e2
   ·cases e2; have := (k1.own c l1 e1).2.1; omega
   ·exact k1.inj c c' l1 l2 e1 e2 e3
 ·simp only at hl
  split at hl
  ·cases hl; have := k1.hlt _ hh; omega
  ·exact k1.hown c l' hl hh
 ·have hne : c ≠ nid := fun e => hnd (e ▸ hc')
  simp [hne]
 ·simp only at hl
  split at hl
  ·cases hl; exact .inr (.inl hfr)
  ·exact .inl hl
 ·simp only [Gh.den, den]
  exact ⟨.inr trivial, ⟨_, _, _, hu⟩, fun l' hl => by simp at hl; subst hl; exact hu⟩
 ·intro p hp'
  simp at hp'; subst hp'
  exact ⟨l, vs, by simp, r2, scalS_den hv r3, r4, r5⟩
 ·rintro b (hb | rfl)
  ·exact .inl hb
  ·exact .inr (by simp [ids])
end
end Go.TV
/- The value calculus, part 2M: a book cut short, in a region and at a function's end. -/
namespace Go.TV
open Go.RowKit
def takeHK : Nat → List LB → (List LB → Prop) → Prop
 | 0, _, k => k []
 | _ + 1, [], k => k []
 | n + 1, x :: xs, k => takeHK n xs fun l => k (x :: l)
theorem takeHK_eq : ∀ {n : Nat} {h : List LB} {k : List LB → Prop}, takeHK n h k → k (h.take n)
 | 0, _, _, h => h
 | _ + 1, [], _, h => h
 | n + 1, x :: xs, k, h => takeHK_eq (n := n) (h := xs) (k := fun l => k (x :: l)) h
section
variable {P : Program} {r : Fr}
theorem TSq.cut (js : List Nat) (L : Nat) {ts : List TOper} {S : St} {K : St → Prop} (h : Ev (junkK js S.σ fun σ1 => takeHK L S.h fun h' => Ev (fitS r.base [] S ⟨σ1, h', S.mks⟩) ∧ TSq P r ts ⟨σ1, h', S.mks⟩ K)) : TSq P r ts S K := by
 have h := takeHK_eq (junkK_eq (js := js) (k := fun σ1 => takeHK L S.h fun h' => Ev (fitS r.base [] S ⟨σ1, h', S.mks⟩) ∧ TSq P r ts ⟨σ1, h', S.mks⟩ K) h.at)
 exact TSq.wk (Wk.fit [] h.1.at) h.2
def cutE (B L : Nat) (Q : SV → List LB → Prop) (s : SV) (h' : List LB) : Prop :=
 takeHK L h' fun h'' => Ev (fitS B [] ⟨[s], h', []⟩ ⟨[s], h'', []⟩) ∧ Ev (Q s h'')
theorem TF.cut {f : FuncId} {args : List SV} {h : List LB} {Q : SV → List LB → Prop} (L : Nat) (hT : TF P f args h fun s h' => cutE h.length L Q s h') : TF P f args h Q := by
 refine ⟨hT.ok, fun hm g w vals h0 h1 h2 h3 h4 => (hT.run hm g w vals h0 h1 h2 h3 h4).mono ?_⟩
 rintro _ w' ⟨v, s, h', g', rfl, q, k1, k2, k3, k4, k5⟩
 have q := takeHK_eq (n := L) (h := h') (k := fun h'' => Ev (fitS h.length [] ⟨[s], h', []⟩ ⟨[s], h'', []⟩) ∧ Ev (Q s h'')) q
 have hno : g'.hid = none := k5.hid.trans h0
 obtain ⟨g2, s2, e2⟩ := Wk.fit (P := P) [] q.1.at g' ⟨#[v], []⟩ w' ⟨k1, k2, by simp only [Gh.denL, denL]; exact ⟨v, [], rfl, k3, rfl⟩, k4, by simp [dfden]⟩
 have d2 := s2.tm
 simp only [Gh.denL, denL] at d2
 obtain ⟨u, us, e, d2, _⟩ := d2
 have : u = v := by simpa using (List.cons.inj e).1.symm
 subst this
 exact ⟨u, s, h'.take L, g2, rfl, q.2.at, s2.ok, s2.lt, d2, s2.hp, ((k5.exw h.length).trans e2).ext h2 h0⟩
end
end Go.TV
/- The value calculus, part 2N: the arguments of a statement as trees. -/
namespace Go.TV
open Go.RowKit
inductive Sh where
 | int (k : IntKind)
 | bool
 | str
 | sl (sz : Nat) (agg : Bool) (es : List Sh)
def shapesF (f : TypeId → Option (List Sh)) (P : Program) : List Field → Nat → Option (List Sh)
 | [], _ => some []
 | fd :: fs, off => match f fd.type with
  | some ss => if fd.offset = off ∧ ss.length = P.cellsOf fd.type then (shapesF f P fs (off + ss.length)).map (ss ++ ·) else none
  | none => none
def aggT (P : Program) (t : TypeId) : Option Bool :=
 match P.underlying t with
 | some (.struct _) => some true
 | some (.int _) | some .bool | some .string | some (.slice _) => some false
 | _ => none
def shapes (P : Program) : Nat → TypeId → Option (List Sh)
 | 0, _ => none
 | n + 1, t => match P.underlying t with
  | some .bool => some [.bool]
  | some (.int k) => some [.int k]
  | some .string => some [.str]
  | some (.slice e) => match shapes P n e, aggT P e with
   | some ss, some a => if ss.length = P.cellsOf e ∧ 0 < ss.length ∧ (a = true ∨ ss.length = 1) then some [.sl ss.length a ss] else none
   | _, _ => none
  | some (.struct fs) => match shapesF (shapes P n) P fs.toList 0 with
   | some ss => if ss.length = P.cellsOf t then some ss else none
   | none => none
  | _ => none
mutual
def Sh.fits : Sh → SV → Prop
 | .int k, s => ∃ n, s = .int k n ∧ k.min ≤ n ∧ n ≤ k.max
 | .bool, s => ∃ b, s = .bool b
 | .str, s => ∃ b : ByteArray, s = .str b ∧ b.size ≤ maxLen
 | .sl sz a es, s => ∃ l : List SV, s = .sl sz l ∧ l.length ≤ maxLen ∧ ∀ e ∈ l, ∃ cs, Sh.fitsL es cs ∧ e = (if a = true then .agg cs else cs.headD .junk)
def Sh.fitsL : List Sh → List SV → Prop
 | [], l => l = []
 | h :: hs, l => ∃ s ss, l = s :: ss ∧ Sh.fits h s ∧ Sh.fitsL hs ss
end
theorem fitsL_append : ∀ {a b : List Sh} {l m : List SV}, Sh.fitsL a l → Sh.fitsL b m → Sh.fitsL (a ++ b) (l ++ m)
 | [], b, l, m, h, hm => by simp only [Sh.fitsL] at h; subst h; exact hm
 | x :: a, b, l, m, h, hm => by
  simp only [Sh.fitsL, List.cons_append] at h ⊢
  obtain ⟨s, ss, rfl, h1, h2⟩ := h
  exact ⟨s, ss ++ m, rfl, h1, fitsL_append h2 hm⟩
theorem fitsL_len : ∀ {a : List Sh} {l : List SV}, Sh.fitsL a l → l.length = a.length
 | [], l, h => by simp only [Sh.fitsL] at h; subst h; rfl
 | x :: a, l, h => by
  simp only [Sh.fitsL] at h
  obtain ⟨s, ss, rfl, h1, h2⟩ := h
  simp [fitsL_len h2]
theorem denL_append_mk {w : World} {imm D : Nat → Prop} {ι : Env} : ∀ {a b : List SV} {l m : List Value}, denL w imm a D ι l → denL w imm b D ι m → denL w imm (a ++ b) D ι (l ++ m)
 | [], b, l, m, h, hm => by simp only [denL] at h; subst h; exact hm
 | x :: a, b, l, m, h, hm => by
  simp only [denL, List.cons_append] at h ⊢
  obtain ⟨s, ss, rfl, h1, h2⟩ := h
  exact ⟨s, ss ++ m, rfl, h1, denL_append_mk h2 hm⟩
section
variable {H : Type} {enc : TypeId × Value → H} {P : Program} {w : World} {base : Nat} {spare : Nat → Bool} {held : Bool} {imm : Nat → Prop}
def NoD : Nat → Prop := fun _ => False
def NoE : Env := fun _ => none
theorem take_drop_step {cs : List Value} {off n m : Nat} : ((cs.drop off).take n) ++ ((cs.drop (off + n)).take m) = (cs.drop off).take (n + m) := by
 rw [show cs.drop (off + n) = (cs.drop off).drop n by rw [List.drop_drop], ← List.take_add]
theorem trodF_tree {n : Nat} {fuel : Nat} {cs : List Value}
  (ih : ∀ (t : TypeId) (cs : List Value) (x : DataW H × List MemPlace) (ss : List Sh), shapes P n t = some ss → DataW.trod enc P w base spare held fuel t cs = some x →
   ∃ ts, Sh.fitsL ss ts ∧ denL w imm ts NoD NoE cs ∧ cs.length = ss.length ∧ ∀ c ∈ cs, c.oneCell' = true) :
  ∀ (fs : List Field) (off : Nat) (ss : List Sh), shapesF (shapes P n) P fs off = some ss → (∀ f ∈ fs, ∃ x, DataW.trod enc P w base spare held fuel f.type ((cs.drop f.offset).take (P.cellsOf f.type)) = some x) →
   ∃ ts, Sh.fitsL ss ts ∧ denL w imm ts NoD NoE ((cs.drop off).take ss.length) ∧ ∀ c ∈ (cs.drop off).take ss.length, c.oneCell' = true
 | [], off, ss, h, _ => by
  simp only [shapesF, Option.some.injEq] at h
  subst h
  exact ⟨[], rfl, by simp [denL], by simp⟩
 | fd :: fs, off, ss, h, hx => by
  simp only [shapesF] at h
  split at h
  ·rename_i s1 e1
   split at h
   ·rename_i h2
    obtain ⟨h2, h3⟩ := h2
    rw [Option.map_eq_some_iff] at h
    obtain ⟨s2, h4, rfl⟩ := h
    obtain ⟨x, h5⟩ := hx fd (by simp)
    obtain ⟨t1, q1, q2, q3, q4⟩ := ih _ _ _ _ e1 h5
    obtain ⟨t2, p1, p2, p3⟩ := trodF_tree ih fs (off + s1.length) s2 h4 fun f hf => hx f (by simp [hf])
    rw [h2, ← h3] at q2 q4
    refine ⟨t1 ++ t2, fitsL_append q1 p1, ?_, ?_⟩
    ·rw [List.length_append, ← take_drop_step]
     exact denL_append_mk q2 p2
    ·rw [List.length_append, ← take_drop_step]
     intro c hc
     rcases List.mem_append.1 hc with hc | hc
     ·exact q4 c hc
     ·exact p3 c hc
   ·cases h
  ·cases h
theorem denL_of_get {l : List SV} {vs : List Value} (hl : vs.length = l.length) (h : ∀ (i : Nat) (s : SV) (v : Value), l[i]? = some s → vs[i]? = some v → den w imm s NoD NoE v) : denL w imm l NoD NoE vs := by
 induction l generalizing vs with
 | nil => simp only [denL]; simpa using hl
 | cons s l ih =>
  cases vs with
  | nil => simp at hl
  | cons v vs =>
   simp only [denL]
   exact ⟨v, vs, rfl, h 0 s v rfl rfl, ih (by simpa using hl) fun i s' v' h1 h2 => h (i + 1) s' v' h1 h2⟩
theorem cells?_get {a : Addr} {n : Nat} {cs : List Value} (h : w.cells? base a n = some cs) : cs.length = n ∧ ∀ j c, cs[j]? = some c → w.cell? (a.add j) = some c := by
 unfold World.cells? at h
 split at h
 ·refine ⟨by simpa using mapM_some_length h, fun j c hc => ?_⟩
  have hj : j < (List.range n).length := by
   have := mapM_some_length h
   rw [← this]; exact (List.getElem?_eq_some_iff.1 hc).1
  have := mapM_some_get h j j (by rw [List.getElem?_eq_getElem hj]; simp)
  rw [this, hc]
 ·cases h
theorem spot_none {a : Addr} {c : Value} (h : w.cell? a = some c) : a.spot = none := by
 unfold World.cell? at h
 split at h
 ·split at h
  ·cases h
  ·rename_i h1; simpa using h1
 ·cases h
theorem add_off {a : Addr} {n : Nat} (h : a.spot = none) : a.add n = ⟨a.block, a.off + n, none⟩ := by
 obtain ⟨b, o, s⟩ := a
 simp only at h; subst h
 unfold Addr.add
 split
 ·rename_i e; subst e; rfl
 ·rfl
theorem trod_tree (himm : ∀ r, r < w.heap.size → imm r) : ∀ (n fuel : Nat) (t : TypeId) (cs : List Value) (x : DataW H × List MemPlace) (ss : List Sh), shapes P n t = some ss → DataW.trod enc P w base spare held fuel t cs = some x →
  ∃ ts, Sh.fitsL ss ts ∧ denL w imm ts NoD NoE cs ∧ cs.length = ss.length ∧ ∀ c ∈ cs, c.oneCell' = true
 | 0, _, _, _, _, _, h, _ => by simp [shapes] at h
 | n + 1, fuel, t, cs, x, ss, h, hx => by
  simp only [shapes] at h
  split at h
  ·rename_i hu
   cases h
   obtain ⟨b, rfl, _⟩ := DataW.trod_bool hu hx
   exact ⟨[.bool b], ⟨_, _, rfl, ⟨b, rfl⟩, rfl⟩, by simp [denL, den], rfl, by simp [Value.oneCell']⟩
  ·rename_i k hu
   cases h
   obtain ⟨m, rfl, _, hw⟩ := DataW.trod_int hu hx
   refine ⟨[.int k m], ⟨_, _, rfl, ⟨m, rfl, ?_⟩, rfl⟩, by simp [denL, den], rfl, by simp [Value.oneCell']⟩
   simpa [Lit.wf] using hw
  ·rename_i hu
   cases h
   obtain ⟨b, rfl, _, hw⟩ := DataW.trod_string hu hx
   exact ⟨[.str b], ⟨_, _, rfl, ⟨b, rfl, hw⟩, rfl⟩, by simp [denL, den], rfl, by simp [Value.oneCell']⟩
  ·rename_i e hu
   split at h
   ·rename_i s1 a e1 e2
    split at h
    ·rename_i h3
     cases h
     obtain ⟨h3, hpos, h4⟩ := h3
     rcases DataW.trod_slice hu hx with ⟨rfl, _⟩ | ⟨ad, len, cap, elems, rest, m, rfl, rfl, _, hb, hlc, hcm, hlen, hel, _⟩
     ·exact ⟨[.sl s1.length []], ⟨_, _, rfl, ⟨[], rfl, by simp, by simp⟩, rfl⟩, ⟨_, _, rfl, by simp only [den]; exact ⟨none, 0, [], rfl, by simp, rfl, by simp⟩, rfl⟩, rfl, by simp [Value.oneCell']⟩
     ·have hex : ∀ i, i < len → ∃ (s : SV) (v : Value), (∃ cs, Sh.fitsL s1 cs ∧ s = (if a = true then .agg cs else cs.headD .junk)) ∧ den w imm s NoD NoE v ∧ v.cells.size = s1.length ∧ (∀ c ∈ v.cells.toList, c.oneCell' = true) ∧
        (0 < s1.length → ad.spot = none ∧ imm ad.block) ∧ ∀ j c, v.cells[j]? = some c → w.cell? ⟨ad.block, ad.off + i * s1.length + j, none⟩ = some c := by
       intro i hi
       have h5 := hel i hi
       have h6 : ∃ y, elems[i]? = some y := ⟨_, List.getElem?_eq_getElem (by omega)⟩
       obtain ⟨y, h6⟩ := h6
       rw [h6, Option.bind_eq_some_iff] at h5
       obtain ⟨cs, h7, h8⟩ := h5
       obtain ⟨ts, q1, q2, q3, q4⟩ := trod_tree himm n m e cs y s1 e1 h8
       obtain ⟨h9, h10⟩ := cells?_get h7
       have hsp : ∀ j c, cs[j]? = some c → ad.spot = none ∧ w.cell? ⟨ad.block, ad.off + i * s1.length + j, none⟩ = some c ∧ imm ad.block := by
        intro j c hc
        have h11 := h10 j c hc
        have hs0 : ∀ k, (w.cell? ((ad.add (i * P.cellsOf e)).add k) = some c) → k = j → ad.spot = none ∨ ad.add (i * P.cellsOf e) ≠ ad ∨ True := fun _ _ _ => .inr (.inr trivial)
        have hz : 0 < cs.length := by
         have := (List.getElem?_eq_some_iff.1 hc).1; omega
        have h00 : cs[0]? = some cs[0] := List.getElem?_eq_getElem hz
        have h12 := spot_none (h10 0 _ h00)
        -- the first element's first cell
        have h5' := hel 0 (by omega)
        obtain ⟨y', h6'⟩ : ∃ y, elems[0]? = some y := ⟨_, List.getElem?_eq_getElem (by omega)⟩
        rw [h6', Option.bind_eq_some_iff] at h5'
        obtain ⟨cs', h7', _⟩ := h5'
        obtain ⟨h9', h10'⟩ := cells?_get h7'
        have hz' : 0 < cs'.length := by omega
        have h13 := spot_none (h10' 0 _ (List.getElem?_eq_getElem hz'))
        have h14 : ad.spot = none := by simpa [Addr.add] using h13
        have h15 : w.cell? ⟨ad.block, ad.off + i * s1.length + j, none⟩ = some c := by
         rw [add_off h14, add_off rfl] at h11
         rw [h3]; exact h11
        refine ⟨h14, h15, himm _ ?_⟩
        unfold World.cell? at h15
        split at h15
        ·rename_i e3; exact (Array.getElem?_eq_some_iff.1 e3).1
        ·cases h15
       cases a with
       | true =>
        refine ⟨.agg ts, .agg cs.toArray, ⟨ts, q1, by simp⟩, by simp only [den]; exact ⟨cs, rfl, q2⟩, by simp [Value.cells, q3], by simpa [Value.cells] using q4, fun hp => ?_, fun j c hc => (hsp j c (by simpa [Value.cells] using hc)).2.1⟩
        have hz : 0 < cs.length := by omega
        have := hsp 0 _ (List.getElem?_eq_getElem hz)
        exact ⟨this.1, this.2.2⟩
       | false =>
        have h1 : s1.length = 1 := by simpa using h4
        obtain ⟨c, rfl⟩ := List.length_eq_one_iff.1 (q3.trans h1)
        have hts := fitsL_len q1
        rw [h1] at hts
        obtain ⟨s, rfl⟩ := List.length_eq_one_iff.1 hts
        have hc1 := q4 c (by simp)
        have hcc : c.cells = #[c] := by cases c <;> first | rfl | (simp [Value.oneCell'] at hc1)
        refine ⟨s, c, ⟨[s], q1, by simp⟩, ?_, by rw [hcc, h1]; rfl, by rw [hcc]; simpa using hc1, fun hp => ?_, fun j c' hc => (hsp j c' (by rw [hcc] at hc; simpa using hc)).2.1⟩
        ·simp only [denL] at q2
         obtain ⟨u, us, e3, q2, _⟩ := q2
         cases e3
         exact q2
        ·have := hsp 0 c rfl
         exact ⟨this.1, this.2.2⟩
      -- the lists
      let S : Nat → SV := fun i => if h : i < len then Classical.choose (hex i h) else .junk
      have hS : ∀ i (hi : i < len), ∃ (v : Value), (∃ cs, Sh.fitsL s1 cs ∧ S i = (if a = true then .agg cs else cs.headD .junk)) ∧ den w imm (S i) NoD NoE v ∧ v.cells.size = s1.length ∧ (∀ c ∈ v.cells.toList, c.oneCell' = true) ∧
        (0 < s1.length → ad.spot = none ∧ imm ad.block) ∧ ∀ j c, v.cells[j]? = some c → w.cell? ⟨ad.block, ad.off + i * s1.length + j, none⟩ = some c := fun i hi => by
       have := Classical.choose_spec (hex i hi)
       simp only [S, dif_pos hi]
       exact this
      let V : Nat → Value := fun i => if h : i < len then Classical.choose (hS i h) else .nilFunc
      have hV := fun i (hi : i < len) => Classical.choose_spec (hS i hi)
      have hVe : ∀ i (hi : i < len), V i = Classical.choose (hS i hi) := fun i hi => by simp only [V, dif_pos hi]
      refine ⟨[.sl s1.length ((List.range len).map S)], ⟨_, _, rfl, ⟨_, rfl, by simp; omega, ?_⟩, rfl⟩, ⟨_, _, rfl, ?_, rfl⟩, rfl, by simp [Value.oneCell']⟩
      ·intro s hs
       obtain ⟨i, hi, rfl⟩ := List.mem_map.1 hs
       exact (hV i (by simpa using hi)).1
      ·simp only [den]
       refine ⟨some ad, cap, (List.range len).map V, by simp, by simpa using hlc, denL_of_get (by simp) fun i s v h1 h2 => ?_, fun i u hu => ?_⟩
       ·rw [List.getElem?_map] at h1 h2
        cases hr : (List.range len)[i]? with
        | none => rw [hr] at h1; cases h1
        | some k =>
         rw [hr] at h1 h2
         have hk : k < len := by have := List.mem_of_getElem? hr; simpa using this
         simp only [Option.map_some, Option.some.injEq] at h1 h2
         subst h1; subst h2
         rw [hVe k hk]
         exact (hV k hk).2.1
       ·rw [List.getElem?_map] at hu
        cases hr : (List.range len)[i]? with
        | none => rw [hr] at hu; cases hu
        | some k =>
         rw [hr] at hu
         obtain ⟨e4, e5⟩ := List.getElem?_eq_some_iff.1 hr
         simp at e5
         subst e5
         have hk : i < len := by simpa using e4
         simp only [Option.map_some, Option.some.injEq] at hu
         subst hu
         rw [hVe i hk]
         obtain ⟨-, -, p1, p2, p3, p4⟩ := hV i hk
         obtain ⟨p5, p6⟩ := p3 hpos
         refine ⟨p1, p2, ad.block, ad.off, ?_, p6, p4⟩
         ·obtain ⟨b, o, s⟩ := ad
          simp only at p5; subst p5; rfl
    ·cases h
   ·cases h
  ·rename_i fs hu
   split at h
   ·rename_i s1 e1
    split at h
    ·rename_i h3
     cases h
     obtain ⟨xs, m, rfl, rfl, hl, hxl, hf⟩ := DataW.trod_struct hu hx
     obtain ⟨ts, q1, q2, q3⟩ := trodF_tree (imm := imm) (fuel := m) (cs := cs) (fun t cs x ss => trod_tree himm n m t cs x ss) fs.toList 0 ss e1 fun f hf' => by
      obtain ⟨i, hi⟩ := List.getElem?_of_mem hf'
      have h5 := hf i f (by simpa using hi)
      have : i < xs.length := by rw [hxl]; have := (List.getElem?_eq_some_iff.1 hi).1; simpa using this
      exact ⟨xs[i], by rw [h5]; exact List.getElem?_eq_getElem this⟩
     have e5 : (cs.drop 0).take ss.length = cs := by rw [List.drop_zero, List.take_of_length_le (by omega)]
     rw [e5] at q2 q3
     exact ⟨ts, q1, q2, by omega, q3⟩
    ·cases h
   ·cases h
  ·cases h
end
end Go.TV
/- The value calculus, part 2O: statements that say 'it returns true', out of contracts. -/
namespace Go.TV
open Go.RowKit Go.ChangeShapes
def argShape (P : Program) (t : TypeId) : Option (Bool × List Sh) :=
 (match aggT P t, shapes P 12 t with
 | some a, some ss => some (a, ss)
 | _, _ => none)
def argShapes (P : Program) : List TypeId → Option (List (Bool × List Sh))
 | [] => some []
 | t :: ts => match argShape P t, argShapes P ts with
  | some a, some r => some (a :: r)
  | _, _ => none
def fitsA (a : Bool × List Sh) (s : SV) : Prop := ∃ cs, Sh.fitsL a.2 cs ∧ s = (if a.1 = true then .agg cs else cs.headD .junk)
def fitsArgs : List (Bool × List Sh) → List SV → Prop
 | [], l => l = []
 | a :: r, l => ∃ s rest, l = s :: rest ∧ fitsA a s ∧ fitsArgs r rest
section
variable {H : Type} {enc : TypeId × Value → H} {P : Program} {w : World} {imm : Nat → Prop}
theorem cells_arg {P : Program} {w : World} {r : Reach} {base : Nat} {t : TypeId} {v : Value} (ha : aggT P t = some false) (h : Value.okWide P w r base t v) : v.cells = #[v] := by
 unfold aggT at ha
 unfold Value.okWide Cell.okWide Cell.ok at h
 cases v <;> first | rfl | skip
 all_goals
  exfalso
  split at ha <;> simp_all
theorem arg_tree (himm : ∀ r, r < w.heap.size → imm r) {base b0 : Nat} {r : Reach} {sp : Nat → Bool} {held : Bool} {t : TypeId} {v : Value} {d : DataW H} {ps : List MemPlace} {a : Bool × List Sh} (ha : argShape P t = some a) (hok : Value.okWide P w r b0 t v) (h : DataW.Trod enc P w base sp held t v d ps) :
  ∃ s, fitsA a s ∧ den w imm s NoD NoE v := by
 unfold argShape at ha
 split at ha
 ·rename_i x ss e1 e2
  cases ha
  obtain ⟨fuel, h⟩ := h
  obtain ⟨ts, q1, q2, q3, q4⟩ := trod_tree himm 12 fuel t _ _ ss e2 h
  cases x with
  | true =>
   have : ∃ cs, v = .agg cs := by
    unfold aggT at e1
    unfold Value.okWide at hok
    split at e1 <;> simp_all
    exact ⟨_, hok.choose_spec.1⟩
   obtain ⟨cs, rfl⟩ := this
   refine ⟨.agg ts, ⟨ts, q1, by simp⟩, ?_⟩
   simp only [den]
   exact ⟨cs.toList, by simp, by simpa [Value.cells] using q2⟩
  | false =>
   have hc := cells_arg e1 hok
   rw [hc] at q2 q3
   have hl := fitsL_len q1
   simp at q3
   obtain ⟨s, rfl⟩ := List.length_eq_one_iff.1 (hl.trans q3.symm)
   refine ⟨s, ⟨[s], q1, by simp⟩, ?_⟩
   simp only [denL] at q2
   obtain ⟨u, us, e3, q2, _⟩ := q2
   cases e3
   exact q2
 ·cases ha
theorem args_tree (himm : ∀ r, r < w.heap.size → imm r) {base b0 : Nat} {r : Reach} {sp : Nat → Bool} {held : Bool} : ∀ {ts : List TypeId} {vs : List Value} {ds : List (DataW H)} {ps : List MemPlace} {shs : List (Bool × List Sh)}, argShapes P ts = some shs →
  (∀ (j : Nat) t v, ts[j]? = some t → vs[j]? = some v → Value.okWide P w r b0 t v) → DataW.TrodAll enc P w base sp held ts vs ds ps → ∃ ss, fitsArgs shs ss ∧ denL w imm ss NoD NoE vs
 | [], vs, ds, ps, as, ha, _, h => by
  cases vs <;> cases ds <;> simp [DataW.TrodAll] at h
  simp only [argShapes, Option.some.injEq] at ha
  subst ha
  exact ⟨[], rfl, by simp [denL]⟩
 | t :: ts, vs, ds, ps, as, ha, hok, h => by
  obtain ⟨v, vs', d, ds', p, q, rfl, rfl, rfl, h1, h2⟩ := trodAll_cons h
  simp only [argShapes] at ha
  split at ha
  ·rename_i a r' e1 e2
   cases ha
   obtain ⟨s, q1, q2⟩ := arg_tree himm e1 (hok 0 t v rfl rfl) h1
   obtain ⟨ss, q3, q4⟩ := args_tree himm e2 (fun j t' v' h3 h4 => hok (j + 1) t' v' h3 h4) h2
   exact ⟨s :: ss, ⟨s, ss, rfl, q1, q3⟩, by simp only [denL]; exact ⟨v, vs', rfl, q2, q4⟩⟩
  ·cases ha
theorem args_keep (hl : laidOutB P = true) {W W' : World} (hb : Below W.heap.size W W') : ∀ {ts : List TypeId} {vs : List Value} {ds : List (DataW H)} {ps : List MemPlace}, (∀ t ∈ ts, P.readableRec t = true ∧ t < P.types.size) →
  DataW.TrodAll enc P W 0 (fun _ => true) true ts vs ds ps → (∀ x ∈ ps, x.block < W.heap.size) → DataW.TrodAll enc P W' 0 (fun b => decide (b < W.heap.size)) true ts vs ds ps
 | [], vs, ds, ps, _, h, _ => by
  cases vs <;> cases ds <;> simp [DataW.TrodAll] at h ⊢
  exact h
 | t :: ts, vs, ds, ps, ht, h, hlt => by
  obtain ⟨v, vs', d, ds', p, q, rfl, rfl, rfl, h1, h2⟩ := trodAll_cons h
  exact ⟨p, q, Below.trod hl (ht t (by simp)).1 (ht t (by simp)).2 h1 hb (fun x hx => hlt x (by simp [hx])), args_keep hl hb (fun t h => ht t (by simp [h])) h2 (fun x hx => hlt x (by simp [hx])), rfl⟩
theorem row_true {f : FuncId} {fn : Func} {s : ChangeSpec} {apart fresh handsOn : Bool} {W : World} {base : Nat} {args : Array Value} {ds gs : List (DataW H)} {before : List MemPlace} {shs : List (Bool × List Sh)} {tb : TypeId}
  (hm : P.follows .mixedOrders = true) (hl : laidOutB P = true) (hts : ∀ t ∈ fn.params.toList, P.readableRec t = true ∧ t < P.types.size) (has : argShapes P fn.params.toList = some shs) (hb : fn.resultTypes = #[tb]) (hbt : P.underlying tb = some .bool)
  (hvars : s.vars = []) (hspec : ds.length = fn.params.size → s.fn H ds = { results := [.lit (.bool true)], args := ds })
  (hval : ∀ (j : Nat) t v, fn.params[j]? = some t → args[j]? = some v → Value.okWide P W .any base t v)
  (hW : DataW.Whole enc P fn.params.toList s.vars apart W args.toList ds gs before)
  (hPF : ∀ ss, fitsArgs shs ss → PF P f ss (· = .bool true)) :
  Calls P f args W fun e W' => ∃ v, e = .returned v ∧ s.post enc P fn apart fresh handsOn false W args v W' := by
 have hW' := hW
 obtain ⟨p, q, hA, hV, rfl, hfz, hnd⟩ := hW
 have hlt : ∀ x ∈ p ++ q, x.block < W.heap.size := fun x hx => hW'.lt x hx
 rw [hvars] at hV
 obtain ⟨rfl, rfl⟩ := trodVars_none hV
 obtain ⟨ss, q1, q2⟩ := args_tree (imm := fun r => r < W.heap.size) (fun r h => h) has (r := .any) (b0 := base) (fun j t v h1 h2 => hval j t v (by simpa using h1) (by simpa using h2)) hA
 have hlen : ∀ {ts : List TypeId} {vs : List Value} {ds : List (DataW H)} {ps : List MemPlace}, DataW.TrodAll enc P W 0 (fun _ => true) true ts vs ds ps → ds.length = ts.length := by
  intro ts
  induction ts with
  | nil => intro vs ds ps h; cases vs <;> cases ds <;> simp [DataW.TrodAll] at h ⊢
  | cons t ts ih =>
   intro vs ds ps h
   obtain ⟨v, vs', d, ds', p, q, rfl, rfl, rfl, h1, h2⟩ := trodAll_cons h
   simp [ih h2]
 have hsp := hspec (by rw [hlen hA]; simp)
 have hrun := (hPF ss q1).run hm (fun r => r < W.heap.size) W args.toList (fun r h => h) q2
 refine (callsIn_wide.1 (show CallsIn Fence.wide 0 P f args.toList.toArray W _ from hrun) : Calls P f args.toList.toArray W _).mono ?_
 rintro e W' ⟨v, s', imm', rfl, rfl, _, _, hv, hx⟩
 simp only [den] at hv
 subst hv
 have hbel : Below W.heap.size W W' := ⟨hx.os, hx.tape, hx.output, hx.size, fun r hr => hx.old r hr fun b l _ hl => by cases hl⟩
 refine ⟨_, rfl, ds, [], p ++ [], [], p, [], hW', ?_, ?_, ?_, hbel.frame _, fun h => by cases h⟩
 ·rw [List.append_nil, hsp, hb]
  exact trodAll_mk1 (shut_bool hbt _)
 ·rw [List.append_nil, hsp]
  exact args_keep hl hbel hts hA (fun x hx => hlt x (by simpa using hx))
 ·rw [List.append_nil, hsp, hvars]
  rfl
end
end Go.TV
