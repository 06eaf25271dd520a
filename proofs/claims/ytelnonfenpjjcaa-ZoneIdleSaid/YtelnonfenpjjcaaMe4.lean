/- The value calculus, fourth part: further rules. -/
import Derived.Test.YtelnonfenpjjcaaMe3
set_option linter.unusedSimpArgs false
set_option linter.unusedVariables false
/- The value calculus, part 2P: publishing an own slice that lies in another own slice. -/
namespace Go.TV
open Go.RowKit

def subH' (b sz : Nat) (es : List SV) : LB → LB
  | .cells cs => .cells (subAL b sz es cs)
  | .arr e s xs => .arr e s (subAL b sz es xs)
  | lb => lb
def subHK' (b sz : Nat) (es : List SV) : List LB → (List LB → Prop) → Prop
  | [], k => k []
  | x :: xs, k => subHK' b sz es xs fun l => k (subH' b sz es x :: l)
/-- The own slice of a block becomes one that is never written again, also where it is an element of another own slice. -/
def pubB' (b : Nat) (S : St) (k : St → Prop) : Prop :=
  match hget S.h b with
  | .arr _ sz es => Vc (cloL es) ∧ Ev (subTK b sz es S.σ fun σ' => subHK' b sz es S.h fun h1 => updGo h1 b .dead fun h' => k ⟨σ', h', S.mks⟩)
  | _ => False
theorem subHK'_eq {b sz : Nat} {es : List SV} : ∀ {xs : List LB} {k : List LB → Prop}, subHK' b sz es xs k → k (xs.map (subH' b sz es))
  | [], _, h => h
  | x :: xs, k, h => subHK'_eq (xs := xs) (k := fun l => k (subH' b sz es x :: l)) h
theorem subAL_len {b sz : Nat} {es : List SV} : ∀ (xs : List SV), (subAL b sz es xs).length = xs.length
  | [] => rfl
  | _ :: xs => by simp [subAL, subAL_len xs]
theorem subAL_append {b sz : Nat} {es : List SV} : ∀ (xs ys : List SV), subAL b sz es (xs ++ ys) = subAL b sz es xs ++ subAL b sz es ys
  | [], _ => rfl
  | _ :: xs, ys => by simp [subAL, subAL_append xs ys]
theorem subAL_keep {b sz : Nat} {es : List SV} : ∀ (xs : List SV), (∀ s ∈ xs, ∀ n, s ≠ .own n) → subAL b sz es xs = xs
  | [], _ => rfl
  | s :: xs, h => by
    simp only [subAL]
    rw [subAL_keep xs fun s hs => h s (by simp [hs])]
    have := h s (by simp)
    cases s <;> first | rfl | (exact absurd rfl (this _))

section
variable {P : Program} {r : Fr}

theorem pubB'_spec {b B : Nat} {S : St} {k : St → Prop} (h : pubB' b S k) : ∃ S', k S' ∧ Wk P B S S' := by
  unfold pubB' at h
  split at h
  · rename_i e sz es he
    obtain ⟨⟨hc⟩, h⟩ := h
    have h := updGo_spec (subHK'_eq (subTK_eq h.at))
    obtain ⟨h', h1, h2, h3, h4, h5⟩ := h
    refine ⟨_, h1, fun g a w hs => ?_⟩
    have hbb := hs.hp b
    rw [he] at hbb
    obtain ⟨l, hl⟩ : ∃ l, g.ι b = some l := ⟨_, hbb.choose_spec.choose_spec.1⟩
    have hblt : b < S.h.length := hs.lt b (hs.ok.own b l hl).1
    have bk : Bk P g S.h w := ⟨hs.ok, hs.lt, hs.hp⟩
    obtain ⟨r2, r3⟩ := pub_book (h' := S.h.set b .dead) bk hl (by simp) (by rw [hget_setD b hblt]; simp) (fun c hc => by rw [hget_setD c hblt]; simp [hc])
      (bk.nodep (fun es e => by rw [he] at e; cases e) (fun e => by rw [he] at e; cases e) (fun _ e => by rw [he] at e; cases e))
    have hsl : ∀ v, den w (g.pub b l.blk).imm (.own b) g.dom g.ι v → den w (g.pub b l.blk).imm (.sl sz es) g.dom g.ι v := fun v hv => by
      simp only [den] at hv
      exact clo_den _ (by simp only [clo]) (sl_of_own (imm := (g.pub b l.blk).imm) hl hbb hc (v := v) (by simp only [Gh.den, den]; exact hv) (fun r hr => .inl hr) (.inr rfl))
    have himm : ∀ r, g.imm r → (g.pub b l.blk).imm r := fun r hr => .inl hr
    have hι : ∀ c l', g.dom c → (g.pub b l.blk).ι c = some l' → g.ι c = some l' := fun c l' _ hc => by
      simp only [Gh.pub] at hc
      split at hc
      · cases hc
      · exact hc
    refine ⟨g.pub b l.blk, ⟨r2.ok, fun c hc' => ?_, ?_, fun c => ?_, r3.df hs.df⟩, r3.exw B⟩
    · have := r2.lt c hc'
      simp at this h2
      simp only; omega
    · exact denL.mono (fun _ h => h) (fun _ _ => rfl) _ (fun _ h => h) hι (map_denL (subT_den hsl) (denL_imm himm hs.tm))
    · simp only
      by_cases hcb : c = b
      · subst hcb; rw [h4]; trivial
      · rw [h5 c hcb, hget_map rfl]
        have := r2.hp c
        rw [hget_setD c hblt, if_neg hcb] at this
        cases hg : hget S.h c <;> rw [hg] at this <;> try exact this
        · rename_i cs
          have hcc := hs.hp c
          rw [hg] at hcc
          obtain ⟨l', vs, t, q1, q2, q3⟩ := hcc
          refine ⟨l', vs, t, by simp [Gh.pub, hcb, q1], q2, ?_⟩
          exact denL.mono (fun _ h => h) (fun _ _ => rfl) _ (fun _ h => h) hι (subAL_den hsl (denL_imm himm q3))
        · rename_i e1 s1 xs
          have hcc := hs.hp c
          rw [hg] at hcc
          obtain ⟨l', vs, q1, q2, q3, q4, q5⟩ := hcc
          refine ⟨l', vs, by simp [Gh.pub, hcb, q1], by simpa [subAL_len] using q2, ?_, q4, q5⟩
          exact denL.mono (fun _ h => h) (fun _ _ => rfl) _ (fun _ h => h) hι (subAL_den hsl (denL_imm himm q3))
  · exact h.elim
theorem TSq.pubA (b : Nat) {ts : List TOper} {S : St} {K : St → Prop} (h : Ev (pubB' b S fun S' => evR P r ts S' K)) : TSq P r ts S K := by
  obtain ⟨S', h1, h2⟩ := pubB'_spec h.at
  exact TSq.wk h2 (TSq_iff.2 (evR_sound h1))
theorem TWq.pubA (b : Nat) {c : TCode} {S : St} {Q : Option Jump → St → Prop} (h : Ev (pubB' b S fun S' => evC P r c S' Q)) : TWq P r c S Q := by
  obtain ⟨S', h1, h2⟩ := pubB'_spec h.at
  exact TWq.wk h2 (TWq_iff.2 (evC_sound h1))

def pubLs : List Nat → St → (St → Prop) → Prop
  | [], S, k => k S
  | b :: bs, S, k => pubB' b S fun S' => pubLs bs S' k
theorem pubLs_spec {B : Nat} : ∀ {bs : List Nat} {S : St} {k : St → Prop}, pubLs bs S k → ∃ S', k S' ∧ Wk P B S S'
  | [], S, _, h => ⟨S, h, Wk.refl _ _⟩
  | b :: bs, S, k, h => by
    obtain ⟨S1, h1, h2⟩ := pubB'_spec (P := P) (B := B) h
    obtain ⟨S2, h3, h4⟩ := pubLs_spec (bs := bs) h1
    exact ⟨S2, h3, h2.trans h4⟩

/-- A loop whose blocks are renumbered in more than one way, own slices being published at a round's end. -/
theorem TWq.loopA {α : Type} (ch : α → List (Nat × SV)) (bl : α → List (Nat × LB)) (pre : α → Prop) (μ : α → Nat) (x0 : α) (b0 : List Nat) (p0 : List (Nat × Nat)) {c : TCode} {S : St} {Q : Option Jump → St → Prop}
    (h0 : Ev (pubLs b0 S fun S0 => Ev (mkStK S0 (asg c) (ch x0) (bl x0) fun T => fitS r.base p0 S0 T) ∧ pre x0 ∧
      ∀ x, pre x → Ev (mkStK S0 (asg c) (ch x) (bl x) fun S1 => evC P r c S1 fun j S' => match j with
      | none => Vc (∃ bs : List Nat, Ev (pubLs bs S' fun S2 => Vc (∃ (p1 : List (Nat × Nat)) (y : α), pre y ∧ μ y < μ x ∧ Ev (mkStK S0 (asg c) (ch y) (bl y) fun T => fitS r.base p1 S2 T))))
      | some j => Q (some j) S'))) : TWq P r (.loop c) S Q := by
  obtain ⟨S0, ⟨h0, hp, step⟩, hw⟩ := pubLs_spec (P := P) (B := r.base) h0.at
  refine TWq.wk hw ?_
  rw [TWq_iff]
  refine TW.loop (fun x => mkSt S0 (asg c) (ch x) (bl x)) pre μ x0 (Wk.fit p0 (mkStK_eq h0.at)) hp fun x hx => ?_
  have := mkStK_eq (step x hx).at
  refine TW.mono (evC_sound this) fun j S' h => ?_
  cases j with
  | none =>
    obtain ⟨bs, h⟩ := h.h
    obtain ⟨S2, h, hw2⟩ := pubLs_spec (P := P) (B := r.base) h.at
    obtain ⟨p1, y, h1, h2, h3⟩ := h.h
    exact ⟨y, hw2.trans (Wk.fit p1 (mkStK_eq h3.at)), h1, h2⟩
  | some j => exact h
/-- The same, nothing being published ahead of it. -/
theorem TWq.loopB {α : Type} (ch : α → List (Nat × SV)) (bl : α → List (Nat × LB)) (pre : α → Prop) (μ : α → Nat) (x0 : α) (p0 : List (Nat × Nat)) {c : TCode} {S : St} {Q : Option Jump → St → Prop}
    (h0 : Ev (mkStK S (asg c) (ch x0) (bl x0) fun T => fitS r.base p0 S T)) (hp : pre x0)
    (step : ∀ x, pre x → Ev (mkStK S (asg c) (ch x) (bl x) fun S1 => evC P r c S1 fun j S' => match j with
      | none => Vc (∃ bs : List Nat, Ev (pubLs bs S' fun S2 => Vc (∃ (p1 : List (Nat × Nat)) (y : α), pre y ∧ μ y < μ x ∧ Ev (mkStK S (asg c) (ch y) (bl y) fun T => fitS r.base p1 S2 T))))
      | some j => Q (some j) S')) : TWq P r (.loop c) S Q :=
  TWq.loopA ch bl pre μ x0 [] p0 (Ev.go (show pubLs [] S _ from ⟨h0, hp, step⟩))
end
end Go.TV
