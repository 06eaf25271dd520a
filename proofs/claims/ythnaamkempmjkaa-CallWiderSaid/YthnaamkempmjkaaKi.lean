/- Who is asked; the calls. -/
import Derived.Test.YthnaamkempmjkaaKh
set_option linter.unusedSimpArgs false
set_option linter.unusedVariables false
open Go Go.TV
namespace Go.Proofs.Ythnaamkempmjkaa

def askU (out : List Int) (k i : Nat) : Bool := decide (i < k) && !out.contains (i : Int)
theorem askU_other {out : List Int} {k i : Nat} (h : i ≠ k) : askU out k i = askU out (k + 1) i := by
  unfold askU
  have : i < k ↔ i < k + 1 := by omega
  simp only [this]
theorem askU_at {out : List Int} {k : Nat} : (!out.contains (k : Int)) = askU out (k + 1) k := by
  unfold askU
  simp
/-- A list, which may be nil. -/
def LN (l : List Int) (o : SV) : Prop := o = .sl 1 (ints l) ∨ (l = [] ∧ o = .nils)
theorem LN.clo {l : List Int} {o : SV} (h : LN l o) : clo o := by
  rcases h with rfl | ⟨_, rfl⟩ <;> simp [TV.clo, ints_clo]
theorem c88n {l : List Int} {o : SV} (h : LN l o) (n : Int) (hlen : l.length ≤ 1000000) : PF Try.prog 88 [o, .int .i64 n] (· = .bool (l.contains n)) := by
  rcases h with rfl | ⟨rfl, rfl⟩
  · exact c88 l n hlen
  · refine PF.fit (c88 [] n (by simp)) ?_
    (repeat' (first | (refine Ev.go ?_; conv => whnf) | refine And.intro ?_ ?_ | exact True.intro | exact rfl | (intro rx hrx; rw [IntWalk.i64_in _ (by omega)] at hrx) | (intro hcx; exfalso; omega) | (intro hcx; exfalso; simp only [lz] at hcx; omega) | intro _))
    all_goals (first | (refine ⟨?_⟩; exact vc) | exact cl | skip)

set_option maxHeartbeats 4000000 in
set_option maxRecDepth 100000 in
theorem t70 (s : Soc) (out : List Int) (o : SV) (ho : LN out o) (hl : s.members.length ≤ 5) (hol : out.length ≤ 1000000) :
    TF Try.prog 70 [encSoc s, o] [.cells (socC s)] (fun r h' => h' = [.cells (socC s), .cells (socC s), .cells (encW s (askF s.members out) .nilm)] ∧ r = .ptr 2 0) := by
  have hz := encYs_len s.members
  obtain ⟨ct, hct⟩ : ∃ ct : Nat → Bool, ∀ k : Nat, out.contains (k : Int) = ct k := ⟨_, fun _ => rfl⟩
  have hd88 : ∀ k : Nat, PF Try.prog 88 [o, .int .i64 k] (· = .bool (ct k)) := fun k => by have := c88n ho (k : Int) hol; rw [hct] at this; exact this
  have hask : ∀ k : Nat, (!ct k) = askU out (k + 1) k := fun k => by rw [← hct]; exact askU_at
  clear hct
  obtain ⟨L, hL⟩ : ∃ L, L = out := ⟨_, rfl⟩
  rcases ho with rfl | ⟨rfl, rfl⟩
  all_goals
    refine TF.cutTo (TF.ev fn_70 (Ev.at ?_))
    (repeat' (first | (refine Ev.go ?_; conv => whnf) | refine And.intro ?_ ?_ | exact True.intro | exact rfl | (intro rx hrx; rw [IntWalk.i64_in _ (by omega)] at hrx) | (intro hcx; exfalso; omega) | intro _))
    all_goals (first | (refine ⟨?_⟩; exact vc) | exact cl | skip)
    refine TWq.loop (fun k : Nat => [(14, .int .i64 k), (6, .junk)]) (fun k => [(2, .cells (encW s (askU L k) .nilm))]) (fun k => k ≤ s.members.length) (fun k => s.members.length - k) 0 [] [] ?_ (by omega) ?_
    · (repeat' (first | (refine Ev.go ?_; conv => whnf) | refine And.intro ?_ ?_ | exact True.intro | exact rfl | (intro rx hrx; rw [IntWalk.i64_in _ (by omega)] at hrx) | (intro hcx; exfalso; omega) | intro _))
      all_goals (first | (refine ⟨?_⟩; exact vc) | exact cl | skip)
      all_goals (refine ⟨?_⟩; simp [askU])
    · subst hL
      intro k hk
      rcases Nat.lt_or_ge k s.members.length with hkl | hkl
      · have d88 := hd88 k
        obtain ⟨k1, hk1⟩ : ∃ k1, k1 = k + 1 := ⟨_, rfl⟩
        have hcs : k = 0 ∨ k = 1 ∨ k = 2 ∨ k = 3 ∨ k = 4 := by omega
        rcases hcs with rfl | rfl | rfl | rfl | rfl
        all_goals
          have hca := hask (k1 - 1)
          rw [hk1] at hca
          simp only [Nat.add_sub_cancel] at hca
          cases hck : ct (k1 - 1)
          all_goals
            rw [hk1, Nat.add_sub_cancel] at hck
            rw [hck] at d88 hca
            (repeat' (first | (refine Ev.go ?_; conv => whnf) | refine And.intro ?_ ?_ | exact True.intro | exact rfl | (intro rx hrx; rw [IntWalk.i64_in _ (by omega)] at hrx) | (intro hcx; exfalso; omega) | intro _))
            all_goals (first | (refine ⟨?_⟩; exact vc) | exact cl | skip)
            refine TDq.pureC d88 cl rfl (And.intro rfl rfl) ?_
            (repeat' (first | (refine Ev.go ?_; conv => whnf) | refine And.intro ?_ ?_ | exact True.intro | exact rfl | (intro rx hrx; rw [IntWalk.i64_in _ (by omega)] at hrx) | (intro hcx; exfalso; omega) | intro _))
            all_goals (first | (refine ⟨?_⟩; exact vk) | exact cl | skip)
            refine ⟨⟨k1, by omega, by omega, ?_⟩⟩
            subst hk1
            (repeat' (first | (refine Ev.go ?_; conv => whnf) | refine And.intro ?_ ?_ | exact True.intro | exact rfl | (intro rx hrx; rw [IntWalk.i64_in _ (by omega)] at hrx) | (intro hcx; exfalso; omega) | intro _))
            all_goals (first | (refine ⟨?_⟩; exact vc) | exact cl | skip)
            all_goals (first | exact ⟨hca⟩ | exact ⟨askU_other (by decide)⟩ | skip)
      · have hke : k = s.members.length := by omega
        subst hke
        (repeat' (first | (refine Ev.go ?_; conv => whnf) | refine And.intro ?_ ?_ | exact True.intro | exact rfl | (intro rx hrx; rw [IntWalk.i64_in _ (by omega)] at hrx) | (intro hcx; exfalso; omega) | intro _))
        all_goals (first | (refine ⟨?_⟩; exact vc) | exact cl | skip)

/-! ### The calls -/
theorem any5_iff {f : Nat → Bool} : any5 f = false ↔ f 0 = false ∧ f 1 = false ∧ f 2 = false ∧ f 3 = false ∧ f 4 = false := by
  simp [any5]
def capU (ms : List Mem) (f : Nat → Bool) (need : Int) (k i : Nat) : Bool := f i && !(decide (i < k) && capF ms f need i)
def outU (ms : List Mem) (f : Nat → Bool) (need : Int) (o : Nat → Int) (k i : Nat) : Int := if i < k ∧ capF ms f need i = true then mst ms i else o i
def finU (ms : List Mem) (f : Nat → Bool) (need : Int) (o : Nat → Int) (k i : Nat) : Int := if i < k ∧ f i = true then shareF ms f need i else o i
def cntB (f : Nat → Bool) : Nat := (f 0).toNat + (f 1).toNat + (f 2).toNat + (f 3).toNat + (f 4).toNat
end Go.Proofs.Ythnaamkempmjkaa
