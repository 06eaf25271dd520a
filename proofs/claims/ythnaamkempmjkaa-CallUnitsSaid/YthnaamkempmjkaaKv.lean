/- A society in which nobody's Most is less than a need. -/
import Derived.Test.YthnaamkempmjkaaKy
import Derived.Test.YthnaamkempmjkaaPe
import Derived.Test.YthnaamkempmjkaaKfV
set_option linter.unusedSimpArgs false
set_option linter.unusedVariables false
open Go Go.TV
namespace Go.Proofs.Ythnaamkempmjkaa

def frM (n : Int) (m : Mem) : Mem := ⟨m.sum, m.cls, max m.most n⟩
def freeS (s : Soc) (n : Int) : Soc := ⟨s.members.map (frM n), s.losses, s.treaty, s.reserve⟩
/-- The first members changed. -/
def upK (g : Mem → Mem) (ms : List Mem) (k : Nat) : List Mem := (ms.take k).map g ++ ms.drop k
theorem upK_len (g : Mem → Mem) (ms : List Mem) (k : Nat) : (upK g ms k).length = ms.length := by simp [upK]; omega
theorem upK_at {ms : List Mem} {g : Mem → Mem} {k : Nat} {m : Mem} (h : ms[k]? = some m) : (upK g ms k)[k]? = some m := by
  have hk := (List.getElem?_eq_some_iff.1 h).1
  rw [upK, List.getElem?_append_right (by simp; omega)]
  simp only [List.length_map, List.length_take, Nat.min_eq_left (Nat.le_of_lt hk), Nat.sub_self, List.getElem?_drop, Nat.add_zero, h]
theorem upK_next {ms : List Mem} {g : Mem → Mem} {k : Nat} {m : Mem} (h : ms[k]? = some m) : upK g ms (k + 1) = (upK g ms k).set k (g m) := by
  have hk := (List.getElem?_eq_some_iff.1 h).1
  refine List.ext_getElem? fun i => ?_
  rw [List.getElem?_set]
  simp only [upK_len]
  split
  · rename_i hi; subst hi
    simp only [upK, take_snoc h]
    rw [List.getElem?_append_left (by simp; omega)]
    simp only [List.map_append, List.map_cons, List.map_nil]
    rw [List.getElem?_append_right (by simp; omega)]
    simp [Nat.min_eq_left (Nat.le_of_lt hk)]
  · rename_i hi
    rcases Nat.lt_or_ge i k with h1 | h1
    · rw [upK, upK, List.getElem?_append_left (by simp; omega), List.getElem?_append_left (by simp; omega)]
      simp only [List.getElem?_map, List.getElem?_take]
      rw [if_pos (by omega), if_pos h1]
    · rw [upK, upK, List.getElem?_append_right (by simp; omega), List.getElem?_append_right (by simp; omega)]
      simp only [List.length_map, List.length_take, List.getElem?_drop]
      congr 1; omega
theorem upK_set {g : Mem → Mem} {ms : List Mem} {k : Nat} {m : Mem} {e : SV} (h : ms[k]? = some m) (he : e = encY (g m)) : (encYs (upK g ms k)).set (k : Int).toNat e = encYs (upK g ms (k + 1)) := by
  rw [upK_next h, encYs, encYs, List.map_set, he]; rfl
theorem upK_all (g : Mem → Mem) (ms : List Mem) : upK g ms ms.length = ms.map g := by simp [upK]
set_option maxRecDepth 100000 in
set_option maxHeartbeats 4000000 in
theorem c37 (s : Soc) (n : Int) (hl : s.members.length ≤ 1000) : PF Try.prog 37 [encSoc s, .int .i64 n] (· = encSoc (freeS s n)) := by
  have hz := encYs_len s.members
  refine PF.of (TF.ev fn_37 (Ev.at ?_))
  (repeat' (first | (intro ex hex; have hq := hg1 (by omega) hex; subst hq; clear hex) | (refine Ev.go ?_; conv => whnf) | refine And.intro ?_ ?_ | exact True.intro | exact rfl | (intro rx hrx; rw [IntWalk.i64_in _ (by omega)] at hrx) | (intro hcx; exfalso; omega) | intro _))
  all_goals (first | (refine ⟨?_⟩; first | rfl | exact List.cons_ne_nil _ _ | (show (_ : Nat) * _ ≤ _; simp [catS, repl, chunks, lz] <;> omega) | exact shS _ _ | exact shM _ | exact shN | exact encM_clo _ | exact ⟨rfl, rfl⟩ | exact ⟨rfl, rfl, rfl⟩ | omega | (simp only [lz]; omega) | (simp; omega) | (simp [cloL, clo, catS, repl, cz, encR, encY, encS]; done) | (show chkGo _ _ _ _ _ = true; kernel_rfl)) | (simp [cloL, clo, catS, repl, cz, encR, encY, encS]; done) | skip)
  refine TWq.loop (fun k : Nat => [(6, .int .i64 k)]) (fun k => [(4, .arr 62 3 (encYs (upK (frM n) s.members k)))]) (fun k => k ≤ s.members.length) (fun k => s.members.length - k) 0 [] [] ?_ (by omega) ?_
  · (repeat' (first | (intro ex hex; have hq := hg1 (by omega) hex; subst hq; clear hex) | (refine Ev.go ?_; conv => whnf) | refine And.intro ?_ ?_ | exact True.intro | exact rfl | (intro rx hrx; rw [IntWalk.i64_in _ (by omega)] at hrx) | (intro hcx; exfalso; omega) | intro _))
    all_goals (first | (refine ⟨?_⟩; first | rfl | exact List.cons_ne_nil _ _ | (show (_ : Nat) * _ ≤ _; simp [catS, repl, chunks, lz] <;> omega) | exact shS _ _ | exact shM _ | exact shN | exact encM_clo _ | exact ⟨rfl, rfl⟩ | exact ⟨rfl, rfl, rfl⟩ | omega | (simp only [lz]; omega) | (simp; omega) | (simp [cloL, clo, catS, repl, cz, encR, encY, encS]; done) | (show chkGo _ _ _ _ _ = true; kernel_rfl)) | (simp [cloL, clo, catS, repl, cz, encR, encY, encS]; done) | skip)
  · intro k hk
    have hK := encYs_len (upK (frM n) s.members k)
    rw [upK_len] at hK
    rcases Nat.lt_or_ge k s.members.length with hkl | hkl
    · obtain ⟨m, hmk⟩ : ∃ m, s.members[k]? = some m := ⟨_, List.getElem?_eq_getElem hkl⟩
      have hfk := upK_at (g := frM n) hmk
      have hg1 : ∀ {i : Nat} {e : SV}, i = k → (encYs (upK (frM n) s.members k))[i]? = some e → e = encY m := by
        rintro i e rfl he
        obtain ⟨x, hx, rfl⟩ := encYs_at he
        rw [hfk] at hx; cases hx; rfl
      (repeat' (first | (intro ex hex; have hq := hg1 (by omega) hex; subst hq; clear hex) | (refine Ev.go ?_; conv => whnf) | refine And.intro ?_ ?_ | exact True.intro | exact rfl | (intro rx hrx; rw [IntWalk.i64_in _ (by omega)] at hrx) | (intro hcx; exfalso; omega) | intro _))
      all_goals (first | (refine ⟨?_⟩; first | rfl | exact List.cons_ne_nil _ _ | (show (_ : Nat) * _ ≤ _; simp [catS, repl, chunks, lz] <;> omega) | exact shS _ _ | exact shM _ | exact shN | exact encM_clo _ | exact ⟨rfl, rfl⟩ | exact ⟨rfl, rfl, rfl⟩ | omega | (simp only [lz]; omega) | (simp; omega) | (simp [cloL, clo, catS, repl, cz, encR, encY, encS]; done) | (show chkGo _ _ _ _ _ = true; kernel_rfl)) | (simp [cloL, clo, catS, repl, cz, encR, encY, encS]; done) | skip)
      refine ⟨⟨k + 1, by omega, by omega, ?_⟩⟩
      (repeat' (first | (intro ex hex; have hq := hg1 (by omega) hex; subst hq; clear hex) | (refine Ev.go ?_; conv => whnf) | refine And.intro ?_ ?_ | exact True.intro | exact rfl | (intro rx hrx; rw [IntWalk.i64_in _ (by omega)] at hrx) | (intro hcx; exfalso; omega) | intro _))
      all_goals (first | (refine ⟨?_⟩; first | rfl | exact List.cons_ne_nil _ _ | (show (_ : Nat) * _ ≤ _; simp [catS, repl, chunks, lz] <;> omega) | exact shS _ _ | exact shM _ | exact shN | exact encM_clo _ | exact ⟨rfl, rfl⟩ | exact ⟨rfl, rfl, rfl⟩ | omega | (simp only [lz]; omega) | (simp; omega) | (simp [cloL, clo, catS, repl, cz, encR, encY, encS]; done) | (show chkGo _ _ _ _ _ = true; kernel_rfl)) | (simp [cloL, clo, catS, repl, cz, encR, encY, encS]; done) | skip)
      all_goals (refine ⟨upK_set hmk ?_⟩; simp only [encY, frM, SV.agg.injEq, List.cons.injEq, SV.int.injEq, true_and, and_true]; omega)
    · have hke : k = s.members.length := by omega
      subst hke
      (repeat' (first | (intro ex hex; have hq := hg1 (by omega) hex; subst hq; clear hex) | (refine Ev.go ?_; conv => whnf) | refine And.intro ?_ ?_ | exact True.intro | exact rfl | (intro rx hrx; rw [IntWalk.i64_in _ (by omega)] at hrx) | (intro hcx; exfalso; omega) | intro _))
      all_goals (first | (refine ⟨?_⟩; first | rfl | exact List.cons_ne_nil _ _ | (show (_ : Nat) * _ ≤ _; simp [catS, repl, chunks, lz] <;> omega) | exact shS _ _ | exact shM _ | exact shN | exact encM_clo _ | exact ⟨rfl, rfl⟩ | exact ⟨rfl, rfl, rfl⟩ | omega | (simp only [lz]; omega) | (simp; omega) | (simp [cloL, clo, catS, repl, cz, encR, encY, encS]; done) | (show chkGo _ _ _ _ _ = true; kernel_rfl)) | (simp [cloL, clo, catS, repl, cz, encR, encY, encS]; done) | skip)
      all_goals
        rw [upK_all]; rfl
theorem freeS_fault {s : Soc} {n : Int} (h : fault s = 0) (hn : 0 ≤ n ∧ n ≤ 100000) : fault (freeS s n) = 0 := by
  have h1 := fault_valid h
  have h2 := fault_len h
  refine fault_0 (by simp only [freeS, List.length_map]; omega) ?_
  simp only [Soc.valid, Bool.and_eq_true] at h1 ⊢
  have hall : (freeS s n).members.all Mem.valid = true := by
    rw [List.all_eq_true] at h1 ⊢
    intro x hx
    simp only [freeS, List.mem_map] at hx
    obtain ⟨m, hm, rfl⟩ := hx
    have := h1.2.1 m hm
    simp only [Mem.valid, within, Bool.and_eq_true, decide_eq_true_eq] at this ⊢
    refine ⟨this.1, this.2.1, ?_⟩
    show 0 ≤ max m.most n ∧ max m.most n ≤ 100000
    omega
  exact ⟨by simpa [freeS] using h1.1, ⟨hall, h1.2.2⟩⟩
theorem freeS_free (s : Soc) (n : Int) : FreeMs (freeS s n).members n := by
  intro i hi
  have hm : (freeS s n).members[i]? = some (freeS s n).members[i] := List.getElem?_eq_getElem hi
  rw [mst_at hm]
  simp only [freeS, List.getElem_map, frM]
  omega
end Go.Proofs.Ythnaamkempmjkaa
