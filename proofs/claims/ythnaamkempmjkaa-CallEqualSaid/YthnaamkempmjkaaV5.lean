/- CallEqual, the walk of the statement. -/
import Derived.Test.YthnaamkempmjkaaKy
import Derived.Test.YthnaamkempmjkaaKfL5
set_option linter.unusedSimpArgs false
set_option linter.unusedVariables false
open Go Go.TV
namespace Go.Proofs.Ythnaamkempmjkaa

/-- A society in which one member is made equal to another one. -/
def eqS (s : Soc) (k : Nat) (m : Mem) : Soc := ⟨s.members.set k m, s.losses, s.treaty, s.reserve⟩
theorem eqS_fault {s : Soc} {k : Nat} {m : Mem} (h : fault s = 0) (hm : m ∈ s.members) : fault (eqS s k m) = 0 := by
  have h1 := fault_valid h
  have h2 := fault_len h
  refine fault_0 (by simp only [eqS, List.length_set]; omega) ?_
  simp only [Soc.valid, Bool.and_eq_true] at h1 ⊢
  have hall : (eqS s k m).members.all Mem.valid = true := by
    rw [List.all_eq_true] at h1 ⊢
    intro x hx
    rcases List.mem_or_eq_of_mem_set hx with h | rfl
    · exact h1.2.1 x h
    · exact h1.2.1 x hm
  exact ⟨by simpa [eqS] using h1.1, ⟨hall, h1.2.2⟩⟩
theorem eq_calls {s : Soc} {i k : Nat} {m : Mem} {n : Int} (h : fault s = 0) (hi : s.members[i]? = some m) (hik : i < k) (hk : k < s.members.length) (hn : 0 ≤ n) :
    ∃ a b : Int, (callsOf (eqS s k m) [] n).1[i]? = some a ∧ (callsOf (eqS s k m) [] n).1[k]? = some b ∧ (a = b ∨ a = b + 1) := by
  have hf := eqS_fault (k := k) h (List.mem_of_getElem? hi)
  have hl : (eqS s k m).members.length = s.members.length := by simp [eqS]
  have hi' : (eqS s k m).members[i]? = some m := by simp only [eqS]; rw [List.getElem?_set_ne (by omega)]; exact hi
  have hk' : (eqS s k m).members[k]? = some m := by simp only [eqS]; rw [List.getElem?_set_self (by omega)]
  refine ⟨_, _, calls_at (by omega), calls_at (by omega), ?_⟩
  have hask : ∀ j, j < (eqS s k m).members.length → askF (eqS s k m).members [] j = true := fun j hj => by simp [askF, hj]
  refine calls_alike (fault_ms hf) hik (by omega) (by rw [un_at hi', un_at hk']) (by rw [mst_at hi', mst_at hk']) 6 _ n _ ?_ (fun i hi => askF_len i hi) hn (hask i (by omega)) (hask k (by omega))
  have := cntF_bd (askF (eqS s k m).members []) (eqS s k m).members.length
  have := (fault_len hf).1
  omega

set_option maxHeartbeats 4000000 in
set_option maxRecDepth 100000 in
theorem c5 (s : Soc) (one two need : Int) (ho : 0 ≤ one ∧ one ≤ 255) (ht : 0 ≤ two ∧ two ≤ 255) (hn : 0 ≤ need ∧ need ≤ 4294967295) : PF Try.prog 5 [encSoc s, .int .u8 one, .int .u8 two, .int .u32 need] (· = .bool true) := by
  have hz := encYs_len s.members
  refine PF.of (TF.ev fn_5 (Ev.at ?_))
  (repeat' (first | (refine Ev.go ?_; conv => whnf) | refine And.intro ?_ ?_ | exact True.intro | exact rfl | (intro rx hrx; rw [IntWalk.i64_in _ (by omega)] at hrx) | (intro hcx; exfalso; omega) | (intro hcx; exfalso; simp only [lz] at hcx; omega) | (intro ex hex; (first | obtain ⟨xx, hxx, rfl⟩ := ints_at hex | obtain ⟨xx, hxx, rfl⟩ := encYs_at hex | obtain ⟨xx, hxx, rfl⟩ := encRs_at hex); clear hex; try simp only [Int.toNat_natCast] at hxx) | intro _))
  refine TSq.pureBC (c27 s) (by simp [cloL, clo, encR, encY, encSoc, encT, encS, cz]) rfl (And.intro rfl rfl) ?_ ?_
  · intro hr
    have h0 : fault s = 0 := by simpa [ready] using hr
    have hl := fault_len h0
    have hres1 : ∀ {x r : Int}, r = x.tmod 300001 → 0 ≤ x → 0 ≤ r ∧ r < 300001 := fun h hx => rem_bd h hx (by omega)
    have hres2 : ∀ {x r : Int}, r = x.tmod ((encYs s.members).length : Int) → 0 ≤ x ∧ 0 < s.members.length → 0 ≤ r ∧ r < s.members.length := fun h hx => by rw [hz] at h; exact rem_bd h hx.1 (by omega)
    have hgx1 : ∀ {n : Nat} {e : SV}, (chunks 3 0 (repl 0 [SV.int .i64 0, SV.int .i64 0, SV.int .i64 0]) ++ encYs s.members)[n]? = some e → ∃ m, s.members[n]? = some m ∧ e = encY m := fun h => encYs_at h
    (repeat' (first | (intro ex hex; obtain ⟨mx, hmx, rfl⟩ := hgx1 hex; clear hex) | (intro rx hrx; have hq := hres1 hrx (by omega); clear hrx) | (intro rx hrx; have hq := hres2 hrx (by omega); clear hrx) | (intro ex hex; have hq := hg1 (by omega) hex; subst hq; clear hex) | (intro ex hex; have hq := hg2 (by omega) hex; subst hq; clear hex) | (refine Ev.go ?_; conv => whnf) | refine And.intro ?_ ?_ | exact True.intro | exact rfl | (intro rx hrx; rw [IntWalk.i64_in _ (by omega)] at hrx) | (intro hcx; exfalso; omega) | intro _))
    all_goals (first | (refine ⟨?_⟩; first | rfl | exact List.cons_ne_nil _ _ | (show (_ : Nat) * _ ≤ _; simp [catS, repl, chunks, lz] <;> omega) | exact shS _ _ | exact shM _ | exact shN | exact encM_clo _ | exact ⟨rfl, rfl⟩ | exact ⟨rfl, rfl, rfl⟩ | omega | (simp only [lz]; omega) | (simp; omega) | (simp [cloL, clo, catS, repl, cz, encR, encY, encS]; done) | (show chkGo _ _ _ _ _ = true; kernel_rfl)) | (simp [cloL, clo, catS, repl, cz, encR, encY, encS]; done) | skip)
    all_goals (try (refine TSq.pureC c19 (by simp [cloL, clo, encR, encY, encSoc, encT, encS, cz]) rfl (And.intro rfl rfl) ?_; (repeat' (first | (intro ex hex; obtain ⟨mx, hmx, rfl⟩ := hgx1 hex; clear hex) | (intro rx hrx; have hq := hres1 hrx (by omega); clear hrx) | (intro rx hrx; have hq := hres2 hrx (by omega); clear hrx) | (intro ex hex; have hq := hg1 (by omega) hex; subst hq; clear hex) | (intro ex hex; have hq := hg2 (by omega) hex; subst hq; clear hex) | (refine Ev.go ?_; conv => whnf) | refine And.intro ?_ ?_ | exact True.intro | exact rfl | (intro rx hrx; rw [IntWalk.i64_in _ (by omega)] at hrx) | (intro hcx; exfalso; omega) | intro _)); try rfl; done))
    rename_i hrx0 N hN o0 ho0 I hI t0 hne A hA B hB m hm
    obtain ⟨i, hi⟩ : ∃ i : Nat, A = i := ⟨A.toNat, by omega⟩
    obtain ⟨k, hk⟩ : ∃ k : Nat, B = k := ⟨B.toNat, by omega⟩
    subst hi
    subst hk
    have hik : i < k := by omega
    have hkl : k < s.members.length := by omega
    simp only [Int.toNat_natCast] at hm
    clear hmx
    have hf := eqS_fault (k := k) h0 (List.mem_of_getElem? hm)
    have b1 := c21 (eqS s k m) (by simp [eqS]; omega) (by simp [eqS]; omega)
    have d1 := c35 (eqS s k m) N (by simp [eqS]; omega) (by simp [eqS]; omega)
    rw [callsR_good hf (by omega)] at d1
    obtain ⟨a, b, ha, hb, hab⟩ := eq_calls (n := N) h0 hm hik hkl hN.1
    have hbb := calls_bd hf [] (n := N) hN.1 b (List.mem_of_getElem? hb)
    have hlc := callsOf_len (eqS s k m) [] N
    rw [show (eqS s k m).members.length = s.members.length by simp [eqS]] at hlc
    have hiL := ints_len (callsOf (eqS s k m) [] N).1
    dsimp only at d1
    have hg1 : ∀ {n : Nat} {e : SV}, n = i → (ints (callsOf (eqS s k m) [] N).1)[n]? = some e → e = .int .i64 a := by
      rintro n e rfl he
      obtain ⟨x, hx, rfl⟩ := ints_at he
      rw [ha] at hx; cases hx; rfl
    have hg2 : ∀ {n : Nat} {e : SV}, n = k → (ints (callsOf (eqS s k m) [] N).1)[n]? = some e → e = .int .i64 b := by
      rintro n e rfl he
      obtain ⟨x, hx, rfl⟩ := ints_at he
      rw [hb] at hx; cases hx; rfl
    generalize (callsOf (eqS s k m) [] N).1 = L at *
    generalize (callsOf (eqS s k m) [] N).2 = p at *
    have heq : (chunks 3 0 (repl 0 [SV.int .i64 0, SV.int .i64 0, SV.int .i64 0]) ++ encYs s.members).set (k : Int).toNat (.agg [.int .i64 m.sum, .int .i64 m.cls, .int .i64 m.most]) = encYs (eqS s k m).members := by
      simp only [eqS, encYs, List.map_set]; rfl
    have hlen2 : ((chunks 3 0 (repl 0 [SV.int .i64 0, SV.int .i64 0, SV.int .i64 0]) ++ encYs s.members).set (k : Int).toNat (.agg [.int .i64 m.sum, .int .i64 m.cls, .int .i64 m.most])).length = s.members.length := by rw [heq, encYs_len]; simp [eqS]
    refine TSq.pubS 3 ?_
    (repeat' (first | (intro ex hex; obtain ⟨mx, hmx, rfl⟩ := hgx1 hex; clear hex) | (intro rx hrx; have hq := hres1 hrx (by omega); clear hrx) | (intro rx hrx; have hq := hres2 hrx (by omega); clear hrx) | (intro ex hex; have hq := hg1 (by omega) hex; subst hq; clear hex) | (intro ex hex; have hq := hg2 (by omega) hex; subst hq; clear hex) | (refine Ev.go ?_; conv => whnf) | refine And.intro ?_ ?_ | exact True.intro | exact rfl | (intro rx hrx; rw [IntWalk.i64_in _ (by omega)] at hrx) | (intro hcx; exfalso; omega) | intro _))
    all_goals (first | (refine ⟨?_⟩; first | rfl | exact List.cons_ne_nil _ _ | (show (_ : Nat) * _ ≤ _; simp [catS, repl, chunks, lz] <;> omega) | exact shS _ _ | exact shM _ | exact shN | exact encM_clo _ | exact ⟨rfl, rfl⟩ | exact ⟨rfl, rfl, rfl⟩ | omega | (simp only [lz]; omega) | (simp; omega) | (simp [cloL, clo, catS, repl, cz, encR, encY, encS]; done) | (show chkGo _ _ _ _ _ = true; kernel_rfl)) | (simp [cloL, clo, catS, repl, cz, encR, encY, encS]; done) | skip)
    all_goals (try (refine ⟨?_⟩; rw [heq]; exact encYs_clo _))
    refine TSq.pureC b1 (by simp [cloL, clo, encSoc, encYs_clo, encRs_clo]) rfl (And.intro rfl (by rw [heq]; rfl)) ?_
    (repeat' (first | (intro ex hex; obtain ⟨mx, hmx, rfl⟩ := hgx1 hex; clear hex) | (intro rx hrx; have hq := hres1 hrx (by omega); clear hrx) | (intro rx hrx; have hq := hres2 hrx (by omega); clear hrx) | (intro ex hex; have hq := hg1 (by omega) hex; subst hq; clear hex) | (intro ex hex; have hq := hg2 (by omega) hex; subst hq; clear hex) | (refine Ev.go ?_; conv => whnf) | refine And.intro ?_ ?_ | exact True.intro | exact rfl | (intro rx hrx; rw [IntWalk.i64_in _ (by omega)] at hrx) | (intro hcx; exfalso; omega) | intro _))
    refine TSq.pureC d1 (by simp [cloL, clo, encSoc, encYs_clo, encRs_clo]) rfl (And.intro rfl rfl) ?_
    (repeat' (first | (intro ex hex; obtain ⟨mx, hmx, rfl⟩ := hgx1 hex; clear hex) | (intro rx hrx; have hq := hres1 hrx (by omega); clear hrx) | (intro rx hrx; have hq := hres2 hrx (by omega); clear hrx) | (intro ex hex; have hq := hg1 (by omega) hex; subst hq; clear hex) | (intro ex hex; have hq := hg2 (by omega) hex; subst hq; clear hex) | (refine Ev.go ?_; conv => whnf) | refine And.intro ?_ ?_ | exact True.intro | exact rfl | (intro rx hrx; rw [IntWalk.i64_in _ (by omega)] at hrx) | (intro hcx; exfalso; omega) | intro _))
    all_goals (first | (refine ⟨?_⟩; show chkGo _ _ _ _ _ = true; kernel_rfl) | (refine ⟨?_⟩; first | rfl | exact List.cons_ne_nil _ _ | (show (_ : Nat) * _ ≤ _; simp [catS, repl, chunks, lz] <;> omega) | exact shS _ _ | exact shM _ | exact shN | exact encM_clo _ | exact ⟨rfl, rfl⟩ | exact ⟨rfl, rfl, rfl⟩ | omega | (simp only [lz]; omega) | (simp; omega) | (simp [cloL, clo, catS, repl, cz, encR, encY, encS]; done) | (show chkGo _ _ _ _ _ = true; kernel_rfl)) | (simp [cloL, clo, catS, repl, cz, encR, encY, encS]; done) | skip)
    all_goals (try (exfalso; omega))
    all_goals (try (refine TDq.pureC c19 (by simp [cloL, clo, encR, encY, encSoc, encT, encS, cz]) rfl (And.intro rfl rfl) ?_; (repeat' (first | (intro ex hex; obtain ⟨mx, hmx, rfl⟩ := hgx1 hex; clear hex) | (intro rx hrx; have hq := hres1 hrx (by omega); clear hrx) | (intro rx hrx; have hq := hres2 hrx (by omega); clear hrx) | (intro ex hex; have hq := hg1 (by omega) hex; subst hq; clear hex) | (intro ex hex; have hq := hg2 (by omega) hex; subst hq; clear hex) | (refine Ev.go ?_; conv => whnf) | refine And.intro ?_ ?_ | exact True.intro | exact rfl | (intro rx hrx; rw [IntWalk.i64_in _ (by omega)] at hrx) | (intro hcx; exfalso; omega) | intro _))))
    all_goals (first | (refine ⟨?_⟩; show chkGo _ _ _ _ _ = true; kernel_rfl) | (refine ⟨?_⟩; first | rfl | exact List.cons_ne_nil _ _ | (show (_ : Nat) * _ ≤ _; simp [catS, repl, chunks, lz] <;> omega) | exact shS _ _ | exact shM _ | exact shN | exact encM_clo _ | exact ⟨rfl, rfl⟩ | exact ⟨rfl, rfl, rfl⟩ | omega | (simp only [lz]; omega) | (simp; omega) | (simp [cloL, clo, catS, repl, cz, encR, encY, encS]; done) | (show chkGo _ _ _ _ _ = true; kernel_rfl)) | (simp [cloL, clo, catS, repl, cz, encR, encY, encS]; done) | skip)
  · intro hr
    (repeat' (first | (refine Ev.go ?_; conv => whnf) | refine And.intro ?_ ?_ | exact True.intro | exact rfl | (intro rx hrx; rw [IntWalk.i64_in _ (by omega)] at hrx) | (intro hcx; exfalso; omega) | (intro hcx; exfalso; simp only [lz] at hcx; omega) | (intro ex hex; (first | obtain ⟨xx, hxx, rfl⟩ := ints_at hex | obtain ⟨xx, hxx, rfl⟩ := encYs_at hex | obtain ⟨xx, hxx, rfl⟩ := encRs_at hex); clear hex; try simp only [Int.toNat_natCast] at hxx) | intro _))
    refine TSq.pureC c19 (by simp [cloL, clo, encR, encY, encSoc, encT, encS, cz]) rfl (And.intro rfl rfl) ?_
    (repeat' (first | (refine Ev.go ?_; conv => whnf) | refine And.intro ?_ ?_ | exact True.intro | exact rfl | (intro rx hrx; rw [IntWalk.i64_in _ (by omega)] at hrx) | (intro hcx; exfalso; omega) | (intro hcx; exfalso; simp only [lz] at hcx; omega) | (intro ex hex; (first | obtain ⟨xx, hxx, rfl⟩ := ints_at hex | obtain ⟨xx, hxx, rfl⟩ := encYs_at hex | obtain ⟨xx, hxx, rfl⟩ := encRs_at hex); clear hex; try simp only [Int.toNat_natCast] at hxx) | intro _))
    try rfl
end Go.Proofs.Ythnaamkempmjkaa
