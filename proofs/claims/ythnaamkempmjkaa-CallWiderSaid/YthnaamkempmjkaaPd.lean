/- Calls in plain Lean: free shares, members that are alike, who is not short. -/
import Derived.Test.YthnaamkempmjkaaPc
set_option linter.unusedSimpArgs false
set_option linter.unusedVariables false
namespace Go.Proofs.Ythnaamkempmjkaa

theorem cntF_bd (p : Nat → Bool) (n : Nat) : 0 ≤ cntF p n ∧ cntF p n ≤ n := by
  have := cnt_le p (List.range n)
  rw [cntF_eq]; simp at this; omega
theorem askF_len {ms : List Mem} {out : List Int} (i : Nat) (h : askF ms out i = true) : i < ms.length := by
  simp only [askF, Bool.and_eq_true, decide_eq_true_eq] at h
  exact h.1
theorem callsF_ok {ms : List Mem} (h : OkMs ms) {f : Nat → Bool} (hlt : ∀ i, f i = true → i < ms.length) {need : Int} (hn : 0 ≤ need) (o : Nat → Int) : Paid ms f need o (callsF ms 6 f need o) :=
  callsF_paid h 6 f need o (by have := cntF_bd f ms.length; have := h.1; omega) hlt hn
theorem rst_bd {ms : List Mem} {need U : Int} (hU : 1 ≤ U) (i : Nat) : 0 ≤ rst ms need U i ∧ rst ms need U i < U := ⟨Int.emod_nonneg _ (by omega), Int.emod_lt_of_pos _ (by omega)⟩
theorem quo_rst (ms : List Mem) (need U : Int) (i : Nat) : need * un ms i = U * quo ms need U i + rst ms need U i := by
  have := Int.mul_ediv_add_emod (need * un ms i) U; simp only [quo, rst]; omega
theorem left_rst {ms : List Mem} {f : Nat → Bool} {need : Int} : unitsF ms f ms.length * leftF ms f need (unitsF ms f ms.length) ms.length = sumF (fun i => if f i = true then rst ms need (unitsF ms f ms.length) i else 0) ms.length := by
  have hs : need * unitsF ms f ms.length = unitsF ms f ms.length * sumF (fun i => if f i = true then quo ms need (unitsF ms f ms.length) i else 0) ms.length + sumF (fun i => if f i = true then rst ms need (unitsF ms f ms.length) i else 0) ms.length := by
    conv => lhs; rw [unitsF_sum]
    rw [← sumF_mul, ← sumF_mul]
    refine sumF_add fun i _ => ?_
    split
    · exact quo_rst ms need _ i
    · simp
  rw [leftF_sum, Int.mul_sub]; rw [Int.mul_comm] at hs; omega
/-- A member without a remainder gets no penny more. -/
theorem before_zero {ms : List Mem} {f : Nat → Bool} {need : Int} {i : Nat} (hU : 1 ≤ unitsF ms f ms.length) (h0 : rst ms need (unitsF ms f ms.length) i = 0) :
    leftF ms f need (unitsF ms f ms.length) ms.length ≤ beforeF ms f need (unitsF ms f ms.length) i := by
  have hR := left_rst (ms := ms) (f := f) (need := need)
  generalize unitsF ms f ms.length = U at *
  have hb : cntF (fun k => f k && decide (0 < rst ms need U k)) ms.length ≤ beforeF ms f need U i := by
    unfold beforeF
    rw [h0]
    have := cntF_bd (fun k => f k && decide (rst ms need U k = 0)) i
    omega
  have h1 : sumF (fun i => if f i = true then rst ms need U i else 0) ms.length ≤ (U - 1) * cntF (fun k => f k && decide (0 < rst ms need U k)) ms.length := by
    rw [← sumF_cnt, ← sumF_mul]
    refine sumF_le fun k _ => ?_
    have := rst_bd (ms := ms) (need := need) hU k
    cases f k <;> simp
    split <;> omega
  have hc := (cntF_bd (fun k => f k && decide (0 < rst ms need U k)) ms.length).1
  generalize cntF (fun k => f k && decide (0 < rst ms need U k)) ms.length = c at *
  generalize leftF ms f need U ms.length = l at *
  rw [← hR] at h1
  rcases Int.lt_or_le c l with h | h
  · exfalso
    have h2 : U * (c + 1) ≤ U * l := Int.mul_le_mul_of_nonneg_left (by omega) (by omega)
    rw [Int.mul_add] at h2
    rw [Int.sub_mul] at h1
    omega
  · omega
/-- A share is the part by units, or one penny more if there is a remainder. -/
theorem share_near {ms : List Mem} {f : Nat → Bool} {need : Int} {i : Nat} (hU : 1 ≤ unitsF ms f ms.length) (hi : i < ms.length) (hf : f i = true) :
    (shareF ms f need i = quo ms need (unitsF ms f ms.length) i ∨ shareF ms f need i = quo ms need (unitsF ms f ms.length) i + 1) ∧
    -unitsF ms f ms.length < shareF ms f need i * unitsF ms f ms.length - need * un ms i ∧ shareF ms f need i * unitsF ms f ms.length - need * un ms i < unitsF ms f ms.length := by
  have hz := before_zero (ms := ms) (f := f) (need := need) (i := i) hU
  have hq := quo_rst ms need (unitsF ms f ms.length) i
  have hr := rst_bd (ms := ms) (need := need) hU i
  unfold shareF
  rw [if_pos ⟨hi, hf⟩]
  generalize unitsF ms f ms.length = U at *
  generalize quo ms need U i = q at *
  generalize rst ms need U i = r at *
  rw [Int.mul_comm] at hq
  split
  · have : r ≠ 0 := fun h => by have := hz h; omega
    refine ⟨.inr rfl, ?_⟩
    rw [Int.add_mul]; rw [Int.mul_comm need] at *; rw [Int.mul_comm U] at hq; omega
  · refine ⟨.inl (by omega), ?_⟩
    rw [Int.add_zero]; rw [Int.mul_comm need] at *; rw [Int.mul_comm U] at hq; omega
theorem share_le {ms : List Mem} (h : OkMs ms) {f : Nat → Bool} {need : Int} (hn : 0 ≤ need) {i : Nat} (hi : i < ms.length) (hf : f i = true) : shareF ms f need i ≤ need := by
  have h1 := (sumF_share ms f need (h.units hi hf).2).2
  have h2 := sumF_pos (g := shareF ms f need) (n := ms.length) (i := i) (fun k _ => shareF_nn h hn k) hi
  omega
/-- Nobody is capped whose Most is the need at least. -/
theorem callsF_free {ms : List Mem} (h : OkMs ms) {f : Nat → Bool} {need : Int} (hn : 0 ≤ need) (hfree : ∀ i, i < ms.length → f i = true → need ≤ mst ms i) (t : Nat) (o : Nat → Int) :
    callsF ms (t + 1) f need o = (if any5 f = false then (o, need) else (fun i => if f i = true ∧ i < ms.length then shareF ms f need i else o i, 0)) := by
  rw [callsF]
  split
  · rfl
  · rw [if_pos]
    rcases hc : any5 (capF ms f need) with _ | _
    · rfl
    · obtain ⟨i, _, hi⟩ := any5_true (f := capF ms f need) (by rw [hc]; simp)
      obtain ⟨h1, h2, h3⟩ := capF_t.1 hi
      have := share_le h hn h1 h2
      have := hfree i h1 h2
      omega
/-! ### Members that are alike -/
theorem cntF_step {p : Nat → Bool} : ∀ {i k : Nat}, i ≤ k → cntF p i ≤ cntF p k
  | i, 0, h => by have : i = 0 := by omega
                  subst this; exact Int.le_refl _
  | i, k + 1, h => by
    rcases Nat.lt_or_ge i (k + 1) with h' | h'
    · have := cntF_step (p := p) (i := i) (k := k) (by omega)
      simp only [cntF]; split <;> omega
    · have : i = k + 1 := by omega
      subst this; exact Int.le_refl _
theorem before_lt {ms : List Mem} {f : Nat → Bool} {need U : Int} {i k : Nat} (hik : i < k) (hf : f i = true) (hu : un ms i = un ms k) : beforeF ms f need U i < beforeF ms f need U k := by
  have hr : rst ms need U i = rst ms need U k := by simp only [rst, hu]
  unfold beforeF
  rw [hr]
  have h1 := cntF_step (p := fun j => f j && decide (rst ms need U j = rst ms need U k)) (i := i + 1) (k := k) (by omega)
  simp only [cntF] at h1
  rw [if_pos (by simp [hf, hr])] at h1
  omega
theorem share_alike {ms : List Mem} {f : Nat → Bool} {need : Int} {i k : Nat} (hik : i < k) (hk : k < ms.length) (hfi : f i = true) (hfk : f k = true) (hu : un ms i = un ms k) :
    shareF ms f need i = shareF ms f need k ∨ (shareF ms f need i = shareF ms f need k + 1 ∧ shareF ms f need k = quo ms need (unitsF ms f ms.length) k) := by
  have hb := before_lt (need := need) (U := unitsF ms f ms.length) hik hfi hu
  have hq : quo ms need (unitsF ms f ms.length) i = quo ms need (unitsF ms f ms.length) k := by simp only [quo, hu]
  have hil : i < ms.length := by omega
  simp only [shareF, hil, hfi, hk, hfk, and_self, if_true, hq]
  split <;> split <;> omega
theorem cap_mst {ms : List Mem} {f : Nat → Bool} {need : Int} {i : Nat} (h : capF ms f need i = true) : mst ms i ≤ quo ms need (unitsF ms f ms.length) i := by
  obtain ⟨h1, h2, h3⟩ := capF_t.1 h
  unfold shareF at h3
  rw [if_pos ⟨h1, h2⟩] at h3
  split at h3 <;> omega
/-- What is left for each unit does not fall when members are capped. -/
theorem rate_up {ms : List Mem} {f : Nat → Bool} {need : Int} (hU : 1 ≤ unitsF ms f ms.length) :
    need * unitsF ms (fun i => f i && !capF ms f need i) ms.length ≤ needF ms (capF ms f need) need ms.length * unitsF ms f ms.length := by
  have e : unitsF ms f ms.length = unitsF ms (fun i => f i && !capF ms f need i) ms.length + sumF (fun i => if capF ms f need i = true then un ms i else 0) ms.length := by
    rw [unitsF_sum, unitsF_sum]
    refine sumF_add fun i _ => ?_
    cases hc : capF ms f need i
    · simp
    · simp [(capF_t.1 hc).2.1]
  have hm : sumF (fun i => if capF ms f need i = true then mst ms i else 0) ms.length * unitsF ms f ms.length ≤ need * sumF (fun i => if capF ms f need i = true then un ms i else 0) ms.length := by
    rw [Int.mul_comm, ← sumF_mul, ← sumF_mul]
    refine sumF_le fun i _ => ?_
    split
    · rename_i hc
      have h1 := cap_mst hc
      have h2 := quo_rst ms need (unitsF ms f ms.length) i
      have h3 := rst_bd (ms := ms) (need := need) hU i
      have h4 := Int.mul_le_mul_of_nonneg_left h1 (show 0 ≤ unitsF ms f ms.length by omega)
      omega
    · simp
  rw [needF_sum]
  generalize sumF (fun i => if capF ms f need i = true then mst ms i else 0) ms.length = a at *
  generalize sumF (fun i => if capF ms f need i = true then un ms i else 0) ms.length = b at *
  generalize unitsF ms (fun i => f i && !capF ms f need i) ms.length = U' at *
  generalize unitsF ms f ms.length = U at *
  have e2 : need * U = need * U' + need * b := by rw [e, Int.mul_add]
  rw [Int.sub_mul]; omega
/-- Whoever can be asked for something for each of its units pays so much at least. -/
theorem at_least {ms : List Mem} (h : OkMs ms) {k : Nat} {M : Int} (hM : M ≤ mst ms k) : ∀ (t : Nat) (f : Nat → Bool) (need : Int) (o : Nat → Int), cntF f ms.length < t → (∀ i, f i = true → i < ms.length) → 0 ≤ need → f k = true →
    M * unitsF ms f ms.length ≤ need * un ms k → M ≤ (callsF ms t f need o).1 k
  | 0, f, need, o, hc, _, _, _, _ => by have := cntF_bd f ms.length; omega
  | t + 1, f, need, o, hc, hlt, hn, hfk, hr => by
    have h5 := h.1
    have hk := hlt k hfk
    have hU := (h.units hk hfk).2
    have hne : ¬ any5 f = false := any5_eq (by omega) hfk
    have hqk : M ≤ quo ms need (unitsF ms f ms.length) k := by
      unfold quo; exact (Int.le_ediv_iff_mul_le (by omega)).2 hr
    rw [callsF, if_neg hne]
    split
    · simp only [hfk, hk, and_self, if_true]
      unfold shareF
      rw [if_pos ⟨hk, hfk⟩]
      split <;> omega
    · rename_i hcap
      obtain ⟨c, _, hcc⟩ := any5_true hcap
      have hct := capF_t.1 hcc
      have hcnt := cntF_mono_lt (p := fun i => f i && !capF ms f need i) (q := f) hct.1 (fun k hk => by simp at hk; exact hk.1) (by simp [hcc]) hct.2.1
      have hlt' : ∀ i, (f i && !capF ms f need i) = true → i < ms.length := fun i hi => hlt i (by simp at hi; exact hi.1)
      have hn' := needF_nn h hn hne hlt
      cases hck : capF ms f need k
      · refine at_least h hM t _ _ _ (by omega) hlt' hn' (by simp [hfk, hck]) ?_
        have hup := rate_up (ms := ms) (f := f) (need := need) hU
        have hu' : 0 ≤ unitsF ms (fun i => f i && !capF ms f need i) ms.length := by
          have := (h.units (f := fun i => f i && !capF ms f need i) hk (by simp [hfk, hck])).2; omega
        have hun := (h.2 k hk).1
        generalize unitsF ms (fun i => f i && !capF ms f need i) ms.length = U' at *
        generalize needF ms (capF ms f need) need ms.length = need' at *
        generalize unitsF ms f ms.length = U at *
        have a1 : M * U * U' ≤ need * un ms k * U' := Int.mul_le_mul_of_nonneg_right hr hu'
        have a2 : need * U' * un ms k ≤ need' * U * un ms k := Int.mul_le_mul_of_nonneg_right hup (by omega)
        have a3 : (M * U') * U ≤ (need' * un ms k) * U := by
          have b1 : M * U' * U = M * U * U' := by rw [Int.mul_assoc, Int.mul_comm U' U, ← Int.mul_assoc]
          have b2 : need * un ms k * U' = need * U' * un ms k := by rw [Int.mul_assoc, Int.mul_comm (un ms k), ← Int.mul_assoc]
          have b3 : need' * un ms k * U = need' * U * un ms k := by rw [Int.mul_assoc, Int.mul_comm (un ms k), ← Int.mul_assoc]
          omega
        exact Int.le_of_mul_le_mul_right a3 (by omega)
      · have p := callsF_paid h t (fun i => f i && !capF ms f need i) (needF ms (capF ms f need) need ms.length) (fun i => if capF ms f need i = true then mst ms i else o i) (by omega) hlt' hn'
        rw [p.other k (by simp [hck])]
        simp [hck, hM]
theorem calls_alike {ms : List Mem} (h : OkMs ms) {i k : Nat} (hik : i < k) (hk : k < ms.length) (hu : un ms i = un ms k) (hm : mst ms i = mst ms k) : ∀ (t : Nat) (f : Nat → Bool) (need : Int) (o : Nat → Int), cntF f ms.length < t → (∀ i, f i = true → i < ms.length) → 0 ≤ need → f i = true → f k = true →
    (callsF ms t f need o).1 i = (callsF ms t f need o).1 k ∨ (callsF ms t f need o).1 i = (callsF ms t f need o).1 k + 1
  | 0, f, need, o, hc, _, _, _, _ => by have := cntF_bd f ms.length; omega
  | t + 1, f, need, o, hc, hlt, hn, hfi, hfk => by
    have h5 := h.1
    have hU := (h.units hk hfk).2
    have hne : ¬ any5 f = false := any5_eq (by omega) hfk
    have hs := share_alike (need := need) hik hk hfi hfk hu
    rw [callsF, if_neg hne]
    split
    · simp only [hfk, hfi, hk, show i < ms.length by omega, and_self, if_true]
      omega
    · rename_i hcap
      obtain ⟨c, _, hcc⟩ := any5_true hcap
      have hct := capF_t.1 hcc
      have hcnt := cntF_mono_lt (p := fun i => f i && !capF ms f need i) (q := f) hct.1 (fun k hk => by simp at hk; exact hk.1) (by simp [hcc]) hct.2.1
      have hlt' : ∀ i, (f i && !capF ms f need i) = true → i < ms.length := fun i hi => hlt i (by simp at hi; exact hi.1)
      have hn' := needF_nn h hn hne hlt
      have p := callsF_paid h t (fun i => f i && !capF ms f need i) (needF ms (capF ms f need) need ms.length) (fun i => if capF ms f need i = true then mst ms i else o i) (by omega) hlt' hn'
      cases hci : capF ms f need i <;> cases hck : capF ms f need k
      · exact calls_alike h hik hk hu hm t _ _ _ (by omega) hlt' hn' (by simp [hfi, hci]) (by simp [hfk, hck])
      · exfalso
        have h1 := (capF_t.1 hck).2.2
        have : ¬ mst ms i < shareF ms f need i := fun hh => by
          have := capF_t.2 ⟨show i < ms.length by omega, hfi, hh⟩
          rw [hci] at this; cases this
        omega
      · have h1 := (capF_t.1 hci).2.2
        have h2 : ¬ mst ms k < shareF ms f need k := fun hh => by
          have := capF_t.2 ⟨hk, hfk, hh⟩
          rw [hck] at this; cases this
        have hMq : mst ms k ≤ quo ms need (unitsF ms f ms.length) k := by omega
        have hr : mst ms k * unitsF ms f ms.length ≤ need * un ms k := (Int.le_ediv_iff_mul_le (by omega)).1 hMq
        have h3 := at_least h (k := k) (Int.le_refl (mst ms k)) (t + 1) f need o hc hlt hn hfk hr
        rw [callsF, if_neg hne, if_neg hcap] at h3
        have h4 := (p.most k (by simp [hfk, hck])).2
        left
        rw [p.other i (by simp [hci])]
        simp only [hci, if_true]
        omega
      · left
        rw [p.other i (by simp [hci]), p.other k (by simp [hck])]
        simp [hci, hck, hm]
end Go.Proofs.Ythnaamkempmjkaa
