/- Calls in plain Lean: societies in which nobody is capped. -/
import Derived.Test.YthnaamkempmjkaaPd
set_option linter.unusedSimpArgs false
set_option linter.unusedVariables false
namespace Go.Proofs.Ythnaamkempmjkaa

/-- Nobody's Most is less than the need. -/
def FreeMs (ms : List Mem) (n : Int) : Prop := ∀ i, i < ms.length → n ≤ mst ms i
theorem ask_nil (ms : List Mem) (i : Nat) : askF ms [] i = decide (i < ms.length) := by simp [askF]
/-- Who is asked pays its share. -/
theorem free_calls {ms : List Mem} (h : OkMs ms) {n : Int} (hn : 0 ≤ n) (hf : FreeMs ms n) (out : List Int) :
    (∀ i, i < ms.length → (callsF ms 6 (askF ms out) n fun _ => 0).1 i = if askF ms out i = true then shareF ms (askF ms out) n i else 0) ∧
    ((callsF ms 6 (askF ms out) n fun _ => 0).2 = if any5 (askF ms out) = false then n else 0) := by
  rw [callsF_free h hn (fun i hi _ => hf i hi) 5]
  split
  · rename_i ha
    refine ⟨fun i hi => ?_, rfl⟩
    rw [if_neg]
    rw [any5_false ha i (by have := h.1; omega)]; simp
  · refine ⟨fun i hi => ?_, rfl⟩
    cases hq : askF ms out i <;> simp [hq, hi]
theorem free_short {ms : List Mem} (h : OkMs ms) {n : Int} (hn : 0 ≤ n) (hf : FreeMs ms n) (h1 : 1 ≤ ms.length) : (callsF ms 6 (askF ms []) n fun _ => 0).2 = 0 := by
  rw [(free_calls h hn hf []).2, if_neg]
  exact any5_eq (i := 0) (by omega) (by rw [ask_nil]; exact decide_eq_true (by omega))
/-- All units. -/
def allU (ms : List Mem) : Int := sumL (ms.map Mem.units)
theorem sumF_un (ms : List Mem) : sumF (un ms) ms.length = allU ms := by
  rw [allU, ← sumL_tab]
  congr 1
  refine List.ext_getElem? fun i => ?_
  simp only [tab, List.getElem?_map]
  rcases Nat.lt_or_ge i ms.length with h | h
  · rw [List.getElem?_range h, List.getElem?_eq_getElem h]; simp [un, List.getElem?_eq_getElem h]
  · rw [List.getElem?_eq_none (by simpa using h), List.getElem?_eq_none h]; rfl
theorem units_all (ms : List Mem) : unitsF ms (askF ms []) ms.length = allU ms := by
  rw [unitsF_sum, ← sumF_un]
  exact sumF_congr fun i hi => by rw [ask_nil, if_pos (decide_eq_true hi)]
theorem allU_pos {ms : List Mem} (h : OkMs ms) (h1 : 1 ≤ ms.length) : 1 ≤ allU ms := by
  rw [← units_all]
  exact (h.units (f := askF ms []) (i := 0) (by omega) (by rw [ask_nil]; exact decide_eq_true (by omega))).2
/-- A call is near the part by units. -/
theorem free_near {ms : List Mem} (h : OkMs ms) {n : Int} (hn : 0 ≤ n) (hf : FreeMs ms n) {i : Nat} (hi : i < ms.length) :
    ((callsF ms 6 (askF ms []) n fun _ => 0).1 i = n * un ms i / allU ms ∨ (callsF ms 6 (askF ms []) n fun _ => 0).1 i = n * un ms i / allU ms + 1) ∧
    -allU ms < (callsF ms 6 (askF ms []) n fun _ => 0).1 i * allU ms - n * un ms i ∧ (callsF ms 6 (askF ms []) n fun _ => 0).1 i * allU ms - n * un ms i < allU ms := by
  have hq : askF ms [] i = true := by rw [ask_nil]; exact decide_eq_true hi
  rw [(free_calls h hn hf []).1 i hi, if_pos hq]
  have := share_near (ms := ms) (f := askF ms []) (need := n) (i := i) (by rw [units_all]; exact allU_pos h (by omega)) hi hq
  rw [units_all] at this
  exact this
/-! ### Another order -/
theorem sumL_perm {a b : List Int} (h : a.Perm b) : sumL a = sumL b := by
  unfold sumL
  exact h.foldl_eq' (fun x _ y _ z => by omega) 0
def rotM (ms : List Mem) (k : Nat) : List Mem := ms.drop k ++ ms.take k
theorem rotM_perm (ms : List Mem) (k : Nat) : (rotM ms k).Perm ms := by
  have := List.perm_append_comm (l₁ := ms.drop k) (l₂ := ms.take k)
  rw [List.take_append_drop] at this
  exact this
theorem rotM_len (ms : List Mem) (k : Nat) : (rotM ms k).length = ms.length := (rotM_perm ms k).length_eq
theorem rotM_at {ms : List Mem} {k i : Nat} (hk : k < ms.length) (hi : i < ms.length) : (rotM ms k)[i]? = ms[(i + k) % ms.length]? := by
  rw [rotM]
  rcases Nat.lt_or_ge i (ms.length - k) with h | h
  · rw [List.getElem?_append_left (by simpa using h), List.getElem?_drop, Nat.mod_eq_of_lt (by omega), Nat.add_comm]
  · rw [List.getElem?_append_right (by simpa using h), List.length_drop, List.getElem?_take, if_pos (by omega)]
    congr 1
    rw [Nat.mod_eq_sub_mod (by omega), Nat.mod_eq_of_lt (by omega)]
    omega
theorem rotM_allU (ms : List Mem) (k : Nat) : allU (rotM ms k) = allU ms := sumL_perm ((rotM_perm ms k).map _)
theorem rotM_ok {ms : List Mem} (h : OkMs ms) (k : Nat) (hk : k < ms.length) : OkMs (rotM ms k) := by
  refine ⟨by rw [rotM_len]; exact h.1, fun i hi => ?_⟩
  rw [rotM_len] at hi
  have := h.2 ((i + k) % ms.length) (Nat.mod_lt _ (by omega))
  simp only [un, mst, rotM_at hk hi] at this ⊢
  exact this
theorem rotM_free {ms : List Mem} {n : Int} (h : FreeMs ms n) (k : Nat) (hk : k < ms.length) : FreeMs (rotM ms k) n := by
  intro i hi
  rw [rotM_len] at hi
  have := h ((i + k) % ms.length) (Nat.mod_lt _ (by omega))
  simp only [mst, rotM_at hk hi] at this ⊢
  exact this
theorem rot_near {ms : List Mem} (h : OkMs ms) {n : Int} (hn : 0 ≤ n) (hf : FreeMs ms n) {k i : Nat} (hk : k < ms.length) (hi : i < ms.length) :
    -1 ≤ (callsF (rotM ms k) 6 (askF (rotM ms k) []) n fun _ => 0).1 i - (callsF ms 6 (askF ms []) n fun _ => 0).1 ((i + k) % ms.length) ∧
    (callsF (rotM ms k) 6 (askF (rotM ms k) []) n fun _ => 0).1 i - (callsF ms 6 (askF ms []) n fun _ => 0).1 ((i + k) % ms.length) ≤ 1 := by
  have h1 := (free_near (rotM_ok h k hk) hn (rotM_free hf k hk) (i := i) (by rw [rotM_len]; exact hi)).1
  have h2 := (free_near h hn hf (i := (i + k) % ms.length) (Nat.mod_lt _ (by omega))).1
  have e : un (rotM ms k) i = un ms ((i + k) % ms.length) := by simp only [un, rotM_at hk hi]
  rw [e, rotM_allU] at h1
  omega
/-! ### All sums multiplied -/
def mulM (c : Int) (m : Mem) : Mem := ⟨m.sum * c, m.cls, m.most⟩
theorem mul_un (c : Int) (ms : List Mem) (i : Nat) : un (ms.map (mulM c)) i = c * un ms i := by
  simp only [un, List.getElem?_map]
  cases ms[i]? with
  | none => simp
  | some m => simp only [Option.map_some, mulM, Mem.units]; rw [Int.mul_comm m.sum c, Int.mul_assoc]
theorem mul_mst (c : Int) (ms : List Mem) (i : Nat) : mst (ms.map (mulM c)) i = mst ms i := by
  simp only [mst, List.getElem?_map]
  cases ms[i]? <;> rfl
theorem mul_units (c : Int) (ms : List Mem) (f : Nat → Bool) : ∀ k, unitsF (ms.map (mulM c)) f k = c * unitsF ms f k
  | 0 => by simp [unitsF]
  | k + 1 => by
    simp only [unitsF, mul_units c ms f k, mul_un]
    split <;> simp [Int.mul_add]
theorem mul_quo {c : Int} (hc : 0 < c) (ms : List Mem) (need U : Int) (i : Nat) : quo (ms.map (mulM c)) need (c * U) i = quo ms need U i := by
  simp only [quo, mul_un]
  rw [show need * (c * un ms i) = c * (need * un ms i) by rw [← Int.mul_assoc, Int.mul_comm need c, Int.mul_assoc], Int.mul_ediv_mul_of_pos _ _ hc]
theorem mul_rst {c : Int} (hc : 0 < c) (ms : List Mem) (need U : Int) (i : Nat) : rst (ms.map (mulM c)) need (c * U) i = c * rst ms need U i := by
  simp only [rst, mul_un]
  rw [show need * (c * un ms i) = c * (need * un ms i) by rw [← Int.mul_assoc, Int.mul_comm need c, Int.mul_assoc], Int.mul_emod_mul_of_pos _ _ hc]
theorem cntF_congr {p q : Nat → Bool} {n : Nat} (h : ∀ i, i < n → p i = q i) : cntF p n = cntF q n := by
  rw [cntF_eq, cntF_eq]; congr 1
  exact cnt_congr fun x hx => h x (List.mem_range.1 hx)
theorem mul_left {c : Int} (hc : 0 < c) (ms : List Mem) (f : Nat → Bool) (need U : Int) : ∀ k, leftF (ms.map (mulM c)) f need (c * U) k = leftF ms f need U k
  | 0 => rfl
  | k + 1 => by simp only [leftF, mul_left hc ms f need U k, mul_quo hc]
theorem mul_before {c : Int} (hc : 0 < c) (ms : List Mem) (f : Nat → Bool) (need U : Int) (i : Nat) : beforeF (ms.map (mulM c)) f need (c * U) i = beforeF ms f need U i := by
  unfold beforeF
  simp only [mul_rst hc, List.length_map]
  congr 1
  · exact cntF_congr fun k _ => by
      have : c * rst ms need U i < c * rst ms need U k ↔ rst ms need U i < rst ms need U k := Int.mul_lt_mul_left hc
      simp only [this]
  · exact cntF_congr fun k _ => by
      have : c * rst ms need U k = c * rst ms need U i ↔ rst ms need U k = rst ms need U i := Int.mul_eq_mul_left_iff (by omega)
      simp only [this]
theorem mul_share {c : Int} (hc : 0 < c) (ms : List Mem) (f : Nat → Bool) (need : Int) (i : Nat) : shareF (ms.map (mulM c)) f need i = shareF ms f need i := by
  simp only [shareF, List.length_map, mul_units, mul_quo hc, mul_before hc, mul_left hc]
theorem mul_calls {c : Int} (hc : 0 < c) (ms : List Mem) : ∀ (t : Nat) (f : Nat → Bool) (need : Int) (o : Nat → Int), callsF (ms.map (mulM c)) t f need o = callsF ms t f need o
  | 0, _, _, _ => rfl
  | t + 1, f, need, o => by
    have hcap : capF (ms.map (mulM c)) f need = capF ms f need := by
      funext i; simp only [capF, List.length_map, mul_mst, mul_share hc]
    have hne : ∀ k, needF (ms.map (mulM c)) (capF ms f need) need k = needF ms (capF ms f need) need k := fun k => by
      induction k with
      | zero => rfl
      | succ k ih => simp only [needF, ih, mul_mst]
    simp only [callsF, hcap, List.length_map, hne, mul_share hc, mul_mst, mul_calls hc ms t]
/-! ### Members that are not asked -/
theorem units_less {ms : List Mem} (h : OkMs ms) {f : Nat → Bool} : unitsF ms f ms.length ≤ sumF (un ms) ms.length := by
  rw [unitsF_sum]
  exact sumF_le fun i hi => by have := (h.2 i hi).1; split <;> omega
theorem default_near {ms : List Mem} (h : OkMs ms) {n : Int} (hn : 0 ≤ n) (hf : FreeMs ms n) (out : List Int) {i : Nat} (hi : i < ms.length) (hq : askF ms out i = true) :
    (callsF ms 6 (askF ms []) n fun _ => 0).1 i - 1 ≤ (callsF ms 6 (askF ms out) n fun _ => 0).1 i := by
  have h1 := (free_near h hn hf hi).1
  have hU := (h.units hi hq).2
  have hUa := units_less h (f := askF ms out)
  rw [sumF_un] at hUa
  have h2 := (share_near (ms := ms) (f := askF ms out) (need := n) hU hi hq).1
  rw [(free_calls h hn hf out).1 i hi, if_pos hq]
  have hu := (h.2 i hi).1
  have h3 : n * un ms i / allU ms ≤ quo ms n (unitsF ms (askF ms out) ms.length) i := by
    unfold quo
    generalize unitsF ms (askF ms out) ms.length = U at *
    refine (Int.le_ediv_iff_mul_le (by omega)).2 ?_
    have h0 : 0 ≤ n * un ms i := Int.mul_nonneg hn (by omega)
    have h4 : n * un ms i / allU ms * U ≤ n * un ms i / allU ms * allU ms := Int.mul_le_mul_of_nonneg_left hUa (Int.ediv_nonneg h0 (by omega))
    have h5 : n * un ms i / allU ms * allU ms ≤ n * un ms i := Int.ediv_mul_le _ (by omega)
    omega
  omega
end Go.Proofs.Ythnaamkempmjkaa
