/- Societies as trees of Go values. The statements' arguments, as societies, and how a statement comes of a contract. Tariffs: as data, as trees, and what is valid. Functions of the program in the calculus' compact form: the form is found by reduction, and shown to be the program's. Tariffs: all over lists of tariffs, crops, rates (printed by a program). Contracts of the smallest functions. -/
import Derived.Test.YtjadiajfbflghaaGreatA1
import Derived.Test.YtjadiajfbflghaaGreatA5
import Derived.Test.YtjadiajfbflghaaGreatA6
import Derived.IntWalk
import Derived.Test.YtjadiajfbflghaaGreatA4
import Derived.Test.YtjadiajfbflghaaGreatRows
import Derived.Test.YtjadiajfbflghaaGreatProg
set_option linter.unusedSimpArgs false
set_option linter.unusedVariables false
set_option linter.unusedSimpArgs false
set_option linter.unusedVariables false
open Go Go.TV
namespace Go.Proofs.YtjadiajfbflghaaGreat
theorem ij (x : Int) (h : -9223372036854775808 ≤ x ∧ x ≤ 9223372036854775807) : IntKind.i64.wrap x = x := IntWalk.i64_in x h
def ints (l : List Int) : List SV := l.map (SV.int .i64)
def encR (r : Rng) : SV := .agg [.int .i64 r.lo, .int .i64 r.hi]
def encRs (l : List Rng) : List SV := l.map encR
def encY (m : Mem) : SV := .agg [.int .i64 m.sum, .int .i64 m.cls, .int .i64 m.most]
def encYs (l : List Mem) : List SV := l.map encY
def encSoc (s : Soc) : SV := .agg [.sl 3 (encYs s.members), .sl 2 (encRs s.losses), .int .i64 s.treaty.lo, .int .i64 s.treaty.hi, .int .i64 s.reserve]
def encT (t : Truth) : SV := .agg [.sl 1 (ints t.losses), .int .i64 t.treaty]
def encS (p : Int × Int) : SV := .agg [.int .i64 p.1, .int .i64 p.2]
theorem ints_len (l : List Int) : (ints l).length = l.length := List.length_map _
theorem encYs_len (l : List Mem) : (encYs l).length = l.length := List.length_map _
theorem encRs_len (l : List Rng) : (encRs l).length = l.length := List.length_map _
theorem ints_at {l : List Int} {n : Nat} {e : SV} (h : (ints l)[n]? = some e) : ∃ x, l[n]? = some x ∧ e = .int .i64 x := by
  simp only [ints, List.getElem?_map, Option.map_eq_some_iff] at h
  obtain ⟨x, h1, h2⟩ := h
  exact ⟨x, h1, h2.symm⟩
theorem encYs_at {l : List Mem} {n : Nat} {e : SV} (h : (encYs l)[n]? = some e) : ∃ x, l[n]? = some x ∧ e = encY x := by
  simp only [encYs, List.getElem?_map, Option.map_eq_some_iff] at h
  obtain ⟨x, h1, h2⟩ := h
  exact ⟨x, h1, h2.symm⟩
theorem encRs_at {l : List Rng} {n : Nat} {e : SV} (h : (encRs l)[n]? = some e) : ∃ x, l[n]? = some x ∧ e = encR x := by
  simp only [encRs, List.getElem?_map, Option.map_eq_some_iff] at h
  obtain ⟨x, h1, h2⟩ := h
  exact ⟨x, h1, h2.symm⟩
theorem ints_clo (l : List Int) : cloL (ints l) := by
  rw [cloL_iff]; intro s hs; obtain ⟨x, _, rfl⟩ := List.mem_map.1 hs; simp only [clo]
theorem encYs_clo (l : List Mem) : cloL (encYs l) := by
  rw [cloL_iff]; intro s hs; obtain ⟨x, _, rfl⟩ := List.mem_map.1 hs; simp [encY, clo, cloL]
theorem encRs_clo (l : List Rng) : cloL (encRs l) := by
  rw [cloL_iff]; intro s hs; obtain ⟨x, _, rfl⟩ := List.mem_map.1 hs; simp [encR, clo, cloL]
theorem lz : (∀ l, (ints l).length = l.length) ∧ (∀ l, (encYs l).length = l.length) ∧ ∀ l, (encRs l).length = l.length := ⟨ints_len, encYs_len, encRs_len⟩
theorem cz : (∀ l, cloL (ints l)) ∧ (∀ l, cloL (encYs l)) ∧ ∀ l, cloL (encRs l) := ⟨ints_clo, encYs_clo, encRs_clo⟩
def encM (ks : List ((Int × Int) × Int)) : List (SV × SV) := ks.map fun x => (encS x.1, .int .i64 x.2)
theorem shS (a b : Int) : shOK (.st [(0, 1, false, .int .i64), (1, 1, false, .int .i64)]) (.agg [.int .i64 a, .int .i64 b]) := by simp [shOK, shF, partK, getK, lenIs]
theorem shM (ks : List ((Int × Int) × Int)) : ∀ e ∈ encM ks, shOK (.st [(0, 1, false, .int .i64), (1, 1, false, .int .i64)]) e.1 := by
  intro e he
  obtain ⟨x, _, rfl⟩ := List.mem_map.1 he
  exact shS _ _
theorem shN : ∀ e ∈ ([] : List (SV × SV)), shOK (.st [(0, 1, false, .int .i64), (1, 1, false, .int .i64)]) e.1 := by simp
theorem encM_clo (ks : List ((Int × Int) × Int)) : cloM (encM ks) := by
  intro e he
  obtain ⟨x, _, rfl⟩ := List.mem_map.1 he
  simp [encS, clo, cloL]
theorem encS_inj {x y : Int × Int} (h : encS x = encS y) : x = y := by
  simp only [encS, SV.agg.injEq, List.cons.injEq, SV.int.injEq, true_and, and_true] at h
  obtain ⟨a, b⟩ := x; obtain ⟨c, d⟩ := y
  simp_all
theorem encM_nodup {ks : List ((Int × Int) × Int)} (h : (ks.map (·.1)).Nodup) : ((encM ks).map (·.1)).Nodup := by
  have e : (encM ks).map (·.1) = (ks.map (·.1)).map encS := by simp [encM]
  rw [e]
  exact List.Pairwise.map _ (fun a b hab e => hab (encS_inj e)) h
theorem encM_split {ks : List ((Int × Int) × Int)} {pre post : List (SV × SV)} {k v : SV} (h : encM ks = pre ++ (k, v) :: post) : ∃ a x b, ks = a ++ x :: b ∧ pre = encM a ∧ k = encS x.1 ∧ v = .int .i64 x.2 ∧ post = encM b := by
  obtain ⟨a, c, rfl, rfl, h2⟩ := List.map_eq_append_iff.1 h
  obtain ⟨x, b, rfl, h3, rfl⟩ := List.map_eq_cons_iff.1 h2
  cases h3
  exact ⟨a, x, b, rfl, rfl, rfl, rfl, rfl⟩
theorem SV.bool_iff {a b : Bool} : (SV.bool a = SV.bool b) ↔ (a = true ↔ b = true) := by cases a <;> cases b <;> simp
theorem cl {p : Prop} (h : p := by simp [cloL, clo, catS, repl, cz, encR, encY, encS, encSoc, encT] <;> fail) : p := h
theorem vc {p : Prop} (h : p := by first | rfl | exact List.cons_ne_nil _ _ | (show (_ : Nat) * _ ≤ _; simp [catS, repl, chunks, lz] <;> omega) | exact shS _ _ | exact shM _ | exact shN | exact encM_clo _ | exact ⟨rfl, rfl⟩ | exact ⟨rfl, rfl, rfl⟩ | omega | (simp only [lz]; omega) | (simp; omega) | (simp [cloL, clo, catS, repl, cz, encR, encY, encS, encSoc, encT] <;> fail) | (show chkGo _ _ _ _ _ = true; kernel_rfl)) : p := h
theorem vk {p : Prop} (h : p := by first | (show chkGo _ _ _ _ _ = true; kernel_rfl) | rfl | exact List.cons_ne_nil _ _ | (show (_ : Nat) * _ ≤ _; simp [catS, repl, chunks, lz] <;> omega) | exact shS _ _ | exact shM _ | exact shN | exact encM_clo _ | exact ⟨rfl, rfl⟩ | exact ⟨rfl, rfl, rfl⟩ | omega | (simp only [lz]; omega) | (simp; omega) | (simp [cloL, clo, catS, repl, cz, encR, encY, encS, encSoc, encT] <;> fail)) : p := h
end Go.Proofs.YtjadiajfbflghaaGreat
set_option linter.unusedSimpArgs false
set_option linter.unusedVariables false
open Go Go.TV Go.RowKit
namespace Go.Proofs.YtjadiajfbflghaaGreat
def shI : Sh := .int .i64
def shMem : List Sh := [shI, shI, shI]
def shRng : List Sh := [shI, shI]
def shSoc : List Sh := [.sl 3 true shMem, .sl 2 true shRng, shI, shI, shI]
theorem fits_ints {k : IntKind} {l : List SV} (h : ∀ e ∈ l, ∃ cs, Sh.fitsL [.int k] cs ∧ e = (if false = true then .agg cs else cs.headD .junk)) : ∃ m : List Int, l = m.map (SV.int k) ∧ ∀ n ∈ m, k.min ≤ n ∧ n ≤ k.max := by
  induction l with
  | nil => exact ⟨[], rfl, by simp⟩
  | cons e l ih =>
    obtain ⟨m, rfl, hm⟩ := ih fun e he => h e (by simp [he])
    obtain ⟨cs, h1, h2⟩ := h e (by simp)
    simp only [Sh.fitsL, Sh.fits] at h1
    obtain ⟨s, ss, rfl, ⟨n, rfl, h3⟩, rfl⟩ := h1
    simp at h2
    subst h2
    exact ⟨n :: m, rfl, by intro x hx; rcases List.mem_cons.1 hx with rfl | hx; exact h3; exact hm x hx⟩
theorem fits_mems {l : List SV} (h : ∀ e ∈ l, ∃ cs, Sh.fitsL shMem cs ∧ e = (if true = true then .agg cs else cs.headD .junk)) : ∃ m : List Mem, l = encYs m := by
  induction l with
  | nil => exact ⟨[], rfl⟩
  | cons e l ih =>
    obtain ⟨m, rfl⟩ := ih fun e he => h e (by simp [he])
    obtain ⟨cs, h1, h2⟩ := h e (by simp)
    simp only [shMem, shI, Sh.fitsL, Sh.fits] at h1
    obtain ⟨_, _, rfl, ⟨a, rfl, _⟩, _, _, rfl, ⟨b, rfl, _⟩, _, _, rfl, ⟨c, rfl, _⟩, rfl⟩ := h1
    simp at h2
    subst h2
    exact ⟨⟨a, b, c⟩ :: m, rfl⟩
theorem fits_rngs {l : List SV} (h : ∀ e ∈ l, ∃ cs, Sh.fitsL shRng cs ∧ e = (if true = true then .agg cs else cs.headD .junk)) : ∃ m : List Rng, l = encRs m := by
  induction l with
  | nil => exact ⟨[], rfl⟩
  | cons e l ih =>
    obtain ⟨m, rfl⟩ := ih fun e he => h e (by simp [he])
    obtain ⟨cs, h1, h2⟩ := h e (by simp)
    simp only [shRng, shI, Sh.fitsL, Sh.fits] at h1
    obtain ⟨_, _, rfl, ⟨a, rfl, _⟩, _, _, rfl, ⟨b, rfl, _⟩, rfl⟩ := h1
    simp at h2
    subst h2
    exact ⟨⟨a, b⟩ :: m, rfl⟩
theorem fits_soc {s : SV} (h : fitsA (true, shSoc) s) : ∃ r : Soc, s = encSoc r := by
  obtain ⟨cs, h1, rfl⟩ := h
  simp only [shSoc, shI, Sh.fitsL, Sh.fits] at h1
  obtain ⟨_, _, rfl, ⟨l, rfl, _, hl⟩, _, _, rfl, ⟨l', rfl, _, hl'⟩, _, _, rfl, ⟨c, rfl, _⟩, _, _, rfl, ⟨d, rfl, _⟩, _, _, rfl, ⟨e, rfl, _⟩, rfl⟩ := h1
  obtain ⟨m, rfl⟩ := fits_mems hl
  obtain ⟨m', rfl⟩ := fits_rngs hl'
  exact ⟨⟨m, m', ⟨c, d⟩, e⟩, by simp [encSoc]⟩
theorem fits_words {s : SV} (h : fitsA (false, [.sl 1 false [.int .u8]]) s) : ∃ l : List Int, s = .sl 1 (l.map (SV.int .u8)) ∧ (∀ n ∈ l, 0 ≤ n ∧ n ≤ 255) ∧ l.length ≤ maxLen := by
  obtain ⟨cs, h1, rfl⟩ := h
  simp only [Sh.fitsL, Sh.fits] at h1
  obtain ⟨_, _, rfl, ⟨l, rfl, hn, hl⟩, rfl⟩ := h1
  obtain ⟨m, rfl, h2⟩ := fits_ints hl
  exact ⟨m, by simp, h2, by simpa using hn⟩
theorem own : ownKnob Tryz.prog.godebug = none := by kernel_rfl
theorem laidOut : laidOutB Tryz.prog = true := by kernel_rfl
theorem mixed : Tryz.prog.follows .mixedOrders = true := by kernel_rfl
def tSoc : Value := .agg #[.slice none 0 0, .slice none 0 0, .int .i64 0, .int .i64 0, .int .i64 0]
def tsOK (P : Program) (f : Func) : Bool := f.params.toList.all fun t => P.readableRec t && decide (t < P.types.size)
theorem ts_ok {P : Program} {f : Func} (h : tsOK P f = true) : ∀ t ∈ f.params.toList, P.readableRec t = true ∧ t < P.types.size := by
  intro t ht
  have := List.all_eq_true.1 h t ht
  simpa using this
end Go.Proofs.YtjadiajfbflghaaGreat
set_option linter.unusedSimpArgs false
set_option linter.unusedVariables false
open Go Go.TV
namespace Go.Proofs.YtjadiajfbflghaaGreat
structure Tf where
  frm : Int
  whole : Bool
  least : Int
  weeks : List Int
  counts : List Int
  rates : List (List (List Int))
def encI (n : Int) : SV := .int .i64 n
def encIs (l : List Int) : SV := .sl 1 (ints l)
def encIss (l : List (List Int)) : List SV := l.map encIs
def encCr (c : List (List Int)) : SV := .sl 1 (encIss c)
def encCrs (l : List (List (List Int))) : List SV := l.map encCr
def encTf (t : Tf) : SV := .agg [.int .i64 t.frm, .bool t.whole, .int .i64 t.least, .sl 1 (ints t.weeks), .sl 1 (ints t.counts), .sl 1 (encCrs t.rates)]
def encTfs (l : List Tf) : List SV := l.map encTf
theorem encIss_len (l : List (List Int)) : (encIss l).length = l.length := List.length_map _
theorem encCrs_len (l : List (List (List Int))) : (encCrs l).length = l.length := List.length_map _
theorem encTfs_len (l : List Tf) : (encTfs l).length = l.length := List.length_map _
theorem map_at {α : Type} {f : α → SV} {l : List α} {n : Nat} {e : SV} (h : (l.map f)[n]? = some e) : ∃ x, l[n]? = some x ∧ e = f x := by
  simp only [List.getElem?_map, Option.map_eq_some_iff] at h
  obtain ⟨x, h1, h2⟩ := h
  exact ⟨x, h1, h2.symm⟩
theorem encI_at {l : List Int} {n : Nat} {e : SV} (h : (ints l)[n]? = some e) : ∃ x, l[n]? = some x ∧ e = encI x := map_at h
theorem encIss_at {l : List (List Int)} {n : Nat} {e : SV} (h : (encIss l)[n]? = some e) : ∃ x, l[n]? = some x ∧ e = encIs x := map_at h
theorem encCrs_at {l : List (List (List Int))} {n : Nat} {e : SV} (h : (encCrs l)[n]? = some e) : ∃ x, l[n]? = some x ∧ e = encCr x := map_at h
theorem encTfs_at {l : List Tf} {n : Nat} {e : SV} (h : (encTfs l)[n]? = some e) : ∃ x, l[n]? = some x ∧ e = encTf x := map_at h
theorem encIss_clo (l : List (List Int)) : cloL (encIss l) := by
  rw [cloL_iff]; intro s hs; obtain ⟨x, _, rfl⟩ := List.mem_map.1 hs; simp [encIs, clo]
theorem encCrs_clo (l : List (List (List Int))) : cloL (encCrs l) := by
  rw [cloL_iff]; intro s hs; obtain ⟨x, _, rfl⟩ := List.mem_map.1 hs; simp [encCr, clo]
theorem encTfs_clo (l : List Tf) : cloL (encTfs l) := by
  rw [cloL_iff]; intro s hs; obtain ⟨x, _, rfl⟩ := List.mem_map.1 hs; simp [encTf, clo, cloL]
def goR : Int → Int → List Int → Bool
  | _, _, [] => true
  | a, most, x :: l => within x (a + 1) most && goR x most l
def risingB (l : List Int) (most : Int) : Bool := decide (0 < l.length) && (decide (l.head? = some 0) && goR (-1) most l)
def Tf.weekB (t : Tf) (x : List Int) : Bool := decide (x.length = t.counts.length) && x.all fun n => within n 0 100
def Tf.cropB (t : Tf) (c : List (List Int)) : Bool := decide (c.length = t.weeks.length) && c.all t.weekB
def Tf.few (t : Tf) : Bool := decide (t.weeks.length ≤ 4) && (decide (t.counts.length ≤ 5) && decide (t.rates.length ≤ 3))
def Tf.valid (t : Tf) : Bool := within t.frm 0 120 && (within t.least 0 100 && (risingB t.weeks 120 && (decide (1 < t.counts.length) && (risingB t.counts 100 && (decide (t.counts.getLast? = some 100) && (decide (0 < t.rates.length) && t.rates.all t.cropB))))))
structure ValidTs (l : List Tf) : Prop where
  len : l.length ≤ 3
  few : ∀ t ∈ l, t.few = true
  ne : 0 < l.length
  first : ∀ t, l[0]? = some t → t.frm = 0
  valid : ∀ t ∈ l, t.valid = true
  next : ∀ (i : Nat) (a b : Tf), l[i]? = some a → l[i + 1]? = some b → a.frm < b.frm
  crops : ∀ (i : Nat) (a b : Tf), l[0]? = some a → l[i]? = some b → b.rates.length = a.rates.length
end Go.Proofs.YtjadiajfbflghaaGreat
set_option linter.unusedSimpArgs false
set_option linter.unusedVariables false
open Go Go.TV
namespace Go.Proofs.YtjadiajfbflghaaGreat
set_option maxRecDepth 100000
set_option maxHeartbeats 4000000
def tg23 : { t : TFn // fnOf Tryz.prog 23 = some t } := by
  refine ⟨?_, ?_⟩
  rotate_left
  conv => lhs; reduce; (try dsimp only [Int.ofNat_eq_natCast, Int.cast_ofNat_Int])
def tf23 : TFn := tg23.1
theorem fn_23 : fnOf Tryz.prog 23 = some tf23 := tg23.2
def tg24 : { t : TFn // fnOf Tryz.prog 24 = some t } := by
  refine ⟨?_, ?_⟩
  rotate_left
  conv => lhs; reduce; (try dsimp only [Int.ofNat_eq_natCast, Int.cast_ofNat_Int])
def tf24 : TFn := tg24.1
theorem fn_24 : fnOf Tryz.prog 24 = some tf24 := tg24.2
def tg31 : { t : TFn // fnOf Tryz.prog 31 = some t } := by
  refine ⟨?_, ?_⟩
  rotate_left
  conv => lhs; reduce; (try dsimp only [Int.ofNat_eq_natCast, Int.cast_ofNat_Int])
def tf31 : TFn := tg31.1
theorem fn_31 : fnOf Tryz.prog 31 = some tf31 := tg31.2
def tg33 : { t : TFn // fnOf Tryz.prog 33 = some t } := by
  refine ⟨?_, ?_⟩
  rotate_left
  conv => lhs; reduce; (try dsimp only [Int.ofNat_eq_natCast, Int.cast_ofNat_Int])
def tf33 : TFn := tg33.1
theorem fn_33 : fnOf Tryz.prog 33 = some tf33 := tg33.2
def tg50 : { t : TFn // fnOf Tryz.prog 50 = some t } := by
  refine ⟨?_, ?_⟩
  rotate_left
  conv => lhs; reduce; (try dsimp only [Int.ofNat_eq_natCast, Int.cast_ofNat_Int])
def tf50 : TFn := tg50.1
theorem fn_50 : fnOf Tryz.prog 50 = some tf50 := tg50.2
def tg75 : { t : TFn // fnOf Tryz.prog 75 = some t } := by
  refine ⟨?_, ?_⟩
  rotate_left
  conv => lhs; reduce; (try dsimp only [Int.ofNat_eq_natCast, Int.cast_ofNat_Int])
def tf75 : TFn := tg75.1
theorem fn_75 : fnOf Tryz.prog 75 = some tf75 := tg75.2
def tg76 : { t : TFn // fnOf Tryz.prog 76 = some t } := by
  refine ⟨?_, ?_⟩
  rotate_left
  conv => lhs; reduce; (try dsimp only [Int.ofNat_eq_natCast, Int.cast_ofNat_Int])
def tf76 : TFn := tg76.1
theorem fn_76 : fnOf Tryz.prog 76 = some tf76 := tg76.2
def tg84 : { t : TFn // fnOf Tryz.prog 84 = some t } := by
  refine ⟨?_, ?_⟩
  rotate_left
  conv => lhs; reduce; (try dsimp only [Int.ofNat_eq_natCast, Int.cast_ofNat_Int])
def tf84 : TFn := tg84.1
theorem fn_84 : fnOf Tryz.prog 84 = some tf84 := tg84.2
def tg86 : { t : TFn // fnOf Tryz.prog 86 = some t } := by
  refine ⟨?_, ?_⟩
  rotate_left
  conv => lhs; reduce; (try dsimp only [Int.ofNat_eq_natCast, Int.cast_ofNat_Int])
def tf86 : TFn := tg86.1
theorem fn_86 : fnOf Tryz.prog 86 = some tf86 := tg86.2
def tg87 : { t : TFn // fnOf Tryz.prog 87 = some t } := by
  refine ⟨?_, ?_⟩
  rotate_left
  conv => lhs; reduce; (try dsimp only [Int.ofNat_eq_natCast, Int.cast_ofNat_Int])
def tf87 : TFn := tg87.1
theorem fn_87 : fnOf Tryz.prog 87 = some tf87 := tg87.2
def tg89 : { t : TFn // fnOf Tryz.prog 89 = some t } := by
  refine ⟨?_, ?_⟩
  rotate_left
  conv => lhs; reduce; (try dsimp only [Int.ofNat_eq_natCast, Int.cast_ofNat_Int])
def tf89 : TFn := tg89.1
theorem fn_89 : fnOf Tryz.prog 89 = some tf89 := tg89.2
def tg115 : { t : TFn // fnOf Tryz.prog 115 = some t } := by
  refine ⟨?_, ?_⟩
  rotate_left
  conv => lhs; reduce; (try dsimp only [Int.ofNat_eq_natCast, Int.cast_ofNat_Int])
def tf115 : TFn := tg115.1
theorem fn_115 : fnOf Tryz.prog 115 = some tf115 := tg115.2
def tg136 : { t : TFn // fnOf Tryz.prog 136 = some t } := by
  refine ⟨?_, ?_⟩
  rotate_left
  conv => lhs; reduce; (try dsimp only [Int.ofNat_eq_natCast, Int.cast_ofNat_Int])
def tf136 : TFn := tg136.1
theorem fn_136 : fnOf Tryz.prog 136 = some tf136 := tg136.2
def tg137 : { t : TFn // fnOf Tryz.prog 137 = some t } := by
  refine ⟨?_, ?_⟩
  rotate_left
  conv => lhs; reduce; (try dsimp only [Int.ofNat_eq_natCast, Int.cast_ofNat_Int])
def tf137 : TFn := tg137.1
theorem fn_137 : fnOf Tryz.prog 137 = some tf137 := tg137.2
def tg138 : { t : TFn // fnOf Tryz.prog 138 = some t } := by
  refine ⟨?_, ?_⟩
  rotate_left
  conv => lhs; reduce; (try dsimp only [Int.ofNat_eq_natCast, Int.cast_ofNat_Int])
def tf138 : TFn := tg138.1
theorem fn_138 : fnOf Tryz.prog 138 = some tf138 := tg138.2
def tg148 : { t : TFn // fnOf Tryz.prog 148 = some t } := by
  refine ⟨?_, ?_⟩
  rotate_left
  conv => lhs; reduce; (try dsimp only [Int.ofNat_eq_natCast, Int.cast_ofNat_Int])
def tf148 : TFn := tg148.1
theorem fn_148 : fnOf Tryz.prog 148 = some tf148 := tg148.2
def tg149 : { t : TFn // fnOf Tryz.prog 149 = some t } := by
  refine ⟨?_, ?_⟩
  rotate_left
  conv => lhs; reduce; (try dsimp only [Int.ofNat_eq_natCast, Int.cast_ofNat_Int])
def tf149 : TFn := tg149.1
theorem fn_149 : fnOf Tryz.prog 149 = some tf149 := tg149.2
def tg150 : { t : TFn // fnOf Tryz.prog 150 = some t } := by
  refine ⟨?_, ?_⟩
  rotate_left
  conv => lhs; reduce; (try dsimp only [Int.ofNat_eq_natCast, Int.cast_ofNat_Int])
def tf150 : TFn := tg150.1
theorem fn_150 : fnOf Tryz.prog 150 = some tf150 := tg150.2
def tg152 : { t : TFn // fnOf Tryz.prog 152 = some t } := by
  refine ⟨?_, ?_⟩
  rotate_left
  conv => lhs; reduce; (try dsimp only [Int.ofNat_eq_natCast, Int.cast_ofNat_Int])
def tf152 : TFn := tg152.1
theorem fn_152 : fnOf Tryz.prog 152 = some tf152 := tg152.2
def tg153 : { t : TFn // fnOf Tryz.prog 153 = some t } := by
  refine ⟨?_, ?_⟩
  rotate_left
  conv => lhs; reduce; (try dsimp only [Int.ofNat_eq_natCast, Int.cast_ofNat_Int])
def tf153 : TFn := tg153.1
theorem fn_153 : fnOf Tryz.prog 153 = some tf153 := tg153.2
def tg154 : { t : TFn // fnOf Tryz.prog 154 = some t } := by
  refine ⟨?_, ?_⟩
  rotate_left
  conv => lhs; reduce; (try dsimp only [Int.ofNat_eq_natCast, Int.cast_ofNat_Int])
def tf154 : TFn := tg154.1
theorem fn_154 : fnOf Tryz.prog 154 = some tf154 := tg154.2
def tg155 : { t : TFn // fnOf Tryz.prog 155 = some t } := by
  refine ⟨?_, ?_⟩
  rotate_left
  conv => lhs; reduce; (try dsimp only [Int.ofNat_eq_natCast, Int.cast_ofNat_Int])
def tf155 : TFn := tg155.1
theorem fn_155 : fnOf Tryz.prog 155 = some tf155 := tg155.2
def tg177 : { t : TFn // fnOf Tryz.prog 177 = some t } := by
  refine ⟨?_, ?_⟩
  rotate_left
  conv => lhs; reduce; (try dsimp only [Int.ofNat_eq_natCast, Int.cast_ofNat_Int])
def tf177 : TFn := tg177.1
theorem fn_177 : fnOf Tryz.prog 177 = some tf177 := tg177.2
def tg178 : { t : TFn // fnOf Tryz.prog 178 = some t } := by
  refine ⟨?_, ?_⟩
  rotate_left
  conv => lhs; reduce; (try dsimp only [Int.ofNat_eq_natCast, Int.cast_ofNat_Int])
def tf178 : TFn := tg178.1
theorem fn_178 : fnOf Tryz.prog 178 = some tf178 := tg178.2
def tg179 : { t : TFn // fnOf Tryz.prog 179 = some t } := by
  refine ⟨?_, ?_⟩
  rotate_left
  conv => lhs; reduce; (try dsimp only [Int.ofNat_eq_natCast, Int.cast_ofNat_Int])
def tf179 : TFn := tg179.1
theorem fn_179 : fnOf Tryz.prog 179 = some tf179 := tg179.2
def tg204 : { t : TFn // fnOf Tryz.prog 204 = some t } := by
  refine ⟨?_, ?_⟩
  rotate_left
  conv => lhs; reduce; (try dsimp only [Int.ofNat_eq_natCast, Int.cast_ofNat_Int])
def tf204 : TFn := tg204.1
theorem fn_204 : fnOf Tryz.prog 204 = some tf204 := tg204.2
def tg205 : { t : TFn // fnOf Tryz.prog 205 = some t } := by
  refine ⟨?_, ?_⟩
  rotate_left
  conv => lhs; reduce; (try dsimp only [Int.ofNat_eq_natCast, Int.cast_ofNat_Int])
def tf205 : TFn := tg205.1
theorem fn_205 : fnOf Tryz.prog 205 = some tf205 := tg205.2
def tg206 : { t : TFn // fnOf Tryz.prog 206 = some t } := by
  refine ⟨?_, ?_⟩
  rotate_left
  conv => lhs; reduce; (try dsimp only [Int.ofNat_eq_natCast, Int.cast_ofNat_Int])
def tf206 : TFn := tg206.1
theorem fn_206 : fnOf Tryz.prog 206 = some tf206 := tg206.2
def tg208 : { t : TFn // fnOf Tryz.prog 208 = some t } := by
  refine ⟨?_, ?_⟩
  rotate_left
  conv => lhs; reduce; (try dsimp only [Int.ofNat_eq_natCast, Int.cast_ofNat_Int])
def tf208 : TFn := tg208.1
theorem fn_208 : fnOf Tryz.prog 208 = some tf208 := tg208.2
def tg210 : { t : TFn // fnOf Tryz.prog 210 = some t } := by
  refine ⟨?_, ?_⟩
  rotate_left
  conv => lhs; reduce; (try dsimp only [Int.ofNat_eq_natCast, Int.cast_ofNat_Int])
def tf210 : TFn := tg210.1
theorem fn_210 : fnOf Tryz.prog 210 = some tf210 := tg210.2
def tg211 : { t : TFn // fnOf Tryz.prog 211 = some t } := by
  refine ⟨?_, ?_⟩
  rotate_left
  conv => lhs; reduce; (try dsimp only [Int.ofNat_eq_natCast, Int.cast_ofNat_Int])
def tf211 : TFn := tg211.1
theorem fn_211 : fnOf Tryz.prog 211 = some tf211 := tg211.2
def tg227 : { t : TFn // fnOf Tryz.prog 227 = some t } := by
  refine ⟨?_, ?_⟩
  rotate_left
  conv => lhs; reduce; (try dsimp only [Int.ofNat_eq_natCast, Int.cast_ofNat_Int])
def tf227 : TFn := tg227.1
theorem fn_227 : fnOf Tryz.prog 227 = some tf227 := tg227.2
def tg228 : { t : TFn // fnOf Tryz.prog 228 = some t } := by
  refine ⟨?_, ?_⟩
  rotate_left
  conv => lhs; reduce; (try dsimp only [Int.ofNat_eq_natCast, Int.cast_ofNat_Int])
def tf228 : TFn := tg228.1
theorem fn_228 : fnOf Tryz.prog 228 = some tf228 := tg228.2
def tg229 : { t : TFn // fnOf Tryz.prog 229 = some t } := by
  refine ⟨?_, ?_⟩
  rotate_left
  conv => lhs; reduce; (try dsimp only [Int.ofNat_eq_natCast, Int.cast_ofNat_Int])
def tf229 : TFn := tg229.1
theorem fn_229 : fnOf Tryz.prog 229 = some tf229 := tg229.2
def tg230 : { t : TFn // fnOf Tryz.prog 230 = some t } := by
  refine ⟨?_, ?_⟩
  rotate_left
  conv => lhs; reduce; (try dsimp only [Int.ofNat_eq_natCast, Int.cast_ofNat_Int])
def tf230 : TFn := tg230.1
theorem fn_230 : fnOf Tryz.prog 230 = some tf230 := tg230.2
def tg231 : { t : TFn // fnOf Tryz.prog 231 = some t } := by
  refine ⟨?_, ?_⟩
  rotate_left
  conv => lhs; reduce; (try dsimp only [Int.ofNat_eq_natCast, Int.cast_ofNat_Int])
def tf231 : TFn := tg231.1
theorem fn_231 : fnOf Tryz.prog 231 = some tf231 := tg231.2
def tg242 : { t : TFn // fnOf Tryz.prog 242 = some t } := by
  refine ⟨?_, ?_⟩
  rotate_left
  conv => lhs; reduce; (try dsimp only [Int.ofNat_eq_natCast, Int.cast_ofNat_Int])
def tf242 : TFn := tg242.1
theorem fn_242 : fnOf Tryz.prog 242 = some tf242 := tg242.2
def tg251 : { t : TFn // fnOf Tryz.prog 251 = some t } := by
  refine ⟨?_, ?_⟩
  rotate_left
  conv => lhs; reduce; (try dsimp only [Int.ofNat_eq_natCast, Int.cast_ofNat_Int])
def tf251 : TFn := tg251.1
theorem fn_251 : fnOf Tryz.prog 251 = some tf251 := tg251.2
def tg252 : { t : TFn // fnOf Tryz.prog 252 = some t } := by
  refine ⟨?_, ?_⟩
  rotate_left
  conv => lhs; reduce; (try dsimp only [Int.ofNat_eq_natCast, Int.cast_ofNat_Int])
def tf252 : TFn := tg252.1
theorem fn_252 : fnOf Tryz.prog 252 = some tf252 := tg252.2
def tg253 : { t : TFn // fnOf Tryz.prog 253 = some t } := by
  refine ⟨?_, ?_⟩
  rotate_left
  conv => lhs; reduce; (try dsimp only [Int.ofNat_eq_natCast, Int.cast_ofNat_Int])
def tf253 : TFn := tg253.1
theorem fn_253 : fnOf Tryz.prog 253 = some tf253 := tg253.2
def tg254 : { t : TFn // fnOf Tryz.prog 254 = some t } := by
  refine ⟨?_, ?_⟩
  rotate_left
  conv => lhs; reduce; (try dsimp only [Int.ofNat_eq_natCast, Int.cast_ofNat_Int])
def tf254 : TFn := tg254.1
theorem fn_254 : fnOf Tryz.prog 254 = some tf254 := tg254.2
def tg255 : { t : TFn // fnOf Tryz.prog 255 = some t } := by
  refine ⟨?_, ?_⟩
  rotate_left
  conv => lhs; reduce; (try dsimp only [Int.ofNat_eq_natCast, Int.cast_ofNat_Int])
def tf255 : TFn := tg255.1
theorem fn_255 : fnOf Tryz.prog 255 = some tf255 := tg255.2
def tg256 : { t : TFn // fnOf Tryz.prog 256 = some t } := by
  refine ⟨?_, ?_⟩
  rotate_left
  conv => lhs; reduce; (try dsimp only [Int.ofNat_eq_natCast, Int.cast_ofNat_Int])
def tf256 : TFn := tg256.1
theorem fn_256 : fnOf Tryz.prog 256 = some tf256 := tg256.2
def tg258 : { t : TFn // fnOf Tryz.prog 258 = some t } := by
  refine ⟨?_, ?_⟩
  rotate_left
  conv => lhs; reduce; (try dsimp only [Int.ofNat_eq_natCast, Int.cast_ofNat_Int])
def tf258 : TFn := tg258.1
theorem fn_258 : fnOf Tryz.prog 258 = some tf258 := tg258.2
def tg263 : { t : TFn // fnOf Tryz.prog 263 = some t } := by
  refine ⟨?_, ?_⟩
  rotate_left
  conv => lhs; reduce; (try dsimp only [Int.ofNat_eq_natCast, Int.cast_ofNat_Int])
def tf263 : TFn := tg263.1
theorem fn_263 : fnOf Tryz.prog 263 = some tf263 := tg263.2
def tg264 : { t : TFn // fnOf Tryz.prog 264 = some t } := by
  refine ⟨?_, ?_⟩
  rotate_left
  conv => lhs; reduce; (try dsimp only [Int.ofNat_eq_natCast, Int.cast_ofNat_Int])
def tf264 : TFn := tg264.1
theorem fn_264 : fnOf Tryz.prog 264 = some tf264 := tg264.2
def tg265 : { t : TFn // fnOf Tryz.prog 265 = some t } := by
  refine ⟨?_, ?_⟩
  rotate_left
  conv => lhs; reduce; (try dsimp only [Int.ofNat_eq_natCast, Int.cast_ofNat_Int])
def tf265 : TFn := tg265.1
theorem fn_265 : fnOf Tryz.prog 265 = some tf265 := tg265.2
def tg266 : { t : TFn // fnOf Tryz.prog 266 = some t } := by
  refine ⟨?_, ?_⟩
  rotate_left
  conv => lhs; reduce; (try dsimp only [Int.ofNat_eq_natCast, Int.cast_ofNat_Int])
def tf266 : TFn := tg266.1
theorem fn_266 : fnOf Tryz.prog 266 = some tf266 := tg266.2
end Go.Proofs.YtjadiajfbflghaaGreat
set_option linter.unusedSimpArgs false
set_option linter.unusedVariables false
open Go Go.TV
namespace Go.Proofs.YtjadiajfbflghaaGreat
set_option linter.unusedSimpArgs false
theorem noFew (y : Tf) (b : Bool) (h : PF Tryz.prog 178 [encTf y] (· = .bool b)) : PF Tryz.prog 228 [encTf y, .iptr (.agg [.fn 178 [] []]) 0] (· = .bool !b) := by
  refine PF.of (TF.ev fn_228 (Ev.at ?_))
  (repeat' (first | (refine Ev.go ?_; conv => whnf) | refine And.intro ?_ ?_ | exact True.intro | exact rfl | (intro rx hrx; rw [ij _ (by omega)] at hrx) | (intro hcx; exfalso; omega) | intro _))
  all_goals (first | (refine ⟨?_⟩; exact vc) | exact cl | skip)
  refine TSq.pureBC h (by simp [cloL, clo, encTf, encCr, encIs, encI, encTfs_clo, encCrs_clo, encIss_clo, ints_clo]) rfl (And.intro rfl rfl) ?_ ?_ <;> intro hb
  all_goals
    subst hb
    (repeat' (first | (refine Ev.go ?_; conv => whnf) | refine And.intro ?_ ?_ | exact True.intro | exact rfl | (intro rx hrx; rw [ij _ (by omega)] at hrx) | (intro hcx; exfalso; omega) | intro _))
    try rfl
theorem ixFew (l : List (Tf)) (p : Tf → Bool) (hp : ∀ y ∈ l, PF Tryz.prog 178 [encTf y] (· = .bool (p y))) (hlen : l.length ≤ 1000000) :
    PF Tryz.prog 251 [.sl 6 (encTfs l), .fn 228 [] [.iptr (.agg [.fn 178 [] []]) 0]] fun s => ∃ i : Int, s = .int .i64 i ∧ (0 ≤ i ↔ l.any (fun y => !p y) = true) := by
  have hz := encTfs_len l
  refine PF.of (TF.ev fn_251 (Ev.at ?_))
  (repeat' (first | (intro ex hex; have hq := hg1 (by omega) hex; subst hq; clear hex) | (refine Ev.go ?_; conv => whnf) | refine And.intro ?_ ?_ | exact True.intro | exact rfl | (intro rx hrx; rw [ij _ (by omega)] at hrx) | (intro hcx; exfalso; omega) | intro _))
  refine TWq.loop (fun k : Nat => [(8, .int .i64 k)]) (fun _ => []) (fun k => k ≤ l.length ∧ (l.take k).any (fun y => !p y) = false) (fun k => l.length - k) 0 [] [] ?_ ⟨by omega, by simp⟩ ?_
  · (repeat' (first | (intro ex hex; have hq := hg1 (by omega) hex; subst hq; clear hex) | (refine Ev.go ?_; conv => whnf) | refine And.intro ?_ ?_ | exact True.intro | exact rfl | (intro rx hrx; rw [ij _ (by omega)] at hrx) | (intro hcx; exfalso; omega) | intro _))
    all_goals (first | (refine ⟨?_⟩; exact vc) | exact cl | skip)
  · rintro k ⟨hk, hno⟩
    rcases Nat.lt_or_ge k l.length with hkl | hkl
    · obtain ⟨v, hv⟩ : ∃ v, l[k]? = some v := ⟨_, List.getElem?_eq_getElem hkl⟩
      have hm := List.mem_of_getElem? hv
      have hg1 : ∀ {n : Nat} {e : SV}, n = k → (encTfs l)[n]? = some e → e = encTf v := by
        rintro n e rfl he
        obtain ⟨x, hx, rfl⟩ := encTfs_at he
        rw [hv] at hx; cases hx; rfl
      have hno1 := noFew v _ (hp v hm)
      (repeat' (first | (intro ex hex; have hq := hg1 (by omega) hex; subst hq; clear hex) | (refine Ev.go ?_; conv => whnf) | refine And.intro ?_ ?_ | exact True.intro | exact rfl | (intro rx hrx; rw [ij _ (by omega)] at hrx) | (intro hcx; exfalso; omega) | intro _))
      all_goals (first | (refine ⟨?_⟩; exact vc) | exact cl | skip)
      refine TSq.pureBC hno1 (by simp [cloL, clo, encTf, encCr, encIs, encI, encTfs_clo, encCrs_clo, encIss_clo, ints_clo]) rfl (And.intro rfl rfl) ?_ ?_ <;> intro hb
      · (repeat' (first | (intro ex hex; have hq := hg1 (by omega) hex; subst hq; clear hex) | (refine Ev.go ?_; conv => whnf) | refine And.intro ?_ ?_ | exact True.intro | exact rfl | (intro rx hrx; rw [ij _ (by omega)] at hrx) | (intro hcx; exfalso; omega) | intro _))
        all_goals (first | (refine ⟨?_⟩; exact vc) | exact cl | skip)
        exact ⟨k, rfl, ⟨fun _ => List.any_eq_true.2 ⟨v, hm, hb⟩, fun _ => by omega⟩⟩
      · (repeat' (first | (intro ex hex; have hq := hg1 (by omega) hex; subst hq; clear hex) | (refine Ev.go ?_; conv => whnf) | refine And.intro ?_ ?_ | exact True.intro | exact rfl | (intro rx hrx; rw [ij _ (by omega)] at hrx) | (intro hcx; exfalso; omega) | intro _))
        all_goals (first | (refine ⟨?_⟩; exact vc) | exact cl | skip)
        refine ⟨⟨k + 1, ⟨by omega, by rw [take_snoc hv, List.any_append, hno]; simp_all⟩, by omega, ?_⟩⟩
        (repeat' (first | (intro ex hex; have hq := hg1 (by omega) hex; subst hq; clear hex) | (refine Ev.go ?_; conv => whnf) | refine And.intro ?_ ?_ | exact True.intro | exact rfl | (intro rx hrx; rw [ij _ (by omega)] at hrx) | (intro hcx; exfalso; omega) | intro _))
        all_goals (first | (refine ⟨?_⟩; exact vc) | exact cl | skip)
    · have hke : k = l.length := by omega
      subst hke
      rw [List.take_length] at hno
      (repeat' (first | (intro ex hex; have hq := hg1 (by omega) hex; subst hq; clear hex) | (refine Ev.go ?_; conv => whnf) | refine And.intro ?_ ?_ | exact True.intro | exact rfl | (intro rx hrx; rw [ij _ (by omega)] at hrx) | (intro hcx; exfalso; omega) | intro _))
      all_goals (first | (refine ⟨?_⟩; exact vc) | exact cl | skip)
      exact ⟨-1, rfl, by rw [hno]; simp⟩
theorem coFew (l : List (Tf)) (p : Tf → Bool) (hp : ∀ y ∈ l, PF Tryz.prog 178 [encTf y] (· = .bool (p y))) (hlen : l.length ≤ 1000000) :
    PF Tryz.prog 227 [.sl 6 (encTfs l), .fn 228 [] [.iptr (.agg [.fn 178 [] []]) 0]] (· = .bool (l.any fun y => !p y)) := by
  refine PF.of (TF.ev fn_227 (Ev.at ?_))
  (repeat' (first | (refine Ev.go ?_; conv => whnf) | refine And.intro ?_ ?_ | exact True.intro | exact rfl | (intro rx hrx; rw [ij _ (by omega)] at hrx) | (intro hcx; exfalso; omega) | intro _))
  refine TSq.pureQ rfl (ixFew l p hp hlen) (by simp [cloL, clo, encTf, encCr, encIs, encI, encTfs_clo, encCrs_clo, encIss_clo, ints_clo]) rfl (And.intro rfl rfl) ?_
  rintro s ⟨i, rfl, hi⟩ _
  (repeat' (first | (refine Ev.go ?_; conv => whnf) | refine And.intro ?_ ?_ | exact True.intro | exact rfl | (intro rx hrx; rw [ij _ (by omega)] at hrx) | (intro hcx; exfalso; omega) | intro _))
  all_goals (rw [SV.bool_iff]; rw [← hi]; simp; omega)
theorem alFew (l : List (Tf)) (p : Tf → Bool) (hp : ∀ y ∈ l, PF Tryz.prog 178 [encTf y] (· = .bool (p y))) (hlen : l.length ≤ 1000000) :
    PF Tryz.prog 177 [.sl 6 (encTfs l), .fn 178 [] []] (· = .bool (l.all p)) := by
  refine PF.of (TF.ev fn_177 (Ev.at ?_))
  (repeat' (first | (refine Ev.go ?_; conv => whnf) | refine And.intro ?_ ?_ | exact True.intro | exact rfl | (intro rx hrx; rw [ij _ (by omega)] at hrx) | (intro hcx; exfalso; omega) | intro _))
  refine TSq.lendBC (coFew l p hp hlen) rfl (And.intro rfl ?_) ?_ ?_
  · (repeat' (first | (refine Ev.go ?_; conv => whnf) | refine And.intro ?_ ?_ | exact True.intro | exact rfl | (intro rx hrx; rw [ij _ (by omega)] at hrx) | (intro hcx; exfalso; omega) | intro _))
    all_goals (first | (refine ⟨?_⟩; exact vc) | exact cl | skip)
  all_goals
    intro hb
    (repeat' (first | (refine Ev.go ?_; conv => whnf) | refine And.intro ?_ ?_ | exact True.intro | exact rfl | (intro rx hrx; rw [ij _ (by omega)] at hrx) | (intro hcx; exfalso; omega) | intro _))
    all_goals (first | (refine ⟨?_⟩; exact vc) | exact cl | skip)
    all_goals (rw [SV.bool_iff]; simp_all [List.all_eq_not_any_not])
theorem noVal (y : Tf) (b : Bool) (h : PF Tryz.prog 179 [encTf y] (· = .bool b)) : PF Tryz.prog 228 [encTf y, .iptr (.agg [.fn 179 [] []]) 0] (· = .bool !b) := by
  refine PF.of (TF.ev fn_228 (Ev.at ?_))
  (repeat' (first | (refine Ev.go ?_; conv => whnf) | refine And.intro ?_ ?_ | exact True.intro | exact rfl | (intro rx hrx; rw [ij _ (by omega)] at hrx) | (intro hcx; exfalso; omega) | intro _))
  all_goals (first | (refine ⟨?_⟩; exact vc) | exact cl | skip)
  refine TSq.pureBC h (by simp [cloL, clo, encTf, encCr, encIs, encI, encTfs_clo, encCrs_clo, encIss_clo, ints_clo]) rfl (And.intro rfl rfl) ?_ ?_ <;> intro hb
  all_goals
    subst hb
    (repeat' (first | (refine Ev.go ?_; conv => whnf) | refine And.intro ?_ ?_ | exact True.intro | exact rfl | (intro rx hrx; rw [ij _ (by omega)] at hrx) | (intro hcx; exfalso; omega) | intro _))
    try rfl
theorem ixVal (l : List (Tf)) (p : Tf → Bool) (hp : ∀ y ∈ l, PF Tryz.prog 179 [encTf y] (· = .bool (p y))) (hlen : l.length ≤ 1000000) :
    PF Tryz.prog 251 [.sl 6 (encTfs l), .fn 228 [] [.iptr (.agg [.fn 179 [] []]) 0]] fun s => ∃ i : Int, s = .int .i64 i ∧ (0 ≤ i ↔ l.any (fun y => !p y) = true) := by
  have hz := encTfs_len l
  refine PF.of (TF.ev fn_251 (Ev.at ?_))
  (repeat' (first | (intro ex hex; have hq := hg1 (by omega) hex; subst hq; clear hex) | (refine Ev.go ?_; conv => whnf) | refine And.intro ?_ ?_ | exact True.intro | exact rfl | (intro rx hrx; rw [ij _ (by omega)] at hrx) | (intro hcx; exfalso; omega) | intro _))
  refine TWq.loop (fun k : Nat => [(8, .int .i64 k)]) (fun _ => []) (fun k => k ≤ l.length ∧ (l.take k).any (fun y => !p y) = false) (fun k => l.length - k) 0 [] [] ?_ ⟨by omega, by simp⟩ ?_
  · (repeat' (first | (intro ex hex; have hq := hg1 (by omega) hex; subst hq; clear hex) | (refine Ev.go ?_; conv => whnf) | refine And.intro ?_ ?_ | exact True.intro | exact rfl | (intro rx hrx; rw [ij _ (by omega)] at hrx) | (intro hcx; exfalso; omega) | intro _))
    all_goals (first | (refine ⟨?_⟩; exact vc) | exact cl | skip)
  · rintro k ⟨hk, hno⟩
    rcases Nat.lt_or_ge k l.length with hkl | hkl
    · obtain ⟨v, hv⟩ : ∃ v, l[k]? = some v := ⟨_, List.getElem?_eq_getElem hkl⟩
      have hm := List.mem_of_getElem? hv
      have hg1 : ∀ {n : Nat} {e : SV}, n = k → (encTfs l)[n]? = some e → e = encTf v := by
        rintro n e rfl he
        obtain ⟨x, hx, rfl⟩ := encTfs_at he
        rw [hv] at hx; cases hx; rfl
      have hno1 := noVal v _ (hp v hm)
      (repeat' (first | (intro ex hex; have hq := hg1 (by omega) hex; subst hq; clear hex) | (refine Ev.go ?_; conv => whnf) | refine And.intro ?_ ?_ | exact True.intro | exact rfl | (intro rx hrx; rw [ij _ (by omega)] at hrx) | (intro hcx; exfalso; omega) | intro _))
      all_goals (first | (refine ⟨?_⟩; exact vc) | exact cl | skip)
      refine TSq.pureBC hno1 (by simp [cloL, clo, encTf, encCr, encIs, encI, encTfs_clo, encCrs_clo, encIss_clo, ints_clo]) rfl (And.intro rfl rfl) ?_ ?_ <;> intro hb
      · (repeat' (first | (intro ex hex; have hq := hg1 (by omega) hex; subst hq; clear hex) | (refine Ev.go ?_; conv => whnf) | refine And.intro ?_ ?_ | exact True.intro | exact rfl | (intro rx hrx; rw [ij _ (by omega)] at hrx) | (intro hcx; exfalso; omega) | intro _))
        all_goals (first | (refine ⟨?_⟩; exact vc) | exact cl | skip)
        exact ⟨k, rfl, ⟨fun _ => List.any_eq_true.2 ⟨v, hm, hb⟩, fun _ => by omega⟩⟩
      · (repeat' (first | (intro ex hex; have hq := hg1 (by omega) hex; subst hq; clear hex) | (refine Ev.go ?_; conv => whnf) | refine And.intro ?_ ?_ | exact True.intro | exact rfl | (intro rx hrx; rw [ij _ (by omega)] at hrx) | (intro hcx; exfalso; omega) | intro _))
        all_goals (first | (refine ⟨?_⟩; exact vc) | exact cl | skip)
        refine ⟨⟨k + 1, ⟨by omega, by rw [take_snoc hv, List.any_append, hno]; simp_all⟩, by omega, ?_⟩⟩
        (repeat' (first | (intro ex hex; have hq := hg1 (by omega) hex; subst hq; clear hex) | (refine Ev.go ?_; conv => whnf) | refine And.intro ?_ ?_ | exact True.intro | exact rfl | (intro rx hrx; rw [ij _ (by omega)] at hrx) | (intro hcx; exfalso; omega) | intro _))
        all_goals (first | (refine ⟨?_⟩; exact vc) | exact cl | skip)
    · have hke : k = l.length := by omega
      subst hke
      rw [List.take_length] at hno
      (repeat' (first | (intro ex hex; have hq := hg1 (by omega) hex; subst hq; clear hex) | (refine Ev.go ?_; conv => whnf) | refine And.intro ?_ ?_ | exact True.intro | exact rfl | (intro rx hrx; rw [ij _ (by omega)] at hrx) | (intro hcx; exfalso; omega) | intro _))
      all_goals (first | (refine ⟨?_⟩; exact vc) | exact cl | skip)
      exact ⟨-1, rfl, by rw [hno]; simp⟩
theorem coVal (l : List (Tf)) (p : Tf → Bool) (hp : ∀ y ∈ l, PF Tryz.prog 179 [encTf y] (· = .bool (p y))) (hlen : l.length ≤ 1000000) :
    PF Tryz.prog 227 [.sl 6 (encTfs l), .fn 228 [] [.iptr (.agg [.fn 179 [] []]) 0]] (· = .bool (l.any fun y => !p y)) := by
  refine PF.of (TF.ev fn_227 (Ev.at ?_))
  (repeat' (first | (refine Ev.go ?_; conv => whnf) | refine And.intro ?_ ?_ | exact True.intro | exact rfl | (intro rx hrx; rw [ij _ (by omega)] at hrx) | (intro hcx; exfalso; omega) | intro _))
  refine TSq.pureQ rfl (ixVal l p hp hlen) (by simp [cloL, clo, encTf, encCr, encIs, encI, encTfs_clo, encCrs_clo, encIss_clo, ints_clo]) rfl (And.intro rfl rfl) ?_
  rintro s ⟨i, rfl, hi⟩ _
  (repeat' (first | (refine Ev.go ?_; conv => whnf) | refine And.intro ?_ ?_ | exact True.intro | exact rfl | (intro rx hrx; rw [ij _ (by omega)] at hrx) | (intro hcx; exfalso; omega) | intro _))
  all_goals (rw [SV.bool_iff]; rw [← hi]; simp; omega)
theorem alVal (l : List (Tf)) (p : Tf → Bool) (hp : ∀ y ∈ l, PF Tryz.prog 179 [encTf y] (· = .bool (p y))) (hlen : l.length ≤ 1000000) :
    PF Tryz.prog 177 [.sl 6 (encTfs l), .fn 179 [] []] (· = .bool (l.all p)) := by
  refine PF.of (TF.ev fn_177 (Ev.at ?_))
  (repeat' (first | (refine Ev.go ?_; conv => whnf) | refine And.intro ?_ ?_ | exact True.intro | exact rfl | (intro rx hrx; rw [ij _ (by omega)] at hrx) | (intro hcx; exfalso; omega) | intro _))
  refine TSq.lendBC (coVal l p hp hlen) rfl (And.intro rfl ?_) ?_ ?_
  · (repeat' (first | (refine Ev.go ?_; conv => whnf) | refine And.intro ?_ ?_ | exact True.intro | exact rfl | (intro rx hrx; rw [ij _ (by omega)] at hrx) | (intro hcx; exfalso; omega) | intro _))
    all_goals (first | (refine ⟨?_⟩; exact vc) | exact cl | skip)
  all_goals
    intro hb
    (repeat' (first | (refine Ev.go ?_; conv => whnf) | refine And.intro ?_ ?_ | exact True.intro | exact rfl | (intro rx hrx; rw [ij _ (by omega)] at hrx) | (intro hcx; exfalso; omega) | intro _))
    all_goals (first | (refine ⟨?_⟩; exact vc) | exact cl | skip)
    all_goals (rw [SV.bool_iff]; simp_all [List.all_eq_not_any_not])
theorem noCrop (t : Tf) (y : List (List Int)) (b : Bool) (h : PF Tryz.prog 229 [encTf t, encCr y] (· = .bool b)) : PF Tryz.prog 258 [encCr y, .iptr (.agg [.fn 229 [encTf t] []]) 0] (· = .bool !b) := by
  refine PF.of (TF.ev fn_258 (Ev.at ?_))
  (repeat' (first | (refine Ev.go ?_; conv => whnf) | refine And.intro ?_ ?_ | exact True.intro | exact rfl | (intro rx hrx; rw [ij _ (by omega)] at hrx) | (intro hcx; exfalso; omega) | intro _))
  all_goals (first | (refine ⟨?_⟩; exact vc) | exact cl | skip)
  refine TSq.pureBC h (by simp [cloL, clo, encTf, encCr, encIs, encI, encTfs_clo, encCrs_clo, encIss_clo, ints_clo]) rfl (And.intro rfl rfl) ?_ ?_ <;> intro hb
  all_goals
    subst hb
    (repeat' (first | (refine Ev.go ?_; conv => whnf) | refine And.intro ?_ ?_ | exact True.intro | exact rfl | (intro rx hrx; rw [ij _ (by omega)] at hrx) | (intro hcx; exfalso; omega) | intro _))
    try rfl
theorem ixCrop (t : Tf) (l : List (List (List Int))) (p : List (List Int) → Bool) (hp : ∀ y ∈ l, PF Tryz.prog 229 [encTf t, encCr y] (· = .bool (p y))) (hlen : l.length ≤ 1000000) :
    PF Tryz.prog 265 [.sl 1 (encCrs l), .fn 258 [] [.iptr (.agg [.fn 229 [encTf t] []]) 0]] fun s => ∃ i : Int, s = .int .i64 i ∧ (0 ≤ i ↔ l.any (fun y => !p y) = true) := by
  have hz := encCrs_len l
  refine PF.of (TF.ev fn_265 (Ev.at ?_))
  (repeat' (first | (intro ex hex; have hq := hg1 (by omega) hex; subst hq; clear hex) | (refine Ev.go ?_; conv => whnf) | refine And.intro ?_ ?_ | exact True.intro | exact rfl | (intro rx hrx; rw [ij _ (by omega)] at hrx) | (intro hcx; exfalso; omega) | intro _))
  refine TWq.loop (fun k : Nat => [(8, .int .i64 k)]) (fun _ => []) (fun k => k ≤ l.length ∧ (l.take k).any (fun y => !p y) = false) (fun k => l.length - k) 0 [] [] ?_ ⟨by omega, by simp⟩ ?_
  · (repeat' (first | (intro ex hex; have hq := hg1 (by omega) hex; subst hq; clear hex) | (refine Ev.go ?_; conv => whnf) | refine And.intro ?_ ?_ | exact True.intro | exact rfl | (intro rx hrx; rw [ij _ (by omega)] at hrx) | (intro hcx; exfalso; omega) | intro _))
    all_goals (first | (refine ⟨?_⟩; exact vc) | exact cl | skip)
  · rintro k ⟨hk, hno⟩
    rcases Nat.lt_or_ge k l.length with hkl | hkl
    · obtain ⟨v, hv⟩ : ∃ v, l[k]? = some v := ⟨_, List.getElem?_eq_getElem hkl⟩
      have hm := List.mem_of_getElem? hv
      have hg1 : ∀ {n : Nat} {e : SV}, n = k → (encCrs l)[n]? = some e → e = encCr v := by
        rintro n e rfl he
        obtain ⟨x, hx, rfl⟩ := encCrs_at he
        rw [hv] at hx; cases hx; rfl
      have hno1 := noCrop t v _ (hp v hm)
      (repeat' (first | (intro ex hex; have hq := hg1 (by omega) hex; subst hq; clear hex) | (refine Ev.go ?_; conv => whnf) | refine And.intro ?_ ?_ | exact True.intro | exact rfl | (intro rx hrx; rw [ij _ (by omega)] at hrx) | (intro hcx; exfalso; omega) | intro _))
      all_goals (first | (refine ⟨?_⟩; exact vc) | exact cl | skip)
      refine TSq.pureBC hno1 (by simp [cloL, clo, encTf, encCr, encIs, encI, encTfs_clo, encCrs_clo, encIss_clo, ints_clo]) rfl (And.intro rfl rfl) ?_ ?_ <;> intro hb
      · (repeat' (first | (intro ex hex; have hq := hg1 (by omega) hex; subst hq; clear hex) | (refine Ev.go ?_; conv => whnf) | refine And.intro ?_ ?_ | exact True.intro | exact rfl | (intro rx hrx; rw [ij _ (by omega)] at hrx) | (intro hcx; exfalso; omega) | intro _))
        all_goals (first | (refine ⟨?_⟩; exact vc) | exact cl | skip)
        exact ⟨k, rfl, ⟨fun _ => List.any_eq_true.2 ⟨v, hm, hb⟩, fun _ => by omega⟩⟩
      · (repeat' (first | (intro ex hex; have hq := hg1 (by omega) hex; subst hq; clear hex) | (refine Ev.go ?_; conv => whnf) | refine And.intro ?_ ?_ | exact True.intro | exact rfl | (intro rx hrx; rw [ij _ (by omega)] at hrx) | (intro hcx; exfalso; omega) | intro _))
        all_goals (first | (refine ⟨?_⟩; exact vc) | exact cl | skip)
        refine ⟨⟨k + 1, ⟨by omega, by rw [take_snoc hv, List.any_append, hno]; simp_all⟩, by omega, ?_⟩⟩
        (repeat' (first | (intro ex hex; have hq := hg1 (by omega) hex; subst hq; clear hex) | (refine Ev.go ?_; conv => whnf) | refine And.intro ?_ ?_ | exact True.intro | exact rfl | (intro rx hrx; rw [ij _ (by omega)] at hrx) | (intro hcx; exfalso; omega) | intro _))
        all_goals (first | (refine ⟨?_⟩; exact vc) | exact cl | skip)
    · have hke : k = l.length := by omega
      subst hke
      rw [List.take_length] at hno
      (repeat' (first | (intro ex hex; have hq := hg1 (by omega) hex; subst hq; clear hex) | (refine Ev.go ?_; conv => whnf) | refine And.intro ?_ ?_ | exact True.intro | exact rfl | (intro rx hrx; rw [ij _ (by omega)] at hrx) | (intro hcx; exfalso; omega) | intro _))
      all_goals (first | (refine ⟨?_⟩; exact vc) | exact cl | skip)
      exact ⟨-1, rfl, by rw [hno]; simp⟩
theorem coCrop (t : Tf) (l : List (List (List Int))) (p : List (List Int) → Bool) (hp : ∀ y ∈ l, PF Tryz.prog 229 [encTf t, encCr y] (· = .bool (p y))) (hlen : l.length ≤ 1000000) :
    PF Tryz.prog 257 [.sl 1 (encCrs l), .fn 258 [] [.iptr (.agg [.fn 229 [encTf t] []]) 0]] (· = .bool (l.any fun y => !p y)) := by
  refine PF.of (TF.ev fn_257 (Ev.at ?_))
  (repeat' (first | (refine Ev.go ?_; conv => whnf) | refine And.intro ?_ ?_ | exact True.intro | exact rfl | (intro rx hrx; rw [ij _ (by omega)] at hrx) | (intro hcx; exfalso; omega) | intro _))
  refine TSq.pureQ rfl (ixCrop t l p hp hlen) (by simp [cloL, clo, encTf, encCr, encIs, encI, encTfs_clo, encCrs_clo, encIss_clo, ints_clo]) rfl (And.intro rfl rfl) ?_
  rintro s ⟨i, rfl, hi⟩ _
  (repeat' (first | (refine Ev.go ?_; conv => whnf) | refine And.intro ?_ ?_ | exact True.intro | exact rfl | (intro rx hrx; rw [ij _ (by omega)] at hrx) | (intro hcx; exfalso; omega) | intro _))
  all_goals (rw [SV.bool_iff]; rw [← hi]; simp; omega)
theorem alCrop (t : Tf) (l : List (List (List Int))) (p : List (List Int) → Bool) (hp : ∀ y ∈ l, PF Tryz.prog 229 [encTf t, encCr y] (· = .bool (p y))) (hlen : l.length ≤ 1000000) :
    PF Tryz.prog 231 [.sl 1 (encCrs l), .fn 229 [encTf t] []] (· = .bool (l.all p)) := by
  refine PF.of (TF.ev fn_231 (Ev.at ?_))
  (repeat' (first | (refine Ev.go ?_; conv => whnf) | refine And.intro ?_ ?_ | exact True.intro | exact rfl | (intro rx hrx; rw [ij _ (by omega)] at hrx) | (intro hcx; exfalso; omega) | intro _))
  refine TSq.lendBC (coCrop t l p hp hlen) rfl (And.intro rfl ?_) ?_ ?_
  · (repeat' (first | (refine Ev.go ?_; conv => whnf) | refine And.intro ?_ ?_ | exact True.intro | exact rfl | (intro rx hrx; rw [ij _ (by omega)] at hrx) | (intro hcx; exfalso; omega) | intro _))
    all_goals (first | (refine ⟨?_⟩; exact vc) | exact cl | skip)
  all_goals
    intro hb
    (repeat' (first | (refine Ev.go ?_; conv => whnf) | refine And.intro ?_ ?_ | exact True.intro | exact rfl | (intro rx hrx; rw [ij _ (by omega)] at hrx) | (intro hcx; exfalso; omega) | intro _))
    all_goals (first | (refine ⟨?_⟩; exact vc) | exact cl | skip)
    all_goals (rw [SV.bool_iff]; simp_all [List.all_eq_not_any_not])
theorem noWeek (t : Tf) (y : List Int) (b : Bool) (h : PF Tryz.prog 253 [encIs y, .iptr (encTf t) 0] (· = .bool b)) : PF Tryz.prog 263 [encIs y, .iptr (.agg [.fn 253 [] [.iptr (encTf t) 0]]) 0] (· = .bool !b) := by
  refine PF.of (TF.ev fn_263 (Ev.at ?_))
  (repeat' (first | (refine Ev.go ?_; conv => whnf) | refine And.intro ?_ ?_ | exact True.intro | exact rfl | (intro rx hrx; rw [ij _ (by omega)] at hrx) | (intro hcx; exfalso; omega) | intro _))
  all_goals (first | (refine ⟨?_⟩; exact vc) | exact cl | skip)
  refine TSq.pureBC h (by simp [cloL, clo, encTf, encCr, encIs, encI, encTfs_clo, encCrs_clo, encIss_clo, ints_clo]) rfl (And.intro rfl rfl) ?_ ?_ <;> intro hb
  all_goals
    subst hb
    (repeat' (first | (refine Ev.go ?_; conv => whnf) | refine And.intro ?_ ?_ | exact True.intro | exact rfl | (intro rx hrx; rw [ij _ (by omega)] at hrx) | (intro hcx; exfalso; omega) | intro _))
    try rfl
theorem ixWeek (t : Tf) (l : List (List Int)) (p : List Int → Bool) (hp : ∀ y ∈ l, PF Tryz.prog 253 [encIs y, .iptr (encTf t) 0] (· = .bool (p y))) (hlen : l.length ≤ 1000000) :
    PF Tryz.prog 266 [.sl 1 (encIss l), .fn 263 [] [.iptr (.agg [.fn 253 [] [.iptr (encTf t) 0]]) 0]] fun s => ∃ i : Int, s = .int .i64 i ∧ (0 ≤ i ↔ l.any (fun y => !p y) = true) := by
  have hz := encIss_len l
  refine PF.of (TF.ev fn_266 (Ev.at ?_))
  (repeat' (first | (intro ex hex; have hq := hg1 (by omega) hex; subst hq; clear hex) | (refine Ev.go ?_; conv => whnf) | refine And.intro ?_ ?_ | exact True.intro | exact rfl | (intro rx hrx; rw [ij _ (by omega)] at hrx) | (intro hcx; exfalso; omega) | intro _))
  refine TWq.loop (fun k : Nat => [(8, .int .i64 k)]) (fun _ => []) (fun k => k ≤ l.length ∧ (l.take k).any (fun y => !p y) = false) (fun k => l.length - k) 0 [] [] ?_ ⟨by omega, by simp⟩ ?_
  · (repeat' (first | (intro ex hex; have hq := hg1 (by omega) hex; subst hq; clear hex) | (refine Ev.go ?_; conv => whnf) | refine And.intro ?_ ?_ | exact True.intro | exact rfl | (intro rx hrx; rw [ij _ (by omega)] at hrx) | (intro hcx; exfalso; omega) | intro _))
    all_goals (first | (refine ⟨?_⟩; exact vc) | exact cl | skip)
  · rintro k ⟨hk, hno⟩
    rcases Nat.lt_or_ge k l.length with hkl | hkl
    · obtain ⟨v, hv⟩ : ∃ v, l[k]? = some v := ⟨_, List.getElem?_eq_getElem hkl⟩
      have hm := List.mem_of_getElem? hv
      have hg1 : ∀ {n : Nat} {e : SV}, n = k → (encIss l)[n]? = some e → e = encIs v := by
        rintro n e rfl he
        obtain ⟨x, hx, rfl⟩ := encIss_at he
        rw [hv] at hx; cases hx; rfl
      have hno1 := noWeek t v _ (hp v hm)
      (repeat' (first | (intro ex hex; have hq := hg1 (by omega) hex; subst hq; clear hex) | (refine Ev.go ?_; conv => whnf) | refine And.intro ?_ ?_ | exact True.intro | exact rfl | (intro rx hrx; rw [ij _ (by omega)] at hrx) | (intro hcx; exfalso; omega) | intro _))
      all_goals (first | (refine ⟨?_⟩; exact vc) | exact cl | skip)
      refine TSq.pureBC hno1 (by simp [cloL, clo, encTf, encCr, encIs, encI, encTfs_clo, encCrs_clo, encIss_clo, ints_clo]) rfl (And.intro rfl rfl) ?_ ?_ <;> intro hb
      · (repeat' (first | (intro ex hex; have hq := hg1 (by omega) hex; subst hq; clear hex) | (refine Ev.go ?_; conv => whnf) | refine And.intro ?_ ?_ | exact True.intro | exact rfl | (intro rx hrx; rw [ij _ (by omega)] at hrx) | (intro hcx; exfalso; omega) | intro _))
        all_goals (first | (refine ⟨?_⟩; exact vc) | exact cl | skip)
        exact ⟨k, rfl, ⟨fun _ => List.any_eq_true.2 ⟨v, hm, hb⟩, fun _ => by omega⟩⟩
      · (repeat' (first | (intro ex hex; have hq := hg1 (by omega) hex; subst hq; clear hex) | (refine Ev.go ?_; conv => whnf) | refine And.intro ?_ ?_ | exact True.intro | exact rfl | (intro rx hrx; rw [ij _ (by omega)] at hrx) | (intro hcx; exfalso; omega) | intro _))
        all_goals (first | (refine ⟨?_⟩; exact vc) | exact cl | skip)
        refine ⟨⟨k + 1, ⟨by omega, by rw [take_snoc hv, List.any_append, hno]; simp_all⟩, by omega, ?_⟩⟩
        (repeat' (first | (intro ex hex; have hq := hg1 (by omega) hex; subst hq; clear hex) | (refine Ev.go ?_; conv => whnf) | refine And.intro ?_ ?_ | exact True.intro | exact rfl | (intro rx hrx; rw [ij _ (by omega)] at hrx) | (intro hcx; exfalso; omega) | intro _))
        all_goals (first | (refine ⟨?_⟩; exact vc) | exact cl | skip)
    · have hke : k = l.length := by omega
      subst hke
      rw [List.take_length] at hno
      (repeat' (first | (intro ex hex; have hq := hg1 (by omega) hex; subst hq; clear hex) | (refine Ev.go ?_; conv => whnf) | refine And.intro ?_ ?_ | exact True.intro | exact rfl | (intro rx hrx; rw [ij _ (by omega)] at hrx) | (intro hcx; exfalso; omega) | intro _))
      all_goals (first | (refine ⟨?_⟩; exact vc) | exact cl | skip)
      exact ⟨-1, rfl, by rw [hno]; simp⟩
theorem coWeek (t : Tf) (l : List (List Int)) (p : List Int → Bool) (hp : ∀ y ∈ l, PF Tryz.prog 253 [encIs y, .iptr (encTf t) 0] (· = .bool (p y))) (hlen : l.length ≤ 1000000) :
    PF Tryz.prog 262 [.sl 1 (encIss l), .fn 263 [] [.iptr (.agg [.fn 253 [] [.iptr (encTf t) 0]]) 0]] (· = .bool (l.any fun y => !p y)) := by
  refine PF.of (TF.ev fn_262 (Ev.at ?_))
  (repeat' (first | (refine Ev.go ?_; conv => whnf) | refine And.intro ?_ ?_ | exact True.intro | exact rfl | (intro rx hrx; rw [ij _ (by omega)] at hrx) | (intro hcx; exfalso; omega) | intro _))
  refine TSq.pureQ rfl (ixWeek t l p hp hlen) (by simp [cloL, clo, encTf, encCr, encIs, encI, encTfs_clo, encCrs_clo, encIss_clo, ints_clo]) rfl (And.intro rfl rfl) ?_
  rintro s ⟨i, rfl, hi⟩ _
  (repeat' (first | (refine Ev.go ?_; conv => whnf) | refine And.intro ?_ ?_ | exact True.intro | exact rfl | (intro rx hrx; rw [ij _ (by omega)] at hrx) | (intro hcx; exfalso; omega) | intro _))
  all_goals (rw [SV.bool_iff]; rw [← hi]; simp; omega)
theorem alWeek (t : Tf) (l : List (List Int)) (p : List Int → Bool) (hp : ∀ y ∈ l, PF Tryz.prog 253 [encIs y, .iptr (encTf t) 0] (· = .bool (p y))) (hlen : l.length ≤ 1000000) :
    PF Tryz.prog 252 [.sl 1 (encIss l), .fn 253 [] [.iptr (encTf t) 0]] (· = .bool (l.all p)) := by
  refine PF.of (TF.ev fn_252 (Ev.at ?_))
  (repeat' (first | (refine Ev.go ?_; conv => whnf) | refine And.intro ?_ ?_ | exact True.intro | exact rfl | (intro rx hrx; rw [ij _ (by omega)] at hrx) | (intro hcx; exfalso; omega) | intro _))
  refine TSq.lendBC (coWeek t l p hp hlen) rfl (And.intro rfl ?_) ?_ ?_
  · (repeat' (first | (refine Ev.go ?_; conv => whnf) | refine And.intro ?_ ?_ | exact True.intro | exact rfl | (intro rx hrx; rw [ij _ (by omega)] at hrx) | (intro hcx; exfalso; omega) | intro _))
    all_goals (first | (refine ⟨?_⟩; exact vc) | exact cl | skip)
  all_goals
    intro hb
    (repeat' (first | (refine Ev.go ?_; conv => whnf) | refine And.intro ?_ ?_ | exact True.intro | exact rfl | (intro rx hrx; rw [ij _ (by omega)] at hrx) | (intro hcx; exfalso; omega) | intro _))
    all_goals (first | (refine ⟨?_⟩; exact vc) | exact cl | skip)
    all_goals (rw [SV.bool_iff]; simp_all [List.all_eq_not_any_not])
theorem noRate (y : Int) (b : Bool) (h : PF Tryz.prog 255 [encI y] (· = .bool b)) : PF Tryz.prog 264 [encI y, .iptr (.agg [.fn 255 [] []]) 0] (· = .bool !b) := by
  refine PF.of (TF.ev fn_264 (Ev.at ?_))
  (repeat' (first | (refine Ev.go ?_; conv => whnf) | refine And.intro ?_ ?_ | exact True.intro | exact rfl | (intro rx hrx; rw [ij _ (by omega)] at hrx) | (intro hcx; exfalso; omega) | intro _))
  all_goals (first | (refine ⟨?_⟩; exact vc) | exact cl | skip)
  refine TSq.pureBC h (by simp [cloL, clo, encTf, encCr, encIs, encI, encTfs_clo, encCrs_clo, encIss_clo, ints_clo]) rfl (And.intro rfl rfl) ?_ ?_ <;> intro hb
  all_goals
    subst hb
    (repeat' (first | (refine Ev.go ?_; conv => whnf) | refine And.intro ?_ ?_ | exact True.intro | exact rfl | (intro rx hrx; rw [ij _ (by omega)] at hrx) | (intro hcx; exfalso; omega) | intro _))
    try rfl
theorem ixRate (l : List (Int)) (p : Int → Bool) (hp : ∀ y ∈ l, PF Tryz.prog 255 [encI y] (· = .bool (p y))) (hlen : l.length ≤ 1000000) :
    PF Tryz.prog 260 [.sl 1 (ints l), .fn 264 [] [.iptr (.agg [.fn 255 [] []]) 0]] fun s => ∃ i : Int, s = .int .i64 i ∧ (0 ≤ i ↔ l.any (fun y => !p y) = true) := by
  have hz := ints_len l
  refine PF.of (TF.ev fn_260 (Ev.at ?_))
  (repeat' (first | (intro ex hex; have hq := hg1 (by omega) hex; subst hq; clear hex) | (refine Ev.go ?_; conv => whnf) | refine And.intro ?_ ?_ | exact True.intro | exact rfl | (intro rx hrx; rw [ij _ (by omega)] at hrx) | (intro hcx; exfalso; omega) | intro _))
  refine TWq.loop (fun k : Nat => [(8, .int .i64 k)]) (fun _ => []) (fun k => k ≤ l.length ∧ (l.take k).any (fun y => !p y) = false) (fun k => l.length - k) 0 [] [] ?_ ⟨by omega, by simp⟩ ?_
  · (repeat' (first | (intro ex hex; have hq := hg1 (by omega) hex; subst hq; clear hex) | (refine Ev.go ?_; conv => whnf) | refine And.intro ?_ ?_ | exact True.intro | exact rfl | (intro rx hrx; rw [ij _ (by omega)] at hrx) | (intro hcx; exfalso; omega) | intro _))
    all_goals (first | (refine ⟨?_⟩; exact vc) | exact cl | skip)
  · rintro k ⟨hk, hno⟩
    rcases Nat.lt_or_ge k l.length with hkl | hkl
    · obtain ⟨v, hv⟩ : ∃ v, l[k]? = some v := ⟨_, List.getElem?_eq_getElem hkl⟩
      have hm := List.mem_of_getElem? hv
      have hg1 : ∀ {n : Nat} {e : SV}, n = k → (ints l)[n]? = some e → e = encI v := by
        rintro n e rfl he
        obtain ⟨x, hx, rfl⟩ := encI_at he
        rw [hv] at hx; cases hx; rfl
      have hno1 := noRate v _ (hp v hm)
      (repeat' (first | (intro ex hex; have hq := hg1 (by omega) hex; subst hq; clear hex) | (refine Ev.go ?_; conv => whnf) | refine And.intro ?_ ?_ | exact True.intro | exact rfl | (intro rx hrx; rw [ij _ (by omega)] at hrx) | (intro hcx; exfalso; omega) | intro _))
      all_goals (first | (refine ⟨?_⟩; exact vc) | exact cl | skip)
      refine TSq.pureBC hno1 (by simp [cloL, clo, encTf, encCr, encIs, encI, encTfs_clo, encCrs_clo, encIss_clo, ints_clo]) rfl (And.intro rfl rfl) ?_ ?_ <;> intro hb
      · (repeat' (first | (intro ex hex; have hq := hg1 (by omega) hex; subst hq; clear hex) | (refine Ev.go ?_; conv => whnf) | refine And.intro ?_ ?_ | exact True.intro | exact rfl | (intro rx hrx; rw [ij _ (by omega)] at hrx) | (intro hcx; exfalso; omega) | intro _))
        all_goals (first | (refine ⟨?_⟩; exact vc) | exact cl | skip)
        exact ⟨k, rfl, ⟨fun _ => List.any_eq_true.2 ⟨v, hm, hb⟩, fun _ => by omega⟩⟩
      · (repeat' (first | (intro ex hex; have hq := hg1 (by omega) hex; subst hq; clear hex) | (refine Ev.go ?_; conv => whnf) | refine And.intro ?_ ?_ | exact True.intro | exact rfl | (intro rx hrx; rw [ij _ (by omega)] at hrx) | (intro hcx; exfalso; omega) | intro _))
        all_goals (first | (refine ⟨?_⟩; exact vc) | exact cl | skip)
        refine ⟨⟨k + 1, ⟨by omega, by rw [take_snoc hv, List.any_append, hno]; simp_all⟩, by omega, ?_⟩⟩
        (repeat' (first | (intro ex hex; have hq := hg1 (by omega) hex; subst hq; clear hex) | (refine Ev.go ?_; conv => whnf) | refine And.intro ?_ ?_ | exact True.intro | exact rfl | (intro rx hrx; rw [ij _ (by omega)] at hrx) | (intro hcx; exfalso; omega) | intro _))
        all_goals (first | (refine ⟨?_⟩; exact vc) | exact cl | skip)
    · have hke : k = l.length := by omega
      subst hke
      rw [List.take_length] at hno
      (repeat' (first | (intro ex hex; have hq := hg1 (by omega) hex; subst hq; clear hex) | (refine Ev.go ?_; conv => whnf) | refine And.intro ?_ ?_ | exact True.intro | exact rfl | (intro rx hrx; rw [ij _ (by omega)] at hrx) | (intro hcx; exfalso; omega) | intro _))
      all_goals (first | (refine ⟨?_⟩; exact vc) | exact cl | skip)
      exact ⟨-1, rfl, by rw [hno]; simp⟩
theorem coRate (l : List (Int)) (p : Int → Bool) (hp : ∀ y ∈ l, PF Tryz.prog 255 [encI y] (· = .bool (p y))) (hlen : l.length ≤ 1000000) :
    PF Tryz.prog 237 [.sl 1 (ints l), .fn 264 [] [.iptr (.agg [.fn 255 [] []]) 0]] (· = .bool (l.any fun y => !p y)) := by
  refine PF.of (TF.ev fn_237 (Ev.at ?_))
  (repeat' (first | (refine Ev.go ?_; conv => whnf) | refine And.intro ?_ ?_ | exact True.intro | exact rfl | (intro rx hrx; rw [ij _ (by omega)] at hrx) | (intro hcx; exfalso; omega) | intro _))
  refine TSq.pureQ rfl (ixRate l p hp hlen) (by simp [cloL, clo, encTf, encCr, encIs, encI, encTfs_clo, encCrs_clo, encIss_clo, ints_clo]) rfl (And.intro rfl rfl) ?_
  rintro s ⟨i, rfl, hi⟩ _
  (repeat' (first | (refine Ev.go ?_; conv => whnf) | refine And.intro ?_ ?_ | exact True.intro | exact rfl | (intro rx hrx; rw [ij _ (by omega)] at hrx) | (intro hcx; exfalso; omega) | intro _))
  all_goals (rw [SV.bool_iff]; rw [← hi]; simp; omega)
theorem alRate (l : List (Int)) (p : Int → Bool) (hp : ∀ y ∈ l, PF Tryz.prog 255 [encI y] (· = .bool (p y))) (hlen : l.length ≤ 1000000) :
    PF Tryz.prog 254 [.sl 1 (ints l), .fn 255 [] []] (· = .bool (l.all p)) := by
  refine PF.of (TF.ev fn_254 (Ev.at ?_))
  (repeat' (first | (refine Ev.go ?_; conv => whnf) | refine And.intro ?_ ?_ | exact True.intro | exact rfl | (intro rx hrx; rw [ij _ (by omega)] at hrx) | (intro hcx; exfalso; omega) | intro _))
  refine TSq.lendBC (coRate l p hp hlen) rfl (And.intro rfl ?_) ?_ ?_
  · (repeat' (first | (refine Ev.go ?_; conv => whnf) | refine And.intro ?_ ?_ | exact True.intro | exact rfl | (intro rx hrx; rw [ij _ (by omega)] at hrx) | (intro hcx; exfalso; omega) | intro _))
    all_goals (first | (refine ⟨?_⟩; exact vc) | exact cl | skip)
  all_goals
    intro hb
    (repeat' (first | (refine Ev.go ?_; conv => whnf) | refine And.intro ?_ ?_ | exact True.intro | exact rfl | (intro rx hrx; rw [ij _ (by omega)] at hrx) | (intro hcx; exfalso; omega) | intro _))
    all_goals (first | (refine ⟨?_⟩; exact vc) | exact cl | skip)
    all_goals (rw [SV.bool_iff]; simp_all [List.all_eq_not_any_not])
end Go.Proofs.YtjadiajfbflghaaGreat
set_option linter.unusedSimpArgs false
set_option linter.unusedVariables false
open Go Go.TV
namespace Go.Proofs.YtjadiajfbflghaaGreat
theorem c185 (l : List Int) (h : l ≠ []) (hlen : l.length ≤ 1000000) : PF Tryz.prog 185 [.sl 1 (ints l)] (· = .int .i64 (minL l)) := by
  have h0 : 1 ≤ l.length := by cases l with | nil => exact absurd rfl h | cons => simp
  have hz := ints_len l
  refine PF.of (TF.ev fn_185 (Ev.at ?_))
  (repeat' (first | (refine Ev.go ?_; conv => whnf) | refine And.intro ?_ ?_ | exact True.intro | exact rfl | (intro rx hrx; rw [ij _ (by omega)] at hrx) | (intro hcx; exfalso; omega) | (intro hcx; exfalso; simp only [lz] at hcx; omega) | (intro ex hex; (first | obtain ⟨xx, hxx, rfl⟩ := ints_at hex | obtain ⟨xx, hxx, rfl⟩ := encYs_at hex | obtain ⟨xx, hxx, rfl⟩ := encRs_at hex); clear hex; try simp only [Int.toNat_natCast] at hxx) | intro _))
  all_goals (first | (refine ⟨?_⟩; exact vc) | exact cl | skip)
  refine TWq.loop (fun k : Nat => [(3, .int .i64 (minL (l.take k))), (4, .int .i64 k)]) (fun _ => []) (fun k => 1 ≤ k ∧ k ≤ l.length) (fun k => l.length - k) 1 [] [] ?_ ⟨by omega, by omega⟩ ?_
  · (repeat' (first | (refine Ev.go ?_; conv => whnf) | refine And.intro ?_ ?_ | exact True.intro | exact rfl | (intro rx hrx; rw [ij _ (by omega)] at hrx) | (intro hcx; exfalso; omega) | (intro hcx; exfalso; simp only [lz] at hcx; omega) | (intro ex hex; (first | obtain ⟨xx, hxx, rfl⟩ := ints_at hex | obtain ⟨xx, hxx, rfl⟩ := encYs_at hex | obtain ⟨xx, hxx, rfl⟩ := encRs_at hex); clear hex; try simp only [Int.toNat_natCast] at hxx) | intro _))
    all_goals (first | (refine ⟨?_⟩; exact vc) | exact cl | skip)
    all_goals
      refine ⟨?_⟩
      cases l with
      | nil => exact absurd rfl h
      | cons a l => simp at hxx; simp [minL, hxx]
  · rintro k ⟨hk1, hk2⟩
    (repeat' (first | (refine Ev.go ?_; conv => whnf) | refine And.intro ?_ ?_ | exact True.intro | exact rfl | (intro rx hrx; rw [ij _ (by omega)] at hrx) | (intro hcx; exfalso; omega) | (intro hcx; exfalso; simp only [lz] at hcx; omega) | (intro ex hex; (first | obtain ⟨xx, hxx, rfl⟩ := ints_at hex | obtain ⟨xx, hxx, rfl⟩ := encYs_at hex | obtain ⟨xx, hxx, rfl⟩ := encRs_at hex); clear hex; try simp only [Int.toNat_natCast] at hxx) | intro _))
    all_goals (first | (refine ⟨?_⟩; exact vc) | exact cl | skip)
    · refine ⟨k + 1, by omega, by omega, ?_⟩
      (repeat' (first | (refine Ev.go ?_; conv => whnf) | refine And.intro ?_ ?_ | exact True.intro | exact rfl | (intro rx hrx; rw [ij _ (by omega)] at hrx) | (intro hcx; exfalso; omega) | (intro hcx; exfalso; simp only [lz] at hcx; omega) | (intro ex hex; (first | obtain ⟨xx, hxx, rfl⟩ := ints_at hex | obtain ⟨xx, hxx, rfl⟩ := encYs_at hex | obtain ⟨xx, hxx, rfl⟩ := encRs_at hex); clear hex; try simp only [Int.toNat_natCast] at hxx) | intro _))
      all_goals (first | (refine ⟨?_⟩; exact vc) | exact cl | skip)
      all_goals
        refine ⟨?_⟩
        rw [minL_take hk1 hxx]; assumption
    · have : k = l.length := by omega
      rw [this, List.take_length]
theorem c195 (l : List Int) (h : l ≠ []) (hlen : l.length ≤ 1000000) : PF Tryz.prog 195 [.sl 1 (ints l)] (· = .int .i64 (minL l)) := by
  refine PF.of (TF.ev fn_195 (Ev.at ?_))
  (repeat' (first | (refine Ev.go ?_; conv => whnf) | refine And.intro ?_ ?_ | exact True.intro | exact rfl | (intro rx hrx; rw [ij _ (by omega)] at hrx) | (intro hcx; exfalso; omega) | (intro hcx; exfalso; simp only [lz] at hcx; omega) | intro _))
  refine TSq.pureC (c185 l h hlen) cl rfl (And.intro rfl rfl) ?_
  (repeat' (first | (refine Ev.go ?_; conv => whnf) | refine And.intro ?_ ?_ | exact True.intro | exact rfl | (intro rx hrx; rw [ij _ (by omega)] at hrx) | (intro hcx; exfalso; omega) | (intro hcx; exfalso; simp only [lz] at hcx; omega) | intro _))
  try rfl
theorem c68 (n lo hi : Int) : PF Tryz.prog 68 [.int .i64 n, .int .i64 lo, .int .i64 hi] (· = .bool (within n lo hi)) := by
  refine PF.of (TF.ev fn_68 (Ev.at ?_))
  (repeat' (first | (refine Ev.go ?_; conv => whnf) | refine And.intro ?_ ?_ | exact True.intro | exact rfl | (intro rx hrx; rw [ij _ (by omega)] at hrx) | (intro hcx; exfalso; omega) | (intro hcx; exfalso; simp only [lz] at hcx; omega) | intro _))
  all_goals (rw [SV.bool_iff]; simp [within]; omega)
theorem c53 (n lo hi : Int) : PF Tryz.prog 53 [.int .i64 n, .int .i64 lo, .int .i64 hi] (· = .bool (within n lo hi)) := by
  refine PF.of (TF.ev fn_53 (Ev.at ?_))
  (repeat' (first | (refine Ev.go ?_; conv => whnf) | refine And.intro ?_ ?_ | exact True.intro | exact rfl | (intro rx hrx; rw [ij _ (by omega)] at hrx) | (intro hcx; exfalso; omega) | (intro hcx; exfalso; simp only [lz] at hcx; omega) | intro _))
  all_goals (rw [SV.bool_iff]; simp [within]; omega)
theorem c129 (r : Rng) : PF Tryz.prog 129 [encR r] (· = .bool r.pence) := by
  refine PF.of (TF.ev fn_129 (Ev.at ?_))
  (repeat' (first | (refine Ev.go ?_; conv => whnf) | refine And.intro ?_ ?_ | exact True.intro | exact rfl | (intro rx hrx; rw [ij _ (by omega)] at hrx) | (intro hcx; exfalso; omega) | (intro hcx; exfalso; simp only [lz] at hcx; omega) | intro _))
  all_goals (rw [SV.bool_iff]; simp [Rng.pence]; omega)
theorem c52 (r : Rng) : PF Tryz.prog 52 [encR r] (· = .bool r.pence) := by
  refine PF.of (TF.ev fn_52 (Ev.at ?_))
  (repeat' (first | (refine Ev.go ?_; conv => whnf) | refine And.intro ?_ ?_ | exact True.intro | exact rfl | (intro rx hrx; rw [ij _ (by omega)] at hrx) | (intro hcx; exfalso; omega) | (intro hcx; exfalso; simp only [lz] at hcx; omega) | intro _))
  all_goals (rw [SV.bool_iff]; simp [Rng.pence]; omega)
theorem c197 (m : Mem) (h1 : 0 ≤ m.sum ∧ m.sum ≤ 10000) (h2 : 0 ≤ m.cls ∧ m.cls ≤ 10000) : PF Tryz.prog 197 [encY m] (· = .int .i64 m.units) := by
  have hm : 0 ≤ m.sum * m.cls ∧ m.sum * m.cls ≤ 100000000 := ⟨Int.mul_nonneg h1.1 h2.1, by have := Int.mul_le_mul h1.2 h2.2 h2.1 (by omega); omega⟩
  refine PF.of (TF.ev fn_197 (Ev.at ?_))
  (repeat' (first | (refine Ev.go ?_; conv => whnf) | refine And.intro ?_ ?_ | exact True.intro | exact rfl | (intro rx hrx; rw [ij _ (by omega)] at hrx) | (intro hcx; exfalso; omega) | (intro hcx; exfalso; simp only [lz] at hcx; omega) | intro _))
  subst hrx
  rfl
theorem c127 (m : Mem) : PF Tryz.prog 127 [encY m] (· = .bool m.valid) := by
  refine PF.of (TF.ev fn_127 (Ev.at ?_))
  (repeat' (first | (refine Ev.go ?_; conv => whnf) | refine And.intro ?_ ?_ | exact True.intro | exact rfl | (intro rx hrx; rw [ij _ (by omega)] at hrx) | (intro hcx; exfalso; omega) | (intro hcx; exfalso; simp only [lz] at hcx; omega) | intro _))
  refine TSq.pureBC (c68 _ _ _) cl rfl (And.intro rfl rfl) ?_ ?_
  · (repeat' (first | (refine Ev.go ?_; conv => whnf) | refine And.intro ?_ ?_ | exact True.intro | exact rfl | (intro rx hrx; rw [ij _ (by omega)] at hrx) | (intro hcx; exfalso; omega) | (intro hcx; exfalso; simp only [lz] at hcx; omega) | intro _))
    refine TSq.pureBC (c68 _ _ _) cl rfl (And.intro rfl rfl) ?_ ?_
    · (repeat' (first | (refine Ev.go ?_; conv => whnf) | refine And.intro ?_ ?_ | exact True.intro | exact rfl | (intro rx hrx; rw [ij _ (by omega)] at hrx) | (intro hcx; exfalso; omega) | (intro hcx; exfalso; simp only [lz] at hcx; omega) | intro _))
      refine TSq.pureBC (c68 _ _ _) cl rfl (And.intro rfl rfl) ?_ ?_
      all_goals ((repeat' (first | (refine Ev.go ?_; conv => whnf) | refine And.intro ?_ ?_ | exact True.intro | exact rfl | (intro rx hrx; rw [ij _ (by omega)] at hrx) | (intro hcx; exfalso; omega) | (intro hcx; exfalso; simp only [lz] at hcx; omega) | intro _)); rw [SV.bool_iff]; simp_all [Mem.valid])
    · (repeat' (first | (refine Ev.go ?_; conv => whnf) | refine And.intro ?_ ?_ | exact True.intro | exact rfl | (intro rx hrx; rw [ij _ (by omega)] at hrx) | (intro hcx; exfalso; omega) | (intro hcx; exfalso; simp only [lz] at hcx; omega) | intro _))
      rw [SV.bool_iff]; simp_all [Mem.valid]
  · (repeat' (first | (refine Ev.go ?_; conv => whnf) | refine And.intro ?_ ?_ | exact True.intro | exact rfl | (intro rx hrx; rw [ij _ (by omega)] at hrx) | (intro hcx; exfalso; omega) | (intro hcx; exfalso; simp only [lz] at hcx; omega) | intro _))
    rw [SV.bool_iff]; simp_all [Mem.valid]
def notV : SV := .fn 187 [] [.iptr (.agg [.fn 127 [] []]) 0]
theorem c187 (y : Mem) : PF Tryz.prog 187 [encY y, .iptr (.agg [.fn 127 [] []]) 0] (· = .bool (!y.valid)) := by
  refine PF.of (TF.ev fn_187 (Ev.at ?_))
  (repeat' (first | (refine Ev.go ?_; conv => whnf) | refine And.intro ?_ ?_ | exact True.intro | exact rfl | (intro rx hrx; rw [ij _ (by omega)] at hrx) | (intro hcx; exfalso; omega) | (intro hcx; exfalso; simp only [lz] at hcx; omega) | intro _))
  refine TSq.pureBC (c127 y) cl rfl (And.intro rfl rfl) ?_ ?_
  all_goals ((repeat' (first | (refine Ev.go ?_; conv => whnf) | refine And.intro ?_ ?_ | exact True.intro | exact rfl | (intro rx hrx; rw [ij _ (by omega)] at hrx) | (intro hcx; exfalso; omega) | (intro hcx; exfalso; simp only [lz] at hcx; omega) | intro _)); rw [SV.bool_iff]; simp_all)
theorem c235 (l : List Mem) (hlen : l.length ≤ 1000000) : PF Tryz.prog 235 [.sl 3 (encYs l), notV] fun s => ∃ i : Int, s = .int .i64 i ∧ (0 ≤ i ↔ l.any (fun y => !y.valid) = true) := by
  have hz := encYs_len l
  refine PF.of (TF.ev fn_235 (Ev.at ?_))
  (repeat' (first | (refine Ev.go ?_; conv => whnf) | refine And.intro ?_ ?_ | exact True.intro | exact rfl | (intro rx hrx; rw [ij _ (by omega)] at hrx) | (intro hcx; exfalso; omega) | (intro hcx; exfalso; simp only [lz] at hcx; omega) | (intro ex hex; (first | obtain ⟨xx, hxx, rfl⟩ := ints_at hex | obtain ⟨xx, hxx, rfl⟩ := encYs_at hex | obtain ⟨xx, hxx, rfl⟩ := encRs_at hex); clear hex; try simp only [Int.toNat_natCast] at hxx) | intro _))
  refine TWq.loop (fun k : Nat => [(8, .int .i64 k)]) (fun _ => []) (fun k => k ≤ l.length ∧ (l.take k).any (fun y => !y.valid) = false) (fun k => l.length - k) 0 [] [] ?_ ⟨by omega, by simp⟩ ?_
  · (repeat' (first | (refine Ev.go ?_; conv => whnf) | refine And.intro ?_ ?_ | exact True.intro | exact rfl | (intro rx hrx; rw [ij _ (by omega)] at hrx) | (intro hcx; exfalso; omega) | (intro hcx; exfalso; simp only [lz] at hcx; omega) | (intro ex hex; (first | obtain ⟨xx, hxx, rfl⟩ := ints_at hex | obtain ⟨xx, hxx, rfl⟩ := encYs_at hex | obtain ⟨xx, hxx, rfl⟩ := encRs_at hex); clear hex; try simp only [Int.toNat_natCast] at hxx) | intro _))
    all_goals (first | (refine ⟨?_⟩; exact vc) | exact cl | skip)
  · rintro k ⟨hk1, hk2⟩
    (repeat' (first | (refine Ev.go ?_; conv => whnf) | refine And.intro ?_ ?_ | exact True.intro | exact rfl | (intro rx hrx; rw [ij _ (by omega)] at hrx) | (intro hcx; exfalso; omega) | (intro hcx; exfalso; simp only [lz] at hcx; omega) | (intro ex hex; (first | obtain ⟨xx, hxx, rfl⟩ := ints_at hex | obtain ⟨xx, hxx, rfl⟩ := encYs_at hex | obtain ⟨xx, hxx, rfl⟩ := encRs_at hex); clear hex; try simp only [Int.toNat_natCast] at hxx) | intro _))
    all_goals (try (refine ⟨?_⟩; first | omega | exact List.cons_ne_nil _ _ | (show (_ : Nat) * _ ≤ _; simp [catS, repl, chunks, ints_len, encYs_len] <;> omega)))
    · refine TSq.pureBC (c187 _) cl rfl (And.intro rfl rfl) ?_ ?_
      · (repeat' (first | (refine Ev.go ?_; conv => whnf) | refine And.intro ?_ ?_ | exact True.intro | exact rfl | (intro rx hrx; rw [ij _ (by omega)] at hrx) | (intro hcx; exfalso; omega) | (intro hcx; exfalso; simp only [lz] at hcx; omega) | (intro ex hex; (first | obtain ⟨xx, hxx, rfl⟩ := ints_at hex | obtain ⟨xx, hxx, rfl⟩ := encYs_at hex | obtain ⟨xx, hxx, rfl⟩ := encRs_at hex); clear hex; try simp only [Int.toNat_natCast] at hxx) | intro _))
        exact ⟨k, rfl, by have := any_of_get hxx (p := fun y => !y.valid) (by assumption); simp only [this, iff_true]; omega⟩
      · (repeat' (first | (refine Ev.go ?_; conv => whnf) | refine And.intro ?_ ?_ | exact True.intro | exact rfl | (intro rx hrx; rw [ij _ (by omega)] at hrx) | (intro hcx; exfalso; omega) | (intro hcx; exfalso; simp only [lz] at hcx; omega) | (intro ex hex; (first | obtain ⟨xx, hxx, rfl⟩ := ints_at hex | obtain ⟨xx, hxx, rfl⟩ := encYs_at hex | obtain ⟨xx, hxx, rfl⟩ := encRs_at hex); clear hex; try simp only [Int.toNat_natCast] at hxx) | intro _))
        all_goals (try (refine ⟨?_⟩; first | omega | exact List.cons_ne_nil _ _ | (show (_ : Nat) * _ ≤ _; simp [catS, repl, chunks, ints_len, encYs_len] <;> omega)))
        refine ⟨k + 1, ⟨by omega, ?_⟩, by omega, ?_⟩
        · rw [take_snoc hxx]; simp_all
        · (repeat' (first | (refine Ev.go ?_; conv => whnf) | refine And.intro ?_ ?_ | exact True.intro | exact rfl | (intro rx hrx; rw [ij _ (by omega)] at hrx) | (intro hcx; exfalso; omega) | (intro hcx; exfalso; simp only [lz] at hcx; omega) | (intro ex hex; (first | obtain ⟨xx, hxx, rfl⟩ := ints_at hex | obtain ⟨xx, hxx, rfl⟩ := encYs_at hex | obtain ⟨xx, hxx, rfl⟩ := encRs_at hex); clear hex; try simp only [Int.toNat_natCast] at hxx) | intro _))
          all_goals (first | (refine ⟨?_⟩; exact vc) | exact cl | skip)
    · have : k = l.length := by omega
      subst this
      rw [List.take_length] at hk2
      exact ⟨-1, rfl, by simp only [hk2]; simp⟩
theorem c186 (l : List Mem) (hlen : l.length ≤ 1000000) : PF Tryz.prog 186 [.sl 3 (encYs l), notV] (· = .bool (l.any fun y => !y.valid)) := by
  refine PF.of (TF.ev fn_186 (Ev.at ?_))
  (repeat' (first | (refine Ev.go ?_; conv => whnf) | refine And.intro ?_ ?_ | exact True.intro | exact rfl | (intro rx hrx; rw [ij _ (by omega)] at hrx) | (intro hcx; exfalso; omega) | (intro hcx; exfalso; simp only [lz] at hcx; omega) | intro _))
  refine TSq.pureQ rfl (c235 l hlen) (by simp [cloL, clo, notV]) rfl (And.intro rfl rfl) ?_
  rintro s ⟨i, rfl, hi⟩ _
  (repeat' (first | (refine Ev.go ?_; conv => whnf) | refine And.intro ?_ ?_ | exact True.intro | exact rfl | (intro rx hrx; rw [ij _ (by omega)] at hrx) | (intro hcx; exfalso; omega) | (intro hcx; exfalso; simp only [lz] at hcx; omega) | intro _))
  all_goals (rw [SV.bool_iff]; rw [← hi]; simp; omega)
theorem c126 (l : List Mem) (hlen : l.length ≤ 1000000) : PF Tryz.prog 126 [.sl 3 (encYs l), .fn 127 [] []] (· = .bool (l.all Mem.valid)) := by
  refine PF.of (TF.ev fn_126 (Ev.at ?_))
  (repeat' (first | (refine Ev.go ?_; conv => whnf) | refine And.intro ?_ ?_ | exact True.intro | exact rfl | (intro rx hrx; rw [ij _ (by omega)] at hrx) | (intro hcx; exfalso; omega) | (intro hcx; exfalso; simp only [lz] at hcx; omega) | intro _))
  refine TSq.lendBC (c186 l hlen) rfl (And.intro rfl ?_) ?_ ?_
  · (repeat' (first | (refine Ev.go ?_; conv => whnf) | refine And.intro ?_ ?_ | exact True.intro | exact rfl | (intro rx hrx; rw [ij _ (by omega)] at hrx) | (intro hcx; exfalso; omega) | (intro hcx; exfalso; simp only [lz] at hcx; omega) | intro _))
  all_goals ((repeat' (first | (refine Ev.go ?_; conv => whnf) | refine And.intro ?_ ?_ | exact True.intro | exact rfl | (intro rx hrx; rw [ij _ (by omega)] at hrx) | (intro hcx; exfalso; omega) | (intro hcx; exfalso; simp only [lz] at hcx; omega) | intro _)); rw [SV.bool_iff]; simp_all [List.all_eq_not_any_not])
def notR : SV := .fn 189 [] [.iptr (.agg [.fn 129 [] []]) 0]
theorem c189 (y : Rng) : PF Tryz.prog 189 [encR y, .iptr (.agg [.fn 129 [] []]) 0] (· = .bool (!y.pence)) := by
  refine PF.of (TF.ev fn_189 (Ev.at ?_))
  (repeat' (first | (refine Ev.go ?_; conv => whnf) | refine And.intro ?_ ?_ | exact True.intro | exact rfl | (intro rx hrx; rw [ij _ (by omega)] at hrx) | (intro hcx; exfalso; omega) | (intro hcx; exfalso; simp only [lz] at hcx; omega) | intro _))
  refine TSq.pureBC (c129 y) cl rfl (And.intro rfl rfl) ?_ ?_
  all_goals ((repeat' (first | (refine Ev.go ?_; conv => whnf) | refine And.intro ?_ ?_ | exact True.intro | exact rfl | (intro rx hrx; rw [ij _ (by omega)] at hrx) | (intro hcx; exfalso; omega) | (intro hcx; exfalso; simp only [lz] at hcx; omega) | intro _)); rw [SV.bool_iff]; simp_all)
theorem c236 (l : List Rng) (hlen : l.length ≤ 1000000) : PF Tryz.prog 236 [.sl 2 (encRs l), notR] fun s => ∃ i : Int, s = .int .i64 i ∧ (0 ≤ i ↔ l.any (fun y => !y.pence) = true) := by
  have hz := encRs_len l
  refine PF.of (TF.ev fn_236 (Ev.at ?_))
  (repeat' (first | (refine Ev.go ?_; conv => whnf) | refine And.intro ?_ ?_ | exact True.intro | exact rfl | (intro rx hrx; rw [ij _ (by omega)] at hrx) | (intro hcx; exfalso; omega) | (intro hcx; exfalso; simp only [lz] at hcx; omega) | (intro ex hex; (first | obtain ⟨xx, hxx, rfl⟩ := ints_at hex | obtain ⟨xx, hxx, rfl⟩ := encYs_at hex | obtain ⟨xx, hxx, rfl⟩ := encRs_at hex); clear hex; try simp only [Int.toNat_natCast] at hxx) | intro _))
  refine TWq.loop (fun k : Nat => [(8, .int .i64 k)]) (fun _ => []) (fun k => k ≤ l.length ∧ (l.take k).any (fun y => !y.pence) = false) (fun k => l.length - k) 0 [] [] ?_ ⟨by omega, by simp⟩ ?_
  · (repeat' (first | (refine Ev.go ?_; conv => whnf) | refine And.intro ?_ ?_ | exact True.intro | exact rfl | (intro rx hrx; rw [ij _ (by omega)] at hrx) | (intro hcx; exfalso; omega) | (intro hcx; exfalso; simp only [lz] at hcx; omega) | (intro ex hex; (first | obtain ⟨xx, hxx, rfl⟩ := ints_at hex | obtain ⟨xx, hxx, rfl⟩ := encYs_at hex | obtain ⟨xx, hxx, rfl⟩ := encRs_at hex); clear hex; try simp only [Int.toNat_natCast] at hxx) | intro _))
    all_goals (first | (refine ⟨?_⟩; exact vc) | exact cl | skip)
  · rintro k ⟨hk1, hk2⟩
    (repeat' (first | (refine Ev.go ?_; conv => whnf) | refine And.intro ?_ ?_ | exact True.intro | exact rfl | (intro rx hrx; rw [ij _ (by omega)] at hrx) | (intro hcx; exfalso; omega) | (intro hcx; exfalso; simp only [lz] at hcx; omega) | (intro ex hex; (first | obtain ⟨xx, hxx, rfl⟩ := ints_at hex | obtain ⟨xx, hxx, rfl⟩ := encYs_at hex | obtain ⟨xx, hxx, rfl⟩ := encRs_at hex); clear hex; try simp only [Int.toNat_natCast] at hxx) | intro _))
    all_goals (try (refine ⟨?_⟩; first | omega | exact List.cons_ne_nil _ _ | (show (_ : Nat) * _ ≤ _; simp [catS, repl, chunks, ints_len, encYs_len] <;> omega)))
    · refine TSq.pureBC (c189 _) cl rfl (And.intro rfl rfl) ?_ ?_
      · (repeat' (first | (refine Ev.go ?_; conv => whnf) | refine And.intro ?_ ?_ | exact True.intro | exact rfl | (intro rx hrx; rw [ij _ (by omega)] at hrx) | (intro hcx; exfalso; omega) | (intro hcx; exfalso; simp only [lz] at hcx; omega) | (intro ex hex; (first | obtain ⟨xx, hxx, rfl⟩ := ints_at hex | obtain ⟨xx, hxx, rfl⟩ := encYs_at hex | obtain ⟨xx, hxx, rfl⟩ := encRs_at hex); clear hex; try simp only [Int.toNat_natCast] at hxx) | intro _))
        exact ⟨k, rfl, by have := any_of_get hxx (p := fun y => !y.pence) (by assumption); simp only [this, iff_true]; omega⟩
      · (repeat' (first | (refine Ev.go ?_; conv => whnf) | refine And.intro ?_ ?_ | exact True.intro | exact rfl | (intro rx hrx; rw [ij _ (by omega)] at hrx) | (intro hcx; exfalso; omega) | (intro hcx; exfalso; simp only [lz] at hcx; omega) | (intro ex hex; (first | obtain ⟨xx, hxx, rfl⟩ := ints_at hex | obtain ⟨xx, hxx, rfl⟩ := encYs_at hex | obtain ⟨xx, hxx, rfl⟩ := encRs_at hex); clear hex; try simp only [Int.toNat_natCast] at hxx) | intro _))
        all_goals (try (refine ⟨?_⟩; first | omega | exact List.cons_ne_nil _ _ | (show (_ : Nat) * _ ≤ _; simp [catS, repl, chunks, ints_len, encYs_len] <;> omega)))
        refine ⟨k + 1, ⟨by omega, ?_⟩, by omega, ?_⟩
        · rw [take_snoc hxx]; simp_all
        · (repeat' (first | (refine Ev.go ?_; conv => whnf) | refine And.intro ?_ ?_ | exact True.intro | exact rfl | (intro rx hrx; rw [ij _ (by omega)] at hrx) | (intro hcx; exfalso; omega) | (intro hcx; exfalso; simp only [lz] at hcx; omega) | (intro ex hex; (first | obtain ⟨xx, hxx, rfl⟩ := ints_at hex | obtain ⟨xx, hxx, rfl⟩ := encYs_at hex | obtain ⟨xx, hxx, rfl⟩ := encRs_at hex); clear hex; try simp only [Int.toNat_natCast] at hxx) | intro _))
          all_goals (first | (refine ⟨?_⟩; exact vc) | exact cl | skip)
    · have : k = l.length := by omega
      subst this
      rw [List.take_length] at hk2
      exact ⟨-1, rfl, by simp only [hk2]; simp⟩
theorem c188 (l : List Rng) (hlen : l.length ≤ 1000000) : PF Tryz.prog 188 [.sl 2 (encRs l), notR] (· = .bool (l.any fun y => !y.pence)) := by
  refine PF.of (TF.ev fn_188 (Ev.at ?_))
  (repeat' (first | (refine Ev.go ?_; conv => whnf) | refine And.intro ?_ ?_ | exact True.intro | exact rfl | (intro rx hrx; rw [ij _ (by omega)] at hrx) | (intro hcx; exfalso; omega) | (intro hcx; exfalso; simp only [lz] at hcx; omega) | intro _))
  refine TSq.pureQ rfl (c236 l hlen) (by simp [cloL, clo, notR]) rfl (And.intro rfl rfl) ?_
  rintro s ⟨i, rfl, hi⟩ _
  (repeat' (first | (refine Ev.go ?_; conv => whnf) | refine And.intro ?_ ?_ | exact True.intro | exact rfl | (intro rx hrx; rw [ij _ (by omega)] at hrx) | (intro hcx; exfalso; omega) | (intro hcx; exfalso; simp only [lz] at hcx; omega) | intro _))
  all_goals (rw [SV.bool_iff]; rw [← hi]; simp; omega)
theorem c128 (l : List Rng) (hlen : l.length ≤ 1000000) : PF Tryz.prog 128 [.sl 2 (encRs l), .fn 129 [] []] (· = .bool (l.all Rng.pence)) := by
  refine PF.of (TF.ev fn_128 (Ev.at ?_))
  (repeat' (first | (refine Ev.go ?_; conv => whnf) | refine And.intro ?_ ?_ | exact True.intro | exact rfl | (intro rx hrx; rw [ij _ (by omega)] at hrx) | (intro hcx; exfalso; omega) | (intro hcx; exfalso; simp only [lz] at hcx; omega) | intro _))
  refine TSq.lendBC (c188 l hlen) rfl (And.intro rfl ?_) ?_ ?_
  · (repeat' (first | (refine Ev.go ?_; conv => whnf) | refine And.intro ?_ ?_ | exact True.intro | exact rfl | (intro rx hrx; rw [ij _ (by omega)] at hrx) | (intro hcx; exfalso; omega) | (intro hcx; exfalso; simp only [lz] at hcx; omega) | intro _))
  all_goals ((repeat' (first | (refine Ev.go ?_; conv => whnf) | refine And.intro ?_ ?_ | exact True.intro | exact rfl | (intro rx hrx; rw [ij _ (by omega)] at hrx) | (intro hcx; exfalso; omega) | (intro hcx; exfalso; simp only [lz] at hcx; omega) | intro _)); rw [SV.bool_iff]; simp_all [List.all_eq_not_any_not])
set_option maxRecDepth 100000 in
theorem c63 (s : Soc) (h1 : s.members.length ≤ 1000000) (h2 : s.losses.length ≤ 1000000) : PF Tryz.prog 63 [encSoc s] (· = .int .i64 (fault s)) := by
  have hz := encYs_len s.members
  have hw := encRs_len s.losses
  refine PF.of (TF.ev fn_63 (Ev.at ?_))
  (repeat' (first | (refine Ev.go ?_; conv => whnf) | refine And.intro ?_ ?_ | exact True.intro | exact rfl | (intro rx hrx; rw [ij _ (by omega)] at hrx) | (intro hcx; exfalso; omega) | (intro hcx; exfalso; simp only [lz] at hcx; omega) | intro _))
  all_goals (try (rw [fault, if_pos (by omega)]; done))
  · have h0 : s.members.length = 0 := by omega
    rw [fault, if_neg (by omega), if_neg (by simp [Soc.valid, List.length_eq_zero_iff.1 h0])]
  refine TSq.pureBC (c126 s.members h1) cl rfl (And.intro rfl rfl) ?_ ?_ <;> intro q1
  · (repeat' (first | (refine Ev.go ?_; conv => whnf) | refine And.intro ?_ ?_ | exact True.intro | exact rfl | (intro rx hrx; rw [ij _ (by omega)] at hrx) | (intro hcx; exfalso; omega) | (intro hcx; exfalso; simp only [lz] at hcx; omega) | intro _))
    refine TSq.pureBC (c128 s.losses h2) cl rfl (And.intro rfl rfl) ?_ ?_ <;> intro q2
    · (repeat' (first | (refine Ev.go ?_; conv => whnf) | refine And.intro ?_ ?_ | exact True.intro | exact rfl | (intro rx hrx; rw [ij _ (by omega)] at hrx) | (intro hcx; exfalso; omega) | (intro hcx; exfalso; simp only [lz] at hcx; omega) | intro _))
      refine TSq.pureBC (c129 s.treaty) cl rfl (And.intro rfl rfl) ?_ ?_ <;> intro q3
      · (repeat' (first | (refine Ev.go ?_; conv => whnf) | refine And.intro ?_ ?_ | exact True.intro | exact rfl | (intro rx hrx; rw [ij _ (by omega)] at hrx) | (intro hcx; exfalso; omega) | (intro hcx; exfalso; simp only [lz] at hcx; omega) | intro _))
        refine TSq.pureBC (c68 _ _ _) cl rfl (And.intro rfl rfl) ?_ ?_ <;> intro q4
        · (repeat' (first | (refine Ev.go ?_; conv => whnf) | refine And.intro ?_ ?_ | exact True.intro | exact rfl | (intro rx hrx; rw [ij _ (by omega)] at hrx) | (intro hcx; exfalso; omega) | (intro hcx; exfalso; simp only [lz] at hcx; omega) | intro _))
          rw [fault, if_neg (by omega), if_pos]
          have h0 : s.members.length ≠ 0 := by omega
          simp [Soc.valid, q1, q2, q3, q4]; intro h; simp [h] at h0
        · (repeat' (first | (refine Ev.go ?_; conv => whnf) | refine And.intro ?_ ?_ | exact True.intro | exact rfl | (intro rx hrx; rw [ij _ (by omega)] at hrx) | (intro hcx; exfalso; omega) | (intro hcx; exfalso; simp only [lz] at hcx; omega) | intro _))
          rw [fault, if_neg (by omega), if_neg (by simp only [Soc.valid, q4]; simp)]
      · (repeat' (first | (refine Ev.go ?_; conv => whnf) | refine And.intro ?_ ?_ | exact True.intro | exact rfl | (intro rx hrx; rw [ij _ (by omega)] at hrx) | (intro hcx; exfalso; omega) | (intro hcx; exfalso; simp only [lz] at hcx; omega) | intro _))
        rw [fault, if_neg (by omega), if_neg (by simp only [Soc.valid, q3]; simp)]
    · (repeat' (first | (refine Ev.go ?_; conv => whnf) | refine And.intro ?_ ?_ | exact True.intro | exact rfl | (intro rx hrx; rw [ij _ (by omega)] at hrx) | (intro hcx; exfalso; omega) | (intro hcx; exfalso; simp only [lz] at hcx; omega) | intro _))
      rw [fault, if_neg (by omega), if_neg (by simp only [Soc.valid, q2]; simp)]
  · (repeat' (first | (refine Ev.go ?_; conv => whnf) | refine And.intro ?_ ?_ | exact True.intro | exact rfl | (intro rx hrx; rw [ij _ (by omega)] at hrx) | (intro hcx; exfalso; omega) | (intro hcx; exfalso; simp only [lz] at hcx; omega) | intro _))
    rw [fault, if_neg (by omega), if_neg (by simp only [Soc.valid, q1]; simp)]
theorem c65 (s : Soc) (l t : Int) (h1 : 0 ≤ l ∧ l ≤ 10000000) (h2 : 0 ≤ t ∧ t ≤ 10000000) (h3 : 0 ≤ s.reserve ∧ s.reserve ≤ 10000000) : PF Tryz.prog 65 [encSoc s, .int .i64 l, .int .i64 t] (· = .int .i64 (needOf s l t)) := by
  refine PF.of (TF.ev fn_65 (Ev.at ?_))
  (repeat' (first | (refine Ev.go ?_; conv => whnf) | refine And.intro ?_ ?_ | exact True.intro | exact rfl | (intro rx hrx; rw [ij _ (by omega)] at hrx) | (intro hcx; exfalso; omega) | (intro hcx; exfalso; simp only [lz] at hcx; omega) | intro _))
  all_goals (simp only [needOf, SV.int.injEq, true_and]; omega)
end Go.Proofs.YtjadiajfbflghaaGreat
