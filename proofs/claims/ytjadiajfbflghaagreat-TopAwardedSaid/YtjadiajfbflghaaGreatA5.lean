/- Functions of the program in the calculus' compact form: the form is found by reduction, and shown to be the program's. Functions of the program in the calculus' compact form: the form is found by reduction, and shown to be the program's. -/
import Derived.Test.YtjadiajfbflghaaGreatProg
import Derived.Test.YtjadiajfbflghaaGreatA4
set_option linter.unusedSimpArgs false
set_option linter.unusedVariables false
set_option linter.unusedSimpArgs false
set_option linter.unusedVariables false
open Go Go.TV
namespace Go.Proofs.YtjadiajfbflghaaGreat
set_option maxRecDepth 100000
set_option maxHeartbeats 4000000
def tg133 : { t : TFn // fnOf Tryz.prog 133 = some t } := by
  refine ⟨?_, ?_⟩
  rotate_left
  conv => lhs; reduce; (try dsimp only [Int.ofNat_eq_natCast, Int.cast_ofNat_Int])
def tf133 : TFn := tg133.1
theorem fn_133 : fnOf Tryz.prog 133 = some tf133 := tg133.2
def tg185 : { t : TFn // fnOf Tryz.prog 185 = some t } := by
  refine ⟨?_, ?_⟩
  rotate_left
  conv => lhs; reduce; (try dsimp only [Int.ofNat_eq_natCast, Int.cast_ofNat_Int])
def tf185 : TFn := tg185.1
theorem fn_185 : fnOf Tryz.prog 185 = some tf185 := tg185.2
def tg196 : { t : TFn // fnOf Tryz.prog 196 = some t } := by
  refine ⟨?_, ?_⟩
  rotate_left
  conv => lhs; reduce; (try dsimp only [Int.ofNat_eq_natCast, Int.cast_ofNat_Int])
def tf196 : TFn := tg196.1
theorem fn_196 : fnOf Tryz.prog 196 = some tf196 := tg196.2
def tg209 : { t : TFn // fnOf Tryz.prog 209 = some t } := by
  refine ⟨?_, ?_⟩
  rotate_left
  conv => lhs; reduce; (try dsimp only [Int.ofNat_eq_natCast, Int.cast_ofNat_Int])
def tf209 : TFn := tg209.1
theorem fn_209 : fnOf Tryz.prog 209 = some tf209 := tg209.2
def tg237 : { t : TFn // fnOf Tryz.prog 237 = some t } := by
  refine ⟨?_, ?_⟩
  rotate_left
  conv => lhs; reduce; (try dsimp only [Int.ofNat_eq_natCast, Int.cast_ofNat_Int])
def tf237 : TFn := tg237.1
theorem fn_237 : fnOf Tryz.prog 237 = some tf237 := tg237.2
def tg243 : { t : TFn // fnOf Tryz.prog 243 = some t } := by
  refine ⟨?_, ?_⟩
  rotate_left
  conv => lhs; reduce; (try dsimp only [Int.ofNat_eq_natCast, Int.cast_ofNat_Int])
def tf243 : TFn := tg243.1
theorem fn_243 : fnOf Tryz.prog 243 = some tf243 := tg243.2
def tg244 : { t : TFn // fnOf Tryz.prog 244 = some t } := by
  refine ⟨?_, ?_⟩
  rotate_left
  conv => lhs; reduce; (try dsimp only [Int.ofNat_eq_natCast, Int.cast_ofNat_Int])
def tf244 : TFn := tg244.1
theorem fn_244 : fnOf Tryz.prog 244 = some tf244 := tg244.2
def tg257 : { t : TFn // fnOf Tryz.prog 257 = some t } := by
  refine ⟨?_, ?_⟩
  rotate_left
  conv => lhs; reduce; (try dsimp only [Int.ofNat_eq_natCast, Int.cast_ofNat_Int])
def tf257 : TFn := tg257.1
theorem fn_257 : fnOf Tryz.prog 257 = some tf257 := tg257.2
def tg260 : { t : TFn // fnOf Tryz.prog 260 = some t } := by
  refine ⟨?_, ?_⟩
  rotate_left
  conv => lhs; reduce; (try dsimp only [Int.ofNat_eq_natCast, Int.cast_ofNat_Int])
def tf260 : TFn := tg260.1
theorem fn_260 : fnOf Tryz.prog 260 = some tf260 := tg260.2
def tg261 : { t : TFn // fnOf Tryz.prog 261 = some t } := by
  refine ⟨?_, ?_⟩
  rotate_left
  conv => lhs; reduce; (try dsimp only [Int.ofNat_eq_natCast, Int.cast_ofNat_Int])
def tf261 : TFn := tg261.1
theorem fn_261 : fnOf Tryz.prog 261 = some tf261 := tg261.2
def tg262 : { t : TFn // fnOf Tryz.prog 262 = some t } := by
  refine ⟨?_, ?_⟩
  rotate_left
  conv => lhs; reduce; (try dsimp only [Int.ofNat_eq_natCast, Int.cast_ofNat_Int])
def tf262 : TFn := tg262.1
theorem fn_262 : fnOf Tryz.prog 262 = some tf262 := tg262.2
end Go.Proofs.YtjadiajfbflghaaGreat
set_option linter.unusedSimpArgs false
set_option linter.unusedVariables false
open Go Go.TV
namespace Go.Proofs.YtjadiajfbflghaaGreat
set_option maxRecDepth 100000
set_option maxHeartbeats 4000000
def tg8 : { t : TFn // fnOf Tryz.prog 8 = some t } := by
  refine ⟨?_, ?_⟩
  rotate_left
  conv => lhs; reduce; (try dsimp only [Int.ofNat_eq_natCast, Int.cast_ofNat_Int])
def tf8 : TFn := tg8.1
theorem fn_8 : fnOf Tryz.prog 8 = some tf8 := tg8.2
def tg9 : { t : TFn // fnOf Tryz.prog 9 = some t } := by
  refine ⟨?_, ?_⟩
  rotate_left
  conv => lhs; reduce; (try dsimp only [Int.ofNat_eq_natCast, Int.cast_ofNat_Int])
def tf9 : TFn := tg9.1
theorem fn_9 : fnOf Tryz.prog 9 = some tf9 := tg9.2
def tg16 : { t : TFn // fnOf Tryz.prog 16 = some t } := by
  refine ⟨?_, ?_⟩
  rotate_left
  conv => lhs; reduce; (try dsimp only [Int.ofNat_eq_natCast, Int.cast_ofNat_Int])
def tf16 : TFn := tg16.1
theorem fn_16 : fnOf Tryz.prog 16 = some tf16 := tg16.2
def tg17 : { t : TFn // fnOf Tryz.prog 17 = some t } := by
  refine ⟨?_, ?_⟩
  rotate_left
  conv => lhs; reduce; (try dsimp only [Int.ofNat_eq_natCast, Int.cast_ofNat_Int])
def tf17 : TFn := tg17.1
theorem fn_17 : fnOf Tryz.prog 17 = some tf17 := tg17.2
def tg18 : { t : TFn // fnOf Tryz.prog 18 = some t } := by
  refine ⟨?_, ?_⟩
  rotate_left
  conv => lhs; reduce; (try dsimp only [Int.ofNat_eq_natCast, Int.cast_ofNat_Int])
def tf18 : TFn := tg18.1
theorem fn_18 : fnOf Tryz.prog 18 = some tf18 := tg18.2
def tg19 : { t : TFn // fnOf Tryz.prog 19 = some t } := by
  refine ⟨?_, ?_⟩
  rotate_left
  conv => lhs; reduce; (try dsimp only [Int.ofNat_eq_natCast, Int.cast_ofNat_Int])
def tf19 : TFn := tg19.1
theorem fn_19 : fnOf Tryz.prog 19 = some tf19 := tg19.2
def tg52 : { t : TFn // fnOf Tryz.prog 52 = some t } := by
  refine ⟨?_, ?_⟩
  rotate_left
  conv => lhs; reduce; (try dsimp only [Int.ofNat_eq_natCast, Int.cast_ofNat_Int])
def tf52 : TFn := tg52.1
theorem fn_52 : fnOf Tryz.prog 52 = some tf52 := tg52.2
def tg53 : { t : TFn // fnOf Tryz.prog 53 = some t } := by
  refine ⟨?_, ?_⟩
  rotate_left
  conv => lhs; reduce; (try dsimp only [Int.ofNat_eq_natCast, Int.cast_ofNat_Int])
def tf53 : TFn := tg53.1
theorem fn_53 : fnOf Tryz.prog 53 = some tf53 := tg53.2
def tg63 : { t : TFn // fnOf Tryz.prog 63 = some t } := by
  refine ⟨?_, ?_⟩
  rotate_left
  conv => lhs; reduce; (try dsimp only [Int.ofNat_eq_natCast, Int.cast_ofNat_Int])
def tf63 : TFn := tg63.1
theorem fn_63 : fnOf Tryz.prog 63 = some tf63 := tg63.2
def tg64 : { t : TFn // fnOf Tryz.prog 64 = some t } := by
  refine ⟨?_, ?_⟩
  rotate_left
  conv => lhs; reduce; (try dsimp only [Int.ofNat_eq_natCast, Int.cast_ofNat_Int])
def tf64 : TFn := tg64.1
theorem fn_64 : fnOf Tryz.prog 64 = some tf64 := tg64.2
def tg65 : { t : TFn // fnOf Tryz.prog 65 = some t } := by
  refine ⟨?_, ?_⟩
  rotate_left
  conv => lhs; reduce; (try dsimp only [Int.ofNat_eq_natCast, Int.cast_ofNat_Int])
def tf65 : TFn := tg65.1
theorem fn_65 : fnOf Tryz.prog 65 = some tf65 := tg65.2
def tg66 : { t : TFn // fnOf Tryz.prog 66 = some t } := by
  refine ⟨?_, ?_⟩
  rotate_left
  conv => lhs; reduce; (try dsimp only [Int.ofNat_eq_natCast, Int.cast_ofNat_Int])
def tf66 : TFn := tg66.1
theorem fn_66 : fnOf Tryz.prog 66 = some tf66 := tg66.2
def tg67 : { t : TFn // fnOf Tryz.prog 67 = some t } := by
  refine ⟨?_, ?_⟩
  rotate_left
  conv => lhs; reduce; (try dsimp only [Int.ofNat_eq_natCast, Int.cast_ofNat_Int])
def tf67 : TFn := tg67.1
theorem fn_67 : fnOf Tryz.prog 67 = some tf67 := tg67.2
def tg68 : { t : TFn // fnOf Tryz.prog 68 = some t } := by
  refine ⟨?_, ?_⟩
  rotate_left
  conv => lhs; reduce; (try dsimp only [Int.ofNat_eq_natCast, Int.cast_ofNat_Int])
def tf68 : TFn := tg68.1
theorem fn_68 : fnOf Tryz.prog 68 = some tf68 := tg68.2
def tg69 : { t : TFn // fnOf Tryz.prog 69 = some t } := by
  refine ⟨?_, ?_⟩
  rotate_left
  conv => lhs; reduce; (try dsimp only [Int.ofNat_eq_natCast, Int.cast_ofNat_Int])
def tf69 : TFn := tg69.1
theorem fn_69 : fnOf Tryz.prog 69 = some tf69 := tg69.2
def tg70 : { t : TFn // fnOf Tryz.prog 70 = some t } := by
  refine ⟨?_, ?_⟩
  rotate_left
  conv => lhs; reduce; (try dsimp only [Int.ofNat_eq_natCast, Int.cast_ofNat_Int])
def tf70 : TFn := tg70.1
theorem fn_70 : fnOf Tryz.prog 70 = some tf70 := tg70.2
def tg126 : { t : TFn // fnOf Tryz.prog 126 = some t } := by
  refine ⟨?_, ?_⟩
  rotate_left
  conv => lhs; reduce; (try dsimp only [Int.ofNat_eq_natCast, Int.cast_ofNat_Int])
def tf126 : TFn := tg126.1
theorem fn_126 : fnOf Tryz.prog 126 = some tf126 := tg126.2
def tg127 : { t : TFn // fnOf Tryz.prog 127 = some t } := by
  refine ⟨?_, ?_⟩
  rotate_left
  conv => lhs; reduce; (try dsimp only [Int.ofNat_eq_natCast, Int.cast_ofNat_Int])
def tf127 : TFn := tg127.1
theorem fn_127 : fnOf Tryz.prog 127 = some tf127 := tg127.2
def tg128 : { t : TFn // fnOf Tryz.prog 128 = some t } := by
  refine ⟨?_, ?_⟩
  rotate_left
  conv => lhs; reduce; (try dsimp only [Int.ofNat_eq_natCast, Int.cast_ofNat_Int])
def tf128 : TFn := tg128.1
theorem fn_128 : fnOf Tryz.prog 128 = some tf128 := tg128.2
def tg129 : { t : TFn // fnOf Tryz.prog 129 = some t } := by
  refine ⟨?_, ?_⟩
  rotate_left
  conv => lhs; reduce; (try dsimp only [Int.ofNat_eq_natCast, Int.cast_ofNat_Int])
def tf129 : TFn := tg129.1
theorem fn_129 : fnOf Tryz.prog 129 = some tf129 := tg129.2
def tg130 : { t : TFn // fnOf Tryz.prog 130 = some t } := by
  refine ⟨?_, ?_⟩
  rotate_left
  conv => lhs; reduce; (try dsimp only [Int.ofNat_eq_natCast, Int.cast_ofNat_Int])
def tf130 : TFn := tg130.1
theorem fn_130 : fnOf Tryz.prog 130 = some tf130 := tg130.2
def tg131 : { t : TFn // fnOf Tryz.prog 131 = some t } := by
  refine ⟨?_, ?_⟩
  rotate_left
  conv => lhs; reduce; (try dsimp only [Int.ofNat_eq_natCast, Int.cast_ofNat_Int])
def tf131 : TFn := tg131.1
theorem fn_131 : fnOf Tryz.prog 131 = some tf131 := tg131.2
def tg132 : { t : TFn // fnOf Tryz.prog 132 = some t } := by
  refine ⟨?_, ?_⟩
  rotate_left
  conv => lhs; reduce; (try dsimp only [Int.ofNat_eq_natCast, Int.cast_ofNat_Int])
def tf132 : TFn := tg132.1
theorem fn_132 : fnOf Tryz.prog 132 = some tf132 := tg132.2
def tf134 : TFn := ⟨108, [(.cell 4 true 5)], (.seq (.region false [⟨(some 4), (.alloc [(.int .i64 0), (.int .i64 0), (.int .i64 0), (.int .i64 0), (.int .i64 0)]), none, [], []⟩]) (.seq (.region false [⟨(some 12), (.mv (.t 1)), none, [], []⟩, ⟨(some 5), (.mv (.c (.int .i64 0))), none, [], []⟩, ⟨(some 6), (.mv (.t 12)), none, [], []⟩]) (.seq (.seq (.region false [⟨(some 13), (.mv (.t 0)), none, [], []⟩, ⟨(some 14), (.nilck (.t 13)), none, [], []⟩, ⟨(some 15), (.faddr 0 (.t 14)), none, [], []⟩, ⟨(some 16), (.faddr 0 (.t 15)), none, [], []⟩, ⟨(some 17), (.load false 1 (.t 16)), none, [], []⟩, ⟨(some 18), (.lenS (.t 17)), none, [], []⟩, ⟨(some 19), (.mv (.c (.int .i64 0))), none, [], []⟩]) (.block 0 (.loop (.seq (.region false [⟨(some 20), (.cmp .lss (.t 19) (.t 18)), none, [], []⟩]) (.seq (.cond (.t 20) .skip (.exit 0)) (.seq (.block 1 (.seq (.region false [⟨(some 21), (.mv (.t 19)), none, [], []⟩, ⟨(some 22), (.idxS 3 (.t 17) (.t 19)), none, [], []⟩, ⟨(some 23), (.load true 3 (.t 22)), none, [], []⟩, ⟨(some 8), (.alloc [(.int .i64 0), (.int .i64 0), (.int .i64 0)]), none, [], []⟩, ⟨(some 7), (.mv (.t 21)), none, [], []⟩, ⟨none, (.store 3 (.t 8) (.t 23)), none, [], []⟩]) (.seq (.region false [⟨(some 24), (.mv (.t 0)), none, [], []⟩, ⟨(some 25), (.mv (.t 7)), none, [], []⟩, ⟨(some 26), (.nilck (.t 24)), none, [], []⟩, ⟨(some 27), (.faddr 5 (.t 26)), none, [], []⟩, ⟨(some 28), (.idxA 5 1 (.t 27) (.t 25)), none, [], []⟩, ⟨(some 29), (.load false 1 (.t 28)), none, [], []⟩]) (.cond (.t 29) (.region false [⟨(some 30), (.mv (.t 5)), none, [], []⟩, ⟨(some 31), (.load true 3 (.t 8)), none, [], []⟩, ⟨(some 32), (.call 197 [(.t 31)]), none, [], []⟩, ⟨(some 33), (.arith .add (.t 30) (.t 32)), none, [], []⟩, ⟨(some 5), (.mv (.t 33)), none, [], []⟩]) .skip)))) (.region false [⟨(some 34), (.arith .add (.t 19) (.c (.int .i64 1))), none, [], []⟩, ⟨(some 19), (.mv (.t 34)), none, [], []⟩]))))))) (.seq (.region false [⟨(some 35), (.mv (.t 0)), none, [], []⟩, ⟨(some 36), .mkmap, none, [], []⟩, ⟨(some 37), (.nilck (.t 35)), none, [], []⟩, ⟨(some 38), (.faddr 10 (.t 37)), none, [], []⟩, ⟨none, (.store 1 (.t 38) (.t 36)), none, [], []⟩]) (.seq (.seq (.region false [⟨(some 39), (.mv (.t 0)), none, [], []⟩, ⟨(some 40), (.nilck (.t 39)), none, [], []⟩, ⟨(some 41), (.faddr 0 (.t 40)), none, [], []⟩, ⟨(some 42), (.faddr 0 (.t 41)), none, [], []⟩, ⟨(some 43), (.load false 1 (.t 42)), none, [], []⟩, ⟨(some 44), (.lenS (.t 43)), none, [], []⟩, ⟨(some 45), (.mv (.c (.int .i64 0))), none, [], []⟩]) (.block 2 (.loop (.seq (.region false [⟨(some 46), (.cmp .lss (.t 45) (.t 44)), none, [], []⟩]) (.seq (.cond (.t 46) .skip (.exit 2)) (.seq (.block 3 (.seq (.region false [⟨(some 47), (.mv (.t 45)), none, [], []⟩, ⟨(some 9), (.mv (.t 47)), none, [], []⟩]) (.seq (.region false [⟨(some 48), (.mv (.t 0)), none, [], []⟩, ⟨(some 49), (.mv (.t 9)), none, [], []⟩, ⟨(some 50), (.nilck (.t 48)), none, [], []⟩, ⟨(some 51), (.faddr 5 (.t 50)), none, [], []⟩, ⟨(some 52), (.idxA 5 1 (.t 51) (.t 49)), none, [], []⟩, ⟨(some 53), (.load false 1 (.t 52)), none, [], []⟩]) (.cond (.t 53) (.seq (.region false [⟨(some 54), (.mv (.t 0)), none, [], []⟩, ⟨(some 55), (.mv (.t 9)), none, [], []⟩, ⟨(some 56), (.mv (.t 1)), none, [], []⟩, ⟨(some 57), (.mv (.t 5)), none, [], []⟩, ⟨(some 58), (.call 198 [(.t 54), (.t 55), (.t 56), (.t 57)]), none, [], []⟩, ⟨(some 10), (.alloc [(.int .i64 0), (.int .i64 0)]), none, [], []⟩, ⟨none, (.store 2 (.t 10) (.t 58)), none, [], []⟩]) (.seq (.region false [⟨(some 59), (.mv (.t 9)), none, [], []⟩, ⟨(some 60), (.faddr 0 (.t 10)), none, [], []⟩, ⟨(some 61), (.load false 1 (.t 60)), none, [], []⟩, ⟨(some 62), (.idxA 5 1 (.t 4) (.t 59)), none, [], []⟩, ⟨none, (.store 1 (.t 62) (.t 61)), none, [], []⟩]) (.seq (.region false [⟨(some 63), (.mv (.t 6)), none, [], []⟩, ⟨(some 64), (.faddr 0 (.t 10)), none, [], []⟩, ⟨(some 65), (.load false 1 (.t 64)), none, [], []⟩, ⟨(some 66), (.arith .sub (.t 63) (.t 65)), none, [], []⟩, ⟨(some 6), (.mv (.t 66)), none, [], []⟩]) (.region true [⟨(some 67), (.mv (.t 0)), none, [], [0]⟩, ⟨(some 68), (.nilck (.t 67)), none, [0], [67]⟩, ⟨(some 69), (.faddr 10 (.t 68)), none, [1], [68]⟩, ⟨(some 70), (.load false 1 (.t 69)), none, [2], [69]⟩, ⟨(some 71), (.load true 2 (.t 10)), none, [], [10]⟩, ⟨(some 72), (.lookup (.st [(0, (1, (false, (.int .i64)))), (1, (1, (false, (.int .i64))))]) (.int .i64 0) false (.t 70) (.t 71)), none, [3, 4], [70, 71]⟩, ⟨(some 73), (.arith .add (.t 72) (.c (.int .i64 1))), none, [5], [72]⟩, ⟨(some 74), (.mapEnt (.st [(0, (1, (false, (.int .i64)))), (1, (1, (false, (.int .i64))))]) (.int .i64 0) (.t 70) (.t 71)), none, [3, 4, 0, 1, 2, 3, 4], [70, 71]⟩, ⟨(some 75), (.extract (.t 74) 1), none, [7], [74]⟩, ⟨none, (.entSt (.t 70) (.t 75) (.t 73)), none, [3, 8, 6, 7, 0, 1, 2, 3, 4, 5, 6, 7, 8], [70, 75, 73]⟩])))) .skip)))) (.region false [⟨(some 76), (.arith .add (.t 45) (.c (.int .i64 1))), none, [], []⟩, ⟨(some 45), (.mv (.t 76)), none, [], []⟩]))))))) (.seq (.seq (.region false [⟨(some 77), (.mv (.t 0)), none, [], []⟩, ⟨(some 78), (.nilck (.t 77)), none, [], []⟩, ⟨(some 79), (.faddr 0 (.t 78)), none, [], []⟩, ⟨(some 80), (.faddr 0 (.t 79)), none, [], []⟩, ⟨(some 81), (.load false 1 (.t 80)), none, [], []⟩, ⟨(some 82), (.lenS (.t 81)), none, [], []⟩, ⟨(some 83), (.mv (.c (.int .i64 0))), none, [], []⟩]) (.block 4 (.loop (.seq (.region false [⟨(some 84), (.cmp .lss (.t 83) (.t 82)), none, [], []⟩]) (.seq (.cond (.t 84) .skip (.exit 4)) (.seq (.block 5 (.seq (.region false [⟨(some 85), (.mv (.t 83)), none, [], []⟩, ⟨(some 11), (.mv (.t 85)), none, [], []⟩]) (.seq (.region false [⟨(some 86), (.mv (.t 0)), none, [], []⟩, ⟨(some 87), (.mv (.t 11)), none, [], []⟩, ⟨(some 88), (.nilck (.t 86)), none, [], []⟩, ⟨(some 89), (.faddr 5 (.t 88)), none, [], []⟩, ⟨(some 90), (.idxA 5 1 (.t 89) (.t 87)), none, [], []⟩, ⟨(some 91), (.load false 1 (.t 90)), none, [], []⟩, ⟨(some 92), (.mv (.t 91)), none, [], []⟩, ⟨(some 93), (.mv (.t 0)), (some (92, true)), [], []⟩, ⟨(some 94), (.mv (.t 11)), (some (92, true)), [], []⟩, ⟨(some 95), (.mv (.t 1)), (some (92, true)), [], []⟩, ⟨(some 96), (.mv (.t 5)), (some (92, true)), [], []⟩, ⟨(some 97), (.call 199 [(.t 93), (.t 94), (.t 95), (.t 96)]), (some (92, true)), [], []⟩, ⟨(some 98), (.mv (.t 6)), (some (92, true)), [], []⟩, ⟨(some 99), (.cmp .lss (.t 97) (.t 98)), (some (92, true)), [], []⟩, ⟨(some 100), (.pick (.t 92) (.t 99) (.c (.bool false))), none, [], []⟩]) (.cond (.t 100) (.region false [⟨(some 101), (.mv (.t 11)), none, [], []⟩, ⟨(some 102), (.idxA 5 1 (.t 4) (.t 101)), none, [], []⟩, ⟨(some 103), (.load false 1 (.t 102)), none, [], []⟩, ⟨(some 104), (.arith .add (.t 103) (.c (.int .i64 1))), none, [], []⟩, ⟨(some 105), (.idxA 5 1 (.t 4) (.t 101)), none, [], []⟩, ⟨none, (.store 1 (.t 105) (.t 104)), none, [], []⟩]) .skip)))) (.region false [⟨(some 106), (.arith .add (.t 83) (.c (.int .i64 1))), none, [], []⟩, ⟨(some 83), (.mv (.t 106)), none, [], []⟩]))))))) (.seq (.region false [⟨(some 107), (.load true 5 (.t 4)), none, [], []⟩, ⟨none, (.store 5 (.t 4) (.t 107)), none, [], []⟩]) .ret)))))))⟩
theorem fn_134 : fnOf Tryz.prog 134 = some tf134 := by kernel_rfl
def tg186 : { t : TFn // fnOf Tryz.prog 186 = some t } := by
  refine ⟨?_, ?_⟩
  rotate_left
  conv => lhs; reduce; (try dsimp only [Int.ofNat_eq_natCast, Int.cast_ofNat_Int])
def tf186 : TFn := tg186.1
theorem fn_186 : fnOf Tryz.prog 186 = some tf186 := tg186.2
def tg187 : { t : TFn // fnOf Tryz.prog 187 = some t } := by
  refine ⟨?_, ?_⟩
  rotate_left
  conv => lhs; reduce; (try dsimp only [Int.ofNat_eq_natCast, Int.cast_ofNat_Int])
def tf187 : TFn := tg187.1
theorem fn_187 : fnOf Tryz.prog 187 = some tf187 := tg187.2
def tg188 : { t : TFn // fnOf Tryz.prog 188 = some t } := by
  refine ⟨?_, ?_⟩
  rotate_left
  conv => lhs; reduce; (try dsimp only [Int.ofNat_eq_natCast, Int.cast_ofNat_Int])
def tf188 : TFn := tg188.1
theorem fn_188 : fnOf Tryz.prog 188 = some tf188 := tg188.2
def tg189 : { t : TFn // fnOf Tryz.prog 189 = some t } := by
  refine ⟨?_, ?_⟩
  rotate_left
  conv => lhs; reduce; (try dsimp only [Int.ofNat_eq_natCast, Int.cast_ofNat_Int])
def tf189 : TFn := tg189.1
theorem fn_189 : fnOf Tryz.prog 189 = some tf189 := tg189.2
def tg190 : { t : TFn // fnOf Tryz.prog 190 = some t } := by
  refine ⟨?_, ?_⟩
  rotate_left
  conv => lhs; reduce; (try dsimp only [Int.ofNat_eq_natCast, Int.cast_ofNat_Int])
def tf190 : TFn := tg190.1
theorem fn_190 : fnOf Tryz.prog 190 = some tf190 := tg190.2
def tg191 : { t : TFn // fnOf Tryz.prog 191 = some t } := by
  refine ⟨?_, ?_⟩
  rotate_left
  conv => lhs; reduce; (try dsimp only [Int.ofNat_eq_natCast, Int.cast_ofNat_Int])
def tf191 : TFn := tg191.1
theorem fn_191 : fnOf Tryz.prog 191 = some tf191 := tg191.2
def tg192 : { t : TFn // fnOf Tryz.prog 192 = some t } := by
  refine ⟨?_, ?_⟩
  rotate_left
  conv => lhs; reduce; (try dsimp only [Int.ofNat_eq_natCast, Int.cast_ofNat_Int])
def tf192 : TFn := tg192.1
theorem fn_192 : fnOf Tryz.prog 192 = some tf192 := tg192.2
def tg193 : { t : TFn // fnOf Tryz.prog 193 = some t } := by
  refine ⟨?_, ?_⟩
  rotate_left
  conv => lhs; reduce; (try dsimp only [Int.ofNat_eq_natCast, Int.cast_ofNat_Int])
def tf193 : TFn := tg193.1
theorem fn_193 : fnOf Tryz.prog 193 = some tf193 := tg193.2
def tg194 : { t : TFn // fnOf Tryz.prog 194 = some t } := by
  refine ⟨?_, ?_⟩
  rotate_left
  conv => lhs; reduce; (try dsimp only [Int.ofNat_eq_natCast, Int.cast_ofNat_Int])
def tf194 : TFn := tg194.1
theorem fn_194 : fnOf Tryz.prog 194 = some tf194 := tg194.2
def tg195 : { t : TFn // fnOf Tryz.prog 195 = some t } := by
  refine ⟨?_, ?_⟩
  rotate_left
  conv => lhs; reduce; (try dsimp only [Int.ofNat_eq_natCast, Int.cast_ofNat_Int])
def tf195 : TFn := tg195.1
theorem fn_195 : fnOf Tryz.prog 195 = some tf195 := tg195.2
def tg197 : { t : TFn // fnOf Tryz.prog 197 = some t } := by
  refine ⟨?_, ?_⟩
  rotate_left
  conv => lhs; reduce; (try dsimp only [Int.ofNat_eq_natCast, Int.cast_ofNat_Int])
def tf197 : TFn := tg197.1
theorem fn_197 : fnOf Tryz.prog 197 = some tf197 := tg197.2
def tg198 : { t : TFn // fnOf Tryz.prog 198 = some t } := by
  refine ⟨?_, ?_⟩
  rotate_left
  conv => lhs; reduce; (try dsimp only [Int.ofNat_eq_natCast, Int.cast_ofNat_Int])
def tf198 : TFn := tg198.1
theorem fn_198 : fnOf Tryz.prog 198 = some tf198 := tg198.2
def tg199 : { t : TFn // fnOf Tryz.prog 199 = some t } := by
  refine ⟨?_, ?_⟩
  rotate_left
  conv => lhs; reduce; (try dsimp only [Int.ofNat_eq_natCast, Int.cast_ofNat_Int])
def tf199 : TFn := tg199.1
theorem fn_199 : fnOf Tryz.prog 199 = some tf199 := tg199.2
def tg235 : { t : TFn // fnOf Tryz.prog 235 = some t } := by
  refine ⟨?_, ?_⟩
  rotate_left
  conv => lhs; reduce; (try dsimp only [Int.ofNat_eq_natCast, Int.cast_ofNat_Int])
def tf235 : TFn := tg235.1
theorem fn_235 : fnOf Tryz.prog 235 = some tf235 := tg235.2
def tg236 : { t : TFn // fnOf Tryz.prog 236 = some t } := by
  refine ⟨?_, ?_⟩
  rotate_left
  conv => lhs; reduce; (try dsimp only [Int.ofNat_eq_natCast, Int.cast_ofNat_Int])
def tf236 : TFn := tg236.1
theorem fn_236 : fnOf Tryz.prog 236 = some tf236 := tg236.2
def tg238 : { t : TFn // fnOf Tryz.prog 238 = some t } := by
  refine ⟨?_, ?_⟩
  rotate_left
  conv => lhs; reduce; (try dsimp only [Int.ofNat_eq_natCast, Int.cast_ofNat_Int])
def tf238 : TFn := tg238.1
theorem fn_238 : fnOf Tryz.prog 238 = some tf238 := tg238.2
def tg239 : { t : TFn // fnOf Tryz.prog 239 = some t } := by
  refine ⟨?_, ?_⟩
  rotate_left
  conv => lhs; reduce; (try dsimp only [Int.ofNat_eq_natCast, Int.cast_ofNat_Int])
def tf239 : TFn := tg239.1
theorem fn_239 : fnOf Tryz.prog 239 = some tf239 := tg239.2
end Go.Proofs.YtjadiajfbflghaaGreat
