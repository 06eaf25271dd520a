/- Functions of the seat's program in the calculus' compact form (printed by a program), and that they are the program's: sum, Short. -/
import Derived.Test.YthnaamkempmjkaaProg
import Derived.Test.YthnaamkempmjkaaMe3
set_option linter.unusedSimpArgs false
set_option linter.unusedVariables false
open Go Go.TV
namespace Go.Proofs.Ythnaamkempmjkaa

def tf36 : TFn := ⟨18, [(.tmp 2)], (.seq (.region false [⟨(some 2), (.mv (.c (.int .i64 0))), none, [], []⟩]) (.seq (.region false [⟨(some 3), (.mv (.c (.int .i64 0))), none, [], []⟩]) (.seq (.seq (.region false [⟨(some 4), (.mv (.c (.int .i64 0))), none, [], []⟩]) (.block 0 (.loop (.seq (.seq (.region false [⟨(some 5), (.mv (.t 4)), none, [], []⟩, ⟨(some 6), (.mv (.t 0)), none, [], []⟩, ⟨(some 7), (.lenS (.t 6)), none, [], []⟩, ⟨(some 8), (.cmp .lss (.t 5) (.t 7)), none, [], []⟩]) (.cond (.t 8) .skip (.exit 0))) (.seq (.block 1 (.region false [⟨(some 11), (.mv (.t 3)), none, [], []⟩, ⟨(some 12), (.mv (.t 0)), none, [], []⟩, ⟨(some 13), (.mv (.t 4)), none, [], []⟩, ⟨(some 14), (.idxS 1 (.t 12) (.t 13)), none, [], []⟩, ⟨(some 15), (.load false 1 (.t 14)), none, [], []⟩, ⟨(some 16), (.arith .add (.t 11) (.t 15)), none, [], []⟩, ⟨(some 3), (.mv (.t 16)), none, [], []⟩])) (.region false [⟨(some 9), (.mv (.t 4)), none, [], []⟩, ⟨(some 10), (.arith .add (.t 9) (.c (.int .i64 1))), none, [], []⟩, ⟨(some 4), (.mv (.t 10)), none, [], []⟩])))))) (.seq (.region false [⟨(some 17), (.mv (.t 3)), none, [], []⟩, ⟨(some 2), (.mv (.t 17)), none, [], []⟩]) .ret))))⟩
theorem fn_36 : fnOf Try.prog 36 = some tf36 := by kernel_rfl

def tf42 : TFn := ⟨16, [(.cell 2 true 2), (.tmp 3)], (.seq (.region false [⟨(some 1), (.box (.t 0)), none, [], []⟩, ⟨(some 2), (.alloc [(.int .i64 0), (.int .i64 0)]), none, [], []⟩, ⟨(some 3), (.mv (.c (.int .i64 0))), none, [], []⟩]) (.seq (.seq (.region false [⟨(some 5), (.load true 5 (.t 1)), none, [], []⟩, ⟨(some 6), (.call 53 [(.t 5)]), none, [], []⟩, ⟨(some 4), (.mv (.t 6)), none, [], []⟩]) (.seq (.region false [⟨(some 7), (.mv (.t 4)), none, [], []⟩, ⟨(some 8), (.cmp .neq (.t 7) (.c (.int .i64 0))), none, [], []⟩]) (.cond (.t 8) (.seq (.region false [⟨(some 9), (.build [(.int .i64 0), (.int .i64 0)] []), none, [], []⟩, ⟨(some 10), (.mv (.t 4)), none, [], []⟩, ⟨none, (.store 2 (.t 2) (.t 9)), none, [], []⟩, ⟨(some 3), (.mv (.t 10)), none, [], []⟩]) .ret) .skip))) (.seq (.region false [⟨(some 11), (.build [.nilfn] [(0, (1, (.c (.fn 62 [] []))))]), none, [], []⟩, ⟨(some 12), (.load true 5 (.t 1)), none, [], []⟩, ⟨(some 13), (.call 63 [(.t 11), (.t 12), (.c .nils)]), none, [], []⟩, ⟨(some 14), (.idxS 2 (.t 13) (.c (.int .i64 0))), none, [], []⟩, ⟨(some 15), (.load true 2 (.t 14)), none, [], []⟩, ⟨none, (.store 2 (.t 2) (.t 15)), none, [], []⟩, ⟨(some 3), (.mv (.c (.int .i64 0))), none, [], []⟩]) .ret)))⟩
theorem fn_42 : fnOf Try.prog 42 = some tf42 := by kernel_rfl

end Go.Proofs.Ythnaamkempmjkaa
