/- Of TextNumbers: part 2: what the walks rest on, contracts of functions and plain lemmas; no condition but those that each states. -/
import Derived.Test.YtllkoinbfegonaaDoorTn1
import Derived.Test.YtllkoinbfegonaaDoorProg
import Derived.Shelf.Small.Wraps
import Derived.Shelf.SlGeneric
import Derived.Lib.SplitLaws
import Derived.Lib.CutLaws
import Derived.Shelf.Strings.Cut
import Derived.Shelf.Strings.Split
import Derived.WalkKit
import Derived.Maps.Keyed
import Derived.Maps.RangeRun
import Derived.Laws.Cover3
import Derived.Laws.Shifts
import Derived.LaidEql
import Derived.Stop.Asserts
import Derived.RowKitTokens
import Derived.Recover
set_option linter.unusedVariables false
set_option linter.unusedSimpArgs false
section
set_option linter.unusedVariables false
namespace Go.Proofs.YtllkoinbfegonaaDoor
open Go.Sl
instance : ScTy Tryd.prog 1 := ⟨Tryd.isAgg1, Tryd.sizeOf1⟩
instance : ZrTy Tryd.prog 1 .nilFunc := ⟨Tryd.zeroValue1⟩
instance : ScTy Tryd.prog 2 := ⟨Tryd.isAgg2, Tryd.sizeOf2⟩
instance : ZrTy Tryd.prog 2 (.int .i64 0) := ⟨Tryd.zeroValue2⟩
instance : ScTy Tryd.prog 3 := ⟨Tryd.isAgg3, Tryd.sizeOf3⟩
instance : ZrTy Tryd.prog 3 (.int .i64 0) := ⟨Tryd.zeroValue3⟩
instance : ScTy Tryd.prog 4 := ⟨Tryd.isAgg4, Tryd.sizeOf4⟩
instance : ZrTy Tryd.prog 4 (.bool false) := ⟨Tryd.zeroValue4⟩
instance : ScTy Tryd.prog 5 := ⟨Tryd.isAgg5, Tryd.sizeOf5⟩
instance : ZrTy Tryd.prog 5 (.int .u8 0) := ⟨Tryd.zeroValue5⟩
instance : ScTy Tryd.prog 6 := ⟨Tryd.isAgg6, Tryd.sizeOf6⟩
instance : ZrTy Tryd.prog 6 (.int .u8 0) := ⟨Tryd.zeroValue6⟩
instance : BdTy Tryd.prog 7 (.agg #[(.int .i64 0), (.int .i64 0), (.bool false), (.int .u8 0)]) [(0, 1), (1, 1), (2, 1), (3, 1)] := ⟨Tryd.zeroValue7, _, Tryd.underlying7, fun w => by simp only [List.mapM_cons, List.mapM_nil, Sem.run_bind, Sem.run_pure, Result.andThen_ok, Tryd.sizeOf2, Tryd.sizeOf3, Tryd.sizeOf4, Tryd.sizeOf6]⟩
instance : FdTy Tryd.prog 7 0 0 0 false := ⟨_, _, Tryd.underlying7, rfl, rfl, Tryd.sizeOf2, Tryd.isAgg2⟩
instance : FdTy Tryd.prog 7 1 1 0 false := ⟨_, _, Tryd.underlying7, rfl, rfl, Tryd.sizeOf3, Tryd.isAgg3⟩
instance : FdTy Tryd.prog 7 2 2 0 false := ⟨_, _, Tryd.underlying7, rfl, rfl, Tryd.sizeOf4, Tryd.isAgg4⟩
instance : FdTy Tryd.prog 7 3 3 0 false := ⟨_, _, Tryd.underlying7, rfl, rfl, Tryd.sizeOf6, Tryd.isAgg6⟩
instance : AgTy Tryd.prog 7 4 := ⟨Tryd.isAgg7, Tryd.sizeOf7⟩
instance : ZrTy Tryd.prog 7 (.agg #[(.int .i64 0), (.int .i64 0), (.bool false), (.int .u8 0)]) := ⟨Tryd.zeroValue7⟩
instance : BdTy Tryd.prog 8 (.agg #[(.int .i64 0), (.int .i64 0), (.bool false), (.int .u8 0)]) [(0, 1), (1, 1), (2, 1), (3, 1)] := ⟨Tryd.zeroValue8, _, Tryd.underlying8, fun w => by simp only [List.mapM_cons, List.mapM_nil, Sem.run_bind, Sem.run_pure, Result.andThen_ok, Tryd.sizeOf2, Tryd.sizeOf3, Tryd.sizeOf4, Tryd.sizeOf6]⟩
instance : FdTy Tryd.prog 8 0 0 0 false := ⟨_, _, Tryd.underlying8, rfl, rfl, Tryd.sizeOf2, Tryd.isAgg2⟩
instance : FdTy Tryd.prog 8 1 1 0 false := ⟨_, _, Tryd.underlying8, rfl, rfl, Tryd.sizeOf3, Tryd.isAgg3⟩
instance : FdTy Tryd.prog 8 2 2 0 false := ⟨_, _, Tryd.underlying8, rfl, rfl, Tryd.sizeOf4, Tryd.isAgg4⟩
instance : FdTy Tryd.prog 8 3 3 0 false := ⟨_, _, Tryd.underlying8, rfl, rfl, Tryd.sizeOf6, Tryd.isAgg6⟩
instance : AgTy Tryd.prog 8 4 := ⟨Tryd.isAgg8, Tryd.sizeOf8⟩
instance : ZrTy Tryd.prog 8 (.agg #[(.int .i64 0), (.int .i64 0), (.bool false), (.int .u8 0)]) := ⟨Tryd.zeroValue8⟩
instance : ScTy Tryd.prog 9 := ⟨Tryd.isAgg9, Tryd.sizeOf9⟩
instance : ZrTy Tryd.prog 9 (.string ⟨#[]⟩) := ⟨Tryd.zeroValue9⟩
instance : StTy Tryd.prog 9 := ⟨Tryd.underlying9⟩
instance : ScTy Tryd.prog 10 := ⟨Tryd.isAgg10, Tryd.sizeOf10⟩
instance : ZrTy Tryd.prog 10 (.string ⟨#[]⟩) := ⟨Tryd.zeroValue10⟩
instance : StTy Tryd.prog 10 := ⟨Tryd.underlying10⟩
instance : ScTy Tryd.prog 11 := ⟨Tryd.isAgg11, Tryd.sizeOf11⟩
instance : ZrTy Tryd.prog 11 (.string ⟨#[]⟩) := ⟨Tryd.zeroValue11⟩
instance : StTy Tryd.prog 11 := ⟨Tryd.underlying11⟩
instance : ScTy Tryd.prog 12 := ⟨Tryd.isAgg12, Tryd.sizeOf12⟩
instance : ZrTy Tryd.prog 12 (.int .u64 0) := ⟨Tryd.zeroValue12⟩
instance : BdTy Tryd.prog 13 (.agg #[(.string ⟨#[]⟩), (.int .u64 0)]) [(0, 1), (1, 1)] := ⟨Tryd.zeroValue13, _, Tryd.underlying13, fun w => by simp only [List.mapM_cons, List.mapM_nil, Sem.run_bind, Sem.run_pure, Result.andThen_ok, Tryd.sizeOf9, Tryd.sizeOf12]⟩
instance : FdTy Tryd.prog 13 0 0 0 false := ⟨_, _, Tryd.underlying13, rfl, rfl, Tryd.sizeOf9, Tryd.isAgg9⟩
instance : FdTy Tryd.prog 13 1 1 0 false := ⟨_, _, Tryd.underlying13, rfl, rfl, Tryd.sizeOf12, Tryd.isAgg12⟩
instance : AgTy Tryd.prog 13 2 := ⟨Tryd.isAgg13, Tryd.sizeOf13⟩
instance : ZrTy Tryd.prog 13 (.agg #[(.string ⟨#[]⟩), (.int .u64 0)]) := ⟨Tryd.zeroValue13⟩
instance : BdTy Tryd.prog 14 (.agg #[(.string ⟨#[]⟩), (.int .u64 0)]) [(0, 1), (1, 1)] := ⟨Tryd.zeroValue14, _, Tryd.underlying14, fun w => by simp only [List.mapM_cons, List.mapM_nil, Sem.run_bind, Sem.run_pure, Result.andThen_ok, Tryd.sizeOf9, Tryd.sizeOf12]⟩
instance : FdTy Tryd.prog 14 0 0 0 false := ⟨_, _, Tryd.underlying14, rfl, rfl, Tryd.sizeOf9, Tryd.isAgg9⟩
instance : FdTy Tryd.prog 14 1 1 0 false := ⟨_, _, Tryd.underlying14, rfl, rfl, Tryd.sizeOf12, Tryd.isAgg12⟩
instance : AgTy Tryd.prog 14 2 := ⟨Tryd.isAgg14, Tryd.sizeOf14⟩
instance : ZrTy Tryd.prog 14 (.agg #[(.string ⟨#[]⟩), (.int .u64 0)]) := ⟨Tryd.zeroValue14⟩
instance : ScTy Tryd.prog 15 := ⟨Tryd.isAgg15, Tryd.sizeOf15⟩
instance : ZrTy Tryd.prog 15 (.pointer none) := ⟨Tryd.zeroValue15⟩
instance : ScTy Tryd.prog 16 := ⟨Tryd.isAgg16, Tryd.sizeOf16⟩
instance : ZrTy Tryd.prog 16 (.pointer none) := ⟨Tryd.zeroValue16⟩
instance : ScTy Tryd.prog 17 := ⟨Tryd.isAgg17, Tryd.sizeOf17⟩
instance : ZrTy Tryd.prog 17 (.pointer none) := ⟨Tryd.zeroValue17⟩
instance : BdTy Tryd.prog 18 (.agg #[(.pointer none)]) [(0, 1)] := ⟨Tryd.zeroValue18, _, Tryd.underlying18, fun w => by simp only [List.mapM_cons, List.mapM_nil, Sem.run_bind, Sem.run_pure, Result.andThen_ok, Tryd.sizeOf17]⟩
instance : FdTy Tryd.prog 18 0 0 0 false := ⟨_, _, Tryd.underlying18, rfl, rfl, Tryd.sizeOf17, Tryd.isAgg17⟩
instance : AgTy Tryd.prog 18 1 := ⟨Tryd.isAgg18, Tryd.sizeOf18⟩
instance : ZrTy Tryd.prog 18 (.agg #[(.pointer none)]) := ⟨Tryd.zeroValue18⟩
instance : BdTy Tryd.prog 19 (.agg #[(.pointer none)]) [(0, 1)] := ⟨Tryd.zeroValue19, _, Tryd.underlying19, fun w => by simp only [List.mapM_cons, List.mapM_nil, Sem.run_bind, Sem.run_pure, Result.andThen_ok, Tryd.sizeOf17]⟩
instance : FdTy Tryd.prog 19 0 0 0 false := ⟨_, _, Tryd.underlying19, rfl, rfl, Tryd.sizeOf17, Tryd.isAgg17⟩
instance : AgTy Tryd.prog 19 1 := ⟨Tryd.isAgg19, Tryd.sizeOf19⟩
instance : ZrTy Tryd.prog 19 (.agg #[(.pointer none)]) := ⟨Tryd.zeroValue19⟩
instance : ScTy Tryd.prog 20 := ⟨Tryd.isAgg20, Tryd.sizeOf20⟩
instance : ZrTy Tryd.prog 20 .nilIface := ⟨Tryd.zeroValue20⟩
instance : ScTy Tryd.prog 21 := ⟨Tryd.isAgg21, Tryd.sizeOf21⟩
instance : ZrTy Tryd.prog 21 (.int .i32 0) := ⟨Tryd.zeroValue21⟩
instance : ScTy Tryd.prog 22 := ⟨Tryd.isAgg22, Tryd.sizeOf22⟩
instance : ZrTy Tryd.prog 22 (.slice none 0 0) := ⟨Tryd.zeroValue22⟩
instance : SlTy Tryd.prog 22 33 (.agg #[(.string ⟨#[]⟩), (.int .i64 0)]) 2 24 := ⟨Tryd.underlying22, by kernel_rfl, Tryd.sizeOf33, rfl, by decide, by decide⟩
instance : ScTy Tryd.prog 23 := ⟨Tryd.isAgg23, Tryd.sizeOf23⟩
instance : ZrTy Tryd.prog 23 (.int .i64 0) := ⟨Tryd.zeroValue23⟩
instance : ScTy Tryd.prog 24 := ⟨Tryd.isAgg24, Tryd.sizeOf24⟩
instance : ZrTy Tryd.prog 24 .nilFunc := ⟨Tryd.zeroValue24⟩
instance : ScTy Tryd.prog 25 := ⟨Tryd.isAgg25, Tryd.sizeOf25⟩
instance : ZrTy Tryd.prog 25 .nilFunc := ⟨Tryd.zeroValue25⟩
instance : ScTy Tryd.prog 26 := ⟨Tryd.isAgg26, Tryd.sizeOf26⟩
instance : ZrTy Tryd.prog 26 .nilIface := ⟨Tryd.zeroValue26⟩
instance : ScTy Tryd.prog 27 := ⟨Tryd.isAgg27, Tryd.sizeOf27⟩
instance : ZrTy Tryd.prog 27 .nilIface := ⟨Tryd.zeroValue27⟩
instance : ScTy Tryd.prog 28 := ⟨Tryd.isAgg28, Tryd.sizeOf28⟩
instance : ZrTy Tryd.prog 28 .nilFunc := ⟨Tryd.zeroValue28⟩
instance : ScTy Tryd.prog 29 := ⟨Tryd.isAgg29, Tryd.sizeOf29⟩
instance : ZrTy Tryd.prog 29 (.pointer none) := ⟨Tryd.zeroValue29⟩
instance : ScTy Tryd.prog 30 := ⟨Tryd.isAgg30, Tryd.sizeOf30⟩
instance : ZrTy Tryd.prog 30 .nilFunc := ⟨Tryd.zeroValue30⟩
instance : ScTy Tryd.prog 31 := ⟨Tryd.isAgg31, Tryd.sizeOf31⟩
instance : ZrTy Tryd.prog 31 (.pointer none) := ⟨Tryd.zeroValue31⟩
instance : BdTy Tryd.prog 32 (.agg #[(.string ⟨#[]⟩), (.int .i64 0)]) [(0, 1), (1, 1)] := ⟨Tryd.zeroValue32, _, Tryd.underlying32, fun w => by simp only [List.mapM_cons, List.mapM_nil, Sem.run_bind, Sem.run_pure, Result.andThen_ok, Tryd.sizeOf3, Tryd.sizeOf9]⟩
instance : FdTy Tryd.prog 32 0 0 0 false := ⟨_, _, Tryd.underlying32, rfl, rfl, Tryd.sizeOf9, Tryd.isAgg9⟩
instance : FdTy Tryd.prog 32 1 1 0 false := ⟨_, _, Tryd.underlying32, rfl, rfl, Tryd.sizeOf3, Tryd.isAgg3⟩
instance : AgTy Tryd.prog 32 2 := ⟨Tryd.isAgg32, Tryd.sizeOf32⟩
instance : ZrTy Tryd.prog 32 (.agg #[(.string ⟨#[]⟩), (.int .i64 0)]) := ⟨Tryd.zeroValue32⟩
instance : BdTy Tryd.prog 33 (.agg #[(.string ⟨#[]⟩), (.int .i64 0)]) [(0, 1), (1, 1)] := ⟨Tryd.zeroValue33, _, Tryd.underlying33, fun w => by simp only [List.mapM_cons, List.mapM_nil, Sem.run_bind, Sem.run_pure, Result.andThen_ok, Tryd.sizeOf3, Tryd.sizeOf9]⟩
instance : FdTy Tryd.prog 33 0 0 0 false := ⟨_, _, Tryd.underlying33, rfl, rfl, Tryd.sizeOf9, Tryd.isAgg9⟩
instance : FdTy Tryd.prog 33 1 1 0 false := ⟨_, _, Tryd.underlying33, rfl, rfl, Tryd.sizeOf3, Tryd.isAgg3⟩
instance : AgTy Tryd.prog 33 2 := ⟨Tryd.isAgg33, Tryd.sizeOf33⟩
instance : ZrTy Tryd.prog 33 (.agg #[(.string ⟨#[]⟩), (.int .i64 0)]) := ⟨Tryd.zeroValue33⟩
instance : ScTy Tryd.prog 34 := ⟨Tryd.isAgg34, Tryd.sizeOf34⟩
instance : ZrTy Tryd.prog 34 .nilFunc := ⟨Tryd.zeroValue34⟩
instance : ScTy Tryd.prog 35 := ⟨Tryd.isAgg35, Tryd.sizeOf35⟩
instance : ZrTy Tryd.prog 35 .nilFunc := ⟨Tryd.zeroValue35⟩
instance : BdTy Tryd.prog 36 (.agg #[(.string ⟨#[]⟩), (.int .i64 0), .nilIface]) [(0, 1), (1, 1), (2, 1)] := ⟨Tryd.zeroValue36, _, Tryd.underlying36, fun w => by simp only [List.mapM_cons, List.mapM_nil, Sem.run_bind, Sem.run_pure, Result.andThen_ok, Tryd.sizeOf3, Tryd.sizeOf9, Tryd.sizeOf27]⟩
instance : FdTy Tryd.prog 36 0 0 0 false := ⟨_, _, Tryd.underlying36, rfl, rfl, Tryd.sizeOf9, Tryd.isAgg9⟩
instance : FdTy Tryd.prog 36 1 1 0 false := ⟨_, _, Tryd.underlying36, rfl, rfl, Tryd.sizeOf3, Tryd.isAgg3⟩
instance : FdTy Tryd.prog 36 2 2 0 false := ⟨_, _, Tryd.underlying36, rfl, rfl, Tryd.sizeOf27, Tryd.isAgg27⟩
instance : AgTy Tryd.prog 36 3 := ⟨Tryd.isAgg36, Tryd.sizeOf36⟩
instance : ZrTy Tryd.prog 36 (.agg #[(.string ⟨#[]⟩), (.int .i64 0), .nilIface]) := ⟨Tryd.zeroValue36⟩
instance : BdTy Tryd.prog 37 (.agg #[(.string ⟨#[]⟩), (.int .i64 0), .nilIface]) [(0, 1), (1, 1), (2, 1)] := ⟨Tryd.zeroValue37, _, Tryd.underlying37, fun w => by simp only [List.mapM_cons, List.mapM_nil, Sem.run_bind, Sem.run_pure, Result.andThen_ok, Tryd.sizeOf3, Tryd.sizeOf9, Tryd.sizeOf27]⟩
instance : FdTy Tryd.prog 37 0 0 0 false := ⟨_, _, Tryd.underlying37, rfl, rfl, Tryd.sizeOf9, Tryd.isAgg9⟩
instance : FdTy Tryd.prog 37 1 1 0 false := ⟨_, _, Tryd.underlying37, rfl, rfl, Tryd.sizeOf3, Tryd.isAgg3⟩
instance : FdTy Tryd.prog 37 2 2 0 false := ⟨_, _, Tryd.underlying37, rfl, rfl, Tryd.sizeOf27, Tryd.isAgg27⟩
instance : AgTy Tryd.prog 37 3 := ⟨Tryd.isAgg37, Tryd.sizeOf37⟩
instance : ZrTy Tryd.prog 37 (.agg #[(.string ⟨#[]⟩), (.int .i64 0), .nilIface]) := ⟨Tryd.zeroValue37⟩
instance : ScTy Tryd.prog 38 := ⟨Tryd.isAgg38, Tryd.sizeOf38⟩
instance : ZrTy Tryd.prog 38 .nilFunc := ⟨Tryd.zeroValue38⟩
instance : ScTy Tryd.prog 39 := ⟨Tryd.isAgg39, Tryd.sizeOf39⟩
instance : ZrTy Tryd.prog 39 .nilFunc := ⟨Tryd.zeroValue39⟩
instance : ScTy Tryd.prog 40 := ⟨Tryd.isAgg40, Tryd.sizeOf40⟩
instance : ZrTy Tryd.prog 40 .nilFunc := ⟨Tryd.zeroValue40⟩
instance : ScTy Tryd.prog 41 := ⟨Tryd.isAgg41, Tryd.sizeOf41⟩
instance : ZrTy Tryd.prog 41 .nilFunc := ⟨Tryd.zeroValue41⟩
instance : ScTy Tryd.prog 42 := ⟨Tryd.isAgg42, Tryd.sizeOf42⟩
instance : ZrTy Tryd.prog 42 .nilFunc := ⟨Tryd.zeroValue42⟩
instance : ScTy Tryd.prog 44 := ⟨Tryd.isAgg44, Tryd.sizeOf44⟩
instance : ZrTy Tryd.prog 44 .nilFunc := ⟨Tryd.zeroValue44⟩
instance : ScTy Tryd.prog 45 := ⟨Tryd.isAgg45, Tryd.sizeOf45⟩
instance : ZrTy Tryd.prog 45 .nilFunc := ⟨Tryd.zeroValue45⟩
instance : ScTy Tryd.prog 46 := ⟨Tryd.isAgg46, Tryd.sizeOf46⟩
instance : ZrTy Tryd.prog 46 (.slice none 0 0) := ⟨Tryd.zeroValue46⟩
instance : SlTy Tryd.prog 46 9 (.string ⟨#[]⟩) 1 16 := ⟨Tryd.underlying46, by kernel_rfl, Tryd.sizeOf9, rfl, by decide, by decide⟩
instance : ScTy Tryd.prog 47 := ⟨Tryd.isAgg47, Tryd.sizeOf47⟩
instance : ZrTy Tryd.prog 47 .nilFunc := ⟨Tryd.zeroValue47⟩
instance : ScTy Tryd.prog 48 := ⟨Tryd.isAgg48, Tryd.sizeOf48⟩
instance : ZrTy Tryd.prog 48 .nilFunc := ⟨Tryd.zeroValue48⟩
instance : ScTy Tryd.prog 49 := ⟨Tryd.isAgg49, Tryd.sizeOf49⟩
instance : ZrTy Tryd.prog 49 .nilFunc := ⟨Tryd.zeroValue49⟩
instance : ScTy Tryd.prog 50 := ⟨Tryd.isAgg50, Tryd.sizeOf50⟩
instance : ZrTy Tryd.prog 50 .nilFunc := ⟨Tryd.zeroValue50⟩
instance : ScTy Tryd.prog 52 := ⟨Tryd.isAgg52, Tryd.sizeOf52⟩
instance : ZrTy Tryd.prog 52 .nilFunc := ⟨Tryd.zeroValue52⟩
instance : ScTy Tryd.prog 53 := ⟨Tryd.isAgg53, Tryd.sizeOf53⟩
instance : ZrTy Tryd.prog 53 .nilFunc := ⟨Tryd.zeroValue53⟩
instance : ScTy Tryd.prog 54 := ⟨Tryd.isAgg54, Tryd.sizeOf54⟩
instance : ZrTy Tryd.prog 54 (.slice none 0 0) := ⟨Tryd.zeroValue54⟩
instance : SlTy Tryd.prog 54 60 (.agg #[(.int .i64 0), (.int .i64 0), (.int .i64 0)]) 3 24 := ⟨Tryd.underlying54, by kernel_rfl, Tryd.sizeOf60, rfl, by decide, by decide⟩
instance : BdTy Tryd.prog 55 (.agg #[(.int .i64 0), (.slice none 0 0)]) [(0, 1), (1, 1)] := ⟨Tryd.zeroValue55, _, Tryd.underlying55, fun w => by simp only [List.mapM_cons, List.mapM_nil, Sem.run_bind, Sem.run_pure, Result.andThen_ok, Tryd.sizeOf3, Tryd.sizeOf54]⟩
instance : FdTy Tryd.prog 55 0 0 0 false := ⟨_, _, Tryd.underlying55, rfl, rfl, Tryd.sizeOf3, Tryd.isAgg3⟩
instance : FdTy Tryd.prog 55 1 1 0 false := ⟨_, _, Tryd.underlying55, rfl, rfl, Tryd.sizeOf54, Tryd.isAgg54⟩
instance : AgTy Tryd.prog 55 2 := ⟨Tryd.isAgg55, Tryd.sizeOf55⟩
instance : ZrTy Tryd.prog 55 (.agg #[(.int .i64 0), (.slice none 0 0)]) := ⟨Tryd.zeroValue55⟩
instance : BdTy Tryd.prog 56 (.agg #[(.int .i64 0), (.slice none 0 0)]) [(0, 1), (1, 1)] := ⟨Tryd.zeroValue56, _, Tryd.underlying56, fun w => by simp only [List.mapM_cons, List.mapM_nil, Sem.run_bind, Sem.run_pure, Result.andThen_ok, Tryd.sizeOf3, Tryd.sizeOf54]⟩
instance : FdTy Tryd.prog 56 0 0 0 false := ⟨_, _, Tryd.underlying56, rfl, rfl, Tryd.sizeOf3, Tryd.isAgg3⟩
instance : FdTy Tryd.prog 56 1 1 0 false := ⟨_, _, Tryd.underlying56, rfl, rfl, Tryd.sizeOf54, Tryd.isAgg54⟩
instance : AgTy Tryd.prog 56 2 := ⟨Tryd.isAgg56, Tryd.sizeOf56⟩
instance : ZrTy Tryd.prog 56 (.agg #[(.int .i64 0), (.slice none 0 0)]) := ⟨Tryd.zeroValue56⟩
instance : ScTy Tryd.prog 57 := ⟨Tryd.isAgg57, Tryd.sizeOf57⟩
instance : ZrTy Tryd.prog 57 (.slice none 0 0) := ⟨Tryd.zeroValue57⟩
instance : SlTy Tryd.prog 57 3 (.int .i64 0) 1 8 := ⟨Tryd.underlying57, by kernel_rfl, Tryd.sizeOf3, rfl, by decide, by decide⟩
instance : ScTy Tryd.prog 58 := ⟨Tryd.isAgg58, Tryd.sizeOf58⟩
instance : ZrTy Tryd.prog 58 .nilFunc := ⟨Tryd.zeroValue58⟩
instance : BdTy Tryd.prog 59 (.agg #[(.int .i64 0), (.int .i64 0), (.int .i64 0)]) [(0, 1), (1, 1), (2, 1)] := ⟨Tryd.zeroValue59, _, Tryd.underlying59, fun w => by simp only [List.mapM_cons, List.mapM_nil, Sem.run_bind, Sem.run_pure, Result.andThen_ok, Tryd.sizeOf2, Tryd.sizeOf3]⟩
instance : FdTy Tryd.prog 59 0 0 0 false := ⟨_, _, Tryd.underlying59, rfl, rfl, Tryd.sizeOf3, Tryd.isAgg3⟩
instance : FdTy Tryd.prog 59 1 1 0 false := ⟨_, _, Tryd.underlying59, rfl, rfl, Tryd.sizeOf3, Tryd.isAgg3⟩
instance : FdTy Tryd.prog 59 2 2 0 false := ⟨_, _, Tryd.underlying59, rfl, rfl, Tryd.sizeOf2, Tryd.isAgg2⟩
instance : AgTy Tryd.prog 59 3 := ⟨Tryd.isAgg59, Tryd.sizeOf59⟩
instance : ZrTy Tryd.prog 59 (.agg #[(.int .i64 0), (.int .i64 0), (.int .i64 0)]) := ⟨Tryd.zeroValue59⟩
instance : BdTy Tryd.prog 60 (.agg #[(.int .i64 0), (.int .i64 0), (.int .i64 0)]) [(0, 1), (1, 1), (2, 1)] := ⟨Tryd.zeroValue60, _, Tryd.underlying60, fun w => by simp only [List.mapM_cons, List.mapM_nil, Sem.run_bind, Sem.run_pure, Result.andThen_ok, Tryd.sizeOf2, Tryd.sizeOf3]⟩
instance : FdTy Tryd.prog 60 0 0 0 false := ⟨_, _, Tryd.underlying60, rfl, rfl, Tryd.sizeOf3, Tryd.isAgg3⟩
instance : FdTy Tryd.prog 60 1 1 0 false := ⟨_, _, Tryd.underlying60, rfl, rfl, Tryd.sizeOf3, Tryd.isAgg3⟩
instance : FdTy Tryd.prog 60 2 2 0 false := ⟨_, _, Tryd.underlying60, rfl, rfl, Tryd.sizeOf2, Tryd.isAgg2⟩
instance : AgTy Tryd.prog 60 3 := ⟨Tryd.isAgg60, Tryd.sizeOf60⟩
instance : ZrTy Tryd.prog 60 (.agg #[(.int .i64 0), (.int .i64 0), (.int .i64 0)]) := ⟨Tryd.zeroValue60⟩
instance : ScTy Tryd.prog 62 := ⟨Tryd.isAgg62, Tryd.sizeOf62⟩
instance : ZrTy Tryd.prog 62 .nilFunc := ⟨Tryd.zeroValue62⟩
instance : ScTy Tryd.prog 63 := ⟨Tryd.isAgg63, Tryd.sizeOf63⟩
instance : ZrTy Tryd.prog 63 (.slice none 0 0) := ⟨Tryd.zeroValue63⟩
instance : SlTy Tryd.prog 63 5 (.int .u8 0) 1 1 := ⟨Tryd.underlying63, by kernel_rfl, Tryd.sizeOf5, rfl, by decide, by decide⟩
instance : ScTy Tryd.prog 64 := ⟨Tryd.isAgg64, Tryd.sizeOf64⟩
instance : ZrTy Tryd.prog 64 .nilFunc := ⟨Tryd.zeroValue64⟩
instance : ScTy Tryd.prog 65 := ⟨Tryd.isAgg65, Tryd.sizeOf65⟩
instance : ZrTy Tryd.prog 65 .nilFunc := ⟨Tryd.zeroValue65⟩
instance : ScTy Tryd.prog 66 := ⟨Tryd.isAgg66, Tryd.sizeOf66⟩
instance : ZrTy Tryd.prog 66 .nilFunc := ⟨Tryd.zeroValue66⟩
instance : ZrTy Tryd.prog 67 (.pointer none) := ⟨Tryd.zeroValue67⟩
instance : BdTy Tryd.prog 69 (.agg #[(.pointer none), (.pointer none), (.int .u64 0)]) [(0, 1), (1, 1), (2, 1)] := ⟨Tryd.zeroValue69, _, Tryd.underlying69, fun w => by simp only [List.mapM_cons, List.mapM_nil, Sem.run_bind, Sem.run_pure, Result.andThen_ok, Tryd.sizeOf17, Tryd.sizeOf67, Tryd.sizeOf68]⟩
instance : FdTy Tryd.prog 69 0 0 0 false := ⟨_, _, Tryd.underlying69, rfl, rfl, Tryd.sizeOf17, Tryd.isAgg17⟩
instance : FdTy Tryd.prog 69 1 1 0 false := ⟨_, _, Tryd.underlying69, rfl, rfl, Tryd.sizeOf67, Tryd.isAgg67⟩
instance : FdTy Tryd.prog 69 2 2 0 false := ⟨_, _, Tryd.underlying69, rfl, rfl, Tryd.sizeOf68, Tryd.isAgg68⟩
instance : AgTy Tryd.prog 69 3 := ⟨Tryd.isAgg69, Tryd.sizeOf69⟩
instance : ZrTy Tryd.prog 69 (.agg #[(.pointer none), (.pointer none), (.int .u64 0)]) := ⟨Tryd.zeroValue69⟩
instance : BdTy Tryd.prog 70 (.agg #[(.pointer none), (.pointer none), (.int .u64 0)]) [(0, 1), (1, 1), (2, 1)] := ⟨Tryd.zeroValue70, _, Tryd.underlying70, fun w => by simp only [List.mapM_cons, List.mapM_nil, Sem.run_bind, Sem.run_pure, Result.andThen_ok, Tryd.sizeOf17, Tryd.sizeOf67, Tryd.sizeOf68]⟩
instance : FdTy Tryd.prog 70 0 0 0 false := ⟨_, _, Tryd.underlying70, rfl, rfl, Tryd.sizeOf17, Tryd.isAgg17⟩
instance : FdTy Tryd.prog 70 1 1 0 false := ⟨_, _, Tryd.underlying70, rfl, rfl, Tryd.sizeOf67, Tryd.isAgg67⟩
instance : FdTy Tryd.prog 70 2 2 0 false := ⟨_, _, Tryd.underlying70, rfl, rfl, Tryd.sizeOf68, Tryd.isAgg68⟩
instance : AgTy Tryd.prog 70 3 := ⟨Tryd.isAgg70, Tryd.sizeOf70⟩
instance : ZrTy Tryd.prog 70 (.agg #[(.pointer none), (.pointer none), (.int .u64 0)]) := ⟨Tryd.zeroValue70⟩
instance : ScTy Tryd.prog 71 := ⟨Tryd.isAgg71, Tryd.sizeOf71⟩
instance : ZrTy Tryd.prog 71 .nilFunc := ⟨Tryd.zeroValue71⟩
instance : ScTy Tryd.prog 73 := ⟨Tryd.isAgg73, Tryd.sizeOf73⟩
instance : ZrTy Tryd.prog 73 .nilIface := ⟨Tryd.zeroValue73⟩
instance : ScTy Tryd.prog 74 := ⟨Tryd.isAgg74, Tryd.sizeOf74⟩
instance : ZrTy Tryd.prog 74 .nilFunc := ⟨Tryd.zeroValue74⟩
instance : ScTy Tryd.prog 75 := ⟨Tryd.isAgg75, Tryd.sizeOf75⟩
instance : ZrTy Tryd.prog 75 (.int .u8 0) := ⟨Tryd.zeroValue75⟩
instance : ScTy Tryd.prog 76 := ⟨Tryd.isAgg76, Tryd.sizeOf76⟩
instance : ZrTy Tryd.prog 76 .nilFunc := ⟨Tryd.zeroValue76⟩
instance : ScTy Tryd.prog 77 := ⟨Tryd.isAgg77, Tryd.sizeOf77⟩
instance : ZrTy Tryd.prog 77 .nilFunc := ⟨Tryd.zeroValue77⟩
instance : ScTy Tryd.prog 78 := ⟨Tryd.isAgg78, Tryd.sizeOf78⟩
instance : ZrTy Tryd.prog 78 .nilFunc := ⟨Tryd.zeroValue78⟩
instance : ScTy Tryd.prog 79 := ⟨Tryd.isAgg79, Tryd.sizeOf79⟩
instance : ZrTy Tryd.prog 79 (.pointer none) := ⟨Tryd.zeroValue79⟩
instance : ScTy Tryd.prog 80 := ⟨Tryd.isAgg80, Tryd.sizeOf80⟩
instance : ZrTy Tryd.prog 80 .nilFunc := ⟨Tryd.zeroValue80⟩
instance : ScTy Tryd.prog 81 := ⟨Tryd.isAgg81, Tryd.sizeOf81⟩
instance : ZrTy Tryd.prog 81 .nilFunc := ⟨Tryd.zeroValue81⟩
instance : ScTy Tryd.prog 82 := ⟨Tryd.isAgg82, Tryd.sizeOf82⟩
instance : ZrTy Tryd.prog 82 (.pointer none) := ⟨Tryd.zeroValue82⟩
instance : ScTy Tryd.prog 86 := ⟨Tryd.isAgg86, Tryd.sizeOf86⟩
instance : ZrTy Tryd.prog 86 .nilFunc := ⟨Tryd.zeroValue86⟩
instance : ScTy Tryd.prog 87 := ⟨Tryd.isAgg87, Tryd.sizeOf87⟩
instance : ZrTy Tryd.prog 87 .nilFunc := ⟨Tryd.zeroValue87⟩
instance : ScTy Tryd.prog 90 := ⟨Tryd.isAgg90, Tryd.sizeOf90⟩
instance : ZrTy Tryd.prog 90 (.int .u64 0) := ⟨Tryd.zeroValue90⟩
instance : ScTy Tryd.prog 92 := ⟨Tryd.isAgg92, Tryd.sizeOf92⟩
instance : ZrTy Tryd.prog 92 .nilFunc := ⟨Tryd.zeroValue92⟩
instance : BdTy Tryd.prog 95 (.agg #[.nilIface]) [(0, 1)] := ⟨Tryd.zeroValue95, _, Tryd.underlying95, fun w => by simp only [List.mapM_cons, List.mapM_nil, Sem.run_bind, Sem.run_pure, Result.andThen_ok, Tryd.sizeOf27]⟩
instance : FdTy Tryd.prog 95 0 0 0 false := ⟨_, _, Tryd.underlying95, rfl, rfl, Tryd.sizeOf27, Tryd.isAgg27⟩
instance : AgTy Tryd.prog 95 1 := ⟨Tryd.isAgg95, Tryd.sizeOf95⟩
instance : ZrTy Tryd.prog 95 (.agg #[.nilIface]) := ⟨Tryd.zeroValue95⟩
instance : ScTy Tryd.prog 97 := ⟨Tryd.isAgg97, Tryd.sizeOf97⟩
instance : ZrTy Tryd.prog 97 (.pointer none) := ⟨Tryd.zeroValue97⟩
instance : BdTy Tryd.prog 98 (.agg #[(.string ⟨#[]⟩), (.int .i64 0)]) [(0, 1), (1, 1)] := ⟨Tryd.zeroValue98, _, Tryd.underlying98, fun w => by simp only [List.mapM_cons, List.mapM_nil, Sem.run_bind, Sem.run_pure, Result.andThen_ok, Tryd.sizeOf3, Tryd.sizeOf9]⟩
instance : FdTy Tryd.prog 98 0 0 0 false := ⟨_, _, Tryd.underlying98, rfl, rfl, Tryd.sizeOf9, Tryd.isAgg9⟩
instance : FdTy Tryd.prog 98 1 1 0 false := ⟨_, _, Tryd.underlying98, rfl, rfl, Tryd.sizeOf3, Tryd.isAgg3⟩
instance : AgTy Tryd.prog 98 2 := ⟨Tryd.isAgg98, Tryd.sizeOf98⟩
instance : ZrTy Tryd.prog 98 (.agg #[(.string ⟨#[]⟩), (.int .i64 0)]) := ⟨Tryd.zeroValue98⟩
instance : BdTy Tryd.prog 99 (.agg #[(.string ⟨#[]⟩), (.int .i64 0)]) [(0, 1), (1, 1)] := ⟨Tryd.zeroValue99, _, Tryd.underlying99, fun w => by simp only [List.mapM_cons, List.mapM_nil, Sem.run_bind, Sem.run_pure, Result.andThen_ok, Tryd.sizeOf3, Tryd.sizeOf9]⟩
instance : FdTy Tryd.prog 99 0 0 0 false := ⟨_, _, Tryd.underlying99, rfl, rfl, Tryd.sizeOf9, Tryd.isAgg9⟩
instance : FdTy Tryd.prog 99 1 1 0 false := ⟨_, _, Tryd.underlying99, rfl, rfl, Tryd.sizeOf3, Tryd.isAgg3⟩
instance : AgTy Tryd.prog 99 2 := ⟨Tryd.isAgg99, Tryd.sizeOf99⟩
instance : ZrTy Tryd.prog 99 (.agg #[(.string ⟨#[]⟩), (.int .i64 0)]) := ⟨Tryd.zeroValue99⟩
instance : ScTy Tryd.prog 100 := ⟨Tryd.isAgg100, Tryd.sizeOf100⟩
instance : ZrTy Tryd.prog 100 (.slice none 0 0) := ⟨Tryd.zeroValue100⟩
instance : SlTy Tryd.prog 100 2 (.int .i64 0) 1 8 := ⟨Tryd.underlying100, by kernel_rfl, Tryd.sizeOf2, rfl, by decide, by decide⟩
instance : ScTy Tryd.prog 101 := ⟨Tryd.isAgg101, Tryd.sizeOf101⟩
instance : ZrTy Tryd.prog 101 .nilFunc := ⟨Tryd.zeroValue101⟩
instance : ScTy Tryd.prog 102 := ⟨Tryd.isAgg102, Tryd.sizeOf102⟩
instance : ZrTy Tryd.prog 102 .nilFunc := ⟨Tryd.zeroValue102⟩
instance : ScTy Tryd.prog 103 := ⟨Tryd.isAgg103, Tryd.sizeOf103⟩
instance : ZrTy Tryd.prog 103 .nilFunc := ⟨Tryd.zeroValue103⟩
instance : ScTy Tryd.prog 105 := ⟨Tryd.isAgg105, Tryd.sizeOf105⟩
instance : ZrTy Tryd.prog 105 .nilFunc := ⟨Tryd.zeroValue105⟩
instance : ScTy Tryd.prog 106 := ⟨Tryd.isAgg106, Tryd.sizeOf106⟩
instance : ZrTy Tryd.prog 106 .nilFunc := ⟨Tryd.zeroValue106⟩
instance : BdTy Tryd.prog 107 (.agg #[(.pointer none)]) [(0, 1)] := ⟨Tryd.zeroValue107, _, Tryd.underlying107, fun w => by simp only [List.mapM_cons, List.mapM_nil, Sem.run_bind, Sem.run_pure, Result.andThen_ok, Tryd.sizeOf17]⟩
instance : FdTy Tryd.prog 107 0 0 0 false := ⟨_, _, Tryd.underlying107, rfl, rfl, Tryd.sizeOf17, Tryd.isAgg17⟩
instance : AgTy Tryd.prog 107 1 := ⟨Tryd.isAgg107, Tryd.sizeOf107⟩
instance : ZrTy Tryd.prog 107 (.agg #[(.pointer none)]) := ⟨Tryd.zeroValue107⟩
instance : BdTy Tryd.prog 108 (.agg #[(.pointer none)]) [(0, 1)] := ⟨Tryd.zeroValue108, _, Tryd.underlying108, fun w => by simp only [List.mapM_cons, List.mapM_nil, Sem.run_bind, Sem.run_pure, Result.andThen_ok, Tryd.sizeOf17]⟩
instance : FdTy Tryd.prog 108 0 0 0 false := ⟨_, _, Tryd.underlying108, rfl, rfl, Tryd.sizeOf17, Tryd.isAgg17⟩
instance : AgTy Tryd.prog 108 1 := ⟨Tryd.isAgg108, Tryd.sizeOf108⟩
instance : ZrTy Tryd.prog 108 (.agg #[(.pointer none)]) := ⟨Tryd.zeroValue108⟩
instance : ScTy Tryd.prog 109 := ⟨Tryd.isAgg109, Tryd.sizeOf109⟩
instance : ZrTy Tryd.prog 109 (.pointer none) := ⟨Tryd.zeroValue109⟩
instance : ScTy Tryd.prog 110 := ⟨Tryd.isAgg110, Tryd.sizeOf110⟩
instance : ZrTy Tryd.prog 110 .nilFunc := ⟨Tryd.zeroValue110⟩
instance : ScTy Tryd.prog 111 := ⟨Tryd.isAgg111, Tryd.sizeOf111⟩
instance : ZrTy Tryd.prog 111 .nilFunc := ⟨Tryd.zeroValue111⟩
instance : ScTy Tryd.prog 112 := ⟨Tryd.isAgg112, Tryd.sizeOf112⟩
instance : ZrTy Tryd.prog 112 .nilIface := ⟨Tryd.zeroValue112⟩
instance : ScTy Tryd.prog 114 := ⟨Tryd.isAgg114, Tryd.sizeOf114⟩
instance : ZrTy Tryd.prog 114 .nilFunc := ⟨Tryd.zeroValue114⟩
instance : ScTy Tryd.prog 115 := ⟨Tryd.isAgg115, Tryd.sizeOf115⟩
instance : ZrTy Tryd.prog 115 .nilIface := ⟨Tryd.zeroValue115⟩
instance : ScTy Tryd.prog 116 := ⟨Tryd.isAgg116, Tryd.sizeOf116⟩
instance : ZrTy Tryd.prog 116 .nilIface := ⟨Tryd.zeroValue116⟩
instance : ScTy Tryd.prog 117 := ⟨Tryd.isAgg117, Tryd.sizeOf117⟩
instance : ZrTy Tryd.prog 117 (.slice none 0 0) := ⟨Tryd.zeroValue117⟩
instance : SlTy Tryd.prog 117 27 .nilIface 1 16 := ⟨Tryd.underlying117, by kernel_rfl, Tryd.sizeOf27, rfl, by decide, by decide⟩
instance : ScTy Tryd.prog 118 := ⟨Tryd.isAgg118, Tryd.sizeOf118⟩
instance : ZrTy Tryd.prog 118 .nilFunc := ⟨Tryd.zeroValue118⟩
instance : ScTy Tryd.prog 119 := ⟨Tryd.isAgg119, Tryd.sizeOf119⟩
instance : ZrTy Tryd.prog 119 .nilIface := ⟨Tryd.zeroValue119⟩
instance : ScTy Tryd.prog 121 := ⟨Tryd.isAgg121, Tryd.sizeOf121⟩
instance : ZrTy Tryd.prog 121 .nilFunc := ⟨Tryd.zeroValue121⟩
instance : ScTy Tryd.prog 128 := ⟨Tryd.isAgg128, Tryd.sizeOf128⟩
instance : ZrTy Tryd.prog 128 .nilFunc := ⟨Tryd.zeroValue128⟩
instance : ScTy Tryd.prog 129 := ⟨Tryd.isAgg129, Tryd.sizeOf129⟩
instance : ZrTy Tryd.prog 129 .nilFunc := ⟨Tryd.zeroValue129⟩
instance : ScTy Tryd.prog 134 := ⟨Tryd.isAgg134, Tryd.sizeOf134⟩
instance : ZrTy Tryd.prog 134 (.int .u64 0) := ⟨Tryd.zeroValue134⟩
instance : AgTy Tryd.prog 137 24 := ⟨Tryd.isAgg137, Tryd.sizeOf137⟩
instance : ZrTy Tryd.prog 137 (.agg #[(.int .u8 0), (.int .u8 0), (.int .u8 0), (.int .u8 0), (.int .u8 0), (.int .u8 0), (.int .u8 0), (.int .u8 0), (.int .u8 0), (.int .u8 0), (.int .u8 0), (.int .u8 0), (.int .u8 0), (.int .u8 0), (.int .u8 0), (.int .u8 0), (.int .u8 0), (.int .u8 0), (.int .u8 0), (.int .u8 0), (.int .u8 0), (.int .u8 0), (.int .u8 0), (.int .u8 0)]) := ⟨Tryd.zeroValue137⟩
instance : ArTy Tryd.prog 137 24 5 1 := ⟨Tryd.underlying137, Tryd.sizeOf5⟩
instance : ScTy Tryd.prog 141 := ⟨Tryd.isAgg141, Tryd.sizeOf141⟩
instance : ZrTy Tryd.prog 141 .nilFunc := ⟨Tryd.zeroValue141⟩
instance : ScTy Tryd.prog 143 := ⟨Tryd.isAgg143, Tryd.sizeOf143⟩
instance : ZrTy Tryd.prog 143 .nilFunc := ⟨Tryd.zeroValue143⟩
instance : ScTy Tryd.prog 145 := ⟨Tryd.isAgg145, Tryd.sizeOf145⟩
instance : ZrTy Tryd.prog 145 (.int .i64 0) := ⟨Tryd.zeroValue145⟩
instance : ScTy Tryd.prog 148 := ⟨Tryd.isAgg148, Tryd.sizeOf148⟩
instance : ZrTy Tryd.prog 148 .nilFunc := ⟨Tryd.zeroValue148⟩
instance : ScTy Tryd.prog 152 := ⟨Tryd.isAgg152, Tryd.sizeOf152⟩
instance : ZrTy Tryd.prog 152 .nilFunc := ⟨Tryd.zeroValue152⟩
instance : ScTy Tryd.prog 153 := ⟨Tryd.isAgg153, Tryd.sizeOf153⟩
instance : ZrTy Tryd.prog 153 (.int .u32 0) := ⟨Tryd.zeroValue153⟩
instance : ScTy Tryd.prog 154 := ⟨Tryd.isAgg154, Tryd.sizeOf154⟩
instance : ZrTy Tryd.prog 154 .nilFunc := ⟨Tryd.zeroValue154⟩
instance : AgTy Tryd.prog 157 20 := ⟨Tryd.isAgg157, Tryd.sizeOf157⟩
instance : ZrTy Tryd.prog 157 (.agg #[(.int .u64 0), (.int .u64 0), (.int .u64 0), (.int .u64 0), (.int .u64 0), (.int .u64 0), (.int .u64 0), (.int .u64 0), (.int .u64 0), (.int .u64 0), (.int .u64 0), (.int .u64 0), (.int .u64 0), (.int .u64 0), (.int .u64 0), (.int .u64 0), (.int .u64 0), (.int .u64 0), (.int .u64 0), (.int .u64 0)]) := ⟨Tryd.zeroValue157⟩
instance : ArTy Tryd.prog 157 20 90 1 := ⟨Tryd.underlying157, Tryd.sizeOf90⟩
instance : AgTy Tryd.prog 158 65 := ⟨Tryd.isAgg158, Tryd.sizeOf158⟩
instance : ZrTy Tryd.prog 158 (.agg #[(.int .u8 0), (.int .u8 0), (.int .u8 0), (.int .u8 0), (.int .u8 0), (.int .u8 0), (.int .u8 0), (.int .u8 0), (.int .u8 0), (.int .u8 0), (.int .u8 0), (.int .u8 0), (.int .u8 0), (.int .u8 0), (.int .u8 0), (.int .u8 0), (.int .u8 0), (.int .u8 0), (.int .u8 0), (.int .u8 0), (.int .u8 0), (.int .u8 0), (.int .u8 0), (.int .u8 0), (.int .u8 0), (.int .u8 0), (.int .u8 0), (.int .u8 0), (.int .u8 0), (.int .u8 0), (.int .u8 0), (.int .u8 0), (.int .u8 0), (.int .u8 0), (.int .u8 0), (.int .u8 0), (.int .u8 0), (.int .u8 0), (.int .u8 0), (.int .u8 0), (.int .u8 0), (.int .u8 0), (.int .u8 0), (.int .u8 0), (.int .u8 0), (.int .u8 0), (.int .u8 0), (.int .u8 0), (.int .u8 0), (.int .u8 0), (.int .u8 0), (.int .u8 0), (.int .u8 0), (.int .u8 0), (.int .u8 0), (.int .u8 0), (.int .u8 0), (.int .u8 0), (.int .u8 0), (.int .u8 0), (.int .u8 0), (.int .u8 0), (.int .u8 0), (.int .u8 0), (.int .u8 0)]) := ⟨Tryd.zeroValue158⟩
instance : ArTy Tryd.prog 158 65 5 1 := ⟨Tryd.underlying158, Tryd.sizeOf5⟩
instance : ScTy Tryd.prog 163 := ⟨Tryd.isAgg163, Tryd.sizeOf163⟩
instance : ZrTy Tryd.prog 163 (.int .u64 0) := ⟨Tryd.zeroValue163⟩
instance : ScTy Tryd.prog 167 := ⟨Tryd.isAgg167, Tryd.sizeOf167⟩
instance : ZrTy Tryd.prog 167 (.pointer none) := ⟨Tryd.zeroValue167⟩
instance : ScTy Tryd.prog 171 := ⟨Tryd.isAgg171, Tryd.sizeOf171⟩
instance : ZrTy Tryd.prog 171 (.pointer none) := ⟨Tryd.zeroValue171⟩
instance : AgTy Tryd.prog 174 32 := ⟨Tryd.isAgg174, Tryd.sizeOf174⟩
instance : ZrTy Tryd.prog 174 (.agg #[(.int .u8 0), (.int .u8 0), (.int .u8 0), (.int .u8 0), (.int .u8 0), (.int .u8 0), (.int .u8 0), (.int .u8 0), (.int .u8 0), (.int .u8 0), (.int .u8 0), (.int .u8 0), (.int .u8 0), (.int .u8 0), (.int .u8 0), (.int .u8 0), (.int .u8 0), (.int .u8 0), (.int .u8 0), (.int .u8 0), (.int .u8 0), (.int .u8 0), (.int .u8 0), (.int .u8 0), (.int .u8 0), (.int .u8 0), (.int .u8 0), (.int .u8 0), (.int .u8 0), (.int .u8 0), (.int .u8 0), (.int .u8 0)]) := ⟨Tryd.zeroValue174⟩
instance : ArTy Tryd.prog 174 32 5 1 := ⟨Tryd.underlying174, Tryd.sizeOf5⟩
instance : AgTy Tryd.prog 175 64 := ⟨Tryd.isAgg175, Tryd.sizeOf175⟩
instance : ZrTy Tryd.prog 175 (.agg #[(.int .u8 0), (.int .u8 0), (.int .u8 0), (.int .u8 0), (.int .u8 0), (.int .u8 0), (.int .u8 0), (.int .u8 0), (.int .u8 0), (.int .u8 0), (.int .u8 0), (.int .u8 0), (.int .u8 0), (.int .u8 0), (.int .u8 0), (.int .u8 0), (.int .u8 0), (.int .u8 0), (.int .u8 0), (.int .u8 0), (.int .u8 0), (.int .u8 0), (.int .u8 0), (.int .u8 0), (.int .u8 0), (.int .u8 0), (.int .u8 0), (.int .u8 0), (.int .u8 0), (.int .u8 0), (.int .u8 0), (.int .u8 0), (.int .u8 0), (.int .u8 0), (.int .u8 0), (.int .u8 0), (.int .u8 0), (.int .u8 0), (.int .u8 0), (.int .u8 0), (.int .u8 0), (.int .u8 0), (.int .u8 0), (.int .u8 0), (.int .u8 0), (.int .u8 0), (.int .u8 0), (.int .u8 0), (.int .u8 0), (.int .u8 0), (.int .u8 0), (.int .u8 0), (.int .u8 0), (.int .u8 0), (.int .u8 0), (.int .u8 0), (.int .u8 0), (.int .u8 0), (.int .u8 0), (.int .u8 0), (.int .u8 0), (.int .u8 0), (.int .u8 0), (.int .u8 0)]) := ⟨Tryd.zeroValue175⟩
instance : ArTy Tryd.prog 175 64 5 1 := ⟨Tryd.underlying175, Tryd.sizeOf5⟩
instance : AgTy Tryd.prog 176 256 := ⟨Tryd.isAgg176, Tryd.sizeOf176⟩
instance : ZrTy Tryd.prog 176 (.agg #[(.int .u8 0), (.int .u8 0), (.int .u8 0), (.int .u8 0), (.int .u8 0), (.int .u8 0), (.int .u8 0), (.int .u8 0), (.int .u8 0), (.int .u8 0), (.int .u8 0), (.int .u8 0), (.int .u8 0), (.int .u8 0), (.int .u8 0), (.int .u8 0), (.int .u8 0), (.int .u8 0), (.int .u8 0), (.int .u8 0), (.int .u8 0), (.int .u8 0), (.int .u8 0), (.int .u8 0), (.int .u8 0), (.int .u8 0), (.int .u8 0), (.int .u8 0), (.int .u8 0), (.int .u8 0), (.int .u8 0), (.int .u8 0), (.int .u8 0), (.int .u8 0), (.int .u8 0), (.int .u8 0), (.int .u8 0), (.int .u8 0), (.int .u8 0), (.int .u8 0), (.int .u8 0), (.int .u8 0), (.int .u8 0), (.int .u8 0), (.int .u8 0), (.int .u8 0), (.int .u8 0), (.int .u8 0), (.int .u8 0), (.int .u8 0), (.int .u8 0), (.int .u8 0), (.int .u8 0), (.int .u8 0), (.int .u8 0), (.int .u8 0), (.int .u8 0), (.int .u8 0), (.int .u8 0), (.int .u8 0), (.int .u8 0), (.int .u8 0), (.int .u8 0), (.int .u8 0), (.int .u8 0), (.int .u8 0), (.int .u8 0), (.int .u8 0), (.int .u8 0), (.int .u8 0), (.int .u8 0), (.int .u8 0), (.int .u8 0), (.int .u8 0), (.int .u8 0), (.int .u8 0), (.int .u8 0), (.int .u8 0), (.int .u8 0), (.int .u8 0), (.int .u8 0), (.int .u8 0), (.int .u8 0), (.int .u8 0), (.int .u8 0), (.int .u8 0), (.int .u8 0), (.int .u8 0), (.int .u8 0), (.int .u8 0), (.int .u8 0), (.int .u8 0), (.int .u8 0), (.int .u8 0), (.int .u8 0), (.int .u8 0), (.int .u8 0), (.int .u8 0), (.int .u8 0), (.int .u8 0), (.int .u8 0), (.int .u8 0), (.int .u8 0), (.int .u8 0), (.int .u8 0), (.int .u8 0), (.int .u8 0), (.int .u8 0), (.int .u8 0), (.int .u8 0), (.int .u8 0), (.int .u8 0), (.int .u8 0), (.int .u8 0), (.int .u8 0), (.int .u8 0), (.int .u8 0), (.int .u8 0), (.int .u8 0), (.int .u8 0), (.int .u8 0), (.int .u8 0), (.int .u8 0), (.int .u8 0), (.int .u8 0), (.int .u8 0), (.int .u8 0), (.int .u8 0), (.int .u8 0), (.int .u8 0), (.int .u8 0), (.int .u8 0), (.int .u8 0), (.int .u8 0), (.int .u8 0), (.int .u8 0), (.int .u8 0), (.int .u8 0), (.int .u8 0), (.int .u8 0), (.int .u8 0), (.int .u8 0), (.int .u8 0), (.int .u8 0), (.int .u8 0), (.int .u8 0), (.int .u8 0), (.int .u8 0), (.int .u8 0), (.int .u8 0), (.int .u8 0), (.int .u8 0), (.int .u8 0), (.int .u8 0), (.int .u8 0), (.int .u8 0), (.int .u8 0), (.int .u8 0), (.int .u8 0), (.int .u8 0), (.int .u8 0), (.int .u8 0), (.int .u8 0), (.int .u8 0), (.int .u8 0), (.int .u8 0), (.int .u8 0), (.int .u8 0), (.int .u8 0), (.int .u8 0), (.int .u8 0), (.int .u8 0), (.int .u8 0), (.int .u8 0), (.int .u8 0), (.int .u8 0), (.int .u8 0), (.int .u8 0), (.int .u8 0), (.int .u8 0), (.int .u8 0), (.int .u8 0), (.int .u8 0), (.int .u8 0), (.int .u8 0), (.int .u8 0), (.int .u8 0), (.int .u8 0), (.int .u8 0), (.int .u8 0), (.int .u8 0), (.int .u8 0), (.int .u8 0), (.int .u8 0), (.int .u8 0), (.int .u8 0), (.int .u8 0), (.int .u8 0), (.int .u8 0), (.int .u8 0), (.int .u8 0), (.int .u8 0), (.int .u8 0), (.int .u8 0), (.int .u8 0), (.int .u8 0), (.int .u8 0), (.int .u8 0), (.int .u8 0), (.int .u8 0), (.int .u8 0), (.int .u8 0), (.int .u8 0), (.int .u8 0), (.int .u8 0), (.int .u8 0), (.int .u8 0), (.int .u8 0), (.int .u8 0), (.int .u8 0), (.int .u8 0), (.int .u8 0), (.int .u8 0), (.int .u8 0), (.int .u8 0), (.int .u8 0), (.int .u8 0), (.int .u8 0), (.int .u8 0), (.int .u8 0), (.int .u8 0), (.int .u8 0), (.int .u8 0), (.int .u8 0), (.int .u8 0), (.int .u8 0), (.int .u8 0), (.int .u8 0), (.int .u8 0), (.int .u8 0), (.int .u8 0), (.int .u8 0), (.int .u8 0), (.int .u8 0), (.int .u8 0), (.int .u8 0), (.int .u8 0), (.int .u8 0), (.int .u8 0), (.int .u8 0), (.int .u8 0), (.int .u8 0), (.int .u8 0), (.int .u8 0), (.int .u8 0), (.int .u8 0)]) := ⟨Tryd.zeroValue176⟩
instance : ArTy Tryd.prog 176 256 5 1 := ⟨Tryd.underlying176, Tryd.sizeOf5⟩
instance : BdTy Tryd.prog 178 (.agg #[(.int .u8 0), (.int .u8 0)]) [(0, 1), (1, 1)] := ⟨Tryd.zeroValue178, _, Tryd.underlying178, fun w => by simp only [List.mapM_cons, List.mapM_nil, Sem.run_bind, Sem.run_pure, Result.andThen_ok, Tryd.sizeOf5]⟩
instance : FdTy Tryd.prog 178 0 0 0 false := ⟨_, _, Tryd.underlying178, rfl, rfl, Tryd.sizeOf5, Tryd.isAgg5⟩
instance : FdTy Tryd.prog 178 1 1 0 false := ⟨_, _, Tryd.underlying178, rfl, rfl, Tryd.sizeOf5, Tryd.isAgg5⟩
instance : AgTy Tryd.prog 178 2 := ⟨Tryd.isAgg178, Tryd.sizeOf178⟩
instance : ZrTy Tryd.prog 178 (.agg #[(.int .u8 0), (.int .u8 0)]) := ⟨Tryd.zeroValue178⟩
instance : AgTy Tryd.prog 179 32 := ⟨Tryd.isAgg179, Tryd.sizeOf179⟩
instance : ZrTy Tryd.prog 179 (.agg #[(.int .u8 0), (.int .u8 0), (.int .u8 0), (.int .u8 0), (.int .u8 0), (.int .u8 0), (.int .u8 0), (.int .u8 0), (.int .u8 0), (.int .u8 0), (.int .u8 0), (.int .u8 0), (.int .u8 0), (.int .u8 0), (.int .u8 0), (.int .u8 0), (.int .u8 0), (.int .u8 0), (.int .u8 0), (.int .u8 0), (.int .u8 0), (.int .u8 0), (.int .u8 0), (.int .u8 0), (.int .u8 0), (.int .u8 0), (.int .u8 0), (.int .u8 0), (.int .u8 0), (.int .u8 0), (.int .u8 0), (.int .u8 0)]) := ⟨Tryd.zeroValue179⟩
instance : ArTy Tryd.prog 179 16 178 2 := ⟨Tryd.underlying179, Tryd.sizeOf178⟩
instance : ScTy Tryd.prog 186 := ⟨Tryd.isAgg186, Tryd.sizeOf186⟩
instance : ZrTy Tryd.prog 186 .nilFunc := ⟨Tryd.zeroValue186⟩
instance : ScTy Tryd.prog 190 := ⟨Tryd.isAgg190, Tryd.sizeOf190⟩
instance : ZrTy Tryd.prog 190 (.int .i32 0) := ⟨Tryd.zeroValue190⟩
instance : BdTy Tryd.prog 192 (.agg #[(.int .u64 0), (.int .u64 0), (.int .u32 0), (.int .u8 0), (.int .u8 0), (.int .u8 0), (.int .u8 0), .nilFunc, (.pointer none), (.int .i32 0), (.int .i32 0)]) [(0, 1), (1, 1), (2, 1), (3, 1), (4, 1), (5, 1), (6, 1), (7, 1), (8, 1), (9, 1), (10, 1)] := ⟨Tryd.zeroValue192, _, Tryd.underlying192, fun w => by simp only [List.mapM_cons, List.mapM_nil, Sem.run_bind, Sem.run_pure, Result.andThen_ok, Tryd.sizeOf5, Tryd.sizeOf12, Tryd.sizeOf75, Tryd.sizeOf153, Tryd.sizeOf187, Tryd.sizeOf188, Tryd.sizeOf189, Tryd.sizeOf190, Tryd.sizeOf191]⟩
instance : FdTy Tryd.prog 192 0 0 0 false := ⟨_, _, Tryd.underlying192, rfl, rfl, Tryd.sizeOf12, Tryd.isAgg12⟩
instance : FdTy Tryd.prog 192 1 1 0 false := ⟨_, _, Tryd.underlying192, rfl, rfl, Tryd.sizeOf12, Tryd.isAgg12⟩
instance : FdTy Tryd.prog 192 2 2 0 false := ⟨_, _, Tryd.underlying192, rfl, rfl, Tryd.sizeOf153, Tryd.isAgg153⟩
instance : FdTy Tryd.prog 192 3 3 0 false := ⟨_, _, Tryd.underlying192, rfl, rfl, Tryd.sizeOf187, Tryd.isAgg187⟩
instance : FdTy Tryd.prog 192 4 4 0 false := ⟨_, _, Tryd.underlying192, rfl, rfl, Tryd.sizeOf5, Tryd.isAgg5⟩
instance : FdTy Tryd.prog 192 5 5 0 false := ⟨_, _, Tryd.underlying192, rfl, rfl, Tryd.sizeOf5, Tryd.isAgg5⟩
instance : FdTy Tryd.prog 192 6 6 0 false := ⟨_, _, Tryd.underlying192, rfl, rfl, Tryd.sizeOf75, Tryd.isAgg75⟩
instance : FdTy Tryd.prog 192 7 7 0 false := ⟨_, _, Tryd.underlying192, rfl, rfl, Tryd.sizeOf188, Tryd.isAgg188⟩
instance : FdTy Tryd.prog 192 8 8 0 false := ⟨_, _, Tryd.underlying192, rfl, rfl, Tryd.sizeOf189, Tryd.isAgg189⟩
instance : FdTy Tryd.prog 192 9 9 0 false := ⟨_, _, Tryd.underlying192, rfl, rfl, Tryd.sizeOf190, Tryd.isAgg190⟩
instance : FdTy Tryd.prog 192 10 10 0 false := ⟨_, _, Tryd.underlying192, rfl, rfl, Tryd.sizeOf191, Tryd.isAgg191⟩
instance : AgTy Tryd.prog 192 11 := ⟨Tryd.isAgg192, Tryd.sizeOf192⟩
instance : ZrTy Tryd.prog 192 (.agg #[(.int .u64 0), (.int .u64 0), (.int .u32 0), (.int .u8 0), (.int .u8 0), (.int .u8 0), (.int .u8 0), .nilFunc, (.pointer none), (.int .i32 0), (.int .i32 0)]) := ⟨Tryd.zeroValue192⟩
instance : FnTy Tryd.prog 3 := ⟨Tryd.call3⟩
instance : FnTy Tryd.prog 4 := ⟨Tryd.call4⟩
instance : FnTy Tryd.prog 5 := ⟨Tryd.call5⟩
instance : FnTy Tryd.prog 6 := ⟨Tryd.call6⟩
instance : FnTy Tryd.prog 8 := ⟨Tryd.call8⟩
instance : FnTy Tryd.prog 9 := ⟨Tryd.call9⟩
instance : FnTy Tryd.prog 10 := ⟨Tryd.call10⟩
instance : FnTy Tryd.prog 11 := ⟨Tryd.call11⟩
instance : FnTy Tryd.prog 12 := ⟨Tryd.call12⟩
instance : FnTy Tryd.prog 13 := ⟨Tryd.call13⟩
instance : FnTy Tryd.prog 14 := ⟨Tryd.call14⟩
instance : FnTy Tryd.prog 15 := ⟨Tryd.call15⟩
instance : FnTy Tryd.prog 16 := ⟨Tryd.call16⟩
instance : FnTy Tryd.prog 17 := ⟨Tryd.call17⟩
instance : FnTy Tryd.prog 19 := ⟨Tryd.call19⟩
instance : FnTy Tryd.prog 20 := ⟨Tryd.call20⟩
instance : FnTy Tryd.prog 21 := ⟨Tryd.call21⟩
instance : FnTy Tryd.prog 22 := ⟨Tryd.call22⟩
instance : FnTy Tryd.prog 23 := ⟨Tryd.call23⟩
instance : FnTy Tryd.prog 24 := ⟨Tryd.call24⟩
instance : FnTy Tryd.prog 25 := ⟨Tryd.call25⟩
instance : FnTy Tryd.prog 26 := ⟨Tryd.call26⟩
instance : FnTy Tryd.prog 27 := ⟨Tryd.call27⟩
instance : FnTy Tryd.prog 29 := ⟨Tryd.call29⟩
instance : FnTy Tryd.prog 33 := ⟨Tryd.call33⟩
instance : FnTy Tryd.prog 34 := ⟨Tryd.call34⟩
instance : FnTy Tryd.prog 35 := ⟨Tryd.call35⟩
instance : FnTy Tryd.prog 37 := ⟨Tryd.call37⟩
instance : FnTy Tryd.prog 38 := ⟨Tryd.call38⟩
instance : FnTy Tryd.prog 39 := ⟨Tryd.call39⟩
instance : FnTy Tryd.prog 40 := ⟨Tryd.call40⟩
instance : FnTy Tryd.prog 41 := ⟨Tryd.call41⟩
instance : FnTy Tryd.prog 42 := ⟨Tryd.call42⟩
instance : FnTy Tryd.prog 43 := ⟨Tryd.call43⟩
instance : FnTy Tryd.prog 44 := ⟨Tryd.call44⟩
instance : FnTy Tryd.prog 45 := ⟨Tryd.call45⟩
instance : FnTy Tryd.prog 46 := ⟨Tryd.call46⟩
instance : FnTy Tryd.prog 47 := ⟨Tryd.call47⟩
instance : FnTy Tryd.prog 48 := ⟨Tryd.call48⟩
instance : FnTy Tryd.prog 49 := ⟨Tryd.call49⟩
instance : FnTy Tryd.prog 53 := ⟨Tryd.call53⟩
instance : FnTy Tryd.prog 54 := ⟨Tryd.call54⟩
instance : FnTy Tryd.prog 55 := ⟨Tryd.call55⟩
instance : FnTy Tryd.prog 56 := ⟨Tryd.call56⟩
instance : FnTy Tryd.prog 57 := ⟨Tryd.call57⟩
instance : FnTy Tryd.prog 58 := ⟨Tryd.call58⟩
instance : FnTy Tryd.prog 59 := ⟨Tryd.call59⟩
instance : FnTy Tryd.prog 60 := ⟨Tryd.call60⟩
instance : FnTy Tryd.prog 61 := ⟨Tryd.call61⟩
instance : FnTy Tryd.prog 62 := ⟨Tryd.call62⟩
instance : FnTy Tryd.prog 63 := ⟨Tryd.call63⟩
instance : FnTy Tryd.prog 64 := ⟨Tryd.call64⟩
instance : FnTy Tryd.prog 65 := ⟨Tryd.call65⟩
instance : FnTy Tryd.prog 66 := ⟨Tryd.call66⟩
instance : FnTy Tryd.prog 67 := ⟨Tryd.call67⟩
instance : FnTy Tryd.prog 68 := ⟨Tryd.call68⟩
instance : FnTy Tryd.prog 69 := ⟨Tryd.call69⟩
instance : FnTy Tryd.prog 70 := ⟨Tryd.call70⟩
instance : FnTy Tryd.prog 71 := ⟨Tryd.call71⟩
instance : FnTy Tryd.prog 72 := ⟨Tryd.call72⟩
instance : FnTy Tryd.prog 73 := ⟨Tryd.call73⟩
instance : FnTy Tryd.prog 74 := ⟨Tryd.call74⟩
instance : FnTy Tryd.prog 75 := ⟨Tryd.call75⟩
instance : FnTy Tryd.prog 76 := ⟨Tryd.call76⟩
instance : FnTy Tryd.prog 77 := ⟨Tryd.call77⟩
instance : FnTy Tryd.prog 78 := ⟨Tryd.call78⟩
instance : FnTy Tryd.prog 79 := ⟨Tryd.call79⟩
instance : FnTy Tryd.prog 80 := ⟨Tryd.call80⟩
instance : FnTy Tryd.prog 81 := ⟨Tryd.call81⟩
instance : FnTy Tryd.prog 82 := ⟨Tryd.call82⟩
instance : FnTy Tryd.prog 83 := ⟨Tryd.call83⟩
instance : FnTy Tryd.prog 84 := ⟨Tryd.call84⟩
instance : FnTy Tryd.prog 85 := ⟨Tryd.call85⟩
instance : FnTy Tryd.prog 86 := ⟨Tryd.call86⟩
instance : FnTy Tryd.prog 87 := ⟨Tryd.call87⟩
instance : FnTy Tryd.prog 88 := ⟨Tryd.call88⟩
instance : FnTy Tryd.prog 89 := ⟨Tryd.call89⟩
instance : FnTy Tryd.prog 90 := ⟨Tryd.call90⟩
instance : FnTy Tryd.prog 91 := ⟨Tryd.call91⟩
instance : FnTy Tryd.prog 92 := ⟨Tryd.call92⟩
instance : FnTy Tryd.prog 93 := ⟨Tryd.call93⟩
instance : FnTy Tryd.prog 94 := ⟨Tryd.call94⟩
instance : FnTy Tryd.prog 98 := ⟨Tryd.call98⟩
instance : FnTy Tryd.prog 99 := ⟨Tryd.call99⟩
instance : FnTy Tryd.prog 101 := ⟨Tryd.call101⟩
instance : FnTy Tryd.prog 102 := ⟨Tryd.call102⟩
instance : FnTy Tryd.prog 103 := ⟨Tryd.call103⟩
instance : FnTy Tryd.prog 104 := ⟨Tryd.call104⟩
instance : FnTy Tryd.prog 105 := ⟨Tryd.call105⟩
instance : FnTy Tryd.prog 106 := ⟨Tryd.call106⟩
instance : FnTy Tryd.prog 107 := ⟨Tryd.call107⟩
instance : FnTy Tryd.prog 110 := ⟨Tryd.call110⟩
instance : FnTy Tryd.prog 111 := ⟨Tryd.call111⟩
end Go.Proofs.YtllkoinbfegonaaDoor
end
section
set_option linter.unusedVariables false
namespace Go.Proofs
open Go.Shelf
def Tryd.cutpLay_ren : Go.Shelf.Ren := ⟨fun | 103 => 41 | 210 => 55 | 206 => 64 | n => n, fun | 9 => 9 | 4 => 4 | 24 => 88 | 3 => 3 | n => n, fun | n => n⟩
theorem Tryd.cutpLay : Go.Proofs.Lays.n103 Tryd.prog Tryd.cutpLay_ren := {
  mixed := by kernel_rfl
  f103 := Tryd.func41.trans (congrArg some (by kernel_rfl))
  f206 := Tryd.func64.trans (congrArg some (by kernel_rfl))
  f210 := Tryd.func55.trans (congrArg some (by kernel_rfl))
  t3 := Tryd.underlying3
  a3 := Tryd.isAgg3
  z3 := Tryd.sizeOf3
  v3 := Tryd.zeroValue3
  t4 := Tryd.underlying4
  a4 := Tryd.isAgg4
  z4 := Tryd.sizeOf4
  v4 := Tryd.zeroValue4
  t9 := Tryd.underlying9
  a9 := Tryd.isAgg9
  z9 := Tryd.sizeOf9
  v9 := Tryd.zeroValue9
  t24 := Tryd.underlying88
  a24 := Tryd.isAgg88
  z24 := Tryd.sizeOf88
  v24 := Tryd.zeroValue88 }
end Go.Proofs
namespace Go.Proofs.YtllkoinbfegonaaDoor
open Go Go.RowKit Go.Sl
theorem CutPrefix_ok (s p : ByteArray) (w : World) :
    Calls Tryd.prog 41 #[.string s, .string p] w (Post w No (Just (.tuple #[.string ⟨(Lib.trimPrefix s.data.toList p.data.toList).toArray⟩, .bool (Lib.hasPrefix s.data.toList p.data.toList)]))) := by
  have c := Any.strings_CutPrefix Tryd.cutpLay s p w
  change Calls Tryd.prog 41 _ _ _ at c
  refine Calls.mono c ?_
  rintro e w' ⟨rfl, rfl⟩
  exact ⟨_, [], ⟨rfl, rfl⟩, rfl, No, Mod.refl _ _, trivial⟩
end Go.Proofs.YtllkoinbfegonaaDoor
end
section
set_option linter.unusedVariables false
namespace Go.Num
/-- the parts between all bytes c -/
def splitL (c : UInt8) : List UInt8 → List (List UInt8)
  | [] => [[]]
  | b :: l => if b = c then [] :: splitL c l else match splitL c l with
    | [] => [[b]]
    | x :: r => (b :: x) :: r
/-- what is ahead of the first c, and behind it -/
def cutL (c : UInt8) : List UInt8 → Option (List UInt8 × List UInt8)
  | [] => none
  | b :: l => if b = c then some ([], l) else (cutL c l).map fun p => (b :: p.1, p.2)
theorem splitL_ne (c : UInt8) : ∀ l, splitL c l ≠ []
  | [] => by simp [splitL]
  | b :: l => by
    unfold splitL
    split
    · simp
    · split <;> simp
theorem splitL_none {c : UInt8} : ∀ {l : List UInt8}, c ∉ l → splitL c l = [l]
  | [], _ => rfl
  | b :: l, h => by
    have hb : b ≠ c := fun e => h (by rw [e]; exact .head _)
    rw [splitL, if_neg hb, splitL_none (l := l) fun hm => h (.tail _ hm)]
theorem splitL_hit {c : UInt8} : ∀ {a b : List UInt8}, c ∉ a → splitL c (a ++ c :: b) = a :: splitL c b
  | [], b, _ => by simp [splitL]
  | x :: a, b, h => by
    have hb : x ≠ c := fun e => h (by rw [e]; exact .head _)
    rw [List.cons_append, splitL, if_neg hb, splitL_hit (a := a) fun hm => h (.tail _ hm)]
theorem cutL_none {c : UInt8} : ∀ {l : List UInt8}, c ∉ l → cutL c l = none
  | [], _ => rfl
  | b :: l, h => by
    have hb : b ≠ c := fun e => h (by rw [e]; exact .head _)
    rw [cutL, if_neg hb, cutL_none (l := l) fun hm => h (.tail _ hm)]; rfl
theorem cutL_hit {c : UInt8} : ∀ {a b : List UInt8}, c ∉ a → cutL c (a ++ c :: b) = some (a, b)
  | [], b, _ => by simp [cutL]
  | x :: a, b, h => by
    have hb : x ≠ c := fun e => h (by rw [e]; exact .head _)
    rw [List.cons_append, cutL, if_neg hb, cutL_hit (a := a) fun hm => h (.tail _ hm)]; rfl
/-- a list has no c, or it's one up to its first c, and what is behind it -/
theorem first_cases (c : UInt8) : ∀ l : List UInt8, c ∉ l ∨ ∃ a b, l = a ++ c :: b ∧ c ∉ a
  | [] => .inl (by simp)
  | x :: l => by
    by_cases e : x = c
    · exact .inr ⟨[], l, by rw [e]; rfl, by simp⟩
    · rcases first_cases c l with h | ⟨a, b, rfl, h⟩
      · exact .inl fun hm => by
          rcases List.mem_cons.1 hm with hm | hm
          · exact e hm.symm
          · exact h hm
      · exact .inr ⟨x :: a, b, rfl, fun hm => by
          rcases List.mem_cons.1 hm with hm | hm
          · exact e hm.symm
          · exact h hm⟩
theorem index_none1 {c : UInt8} : ∀ {l : List UInt8}, c ∉ l → Lib.index l [c] = -1
  | [], _ => rfl
  | b :: l, h => by
    have hb : ([c] : List UInt8).isPrefixOf (b :: l) = false := by
      show (c == b && true) = false
      rw [Bool.and_true, beq_eq_false_iff_ne]
      exact fun e => h (by rw [e]; exact .head _)
    unfold Lib.index
    rw [hb, index_none1 (l := l) fun hm => h (.tail _ hm)]
    rfl
theorem index_hit1 {c : UInt8} : ∀ {a b : List UInt8}, c ∉ a → Lib.index (a ++ c :: b) [c] = a.length
  | [], b, _ => by
    show Lib.index (c :: b) [c] = 0
    unfold Lib.index
    rw [if_pos (by show (c == c && true) = true; simp)]
  | x :: a, b, h => by
    have hb : ([c] : List UInt8).isPrefixOf (x :: (a ++ c :: b)) = false := by
      show (c == x && true) = false
      rw [Bool.and_true, beq_eq_false_iff_ne]
      exact fun e => h (by rw [e]; exact .head _)
    show Lib.index (x :: (a ++ c :: b)) [c] = _
    unfold Lib.index
    rw [hb, index_hit1 (a := a) fun hm => h (.tail _ hm)]
    have : (((a.length : Nat) : Int) == -1) = false := by rw [beq_eq_false_iff_ne]; omega
    simp [this]
theorem cut_one (c : UInt8) (l : List UInt8) : Lib.cut l [c] = match cutL c l with | some p => (p.1, p.2, true) | none => (l, [], false) := by
  rcases first_cases c l with h | ⟨a, b, rfl, h⟩
  · rw [cutL_none h, Lib.cut, index_none1 h]; rfl
  · rw [cutL_hit h, Lib.cut, index_hit1 h, if_pos (by omega)]
    simp
theorem splitK_one (c : UInt8) : ∀ (m : Nat) (l : List UInt8), l.length ≤ m → Lib.splitK [c] 0 (l.count c) l = splitL c l := by
  intro m
  induction m with
  | zero =>
    intro l hl
    obtain rfl : l = [] := List.eq_nil_of_length_eq_zero (by omega)
    rfl
  | succ m ih =>
    intro l hl
    rcases first_cases c l with h | ⟨a, b, rfl, h⟩
    · rw [splitL_none h, List.count_eq_zero.2 h]; rfl
    · rw [splitL_hit h, List.count_append, List.count_eq_zero.2 h, List.count_cons_self, Nat.zero_add]
      rw [Lib.splitK, index_hit1 h]
      have : (((a.length : Nat) : Int) == -1) = false := by rw [beq_eq_false_iff_ne]; omega
      rw [this]
      simp only [Bool.false_eq_true, if_false, Int.toNat_natCast, Nat.add_zero, List.length_singleton]
      rw [List.take_left, show (a ++ c :: b).drop (a.length + 1) = b by rw [← List.drop_drop, List.drop_left]; rfl]
      rw [ih b (by simp at hl; omega)]
theorem split_one (c : UInt8) (s : ByteArray) : (Lib.splitB ⟨#[c]⟩ 0 (Lib.countB s ⟨#[c]⟩) s).map (·.data.toList) = splitL c s.data.toList := by
  rw [Lib.splitB_data]
  have : Lib.countB s ⟨#[c]⟩ = s.data.toList.count c := Lib.count_one c _
  rw [this]
  exact splitK_one c _ _ (Nat.le_refl _)
theorem splitL_length (c : UInt8) : ∀ l, (splitL c l).length ≤ l.length + 1
  | [] => by simp [splitL]
  | b :: l => by
    have := splitL_length c l
    unfold splitL
    split
    · simp; omega
    · split
      · simp
      · rename_i h; rw [h] at this; simp at this ⊢; omega
theorem splitL_size (c : UInt8) : ∀ l, ∀ x ∈ splitL c l, x.length ≤ l.length
  | [], x, h => by
    obtain rfl : x = [] := by simpa [splitL] using h
    simp
  | b :: l, x, h => by
    unfold splitL at h
    split at h
    · rcases List.mem_cons.1 h with rfl | h
      · simp
      · have := splitL_size c l x h; simp; omega
    · split at h
      · rcases List.mem_cons.1 h with rfl | h
        · simp
        · cases h
      · rename_i y r e
        rcases List.mem_cons.1 h with rfl | h
        · have := splitL_size c l y (by rw [e]; exact .head _); simp; omega
        · have := splitL_size c l x (by rw [e]; exact .tail _ h); simp; omega
theorem cutL_len {c : UInt8} {l a b : List UInt8} (h : cutL c l = some (a, b)) : l = a ++ c :: b := by
  rcases first_cases c l with h1 | ⟨x, y, rfl, h1⟩
  · rw [cutL_none h1] at h; cases h
  · rw [cutL_hit h1] at h
    obtain ⟨rfl, rfl⟩ := Prod.mk.inj (Option.some.inj h)
    rfl
end Go.Num
end
section
set_option linter.unusedVariables false
namespace Go.Proofs
open Go.Shelf
def Tryd.cutLay_ren : Go.Shelf.Ren := ⟨fun | 145 => 56 | 220 => 65 | 219 => 75 | 217 => 94 | 225 => 95 | 224 => 96 | 267 => 97 | 266 => 108 | 314 => 109 | n => n, fun | 9 => 9 | 4 => 4 | 59 => 123 | 3 => 3 | 5 => 5 | 46 => 134 | 146 => 169 | 51 => 153 | n => n, fun | 1 => 2 | n => n⟩
theorem Tryd.cutLay : Go.Proofs.Lays.n145 Tryd.prog Tryd.cutLay_ren := {
  mixed := by kernel_rfl
  f145 := Tryd.func56.trans (congrArg some (by kernel_rfl))
  f217 := Tryd.func94.trans (congrArg some (by kernel_rfl))
  f219 := Tryd.func75.trans (congrArg some (by kernel_rfl))
  f220 := Tryd.func65.trans (congrArg some (by kernel_rfl))
  f224 := Tryd.func96.trans (congrArg some (by kernel_rfl))
  f225 := Tryd.func95.trans (congrArg some (by kernel_rfl))
  f266 := Tryd.func108.trans (congrArg some (by kernel_rfl))
  f267 := Tryd.func97.trans (congrArg some (by kernel_rfl))
  f314 := Tryd.func109.trans (congrArg some (by kernel_rfl))
  t3 := Tryd.underlying3
  a3 := Tryd.isAgg3
  z3 := Tryd.sizeOf3
  v3 := Tryd.zeroValue3
  t4 := Tryd.underlying4
  a4 := Tryd.isAgg4
  z4 := Tryd.sizeOf4
  v4 := Tryd.zeroValue4
  t5 := Tryd.underlying5
  a5 := Tryd.isAgg5
  z5 := Tryd.sizeOf5
  v5 := Tryd.zeroValue5
  t9 := Tryd.underlying9
  a9 := Tryd.isAgg9
  z9 := Tryd.sizeOf9
  v9 := Tryd.zeroValue9
  t46 := Tryd.underlying134
  a46 := Tryd.isAgg134
  z46 := Tryd.sizeOf134
  v46 := Tryd.zeroValue134
  t51 := Tryd.underlying153
  a51 := Tryd.isAgg153
  z51 := Tryd.sizeOf153
  v51 := Tryd.zeroValue153
  t59 := Tryd.underlying123
  a59 := Tryd.isAgg123
  z59 := Tryd.sizeOf123
  v59 := Tryd.zeroValue123
  t146 := Tryd.underlying169
  a146 := Tryd.isAgg169
  z146 := Tryd.sizeOf169
  v146 := Tryd.zeroValue169
  g1 := by kernel_rfl }
def Tryd.splitLay_ren : Go.Shelf.Ren := ⟨fun | 146 => 57 | 221 => 66 | 268 => 76 | 138 => 77 | 143 => 78 | 195 => 98 | 197 => 99 | 218 => 100 | 219 => 75 | 260 => 110 | 217 => 94 | 225 => 95 | 224 => 96 | 267 => 97 | 266 => 108 | 314 => 109 | n => n, fun | 9 => 9 | 31 => 46 | 3 => 3 | 4 => 4 | 0 => 0 | 105 => 161 | 21 => 21 | 5 => 5 | 46 => 134 | 119 => 176 | 139 => 179 | 138 => 178 | 146 => 169 | 51 => 153 | n => n, fun | 1 => 2 | 3 => 5 | 4 => 6 | n => n⟩
theorem Tryd.splitLay : Go.Proofs.Lays.n146 Tryd.prog Tryd.splitLay_ren := {
  mixed := by kernel_rfl
  f138 := Tryd.func77.trans (congrArg some (by kernel_rfl))
  f143 := Tryd.func78.trans (congrArg some (by kernel_rfl))
  f146 := Tryd.func57.trans (congrArg some (by kernel_rfl))
  f195 := Tryd.func98.trans (congrArg some (by kernel_rfl))
  f197 := Tryd.func99.trans (congrArg some (by kernel_rfl))
  f217 := Tryd.func94.trans (congrArg some (by kernel_rfl))
  f218 := Tryd.func100.trans (congrArg some (by kernel_rfl))
  f219 := Tryd.func75.trans (congrArg some (by kernel_rfl))
  f221 := Tryd.func66.trans (congrArg some (by kernel_rfl))
  f224 := Tryd.func96.trans (congrArg some (by kernel_rfl))
  f225 := Tryd.func95.trans (congrArg some (by kernel_rfl))
  f260 := Tryd.func110.trans (congrArg some (by kernel_rfl))
  f266 := Tryd.func108.trans (congrArg some (by kernel_rfl))
  f267 := Tryd.func97.trans (congrArg some (by kernel_rfl))
  f268 := Tryd.func76.trans (congrArg some (by kernel_rfl))
  f314 := Tryd.func109.trans (congrArg some (by kernel_rfl))
  t0 := Tryd.underlying0
  a0 := Tryd.isAgg0
  z0 := Tryd.sizeOf0
  v0 := Tryd.zeroValue0
  t3 := Tryd.underlying3
  a3 := Tryd.isAgg3
  z3 := Tryd.sizeOf3
  v3 := Tryd.zeroValue3
  t4 := Tryd.underlying4
  a4 := Tryd.isAgg4
  z4 := Tryd.sizeOf4
  v4 := Tryd.zeroValue4
  t5 := Tryd.underlying5
  a5 := Tryd.isAgg5
  z5 := Tryd.sizeOf5
  v5 := Tryd.zeroValue5
  t9 := Tryd.underlying9
  a9 := Tryd.isAgg9
  z9 := Tryd.sizeOf9
  v9 := Tryd.zeroValue9
  t21 := Tryd.underlying21
  a21 := Tryd.isAgg21
  z21 := Tryd.sizeOf21
  v21 := Tryd.zeroValue21
  t31 := Tryd.underlying46
  a31 := Tryd.isAgg46
  z31 := Tryd.sizeOf46
  v31 := Tryd.zeroValue46
  t46 := Tryd.underlying134
  a46 := Tryd.isAgg134
  z46 := Tryd.sizeOf134
  v46 := Tryd.zeroValue134
  t51 := Tryd.underlying153
  a51 := Tryd.isAgg153
  z51 := Tryd.sizeOf153
  v51 := Tryd.zeroValue153
  t105 := Tryd.underlying161
  a105 := Tryd.isAgg161
  z105 := Tryd.sizeOf161
  v105 := Tryd.zeroValue161
  t119 := Tryd.underlying176
  a119 := Tryd.isAgg176
  z119 := Tryd.sizeOf176
  t138 := Tryd.underlying178
  a138 := Tryd.isAgg178
  z138 := Tryd.sizeOf178
  v138 := Tryd.zeroValue178
  t139 := Tryd.underlying179
  a139 := Tryd.isAgg179
  z139 := Tryd.sizeOf179
  v139 := Tryd.zeroValue179
  t146 := Tryd.underlying169
  a146 := Tryd.isAgg169
  z146 := Tryd.sizeOf169
  v146 := Tryd.zeroValue169
  g1 := by kernel_rfl
  g3 := by kernel_rfl
  g4 := by kernel_rfl }
end Go.Proofs
namespace Go.Proofs.YtllkoinbfegonaaDoor
open Go Go.RowKit Go.Sl Go.Num
/-- a library's variable that holds a number, where it is read -/
def MX (w : World) (S : FS) : Prop := ∀ w' S', Mod w S w' S' → ∃ m, w'.cell? ⟨2, 0, none⟩ = some (.int .i64 m)
theorem MX.old {w0 w : World} {S0 : FS} {L : List HP} (hs : St w0 S0 L w) (hr : MX w0 S0) : MX w No := by
  intro w' S' hm
  obtain ⟨S, hm0, _⟩ := hs
  exact hr w' (fun k => S k ∨ S' k) (hm0.trans ⟨hm.os, hm.tape, hm.output, hm.drawn, hm.size, fun k hk _ => hm.keep k hk (fun h => h), fun k hk => hk.imp id (fun h => (hm.new k h).elim (fun h => h.elim) id)⟩)
theorem MX.lent {w0 w : World} {S0 S : FS} {L0 Lr : List HP} (h : Lent w0 S0 L0 Lr S w) (hr : MX w0 S0) : MX w S := by
  intro w' S' hm
  obtain ⟨Sf, hm0, hS⟩ := h.old
  exact hr w' (fun k => Sf k ∨ S' k) (hm0.trans ⟨hm.os, hm.tape, hm.output, hm.drawn, hm.size, fun k hk hn => hm.keep k hk (fun h => hn (hS k h)), fun k hk => hk.elim .inl (fun h => (hm.new k h).imp (hS k) id)⟩)
theorem mod_drewN (w : World) (k : Nat) : Mod w No (w.drewN k) No :=
  ⟨rfl, rfl, rfl, Nat.le_add_right _ _, Nat.le_refl _, fun _ _ _ => rfl, fun _ h => h.elim⟩
theorem Cut_ok (s : ByteArray) (c : UInt8) (w : World) (hz : s.size < 4294967281) (hM : MX w No) :
    Calls Tryd.prog 56 #[.string s, .string ⟨#[c]⟩] w (Post w No (Just (match cutL c s.data.toList with
      | some p => .tuple #[.string ⟨p.1.toArray⟩, .string ⟨p.2.toArray⟩, .bool true]
      | none => .tuple #[.string s, .string ⟨#[]⟩, .bool false]))) := by
  obtain ⟨m, hm⟩ := hM w No (Mod.refl _ _)
  have c1 := Any.strings_Cut Tryd.cutLay s ⟨#[c]⟩ m w hz hm
  change Calls Tryd.prog 56 _ _ _ at c1
  rw [show (⟨#[c]⟩ : ByteArray).data.toList = [c] from rfl, cut_one] at c1
  refine Calls.mono c1 ?_
  rintro e w' ⟨rfl, k, rfl⟩
  refine ⟨_, [], ⟨?_, rfl⟩, rfl, No, mod_drewN w k, trivial⟩
  cases cutL c s.data.toList <;> rfl
/-- strings, byte for byte -/
def strB (l : List (List UInt8)) : List Value := l.map fun x => .string ⟨x.toArray⟩
theorem strB_length (l : List (List UInt8)) : (strB l).length = l.length := List.length_map ..
theorem strB_get {l : List (List UInt8)} {k : Nat} {x : List UInt8} (h : l[k]? = some x) : (strB l)[k]? = some (.string ⟨x.toArray⟩) := by simp [strB, h]
theorem Split_ok (s : ByteArray) (c : UInt8) (w : World) (hz : s.size < 4294967281) (hM : MX w No) :
    Calls Tryd.prog 57 #[.string s, .string ⟨#[c]⟩] w (Post w No fun u L' => L' = [rowHP u 9 1 (splitL c s.data.toList).length (strB (splitL c s.data.toList))]) := by
  obtain ⟨m, hm⟩ := hM w No (Mod.refl _ _)
  have c1 := Any.strings_Split Tryd.splitLay (by kernel_rfl) s ⟨#[c]⟩ m w hz hm (Nat.le_refl _)
  change Calls Tryd.prog 57 _ _ _ at c1
  have hlen := Lib.splitB_all ⟨#[c]⟩ (Nat.le_refl _) 0 _ s rfl
  have hpc := split_one c s
  have hll : (splitL c s.data.toList).length = Lib.countB s ⟨#[c]⟩ + 1 := by rw [← hpc, List.length_map, hlen]
  have hvs : (Lib.splitB ⟨#[c]⟩ 0 (Lib.countB s ⟨#[c]⟩) s).map Value.string = strB (splitL c s.data.toList) := by
    rw [← hpc, strB, List.map_map]
    rfl
  have hcl : Lib.countB s ⟨#[c]⟩ + 1 ≤ maxLen := by
    have := splitL_length c s.data.toList
    rw [hll] at this
    have : s.data.toList.length = s.size := by simp
    simp only [maxLen]; omega
  refine Calls.mono c1 ?_
  rintro e w' ⟨rfl, rfl⟩
  rw [hvs]
  refine ⟨_, _, rfl, rfl, fun k => w.heap.size ≤ k, mod_alloc w _, fun k => w.heap.size ≤ k, fun _ => False, fun _ h => h, fun _ h => h.elim, fun _ _ h => h, ?_, trivial⟩
  refine ⟨by rw [strB_length]; omega, .inr (.inl ⟨w.heap.size, 0, _, _, by rw [hll], Nat.le_refl _, heap_alloc_new w _, by rw [hll]; exact Nat.le_refl _, hcl, ?_, ?_⟩)⟩
  · simp [strB_length, hll]
  · simp [strB_length, hll, List.take_of_length_le]
end Go.Proofs.YtllkoinbfegonaaDoor
end
section
set_option linter.unusedVariables false
namespace Go.Num
/-- is it a digit's byte? -/
def dig (b : UInt8) : Bool := decide (48 ≤ b.toNat ∧ b.toNat ≤ 57)
def val (l : List UInt8) : Nat := l.foldl (fun n b => n * 10 + (b.toNat - 48)) 0
def good (l : List UInt8) (neg : Bool) : Prop := l ≠ [] ∧ ¬ (l.head? = some 48 ∧ (neg = true ∨ 1 < l.length)) ∧ l.all dig = true ∧ val l ≤ 9223372036854775808 ∧ (neg = false → val l ≠ 9223372036854775808)
instance (l : List UInt8) (neg : Bool) : Decidable (good l neg) := by unfold good; infer_instance
def body (l : List UInt8) (neg : Bool) : Option Int := if good l neg then some (if neg then -(val l : Int) else (val l : Int)) else none
/-- is the first byte a minus? -/
def isNeg (l : List UInt8) : Bool := l.head? == some 45
def num (l : List UInt8) : Option Int := if isNeg l then body l.tail true else body l false
theorem foldl_le : ∀ (l : List UInt8) (n : Nat), n ≤ l.foldl (fun n b => n * 10 + (b.toNat - 48)) n
  | [], n => Nat.le_refl _
  | b :: l, n => by
    have := foldl_le l (n * 10 + (b.toNat - 48))
    rw [List.foldl_cons]; omega
theorem foldl_mul : ∀ (l : List UInt8) (n : Nat), n * 10 ^ l.length ≤ l.foldl (fun n b => n * 10 + (b.toNat - 48)) n
  | [], n => by simp
  | b :: l, n => by
    have := foldl_mul l (n * 10 + (b.toNat - 48))
    rw [List.foldl_cons, List.length_cons, Nat.pow_succ]
    refine Nat.le_trans ?_ this
    rw [Nat.mul_comm (10 ^ l.length) 10, ← Nat.mul_assoc]
    exact Nat.mul_le_mul_right _ (by omega)
theorem val_snoc (l : List UInt8) (b : UInt8) : val (l ++ [b]) = val l * 10 + (b.toNat - 48) := by simp [val]
theorem val_take_le (l : List UInt8) (k : Nat) : val (l.take k) ≤ val l := by
  have e : val l = (l.drop k).foldl (fun n b => n * 10 + (b.toNat - 48)) (val (l.take k)) := by
    show l.foldl _ 0 = (l.drop k).foldl _ ((l.take k).foldl _ 0)
    rw [← List.foldl_append, List.take_append_drop]
  rw [e]
  exact foldl_le _ _
theorem take_snoc {l : List UInt8} {k : Nat} {b : UInt8} (h : l[k]? = some b) : l.take (k + 1) = l.take k ++ [b] := by rw [List.take_add_one, h]; rfl
theorem body_none_dig {l : List UInt8} {neg : Bool} {b : UInt8} (hb : b ∈ l) (h : dig b = false) : body l neg = none := by
  refine if_neg fun hg => ?_
  have := List.all_eq_true.1 hg.2.2.1 b hb
  rw [h] at this; cases this
theorem body_none_val {l : List UInt8} {neg : Bool} {k : Nat} (h : 9223372036854775808 < val (l.take k)) : body l neg = none := by
  refine if_neg fun hg => ?_
  have := val_take_le l k
  have := hg.2.2.2.1
  omega
/-- more than 19 digits are too many -/
theorem body_none_long {l : List UInt8} {neg : Bool} (h : 19 < l.length) : body l neg = none := by
  refine if_neg fun hg => ?_
  obtain ⟨hne, h0, hd, hv, _⟩ := hg
  cases l with
  | nil => exact hne rfl
  | cons b l =>
    have hb := List.all_eq_true.1 hd b (.head _)
    have hb' := of_decide_eq_true hb
    have h48 : b.toNat ≠ 48 := fun e => h0 ⟨by
      have : b = 48 := UInt8.toNat_inj.1 e
      rw [this]; rfl, .inr (by simp only [List.length_cons] at h ⊢; omega)⟩
    have hm := foldl_mul l (0 * 10 + (b.toNat - 48))
    have hv2 : val (b :: l) = l.foldl (fun n b => n * 10 + (b.toNat - 48)) (0 * 10 + (b.toNat - 48)) := rfl
    have h1 : 1 * 10 ^ 19 ≤ (0 * 10 + (b.toNat - 48)) * 10 ^ l.length := by
      refine Nat.mul_le_mul (by omega) (Nat.pow_le_pow_right (by decide) (by simp only [List.length_cons] at h; omega))
    have h2 : (1 * 10 ^ 19 : Nat) = 10000000000000000000 := by decide
    omega
/-- the program's test ahead of a digit -/
theorem step_ok {a d : Nat} (hd : d ≤ 9) (ha : a ≤ 9223372036854775808) : (¬ (-(a : Int) < (-9223372036854775808 + (d : Int)).tdiv 10)) ↔ a * 10 + d ≤ 9223372036854775808 := by
  have e : (-9223372036854775808 + (d : Int)).tdiv 10 = -((9223372036854775808 - (d : Int)) / 10) := by
    rw [show -9223372036854775808 + (d : Int) = -(9223372036854775808 - (d : Int)) by omega, Int.neg_tdiv, Int.tdiv_eq_ediv_of_nonneg (by omega)]
  rw [e]
  omega
theorem foldl_lt : ∀ (l : List UInt8) (n m : Nat), l.all dig = true → n < 10 ^ m → l.foldl (fun n b => n * 10 + (b.toNat - 48)) n < 10 ^ (m + l.length)
  | [], n, m, _, h => h
  | b :: l, n, m, hd, h => by
    rw [List.all_cons, Bool.and_eq_true] at hd
    have hb := of_decide_eq_true hd.1
    have := foldl_lt l (n * 10 + (b.toNat - 48)) (m + 1) hd.2 (by rw [Nat.pow_succ]; omega)
    rw [List.foldl_cons, List.length_cons, show m + (l.length + 1) = m + 1 + l.length by omega]
    exact this
theorem val_lt {l : List UInt8} (h : l.all dig = true) : val l < 10 ^ l.length := by
  have := foldl_lt l 0 0 h (by decide)
  rwa [Nat.zero_add] at this
theorem val_pos {l : List UInt8} (hne : l ≠ []) (hd : l.all dig = true) (h0 : l.head? ≠ some 48) : 1 ≤ val l := by
  cases l with
  | nil => exact absurd rfl hne
  | cons b l =>
    have hb := of_decide_eq_true (List.all_eq_true.1 hd b (.head _))
    have h48 : b.toNat ≠ 48 := fun e => h0 (by rw [show b = 48 from UInt8.toNat_inj.1 e]; rfl)
    have := foldl_le l (0 * 10 + (b.toNat - 48))
    show 1 ≤ l.foldl _ (0 * 10 + (b.toNat - 48))
    omega
theorem num_bound {l : List UInt8} {i : Int} (h : num l = some i) : -9223372036854775808 ≤ i ∧ i ≤ 9223372036854775807 := by
  have key : ∀ {l neg}, body l neg = some i → -9223372036854775808 ≤ i ∧ i ≤ 9223372036854775807 := by
    intro l neg h
    unfold body at h
    split at h
    · rename_i hg
      have h1 := hg.2.2.2.1
      have h2 := hg.2.2.2.2
      cases neg with
      | true => obtain rfl := Option.some.inj h; simp only [if_true]; omega
      | false => obtain rfl := Option.some.inj h; have := h2 rfl; simp only [Bool.false_eq_true, if_false]; omega
    · cases h
  unfold num at h
  split at h <;> exact key h
end Go.Num
end
section
set_option linter.unusedVariables false
namespace Go.Num
def numsL : List (List UInt8) → Option (List Int)
  | [] => some []
  | x :: r => match num x, numsL r with
    | some i, some l => some (i :: l)
    | _, _ => none
theorem numsL_length : ∀ {ws : List (List UInt8)} {ns : List Int}, numsL ws = some ns → ns.length = ws.length
  | [], ns, h => by obtain rfl := Option.some.inj h; rfl
  | x :: r, ns, h => by
    rw [numsL] at h
    cases hx : num x with
    | none => rw [hx] at h; cases h
    | some i =>
      cases hr : numsL r with
      | none => rw [hx, hr] at h; cases h
      | some l =>
        rw [hx, hr] at h
        obtain rfl := Option.some.inj h
        simp [numsL_length hr]
theorem numsL_snoc : ∀ {ws : List (List UInt8)} {ns : List Int} {x : List UInt8} {i : Int}, numsL ws = some ns → num x = some i → numsL (ws ++ [x]) = some (ns ++ [i])
  | [], ns, x, i, h, hx => by obtain rfl := Option.some.inj h; simp [numsL, hx]
  | y :: r, ns, x, i, h, hx => by
    rw [numsL] at h
    cases hy : num y with
    | none => rw [hy] at h; cases h
    | some j =>
      cases hr : numsL r with
      | none => rw [hy, hr] at h; cases h
      | some l =>
        rw [hy, hr] at h
        obtain rfl := Option.some.inj h
        rw [List.cons_append, numsL, hy, numsL_snoc hr hx]; rfl
theorem numsL_bad {ws : List (List UInt8)} {x : List UInt8} (hx : x ∈ ws) (h : num x = none) : numsL ws = none := by
  induction ws with
  | nil => cases hx
  | cons y r ih =>
    rw [numsL]
    rcases List.mem_cons.1 hx with rfl | hx
    · rw [h]
    · rw [ih hx]; cases num y <;> rfl
theorem numsL_bound : ∀ {ws : List (List UInt8)} {ns : List Int}, numsL ws = some ns → ∀ i ∈ ns, -9223372036854775808 ≤ i ∧ i ≤ 9223372036854775807
  | [], ns, h, i, hi => by obtain rfl := Option.some.inj h; cases hi
  | x :: r, ns, h, i, hi => by
    rw [numsL] at h
    cases hx : num x with
    | none => rw [hx] at h; cases h
    | some j =>
      cases hr : numsL r with
      | none => rw [hx, hr] at h; cases h
      | some l =>
        rw [hx, hr] at h
        obtain rfl := Option.some.inj h
        rcases List.mem_cons.1 hi with rfl | hi
        · exact num_bound hx
        · exact numsL_bound hr i hi
/-- the words of a line, held against the first one and how many they are -/
def wordsOk (ws : List (List UInt8)) (first : List UInt8) (many : Nat) : Prop := ws.head? = some first ∧ ws.length = many + 1
instance (ws : List (List UInt8)) (first : List UInt8) (many : Nat) : Decidable (wordsOk ws first many) := by unfold wordsOk; infer_instance
/-- the numbers of a line -/
def lineN (l first : List UInt8) (many : Nat) : Option (List Int) := if wordsOk (splitL 32 l) first many then numsL (splitL 32 l).tail else none
/-- the numbers of the next line, and what is behind it -/
def lineL (s first : List UInt8) (many : Nat) : Option (List Int × List UInt8) := match cutL 10 s with
  | none => none
  | some p => (lineN p.1 first many).map fun ns => (ns, p.2)
theorem lineN_length {l first : List UInt8} {many : Nat} {ns : List Int} (h : lineN l first many = some ns) : ns.length = many := by
  unfold lineN at h
  split at h
  · rename_i hw
    have := numsL_length h
    rw [this, List.length_tail, hw.2]; omega
  · cases h
theorem lineL_len {s first : List UInt8} {many : Nat} {ns : List Int} {r : List UInt8} (h : lineL s first many = some (ns, r)) : ns.length = many ∧ r.length < s.length ∧ ∀ i ∈ ns, -9223372036854775808 ≤ i ∧ i ≤ 9223372036854775807 := by
  unfold lineL at h
  cases hc : cutL 10 s with
  | none => rw [hc] at h; cases h
  | some p =>
    rw [hc] at h
    cases hn : lineN p.1 first many with
    | none => simp only [hn] at h; cases h
    | some m =>
      simp only [hn] at h
      obtain ⟨rfl, rfl⟩ := Prod.mk.inj (Option.some.inj h)
      have := cutL_len (a := p.1) (b := p.2) hc
      refine ⟨lineN_length hn, by rw [this]; simp; omega, ?_⟩
      unfold lineN at hn
      split at hn
      · exact numsL_bound hn
      · cases hn
end Go.Num
end
section
set_option linter.unusedVariables false
namespace Go.Sl
open Go Go.RowKit
section
variable {P : Program} {w0 : World} {S0 : FS} {n : Nat} {F : List (Nat × Value)} {L : List HP} {R : Act → World → Prop} [HasD n]
/-- one that waits for a guard that is met -/
theorem g_on {ops : Array Oper} {Q : Exit → Act → World → Prop} {rest : List Oper} {ds : Option Tmp} {op : Op} {ty : TypeId} {ps : String} {af : Array Edge} {gd : Nat × Bool} {t : Nat} {want : Bool} (hg : gslot ops ⟨ds, op, ty, ps, af, some gd⟩ = some (t, want)) (ht : fget F t = some (.bool want))
    (h : Reach w0 S0 n F L (wpList P ops Q (⟨ds, op, ty, ps, af, none⟩ :: rest))) : Reach w0 S0 n F L (wpList P ops Q (⟨ds, op, ty, ps, af, some gd⟩ :: rest)) := by
  intro a w hf hs
  have h1 := h a w hf hs
  have e1 := wanted_of hf hg ht
  unfold wpList at h1 ⊢
  rw [e1]
  simp only [Region.wanted, beq_self_eq_true, if_true] at h1 ⊢
  exact h1
end
end Go.Sl
end
section
set_option linter.unusedVariables false
set_option linter.unusedSimpArgs false
namespace Go.Sl
open Go Go.RowKit
/-- a type of booleans -/
class BoTy (P : Program) (t : TypeId) : Prop where
  u : P.underlying t = some .bool
section
variable {P : Program} {w0 : World} {S0 : FS} {n : Nat} {F : List (Nat × Value)} {L : List HP} {o : Oper} {x y : Operand} {t t' : TypeId} {p q : Bool} [HasD n]
end
end Go.Sl
end
section
set_option linter.unusedVariables false
set_option linter.unusedSimpArgs false
set_option linter.unusedSectionVars false
namespace Go.Sl
open Go Go.RowKit Go.Maps
open Go.ChangeMaps (setBlock)
section
variable {α β : Type} [DecidableEq α]
def putK (ks : List (α × β)) (a : α) (b : β) : List (α × β) := if a ∈ ks.map Prod.fst then ks.map (fun p => if p.1 = a then (a, b) else p) else ks ++ [(a, b)]
end
class MapTy (P : Program) (t : TypeId) (α : outParam Type) (β : outParam Type) (ek : outParam (α → Value)) (ev : outParam (β → Value)) (ok : outParam (α → Prop)) (z : outParam β) (k : outParam TypeId) : Prop where
  e : ∃ e, P.underlying t = some (.map k e) ∧ ∀ w, (zeroValue e).run P w = .ok (ev z) w
  keyed : Keyed P k
  key : ∀ a, ok a → ∃ l, keyOf P k (ek a) = some l
  inj : ∀ a b, ek a = ek b → a = b
def Ents {α β : Type} (ek : α → Value) (ev : β → Value) (es : Array MapEntry) (ks : List (α × β)) : Prop := es.toList.map (fun x => (x.key, x.val)) = ks.map fun p => (ek p.1, ev p.2)
section
variable {α β : Type} {ek : α → Value} {ev : β → Value} {ok : α → Prop}
theorem Ents.size {es : Array MapEntry} {ks : List (α × β)} (h : Ents ek ev es ks) : es.size = ks.length := by
  have := congrArg List.length h
  simpa using this
theorem Ents.at {es : Array MapEntry} {ks : List (α × β)} (h : Ents ek ev es ks) {i : Nat} {x : MapEntry} (hx : es.toList[i]? = some x) : ∃ p, ks[i]? = some p ∧ x.key = ek p.1 ∧ x.val = ev p.2 := by
  have e := congrArg (fun l => l[i]?) h
  simp only [List.getElem?_map, hx, Option.map_some] at e
  obtain ⟨p, hp, e⟩ := Option.map_eq_some_iff.1 e.symm
  simp only [Prod.mk.injEq] at e
  exact ⟨p, hp, e.1.symm, e.2.symm⟩
theorem Ents.mem {es : Array MapEntry} {ks : List (α × β)} (h : Ents ek ev es ks) {x : MapEntry} (hx : x ∈ es.toList) : ∃ p ∈ ks, x.key = ek p.1 ∧ x.val = ev p.2 := by
  obtain ⟨i, hi⟩ := List.mem_iff_getElem?.1 hx
  obtain ⟨p, h1, h2⟩ := h.at hi
  exact ⟨p, List.mem_of_getElem? h1, h2⟩
/-- what a map reads as -/
def RdM (ek : α → Value) (ev : β → Value) (ok : α → Prop) (w : World) (v : Value) (ks : List (α × β)) : Prop :=
  (v = .map none ∧ ks = []) ∨ ∃ b es clock, v = .map (some b) ∧ w.heap[b]? = some (.map es clock) ∧ Ents ek ev es ks ∧ (ks.map Prod.fst).Nodup ∧ ∀ p ∈ ks, ok p.1
def RM (ek : α → Value) (ev : β → Value) (ok : α → Prop) (w : World) (S : FS) (v : Value) (ks : List (α × β)) : Prop := ∀ w' S', Mod w S w' S' → RdM ek ev ok w' v ks
end
section
variable {P : Program} {w0 : World} {S0 : FS} {n : Nat} {F : List (Nat × Value)} {L : List HP} {o : Oper} {rest : List Oper} {ops : Array Oper} {Q : Exit → Act → World → Prop} {d : Nat} {v : Value} {α β : Type} {ek : α → Value} {ev : β → Value} {ok : α → Prop} {z : β} [HasD n]
theorem RM.of_rd {v : Value} {ks : List (α × β)} (h : RdM ek ev ok w0 v ks) : RM ek ev ok w0 (fun _ => False) v ks := by
  intro w S hm
  rcases h with h | ⟨b, es, c, h1, h2, h3⟩
  · exact .inl h
  · exact .inr ⟨b, es, c, h1, by rw [hm.keep b (Array.getElem?_eq_some_iff.1 h2).1 (fun h => h)]; exact h2, h3⟩
variable [DecidableEq α]
theorem Ents.put {es : Array MapEntry} {ks : List (α × β)} {j : Nat} {a : α} {b b0 : β} (he : Ents ek ev es ks) (hn : (ks.map Prod.fst).Nodup) (hj : ks[j]? = some (a, b0)) (hx : ∀ x, es.toList[j]? = some x → x.key = ek a) : Ents ek ev (es.modify j fun e => { e with key := ek a, val := ev b }) (putK ks a b) := by
  have hmem : a ∈ ks.map Prod.fst := List.mem_map.2 ⟨(a, b0), List.mem_of_getElem? hj, rfl⟩
  rw [putK, if_pos hmem]
  apply List.ext_getElem?
  intro i
  have e := congrArg (fun l => l[i]?) he
  simp only [List.getElem?_map, Array.toList_modify, List.getElem?_modify] at e ⊢
  cases hk : ks[i]? with
  | none =>
    rw [hk, Option.map_none, Option.map_eq_none_iff] at e
    rw [e]
    simp
  | some p =>
    rw [hk, Option.map_some] at e
    obtain ⟨x, hx1, e⟩ := Option.map_eq_some_iff.1 e
    rw [hx1]
    by_cases hij : j = i
    · subst hij
      rw [hj] at hk
      obtain rfl : (a, b0) = p := by simpa using hk
      simp
    · have hne : p.1 ≠ a := fun e1 => by
        have h1 : (ks.map Prod.fst)[i]? = some a := by simp [hk, e1]
        have h2 : (ks.map Prod.fst)[j]? = some a := by simp [hj]
        obtain ⟨l1, g1⟩ := List.getElem?_eq_some_iff.1 h1
        obtain ⟨l2, g2⟩ := List.getElem?_eq_some_iff.1 h2
        rcases Nat.lt_or_gt_of_ne hij with h | h
        · exact List.pairwise_iff_getElem.1 hn j i l2 l1 h (by rw [g1, g2])
        · exact List.pairwise_iff_getElem.1 hn i j l1 l2 h (by rw [g1, g2])
      simp [hij, hne, e]
section
variable {ty : TypeId} {ps : String} {af : Array Edge}
end
end
abbrev okI (i : Int) : Prop := -9223372036854775808 ≤ i ∧ i ≤ 9223372036854775807
abbrev ekI (i : Int) : Value := .int .i64 i
def setN (l : List Nat) : List (Int × Bool) := l.map fun u : Nat => ((u : Int), true)
section
variable {P : Program} {w0 : World} {S0 : FS} {n : Nat} {F : List (Nat × Value)} {L : List HP} [HasD n]
/-- what sets are read as -/
structure RMs (w : World) (S : FS) (v : Value) (hs : List Value) (N : Nat) (A : Nat → Option (List Nat)) : Prop where
  shp : Shp v N
  len : hs.length = N
  ro : RO w S v hs
  none : ∀ i : Nat, i < N → A i = none → hs[i]? = some (.map none)
  some : ∀ i : Nat, ∀ l, i < N → A i = some l → ∃ b, hs[i]? = some (.map (some b)) ∧ RM ekI Value.bool okI w S (.map (some b)) (setN l)
end
end Go.Sl
end
section
set_option linter.unusedVariables false
namespace Go.Sl
open Go Go.RowKit
section
variable {P : Program} {w0 : World} {S0 : FS} {n : Nat} {F : List (Nat × Value)} {L Lk : List HP} {rest : List Oper} {ops : Array Oper} {Q : Exit → Act → World → Prop} {Qa : Act → Prop} {d i : Nat} {v : Value} {ty : TypeId} {ps : String} {af : Array Edge} {plan : List PI} [HasD n]
end
end Go.Sl
end
section
namespace Go.Sl
open Go.RowKit
section
variable {P : Program} {w0 : World} {S0 : FS} {n : Nat} {F : List (Nat × Value)} {L Lk : List HP} {rest : List Oper} {ops : Array Oper} {Q : Exit → Act → World → Prop} {d i : Nat} {ty : TypeId} {ps : String} {af : Array Edge} {plan : List PI} [HasD n]
theorem run_mkrow0 {t e : TypeId} {z : Value} {sz bytes : Nat} [T : SlTy P t e z sz bytes] (w : World) :
    (Instr.buildSlice t 0 #[]).run P w = .ok (.slice (some ⟨w.heap.size, 0, none⟩) 0 0) (w.alloc (.cells #[] e (0, 0))) := by
  simp only [Instr.buildSlice, Sem.run_bind, Sem.run_pure, run_under T.u, T.size, Result.andThen_ok]
  simp [Instr.fill, run_newRow]
  exact congrArg (fun c => w.alloc (Obj.cells c e (0, 0))) (Array.toList_inj.1 (by simp))
theorem o_mk0 {t e : TypeId} {z : Value} {sz bytes : Nat} [T : SlTy P t e z sz bytes] (hn : Nat.blt d n = true)
    (h : ∀ v, Shp v 0 → Reach w0 S0 n ((d, v) :: F) (rowHP v e sz 0 [] :: L) (wpList P ops Q rest)) : Reach w0 S0 n F L (wpList P ops Q (⟨some d, .buildSlice t 0 #[], ty, ps, af, none⟩ :: rest)) :=
  s_of_l rfl fun R hR => l_mkrow rfl rfl hn (fun a _ w => by simpa using run_mkrow0 (T := T) w) (by simp) (by simp only [maxLen]; omega) fun v hv => (h v hv).imp hR
end
end Go.Sl
end
section
namespace Go.Sl
open Go.RowKit
/-- an integer type -/
class InTy (P : Program) (t : TypeId) (k : outParam IntKind) : Prop where
  u : P.underlying t = some (.int k)
section
variable {P : Program} {w0 : World} {S0 : FS} {n : Nat} {F : List (Nat × Value)} {L Lk : List HP} {rest : List Oper} {ops : Array Oper} {Q : Exit → Act → World → Prop} {d i : Nat} {v : Value} {plan : List PI} {ty : TypeId} {ps : String} {af : Array Edge} [HasD n]
variable {o : Oper} {x y : Operand} {t t' : TypeId} {a b r : Int} {k k' : IntKind}
theorem run_conv [T : InTy P t k] [T' : InTy P t' k'] (w : World) (h : k'.min ≤ a ∧ a ≤ k'.max) : (Go.convert t t' (.int k a)).run P w = .ok (.int k' a) w := by
  simp [Go.convert, run_underlying T.u, run_underlying T'.u, Conv.intToInt, wrap_id h]
theorem q_conv [T : InTy P t k] [T' : InTy P t' k'] (ho : o.op = .convert t t' x) (hx : ev F x = some (.int k a)) (h : k'.min ≤ a ∧ a ≤ k'.max) : R1 P w0 S0 n F L o (.int k' a) :=
  q_of_pure fun ac hf w => by simp [execOp, ho, hf.eval hx, run_conv w h]
theorem q_nilc {p : Addr} (ho : o.op = .nilCheck x) (hx : ev F x = some (.pointer (some p))) : R1 P w0 S0 n F L o (.pointer (some p)) :=
  q_of_pure fun ac hf w => by simp [execOp, ho, hf.eval hx]
theorem s_nilc {p : Addr} (hn : Nat.blt d n = true) (hx : ev F x = some (.pointer (some p))) (h : Reach w0 S0 n ((d, .pointer (some p)) :: F) L (wpList P ops Q rest)) : Reach w0 S0 n F L (wpList P ops Q (⟨some d, .nilCheck x, ty, ps, af, none⟩ :: rest)) := s_q rfl rfl hn (q_nilc rfl hx).q h
theorem s_conv [T : InTy P t k] [T' : InTy P t' k'] (hn : Nat.blt d n = true) (hx : ev F x = some (.int k a)) (hb : k'.min ≤ a ∧ a ≤ k'.max) (h : Reach w0 S0 n ((d, .int k' a) :: F) L (wpList P ops Q rest)) : Reach w0 S0 n F L (wpList P ops Q (⟨some d, .convert t t' x, ty, ps, af, none⟩ :: rest)) := s_q rfl rfl hn (q_conv rfl hx hb).q h
end
end Go.Sl
end
section
set_option linter.unusedVariables false
namespace Go.Sl
open Go Go.RowKit
section
variable {P : Program} {w0 : World} {S0 : FS} {n : Nat} {F : List (Nat × Value)} {L Lk : List HP} {ops : Array Oper} {Q : Exit → Act → World → Prop} {plan : List PI} [HasD n]
theorem RP.weaken {G : List (Nat × Value)} {M : List HP} (is : List Nat) (hL : pick L is = some M) (hF : covers F G) (h : RP P w0 S0 n ops Q Lk plan G M) : RP P w0 S0 n ops Q Lk plan F L := Reach.weaken is hL hF h
/-- ways that come to one state -/
theorem c_join {X : Type} {c : Code} {K : Act → World → Prop} (FX : X → List (Nat × Value)) (LX : X → List HP) (h : ∀ K : Act → World → Prop, (∀ x, Reach w0 S0 n (FX x) (LX x) K) → Reach w0 S0 n F L (c.wp P (Exit.then K Q))) (hk : ∀ x, Reach w0 S0 n (FX x) (LX x) K) : Reach w0 S0 n F L (c.wp P (Exit.then K Q)) := h K hk
theorem j_end {X : Type} {K : Act → World → Prop} {FX : X → List (Nat × Value)} {LX : X → List HP} (hk : ∀ x, Reach w0 S0 n (FX x) (LX x) K) (x : X) (is : List Nat) (hL : pick L is = some (LX x)) (hF : covers F (FX x)) : Reach w0 S0 n F L K := Reach.weaken is hL hF (hk x)
end
end Go.Sl
end
section
set_option linter.unusedVariables false
namespace Go.Proofs.YtllkoinbfegonaaDoor
open Go Go.RowKit Go.Sl Go.Num
/-- what such a function hands back -/
def numV : Option Int → Value
  | some i => .tuple #[.int .i64 i, .int .i64 0]
  | none => .tuple #[.int .i64 0, .int .i64 2]
def bytL (s : ByteArray) : List UInt8 := s.data.toList
theorem minus_cut (l : List UInt8) : Lib.hasPrefix l [45] = isNeg l ∧ Lib.trimPrefix l [45] = (if isNeg l then l.tail else l) := by
  have h : Lib.hasPrefix l [45] = isNeg l := by
    cases l with
    | nil => rfl
    | cons b l =>
      show ((45 : UInt8) == b && List.isPrefixOf [] l) = (some b == some 45)
      by_cases e : b = 45
      · subst e; rfl
      · have e1 : ((45 : UInt8) == b) = false := beq_eq_false_iff_ne.2 (Ne.symm e)
        have e2 : (some b == some (45 : UInt8)) = false := beq_eq_false_iff_ne.2 (fun h => e (Option.some.inj h))
        rw [e1, e2]; rfl
  refine ⟨h, ?_⟩
  rw [Lib.trimPrefix, h]
  split
  · cases l <;> rfl
  · rfl
theorem head_48 {l : List UInt8} {b : UInt8} (h : l[0]? = some b) : (l.head? = some 48) ↔ ((b.toNat : Int) = 48) := by
  cases l with
  | nil => simp at h
  | cons c l =>
    obtain rfl : c = b := by simpa using h
    simp only [List.head?_cons, Option.some.injEq]
    constructor
    · rintro rfl; rfl
    · intro e
      have e2 : c.toNat = 48 := by omega
      exact UInt8.toNat_inj.1 e2
set_option maxRecDepth 100000
set_option maxHeartbeats 8000000
set_option linter.unusedVariables false
set_option linter.unusedSimpArgs false
attribute [local irreducible] Code.wp wpList bodyPost wpQuiet Exit.then Exit.inBlock Post wpAnyH wpOp
instance : InTy Tryd.prog 5 .u8 := ⟨Tryd.underlying5⟩
instance : InTy Tryd.prog 2 .i64 := ⟨Tryd.underlying2⟩
instance : InTy Tryd.prog 90 .u64 := ⟨Tryd.underlying90⟩
theorem num_cut (l : List UInt8) : num l = body (if isNeg l then l.tail else l) (isNeg l) := by
  unfold num
  cases isNeg l <;> rfl
theorem strNil (g : List UInt8) : ((⟨g.toArray⟩ : ByteArray).toList == (⟨#[]⟩ : ByteArray).toList) = g.isEmpty := by
  rw [Lib.toList_data, Lib.toList_data]
  cases g <;> rfl
theorem Number_ok (s : ByteArray) (w : World) (hz : s.size ≤ 140737488351232) : Calls Tryd.prog 23 #[.string s] w (Post w No (Just (numV (num (bytL s))))) := by
  have hlen : (if isNeg s.data.toList then s.data.toList.tail else s.data.toList).length ≤ 140737488351232 := by
    have : s.data.toList.length = s.size := by simp
    split
    · rw [List.length_tail]; omega
    · omega
  rw [show num (bytL s) = _ from num_cut s.data.toList]
  refine enter0 (vs := [_]) Tryd.func23 rfl Tryd.ntmps23 rfl ?_
  generalize hreg : Code.seq (Code.region 2 _ _) _ = cc
  repeat' first
    | refine k_then ?_ | refine c_seq ?_ | refine c_region ?_ | refine s_nil ?_ | refine s_move (by exact rfl) (by exact rfl) ?_ | refine s_assign (by exact rfl) (by exact rfl) ?_ | fail
  refine s_call (by exact rfl) (by exact rfl) (fun w h => CutPrefix_ok s ⟨#[45]⟩ w) ?_
  rw [(minus_cut s.data.toList).1, (minus_cut s.data.toList).2]
  generalize (if isNeg s.data.toList then s.data.toList.tail else s.data.toList) = g at *
  generalize isNeg s.data.toList = ng
  clear hz
  repeat' first
    | refine k_then ?_ | refine c_seq ?_ | refine s_nil ?_ | refine s_move (by exact rfl) (by exact rfl) ?_ | refine s_assign (by exact rfl) (by exact rfl) ?_ | refine s_extract (by exact rfl) (by exact rfl) (by exact rfl) ?_ | fail
  refine c_join (X := {u : Unit // g ≠ [] ∧ ¬ (g.head? = some 48 ∧ (ng = true ∨ 1 < g.length))}) (fun _ => [(4, .string ⟨g.toArray⟩), (5, .bool ng)]) (fun _ => []) (fun K hjn => ?_) fun ⟨_, hne, h0⟩ => ?_
  · subst hreg
    repeat' first
      | refine c_seq ?_ | refine c_region ?_ | refine s_move (by exact rfl) (by exact rfl) ?_ | refine s_q rfl rfl (by exact rfl) (q_seq rfl (by exact rfl) (by exact rfl)).q ?_ | fail
    rw [strNil]
    cases g with
    | nil =>
      rw [show ([] : List UInt8).isEmpty = true from rfl]
      repeat' first
        | refine k_then ?_ | refine c_seq ?_ | refine c_region ?_ | refine s_nil ?_ | refine s_assign (by exact rfl) (by exact rfl) ?_ | refine s_pick_t (by exact rfl) (by exact rfl) (by exact rfl) ?_ | refine c_ret ?_ | refine k_then_ret ?_ | refine c_cond_t (by exact rfl) ?_ | refine g_skip (by exact rfl) (by exact rfl) (by exact rfl) (by exact rfl) ?_ | fail
      exact retL [.tmp 2, .tmp 3] [.int .i64 0, .int .i64 2] [] rfl ⟨res_tmp rfl, res_tmp rfl, trivial⟩ (by exact rfl) ⟨by rw [body, if_neg (fun h => h.1 rfl)]; rfl, rfl⟩
    | cons b r =>
      rw [show (b :: r).isEmpty = false from rfl]
      have hgs : (⟨(b :: r).toArray⟩ : ByteArray).size = (b :: r).length := rfl
      have h48 := head_48 (l := b :: r) (b := b) rfl
      repeat' first
        | refine w_move (by exact rfl) (by exact rfl) (by exact rfl) (by exact rfl) ?_ | refine g_on (by exact rfl) (by exact rfl) ?_ | fail
      refine s_q rfl rfl (by exact rfl) (q_sidx (b := b) rfl (by exact rfl) (by exact rfl) (by decide) rfl).q ?_
      cases ng
      · repeat' first
          | refine k_then ?_ | refine c_seq ?_ | refine c_region ?_ | refine s_nil ?_ | refine s_assign (by exact rfl) (by exact rfl) ?_ | refine s_pick_f (by exact rfl) (by exact rfl) (by exact rfl) ?_ | refine c_skip ?_ | refine c_ret ?_ | refine k_then_ret ?_ | (refine c_cond_p (by exact rfl) (fun h => ?_) (fun h => ?_) <;> try (exfalso; omega)) | refine c_cond_f (by exact rfl) ?_ | (refine g_case (by exact rfl) (by exact rfl) (fun h => ?_) (fun h => ?_) <;> try (exfalso; omega)) | refine g_skip (by exact rfl) (by exact rfl) (by exact rfl) (by exact rfl) ?_ | refine w_move (by exact rfl) (by exact rfl) (by exact rfl) (by exact rfl) ?_ | refine w_gtr (by exact rfl) (by exact rfl) (by exact rfl) (by exact rfl) (by exact rfl) ?_ | refine w_eql (by exact rfl) (by exact rfl) (by exact rfl) (by exact rfl) (by exact rfl) ?_ | refine w_lens (by exact rfl) (by exact rfl) (by exact rfl) (by exact rfl) ?_ | refine w_pick_t (by exact rfl) (by exact rfl) (by exact rfl) (by exact rfl) (by exact rfl) ?_ | refine w_pick_f (by exact rfl) (by exact rfl) (by exact rfl) (by exact rfl) (by exact rfl) ?_ | fail
        · rename_i he
          exact retL [.tmp 2, .tmp 3] [.int .i64 0, .int .i64 2] [] rfl ⟨res_tmp rfl, res_tmp rfl, trivial⟩ (by exact rfl) ⟨by rw [body, if_neg (fun hg => hg.2.1 ⟨h48.2 he, .inr (by rw [hgs] at h; omega)⟩)]; rfl, rfl⟩
        · exact j_end hjn ⟨(), by simp, fun hc => by rcases hc.2 with e | e; · cases e
                                                     · rw [hgs] at h; omega⟩ [] rfl ⟨rfl, rfl, trivial⟩
        · exact j_end hjn ⟨(), by simp, fun hc => h (h48.1 hc.1)⟩ [] rfl ⟨rfl, rfl, trivial⟩
      · repeat' first
          | refine k_then ?_ | refine c_seq ?_ | refine c_region ?_ | refine s_nil ?_ | refine s_assign (by exact rfl) (by exact rfl) ?_ | refine s_pick_f (by exact rfl) (by exact rfl) (by exact rfl) ?_ | refine c_skip ?_ | refine c_ret ?_ | refine k_then_ret ?_ | refine c_cond_t (by exact rfl) ?_ | refine c_cond_f (by exact rfl) ?_ | (refine g_case (by exact rfl) (by exact rfl) (fun h => ?_) (fun h => ?_) <;> try (exfalso; omega)) | refine g_skip (by exact rfl) (by exact rfl) (by exact rfl) (by exact rfl) ?_ | refine w_move (by exact rfl) (by exact rfl) (by exact rfl) (by exact rfl) ?_ | refine w_eql (by exact rfl) (by exact rfl) (by exact rfl) (by exact rfl) (by exact rfl) ?_ | refine w_pick_t (by exact rfl) (by exact rfl) (by exact rfl) (by exact rfl) (by exact rfl) ?_ | refine w_pick_f (by exact rfl) (by exact rfl) (by exact rfl) (by exact rfl) (by exact rfl) ?_ | fail
        · exact retL [.tmp 2, .tmp 3] [.int .i64 0, .int .i64 2] [] rfl ⟨res_tmp rfl, res_tmp rfl, trivial⟩ (by exact rfl) ⟨by rw [body, if_neg (fun hg => hg.2.1 ⟨h48.2 h, .inl rfl⟩)]; rfl, rfl⟩
        · exact j_end hjn ⟨(), by simp, fun hc => h (h48.1 hc.1)⟩ [] rfl ⟨rfl, rfl, trivial⟩
  clear hreg cc
  repeat' first
    | refine k_then ?_ | refine c_seq ?_ | refine c_region ?_ | refine s_nil ?_ | refine s_move (by exact rfl) (by exact rfl) ?_ | refine s_assign (by exact rfl) (by exact rfl) ?_ | fail
  refine o_strb Tryd.underlying9 Tryd.underlying63 Tryd.underlying5 (by exact rfl) (by exact rfl) (by show g.length ≤ _; exact hlen) fun v hv => ?_
  rw [show (⟨g.toArray⟩ : ByteArray).data.toList = g from rfl] at *
  repeat' first
    | refine k_then ?_ | refine s_nil ?_ | refine s_move (by exact rfl) (by exact rfl) ?_ | refine s_len (by exact rfl) (by exact rfl) (by assumption) ?_ | refine c_block ?_ | fail
  refine c_loop (fun k : Nat => k ≤ g.length ∧ (g.take k).all dig = true ∧ val (g.take k) ≤ 9223372036854775808) (fun k => [(5, .bool ng), (6, .int .i64 (-(val (g.take k) : Int))), (31, v), (32, .int .i64 (g.length : Int)), (33, .int .i64 (k : Int))])
    (fun _ => [bytesHP v g]) (fun k => g.length - k) 0 [0] ⟨Nat.zero_le _, rfl, by rw [List.take_zero]; decide⟩ rfl ⟨rfl, rfl, rfl, rfl, rfl, trivial⟩ ?_
  rintro k ⟨hk, hd, hv⟩
  repeat' first
    | refine k_then ?_ | refine c_seq ?_ | refine c_region ?_ | refine s_nil ?_ | refine s_move (by exact rfl) (by exact rfl) ?_ | refine s_assign (by exact rfl) (by exact rfl) ?_ | refine s_lss (by exact rfl) (by exact rfl) (by exact rfl) ?_ | refine s_idx (by exact rfl) (by exact rfl) (by exact rfl) (by assumption) (by first | assumption | omega) ?_ | refine c_block ?_ | refine c_skip ?_ | refine c_exit ?_ | refine k_then_exit ?_ | refine k_blk_eq ?_ | (refine c_cond_p (by exact rfl) (fun h => ?_) (fun h => ?_) <;> try (exfalso; omega)) | fail
  · obtain ⟨b, hb⟩ : ∃ b, g[k]? = some b := ⟨_, List.getElem?_eq_getElem (by omega)⟩
    have h256 : b.toNat < 256 := b.toNat_lt
    refine s_ld_bytes (k := k * 1) (by exact rfl) (by exact rfl) (.head _) (by rw [Nat.mul_one]; exact hb) ?_
    repeat' first
      | refine k_then ?_ | refine c_seq ?_ | refine c_region ?_ | refine s_nil ?_ | refine s_move (by exact rfl) (by exact rfl) ?_ | refine s_assign (by exact rfl) (by exact rfl) ?_ | refine s_lss (by exact rfl) (by exact rfl) (by exact rfl) ?_ | refine s_sub (by exact rfl) (by exact rfl) (by exact rfl) (by omega) ?_ | refine s_pick_t (by exact rfl) (by exact rfl) (by exact rfl) ?_ | refine s_pick_f (by exact rfl) (by exact rfl) (by exact rfl) ?_ | refine c_ret ?_ | refine k_then_ret ?_ | refine k_blk_ret ?_ | refine c_cond_t (by exact rfl) ?_ | (refine g_case (by exact rfl) (by exact rfl) (fun h => ?_) (fun h => ?_) <;> try (exfalso; omega)) | refine g_skip (by exact rfl) (by exact rfl) (by exact rfl) (by exact rfl) ?_ | refine w_move (by exact rfl) (by exact rfl) (by exact rfl) (by exact rfl) ?_ | refine w_gtr (by exact rfl) (by exact rfl) (by exact rfl) (by exact rfl) (by exact rfl) ?_ | refine w_add (by exact rfl) (by exact rfl) (by exact rfl) (by exact rfl) (by exact rfl) (by omega) ?_ | refine g_on (by exact rfl) (by exact rfl) ?_ | refine s_conv (by exact rfl) (by exact rfl) (by refine ⟨?_, ?_⟩ <;> simp [IntKind.min, IntKind.max, IntKind.signed, IntKind.bits] <;> omega) ?_ | fail
    · exact retL [.tmp 2, .tmp 3] [.int .i64 0, .int .i64 2] [] rfl ⟨res_tmp rfl, res_tmp rfl, trivial⟩ (by exact rfl) ⟨by rw [body_none_dig (List.mem_of_getElem? hb) (decide_eq_false (by omega))]; rfl, rfl⟩
    · exact retL [.tmp 2, .tmp 3] [.int .i64 0, .int .i64 2] [] rfl ⟨res_tmp rfl, res_tmp rfl, trivial⟩ (by exact rfl) ⟨by rw [body_none_dig (List.mem_of_getElem? hb) (decide_eq_false (by omega))]; rfl, rfl⟩
    · have hdn : ((b.toNat - 48 : Nat) : Int) = (b.toNat : Int) - 48 := by omega
      rw [← hdn] at *
      have hst := step_ok (a := val (g.take k)) (d := b.toNat - 48) (by omega) hv
      have hsn := val_snoc (g.take k) b
      rw [← take_snoc hb] at hsn
      have hq : -9223372036854775808 ≤ (-9223372036854775808 + ((b.toNat - 48 : Nat) : Int)).tdiv 10 ∧ (-9223372036854775808 + ((b.toNat - 48 : Nat) : Int)).tdiv 10 ≤ 9223372036854775807 := by
        rw [show -9223372036854775808 + ((b.toNat - 48 : Nat) : Int) = -(9223372036854775808 - ((b.toNat - 48 : Nat) : Int)) by omega, Int.neg_tdiv, Int.tdiv_eq_ediv_of_nonneg (by omega)]
        omega
      refine s_q rfl rfl (by exact rfl) (q_quot rfl (by exact rfl) (by exact rfl) (by decide) hq).q ?_
      have hgo : ¬ (-(val (g.take k) : Int) < (-9223372036854775808 + ((b.toNat - 48 : Nat) : Int)).tdiv 10) → val (g.take k) * 10 + (b.toNat - 48) ≤ 9223372036854775808 := hst.1
      repeat' first
        | refine k_then ?_ | refine c_seq ?_ | refine c_region ?_ | refine s_nil ?_ | refine s_move (by exact rfl) (by exact rfl) ?_ | refine s_assign (by exact rfl) (by exact rfl) ?_ | refine s_add (by exact rfl) (by exact rfl) (by exact rfl) (by omega) ?_ | refine s_sub (by exact rfl) (by exact rfl) (by exact rfl) (by omega) ?_ | refine s_mul (by exact rfl) (by exact rfl) (by exact rfl) (by omega) ?_ | refine s_pick_f (by exact rfl) (by exact rfl) (by exact rfl) ?_ | refine c_skip ?_ | refine c_ret ?_ | refine k_then_ret ?_ | refine k_blk ?_ | refine k_blk_ret ?_ | (refine c_cond_p (by exact rfl) (fun h => ?_) (fun h => ?_) <;> try (exfalso; omega)) | refine w_lss (by exact rfl) (by exact rfl) (by exact rfl) (by exact rfl) (by exact rfl) ?_ | fail
      · exact retL [.tmp 2, .tmp 3] [.int .i64 0, .int .i64 2] [] rfl ⟨res_tmp rfl, res_tmp rfl, trivial⟩ (by exact rfl) ⟨by rw [body_none_val (k := k + 1) (by rw [hsn]; exact Nat.lt_of_not_le fun hc => hst.2 hc ‹_›)]; rfl, rfl⟩
      · have hle := hgo ‹_›
        skip
        refine c_round (k + 1) [0] rfl ⟨rfl, by rw [hsn, show (-((val (g.take k) * 10 + (b.toNat - 48) : Nat) : Int)) = -(val (g.take k) : Int) * 10 - ((b.toNat - 48 : Nat) : Int) by omega]; exact rfl, rfl, rfl, rfl, trivial⟩ ⟨by omega, ?_, by rw [hsn]; exact hle⟩ (by omega)
        rw [take_snoc hb, List.all_append, hd]
        have : dig b = true := decide_eq_true (by omega)
        simp [this]
  · obtain rfl : k = g.length := by omega
    rw [List.take_length] at *
    have hg : ¬ (ng = false ∧ val g = 9223372036854775808) → good g ng := fun hx => ⟨hne, h0, hd, hv, fun e e2 => hx ⟨e, e2⟩⟩
    cases ng with
    | true =>
      repeat' first
        | refine k_then ?_ | refine c_seq ?_ | refine c_region ?_ | refine s_nil ?_ | refine s_move (by exact rfl) (by exact rfl) ?_ | refine s_assign (by exact rfl) (by exact rfl) ?_ | refine c_ret ?_ | refine k_then_ret ?_ | refine k_blk_ret ?_ | refine c_cond_t (by exact rfl) ?_ | fail
      exact retL [.tmp 2, .tmp 3] [.int .i64 (-(val g : Int)), .int .i64 0] [] rfl ⟨res_tmp rfl, res_tmp rfl, trivial⟩ (by exact rfl) ⟨by rw [body, if_pos (hg (by simp)), if_pos rfl]; rfl, rfl⟩
    | false =>
      repeat' first
        | refine k_then ?_ | refine c_seq ?_ | refine c_region ?_ | refine s_nil ?_ | refine s_move (by exact rfl) (by exact rfl) ?_ | refine s_assign (by exact rfl) (by exact rfl) ?_ | refine s_eql (by exact rfl) (by exact rfl) (by exact rfl) ?_ | refine c_skip ?_ | refine c_ret ?_ | refine k_then_ret ?_ | refine k_blk ?_ | refine k_blk_ret ?_ | (refine c_cond_p (by exact rfl) (fun h => ?_) (fun h => ?_) <;> try (exfalso; omega)) | refine c_cond_f (by exact rfl) ?_ | fail
      · rename_i he
        exact retL [.tmp 2, .tmp 3] [.int .i64 0, .int .i64 2] [] rfl ⟨res_tmp rfl, res_tmp rfl, trivial⟩ (by exact rfl) ⟨by rw [body, if_neg (fun hc => hc.2.2.2.2 rfl (by omega))]; rfl, rfl⟩
      · refine s_q rfl rfl (by exact rfl) (q_negi rfl (by exact rfl) ⟨by omega, by omega⟩).q ?_
        repeat' first
          | refine k_then ?_ | refine s_nil ?_ | refine s_assign (by exact rfl) (by exact rfl) ?_ | refine c_ret ?_ | fail
        exact retL [.tmp 2, .tmp 3] [.int .i64 (-(-(val g : Int))), .int .i64 0] [] rfl ⟨res_tmp rfl, res_tmp rfl, trivial⟩ (by exact rfl) ⟨by rw [body, if_pos (hg (fun hc => by omega)), Int.neg_neg]; rfl, rfl⟩
end Go.Proofs.YtllkoinbfegonaaDoor
end
section
set_option linter.unusedVariables false
namespace Go.Sl
open Go Go.RowKit
section
variable {P : Program} {w0 : World} {S0 : FS} {n : Nat} {F : List (Nat × Value)} {L : List HP} {o : Oper} {x y : Operand} {t t' : TypeId} {i j : Int} [HasD n]
theorem q_mulu (ho : o.op = .binOp .mul t x y t') (hx : ev F x = some (.int .u64 i)) (hy : ev F y = some (.int .u64 j)) (hb : 0 ≤ i * j ∧ i * j ≤ 18446744073709551615) : R1 P w0 S0 n F L o (.int .u64 (i * j)) := by
  have := q_mulw (P := P) (w0 := w0) (S0 := S0) (n := n) (L := L) ho hx hy
  rwa [wrap_id (k := .u64) (by simpa [IntKind.min, IntKind.max, IntKind.signed, IntKind.bits] using hb)] at this
theorem q_addu (ho : o.op = .binOp .add t x y t') (hx : ev F x = some (.int .u64 i)) (hy : ev F y = some (.int .u64 j)) (hb : 0 ≤ i + j ∧ i + j ≤ 18446744073709551615) : R1 P w0 S0 n F L o (.int .u64 (i + j)) := by
  have := q_addw (P := P) (w0 := w0) (S0 := S0) (n := n) (L := L) ho hx hy
  rwa [wrap_id (k := .u64) (by simpa [IntKind.min, IntKind.max, IntKind.signed, IntKind.bits] using hb)] at this
theorem q_subu {k : IntKind} (ho : o.op = .binOp .sub t x y t') (hx : ev F x = some (.int k i)) (hy : ev F y = some (.int k j)) (hb : k.min ≤ i - j ∧ i - j ≤ k.max) : R1 P w0 S0 n F L o (.int k (i - j)) := by
  have := q_subw (P := P) (w0 := w0) (S0 := S0) (n := n) (L := L) ho hx hy
  rwa [wrap_id hb] at this
end
end Go.Sl
namespace Go.Proofs.YtllkoinbfegonaaDoor
open Go Go.RowKit Go.Sl Go.Num
theorem bx_extract (l : List UInt8) (a b : Nat) : (⟨⟨l⟩⟩ : ByteArray).extract a b = ⟨⟨(l.take b).drop a⟩⟩ := by
  apply ByteArray.ext
  apply Array.toList_inj.1
  rw [ByteArray.data_extract, Array.toList_extract]
  simp [List.extract_eq_take_drop, List.drop_take]
set_option maxRecDepth 100000
set_option maxHeartbeats 8000000
set_option linter.unusedVariables false
set_option linter.unusedSimpArgs false
attribute [local irreducible] Code.wp wpList bodyPost wpQuiet Exit.then Exit.inBlock Post wpAnyH wpOp
theorem RefNumber_ok (s : ByteArray) (w : World) (hz : s.size ≤ 140737488351232) : Calls Tryd.prog 24 #[.string s] w (Post w No (Just (numV (num (bytL s))))) := by
  obtain ⟨⟨l⟩⟩ := s
  rw [show num (bytL ⟨⟨l⟩⟩) = _ from num_cut l]
  have hlen : (if isNeg l then l.tail else l).length ≤ 140737488351232 := by
    have : l.length ≤ 140737488351232 := hz
    split
    · rw [List.length_tail]; omega
    · omega
  refine enter0 (vs := [_]) Tryd.func24 rfl Tryd.ntmps24 rfl ?_
  cases l with
  | nil =>
    have hsz : (⟨⟨[]⟩⟩ : ByteArray).size = 0 := rfl
    repeat' first
      | refine k_then ?_ | refine c_seq ?_ | refine c_region ?_ | refine s_nil ?_ | refine s_move (by exact rfl) (by exact rfl) ?_ | refine s_assign (by exact rfl) (by exact rfl) ?_ | refine s_gtr (by exact rfl) (by exact rfl) (by exact rfl) ?_ | refine s_eql (by exact rfl) (by exact rfl) (by exact rfl) ?_ | refine s_lens (by exact rfl) (by exact rfl) ?_ | refine s_pick_t (by exact rfl) (by exact rfl) (by exact rfl) ?_ | refine s_pick_f (by exact rfl) (by exact rfl) (by exact rfl) ?_ | refine c_skip ?_ | refine c_ret ?_ | refine k_then_ret ?_ | refine c_cond_t (by exact rfl) ?_ | refine c_cond_f (by exact rfl) ?_ | (refine g_case (by exact rfl) (by exact rfl) (fun h => ?_) (fun h => ?_) <;> try (exfalso; omega)) | refine g_skip (by exact rfl) (by exact rfl) (by exact rfl) (by exact rfl) ?_ | fail
    exact retL [.tmp 2, .tmp 3] [.int .i64 0, .int .i64 2] [] rfl ⟨res_tmp rfl, res_tmp rfl, trivial⟩ (by exact rfl) ⟨rfl, rfl⟩
  | cons b r =>
  generalize hreg : Code.seq (Code.region 4 _ _) _ = cc
  generalize hreg2 : Code.seq (Code.region 2 _ _) _ = c2
  have hsz : (⟨⟨b :: r⟩⟩ : ByteArray).size = r.length + 1 := rfl
  repeat' first
    | refine k_then ?_ | refine c_seq ?_ | refine c_region ?_ | refine s_nil ?_ | refine s_move (by exact rfl) (by exact rfl) ?_ | refine s_assign (by exact rfl) (by exact rfl) ?_ | refine s_gtr (by exact rfl) (by exact rfl) (by exact rfl) ?_ | refine s_lens (by exact rfl) (by exact rfl) ?_ | (refine g_case (by exact rfl) (by exact rfl) (fun h => ?_) (fun h => ?_) <;> try (exfalso; omega)) | refine w_move (by exact rfl) (by exact rfl) (by exact rfl) (by exact rfl) ?_ | refine g_on (by exact rfl) (by exact rfl) ?_ | fail
  refine s_q rfl rfl (by exact rfl) (q_sidx (b := b) rfl (by exact rfl) (by exact rfl) (by decide) rfl).q ?_
  have hneg : isNeg (b :: r) = decide ((b.toNat : Int) = 45) := by
    rw [Bool.eq_iff_iff, decide_eq_true_iff]
    show (some b == some 45) = true ↔ _
    rw [beq_iff_eq, Option.some.injEq]
    exact ⟨fun e => by rw [e]; rfl, fun e => UInt8.toNat_inj.1 (by show b.toNat = 45; omega)⟩
  repeat' first
    | refine k_then ?_ | refine c_seq ?_ | refine s_nil ?_ | refine s_assign (by exact rfl) (by exact rfl) ?_ | refine s_pick_t (by exact rfl) (by exact rfl) (by exact rfl) ?_ | refine w_eql (by exact rfl) (by exact rfl) (by exact rfl) (by exact rfl) (by exact rfl) ?_ | fail
  refine c_join (X := Unit) (fun _ => [(0, .string ⟨⟨if isNeg (b :: r) then (b :: r).tail else b :: r⟩⟩), (4, .bool (isNeg (b :: r)))]) (fun _ => []) (fun K hjn => ?_) fun _ => ?_
  · subst hreg2
    rw [hneg] at *
    repeat' first
      | refine k_then ?_ | refine c_seq ?_ | refine c_region ?_ | refine s_nil ?_ | refine s_move (by exact rfl) (by exact rfl) ?_ | refine c_skip ?_ | (refine c_cond_p (by exact rfl) (fun h => ?_) (fun h => ?_) <;> try (exfalso; omega)) | fail
    · refine s_q rfl rfl (by exact rfl) (q_scut_lo (a := 1) rfl (by exact rfl) (by exact rfl) (by omega)).q ?_
      repeat' first
        | refine k_then ?_ | refine s_nil ?_ | refine s_assign (by exact rfl) (by exact rfl) ?_ | fail
      rw [bx_extract]
      exact j_end hjn () [] rfl ⟨by rw [if_pos (decide_eq_true h), show (List.drop 1 (List.take (⟨⟨b :: r⟩⟩ : ByteArray).size (b :: r))) = (b :: r).tail by rw [hsz]; simp]; exact rfl, rfl, trivial⟩
    · exact j_end hjn () [] rfl ⟨by rw [if_neg (by simpa using h)]; exact rfl, rfl, trivial⟩
  clear hreg2 c2 hneg
  generalize (if isNeg (b :: r) then (b :: r).tail else b :: r) = g at *
  generalize isNeg (b :: r) = ng
  clear h hz hsz r b
  repeat' first
    | refine c_seq ?_ | fail
  refine c_join (X := {u : Unit // g ≠ [] ∧ ¬ (g.head? = some 48 ∧ (ng = true ∨ 1 < g.length)) ∧ g.length ≤ 19}) (fun _ => [(0, .string ⟨⟨g⟩⟩), (4, .bool ng)]) (fun _ => []) (fun K hjn => ?_) fun ⟨_, hne, h0, h19⟩ => ?_
  · subst hreg
    cases g with
    | nil =>
      have hsz : (⟨⟨[]⟩⟩ : ByteArray).size = 0 := rfl
      repeat' first
        | refine k_then ?_ | refine c_seq ?_ | refine c_region ?_ | refine s_nil ?_ | refine s_move (by exact rfl) (by exact rfl) ?_ | refine s_assign (by exact rfl) (by exact rfl) ?_ | refine s_eql (by exact rfl) (by exact rfl) (by exact rfl) ?_ | refine s_lens (by exact rfl) (by exact rfl) ?_ | refine s_pick_t (by exact rfl) (by exact rfl) (by exact rfl) ?_ | refine c_ret ?_ | refine k_then_ret ?_ | refine c_cond_t (by exact rfl) ?_ | (refine g_case (by exact rfl) (by exact rfl) (fun h => ?_) (fun h => ?_) <;> try (exfalso; omega)) | refine g_skip (by exact rfl) (by exact rfl) (by exact rfl) (by exact rfl) ?_ | fail
      exact retL [.tmp 2, .tmp 3] [.int .i64 0, .int .i64 2] [] rfl ⟨res_tmp rfl, res_tmp rfl, trivial⟩ (by exact rfl) ⟨by rw [body, if_neg (fun h => h.1 rfl)]; rfl, rfl⟩
    | cons b r =>
      have hsz : (⟨⟨b :: r⟩⟩ : ByteArray).size = r.length + 1 := rfl
      have hll : (b :: r).length = r.length + 1 := rfl
      have h48 := head_48 (l := b :: r) (b := b) rfl
      repeat' first
        | refine k_then ?_ | refine c_seq ?_ | refine c_region ?_ | refine s_nil ?_ | refine s_move (by exact rfl) (by exact rfl) ?_ | refine s_assign (by exact rfl) (by exact rfl) ?_ | refine s_eql (by exact rfl) (by exact rfl) (by exact rfl) ?_ | refine s_lens (by exact rfl) (by exact rfl) ?_ | refine s_pick_t (by exact rfl) (by exact rfl) (by exact rfl) ?_ | refine s_pick_f (by exact rfl) (by exact rfl) (by exact rfl) ?_ | refine c_ret ?_ | refine k_then_ret ?_ | refine c_cond_t (by exact rfl) ?_ | (refine g_case (by exact rfl) (by exact rfl) (fun h => ?_) (fun h => ?_) <;> try (exfalso; omega)) | refine g_skip (by exact rfl) (by exact rfl) (by exact rfl) (by exact rfl) ?_ | refine w_move (by exact rfl) (by exact rfl) (by exact rfl) (by exact rfl) ?_ | refine w_gtr (by exact rfl) (by exact rfl) (by exact rfl) (by exact rfl) (by exact rfl) ?_ | refine w_lens (by exact rfl) (by exact rfl) (by exact rfl) (by exact rfl) ?_ | refine g_on (by exact rfl) (by exact rfl) ?_ | fail
      · exact retL [.tmp 2, .tmp 3] [.int .i64 0, .int .i64 2] [] rfl ⟨res_tmp rfl, res_tmp rfl, trivial⟩ (by exact rfl) ⟨by rw [body_none_long (by omega)]; rfl, rfl⟩
      · refine s_q rfl rfl (by exact rfl) (q_sidx (b := b) rfl (by exact rfl) (by exact rfl) (by decide) rfl).q ?_
        cases ng
        · repeat' first
            | refine k_then ?_ | refine c_seq ?_ | refine c_region ?_ | refine s_nil ?_ | refine s_assign (by exact rfl) (by exact rfl) ?_ | refine s_pick_f (by exact rfl) (by exact rfl) (by exact rfl) ?_ | refine c_skip ?_ | refine c_ret ?_ | refine k_then_ret ?_ | refine c_cond_t (by exact rfl) ?_ | refine c_cond_f (by exact rfl) ?_ | (refine g_case (by exact rfl) (by exact rfl) (fun h => ?_) (fun h => ?_) <;> try (exfalso; omega)) | refine g_skip (by exact rfl) (by exact rfl) (by exact rfl) (by exact rfl) ?_ | refine w_move (by exact rfl) (by exact rfl) (by exact rfl) (by exact rfl) ?_ | refine w_gtr (by exact rfl) (by exact rfl) (by exact rfl) (by exact rfl) (by exact rfl) ?_ | refine w_eql (by exact rfl) (by exact rfl) (by exact rfl) (by exact rfl) (by exact rfl) ?_ | refine w_lens (by exact rfl) (by exact rfl) (by exact rfl) (by exact rfl) ?_ | refine w_pick_t (by exact rfl) (by exact rfl) (by exact rfl) (by exact rfl) (by exact rfl) ?_ | refine w_pick_f (by exact rfl) (by exact rfl) (by exact rfl) (by exact rfl) (by exact rfl) ?_ | fail
          · rename_i he
            exact retL [.tmp 2, .tmp 3] [.int .i64 0, .int .i64 2] [] rfl ⟨res_tmp rfl, res_tmp rfl, trivial⟩ (by exact rfl) ⟨by rw [body, if_neg (fun hg => hg.2.1 ⟨h48.2 he, .inr (by omega)⟩)]; rfl, rfl⟩
          · exact j_end hjn ⟨(), by simp, (fun hc => by
              rcases hc.2 with e | e
              · cases e
              · omega), by omega⟩ [] rfl ⟨rfl, rfl, trivial⟩
          · exact j_end hjn ⟨(), by simp, fun hc => h (h48.1 hc.1), by omega⟩ [] rfl ⟨rfl, rfl, trivial⟩
        · repeat' first
            | refine k_then ?_ | refine c_seq ?_ | refine c_region ?_ | refine s_nil ?_ | refine s_assign (by exact rfl) (by exact rfl) ?_ | refine s_pick_f (by exact rfl) (by exact rfl) (by exact rfl) ?_ | refine c_skip ?_ | refine c_ret ?_ | refine k_then_ret ?_ | refine c_cond_t (by exact rfl) ?_ | refine c_cond_f (by exact rfl) ?_ | (refine g_case (by exact rfl) (by exact rfl) (fun h => ?_) (fun h => ?_) <;> try (exfalso; omega)) | refine g_skip (by exact rfl) (by exact rfl) (by exact rfl) (by exact rfl) ?_ | refine w_move (by exact rfl) (by exact rfl) (by exact rfl) (by exact rfl) ?_ | refine w_gtr (by exact rfl) (by exact rfl) (by exact rfl) (by exact rfl) (by exact rfl) ?_ | refine w_eql (by exact rfl) (by exact rfl) (by exact rfl) (by exact rfl) (by exact rfl) ?_ | refine w_lens (by exact rfl) (by exact rfl) (by exact rfl) (by exact rfl) ?_ | refine w_pick_t (by exact rfl) (by exact rfl) (by exact rfl) (by exact rfl) (by exact rfl) ?_ | refine w_pick_f (by exact rfl) (by exact rfl) (by exact rfl) (by exact rfl) (by exact rfl) ?_ | fail
          · exact retL [.tmp 2, .tmp 3] [.int .i64 0, .int .i64 2] [] rfl ⟨res_tmp rfl, res_tmp rfl, trivial⟩ (by exact rfl) ⟨by rw [body, if_neg (fun hg => hg.2.1 ⟨h48.2 ‹_›, .inl rfl⟩)]; rfl, rfl⟩
          · exact retL [.tmp 2, .tmp 3] [.int .i64 0, .int .i64 2] [] rfl ⟨res_tmp rfl, res_tmp rfl, trivial⟩ (by exact rfl) ⟨by rw [body, if_neg (fun hg => hg.2.1 ⟨h48.2 ‹_›, .inl rfl⟩)]; rfl, rfl⟩
          · exact j_end hjn ⟨(), by simp, fun hc => h (h48.1 hc.1), by omega⟩ [] rfl ⟨rfl, rfl, trivial⟩
  clear hreg cc
  have hgs : (⟨⟨g⟩⟩ : ByteArray).size = g.length := rfl
  have hB : ∀ k, k ≤ g.length → (g.take k).all dig = true → val (g.take k) < 10000000000000000000 := fun k hk hd => by
    have h1 := val_lt hd
    have h2 : (10 : Nat) ^ (g.take k).length ≤ 10 ^ 19 := Nat.pow_le_pow_right (by decide) (by rw [List.length_take]; omega)
    have h3 : (10 : Nat) ^ 19 = 10000000000000000000 := by decide
    omega
  repeat' first
    | refine k_then ?_ | refine c_seq ?_ | refine c_region ?_ | refine s_nil ?_ | refine s_assign (by exact rfl) (by exact rfl) ?_ | refine c_block ?_ | fail
  refine c_loop (fun k : Nat => k ≤ g.length ∧ (g.take k).all dig = true) (fun k => [(0, .string ⟨⟨g⟩⟩), (4, .bool ng), (5, .int .u64 (val (g.take k) : Int)), (6, .int .i64 (k : Int))])
    (fun _ => []) (fun k => g.length - k) 0 [] ⟨Nat.zero_le _, rfl⟩ rfl ⟨rfl, rfl, rfl, rfl, trivial⟩ ?_
  rintro k ⟨hk, hd⟩
  repeat' first
    | refine k_then ?_ | refine c_seq ?_ | refine c_region ?_ | refine s_nil ?_ | refine s_move (by exact rfl) (by exact rfl) ?_ | refine s_lss (by exact rfl) (by exact rfl) (by exact rfl) ?_ | refine s_lens (by exact rfl) (by exact rfl) ?_ | refine c_block ?_ | refine c_skip ?_ | refine c_exit ?_ | refine k_then_exit ?_ | refine k_blk_eq ?_ | (refine c_cond_p (by exact rfl) (fun h => ?_) (fun h => ?_) <;> try (exfalso; omega)) | fail
  · obtain ⟨b, hb⟩ : ∃ b, g[k]? = some b := ⟨_, List.getElem?_eq_getElem (by omega)⟩
    have h256 : b.toNat < 256 := b.toNat_lt
    have hsn := val_snoc (g.take k) b
    rw [← take_snoc hb] at hsn
    refine s_q rfl rfl (by exact rfl) (q_sidx (b := b) rfl (by exact rfl) (by exact rfl) (by omega) (by simpa using hb)).q ?_
    repeat' first
      | refine k_then ?_ | refine c_seq ?_ | refine c_region ?_ | refine s_nil ?_ | refine s_move (by exact rfl) (by exact rfl) ?_ | refine s_assign (by exact rfl) (by exact rfl) ?_ | refine s_lss (by exact rfl) (by exact rfl) (by exact rfl) ?_ | refine s_pick_t (by exact rfl) (by exact rfl) (by exact rfl) ?_ | refine c_ret ?_ | refine k_then_ret ?_ | refine k_blk_ret ?_ | refine c_cond_t (by exact rfl) ?_ | (refine g_case (by exact rfl) (by exact rfl) (fun h => ?_) (fun h => ?_) <;> try (exfalso; omega)) | refine g_skip (by exact rfl) (by exact rfl) (by exact rfl) (by exact rfl) ?_ | refine w_move (by exact rfl) (by exact rfl) (by exact rfl) (by exact rfl) ?_ | refine g_on (by exact rfl) (by exact rfl) ?_ | fail
    · exact retL [.tmp 2, .tmp 3] [.int .i64 0, .int .i64 2] [] rfl ⟨res_tmp rfl, res_tmp rfl, trivial⟩ (by exact rfl) ⟨by rw [body_none_dig (List.mem_of_getElem? hb) (decide_eq_false (by omega))]; rfl, rfl⟩
    · refine s_q rfl rfl (by exact rfl) (q_sidx (b := b) rfl (by exact rfl) (by exact rfl) (by omega) (by simpa using hb)).q ?_
      repeat' first
        | refine k_then ?_ | refine c_seq ?_ | refine c_region ?_ | refine s_nil ?_ | refine s_move (by exact rfl) (by exact rfl) ?_ | refine s_assign (by exact rfl) (by exact rfl) ?_ | refine s_pick_f (by exact rfl) (by exact rfl) (by exact rfl) ?_ | refine c_skip ?_ | refine c_ret ?_ | refine k_then_ret ?_ | refine k_blk_ret ?_ | (refine c_cond_p (by exact rfl) (fun h => ?_) (fun h => ?_) <;> try (exfalso; omega)) | refine w_gtr (by exact rfl) (by exact rfl) (by exact rfl) (by exact rfl) (by exact rfl) ?_ | fail
      · exact retL [.tmp 2, .tmp 3] [.int .i64 0, .int .i64 2] [] rfl ⟨res_tmp rfl, res_tmp rfl, trivial⟩ (by exact rfl) ⟨by rw [body_none_dig (List.mem_of_getElem? hb) (decide_eq_false (by omega))]; rfl, rfl⟩
      · have hd1 : (g.take (k + 1)).all dig = true := by
          rw [take_snoc hb, List.all_append, hd]
          have : dig b = true := decide_eq_true (by omega)
          simp [this]
        have hB1 := hB (k + 1) (by omega) hd1
        rw [hsn] at hB1
        refine s_q rfl rfl (by exact rfl) (q_mulu rfl (by exact rfl) (by exact rfl) ⟨by omega, by omega⟩).q ?_
        repeat' first
          | refine s_move (by exact rfl) (by exact rfl) ?_ | fail
        refine s_q rfl rfl (by exact rfl) (q_sidx (b := b) rfl (by exact rfl) (by exact rfl) (by omega) (by simpa using hb)).q ?_
        refine s_q rfl rfl (by exact rfl) (q_subu rfl (by exact rfl) (by exact rfl) (by simp [IntKind.min, IntKind.max, IntKind.signed, IntKind.bits]; omega)).q ?_
        repeat' first
          | refine s_conv (by exact rfl) (by exact rfl) (by refine ⟨?_, ?_⟩ <;> simp [IntKind.min, IntKind.max, IntKind.signed, IntKind.bits] <;> omega) ?_ | fail
        refine s_q rfl rfl (by exact rfl) (q_addu rfl (by exact rfl) (by exact rfl) ⟨by omega, by omega⟩).q ?_
        repeat' first
          | refine k_then ?_ | refine c_region ?_ | refine s_nil ?_ | refine s_move (by exact rfl) (by exact rfl) ?_ | refine s_assign (by exact rfl) (by exact rfl) ?_ | refine s_add (by exact rfl) (by exact rfl) (by exact rfl) (by omega) ?_ | refine k_blk ?_ | fail
        refine c_round (k + 1) [] rfl ⟨rfl, rfl, by rw [hsn, show ((val (g.take k) * 10 + (b.toNat - 48) : Nat) : Int) = (val (g.take k) : Int) * 10 + ((b.toNat : Int) - 48) by omega]; exact rfl, rfl, trivial⟩ ⟨by omega, hd1⟩ (by omega)
  · obtain rfl : k = g.length := by omega
    have hB1 := hB g.length (Nat.le_refl _) hd
    rw [List.take_length] at *
    cases ng with
    | true =>
      have hp1 := val_pos hne hd (fun hc => h0 ⟨hc, .inl rfl⟩)
      repeat' first
        | refine k_then ?_ | refine c_seq ?_ | refine c_region ?_ | refine s_nil ?_ | refine s_move (by exact rfl) (by exact rfl) ?_ | refine s_assign (by exact rfl) (by exact rfl) ?_ | refine s_pick_t (by exact rfl) (by exact rfl) (by exact rfl) ?_ | refine c_skip ?_ | refine c_ret ?_ | refine k_then_ret ?_ | (refine c_cond_p (by exact rfl) (fun h => ?_) (fun h => ?_) <;> try (exfalso; omega)) | refine c_cond_t (by exact rfl) ?_ | refine g_skip (by exact rfl) (by exact rfl) (by exact rfl) (by exact rfl) ?_ | refine w_move (by exact rfl) (by exact rfl) (by exact rfl) (by exact rfl) ?_ | refine w_leq (by exact rfl) (by exact rfl) (by exact rfl) (by exact rfl) (by exact rfl) ?_ | fail
      · refine s_q rfl rfl (by exact rfl) (q_subu rfl (by exact rfl) (by exact rfl) (by simp [IntKind.min, IntKind.max, IntKind.signed, IntKind.bits]; omega)).q ?_
        repeat' first
          | refine s_conv (by exact rfl) (by exact rfl) (by refine ⟨?_, ?_⟩ <;> simp [IntKind.min, IntKind.max, IntKind.signed, IntKind.bits] <;> omega) ?_ | fail
        refine s_q rfl rfl (by exact rfl) (q_negi rfl (by exact rfl) ⟨by omega, by omega⟩).q ?_
        repeat' first
          | refine k_then ?_ | refine s_nil ?_ | refine s_assign (by exact rfl) (by exact rfl) ?_ | refine s_sub (by exact rfl) (by exact rfl) (by exact rfl) (by omega) ?_ | refine c_ret ?_ | refine k_then_ret ?_ | fail
        exact retL [.tmp 2, .tmp 3] [.int .i64 (-((val g : Int) - 1) - 1), .int .i64 0] [] rfl ⟨res_tmp rfl, res_tmp rfl, trivial⟩ (by exact rfl) ⟨by rw [body, if_pos ⟨hne, h0, hd, by omega, fun e => by cases e⟩, if_pos rfl, show -((val g : Int) - 1) - 1 = -(val g : Int) by omega]; rfl, rfl⟩
      · exact retL [.tmp 2, .tmp 3] [.int .i64 0, .int .i64 2] [] rfl ⟨res_tmp rfl, res_tmp rfl, trivial⟩ (by exact rfl) ⟨by rw [body, if_neg (fun hg => by have := hg.2.2.2.1; omega)]; rfl, rfl⟩
    | false =>
      repeat' first
        | refine k_then ?_ | refine c_seq ?_ | refine c_region ?_ | refine s_nil ?_ | refine s_move (by exact rfl) (by exact rfl) ?_ | refine s_assign (by exact rfl) (by exact rfl) ?_ | refine s_pick_f (by exact rfl) (by exact rfl) (by exact rfl) ?_ | refine c_skip ?_ | refine c_ret ?_ | refine k_then_ret ?_ | (refine c_cond_p (by exact rfl) (fun h => ?_) (fun h => ?_) <;> try (exfalso; omega)) | refine c_cond_f (by exact rfl) ?_ | refine g_skip (by exact rfl) (by exact rfl) (by exact rfl) (by exact rfl) ?_ | refine w_move (by exact rfl) (by exact rfl) (by exact rfl) (by exact rfl) ?_ | refine w_gtr (by exact rfl) (by exact rfl) (by exact rfl) (by exact rfl) (by exact rfl) ?_ | refine s_conv (by exact rfl) (by exact rfl) (by refine ⟨?_, ?_⟩ <;> simp [IntKind.min, IntKind.max, IntKind.signed, IntKind.bits] <;> omega) ?_ | fail
      · exact retL [.tmp 2, .tmp 3] [.int .i64 0, .int .i64 2] [] rfl ⟨res_tmp rfl, res_tmp rfl, trivial⟩ (by exact rfl) ⟨by rw [body, if_neg (fun hg => by have := hg.2.2.2.1; have := hg.2.2.2.2 rfl; omega)]; rfl, rfl⟩
      · exact retL [.tmp 2, .tmp 3] [.int .i64 (val g : Int), .int .i64 0] [] rfl ⟨res_tmp rfl, res_tmp rfl, trivial⟩ (by exact rfl) ⟨by rw [body, if_pos ⟨hne, h0, hd, by omega, fun _ => by omega⟩]; rfl, rfl⟩
end Go.Proofs.YtllkoinbfegonaaDoor
end
section
set_option linter.unusedVariables false
set_option maxRecDepth 100000
namespace Go.Proofs.YtllkoinbfegonaaDoor
open Go Go.Proofs Go.RowKit Go.Extern.Stop Go.Stop Go.Extern Go.Sl
theorem run_callMethod {P : Program} {t : TypeId} {v : Value} {name : String} {f : FuncId} {r : Value} (hm : ∀ w, (Go.method (P.types.size + Made.depth) t v name).run P w = .ok (f, r) w) (args : Array Value) (w : World) : (callMethod (.iface t v) name args).run P w = (callFunc f (#[r] ++ args)).run P w := by
  unfold callMethod
  simp [Sem.run_bind, hm]
/-- A type's handle. -/
noncomputable abbrev hd (t : TypeId) : Value := typeHandle Tryd.prog t
noncomputable abbrev rT (t : TypeId) : Value := .iface 108 (.agg #[hd t])
theorem mKind (h : Value) (w : World) : (Go.method (Tryd.prog.types.size + Made.depth) 108 (.agg #[h]) "Kind").run Tryd.prog w = .ok (126, h) w := by kernel_rfl
theorem mElem (h : Value) (w : World) : (Go.method (Tryd.prog.types.size + Made.depth) 108 (.agg #[h]) "Elem").run Tryd.prog w = .ok (136, .agg #[h]) w := by kernel_rfl
theorem mImpl (h : Value) (w : World) : (Go.method (Tryd.prog.types.size + Made.depth) 108 (.agg #[h]) "Implements").run Tryd.prog w = .ok (137, .agg #[h]) w := by kernel_rfl
theorem mAssi (h : Value) (w : World) : (Go.method (Tryd.prog.types.size + Made.depth) 108 (.agg #[h]) "AssignableTo").run Tryd.prog w = .ok (134, .agg #[h]) w := by kernel_rfl
theorem kPK (w : World) : ((ReflectliteType.abiMethod fun t => (fun a : Nat => Value.int IntKind.u8 (a : Int)) <$> Rtype.kind t) #[hd 79]).run Tryd.prog w = .ok (.int .u8 22) w := by kernel_rfl
theorem kK (w : World) : ((ReflectliteType.abiMethod fun t => (fun a : Nat => Value.int IntKind.u8 (a : Int)) <$> Rtype.kind t) #[hd 23]).run Tryd.prog w = .ok (.int .u8 2) w := by kernel_rfl
theorem eK (w : World) : (ReflectliteType.method ReflectliteType.elem #[.agg #[hd 79]]).run Tryd.prog w = .ok (rT 23) w := by kernel_rfl
theorem iK (w : World) : (ReflectliteType.relation "Implements" ReflectliteType.implements_ #[.agg #[hd 23], rT 27]).run Tryd.prog w = .ok (.bool true) w := by kernel_rfl
theorem tF (v : Value) (w : World) : (ReflectliteType.typeOf #[.iface 29 v]).run Tryd.prog w = .ok (rT 29) w := by kernel_rfl
theorem tK (v : Value) (w : World) : (ReflectliteType.typeOf #[.iface 23 v]).run Tryd.prog w = .ok (rT 23) w := by kernel_rfl
theorem aFK (w : World) : (ReflectliteType.relation "AssignableTo" ReflectliteType.assignableTo #[.agg #[hd 29], rT 23]).run Tryd.prog w = .ok (.bool false) w := by kernel_rfl
theorem aKK (w : World) : (ReflectliteType.relation "AssignableTo" ReflectliteType.assignableTo #[.agg #[hd 23], rT 23]).run Tryd.prog w = .ok (.bool true) w := by kernel_rfl
theorem vPK (t : Addr) (w : World) : (ReflectliteValue.unpack (.iface 79 (.pointer (some t)))).run Tryd.prog w
    = .ok (.agg #[hd 79, .pointer (some ⟨w.heap.size, 0, none⟩), .int .u64 150]) (w.alloc (.cells #[.pointer (some t)] 79)) := by kernel_rfl
theorem vK (k : Int) (w : World) : (ReflectliteValue.unpack (.iface 23 (.int .i64 k))).run Tryd.prog w
    = .ok (.agg #[hd 23, .pointer (some ⟨w.heap.size, 0, none⟩), .int .u64 130]) (w.alloc (.cells #[.int .i64 k] 23)) := by kernel_rfl
theorem yPK (a : Addr) (w : World) : (ReflectliteValue.methodAny (ReflectliteValue.valueError "reflectlite.Value.Type" 0) (fun t _ _ _ => ReflectliteType.toType t) #[.agg #[hd 79, .pointer (some a), .int .u64 150]]).run Tryd.prog w
    = .ok (rT 79) w := by kernel_rfl
theorem pPK (a : Addr) (w : World) : (ReflectliteValue.parts (.agg #[hd 79, .pointer (some a), .int .u64 150])).run Tryd.prog w = .ok (some (79, a, 150)) w := by kernel_rfl
theorem pK (a : Addr) (w : World) : (ReflectliteValue.parts (.agg #[hd 23, .pointer (some a), .int .u64 130])).run Tryd.prog w = .ok (some (23, a, 130)) w := by kernel_rfl
theorem pKa (a : Addr) (w : World) : (ReflectliteValue.parts (.agg #[hd 23, .pointer (some a), .int .u64 386])).run Tryd.prog w = .ok (some (23, a, 386)) w := by kernel_rfl
theorem oPK (w : World) : (Rtype.elem? 79).run Tryd.prog w = .ok (some 23) w := by kernel_rfl
theorem nK (p : Addr) (w : World) : (ReflectliteValue.mk 23 p ReflectliteValue.flagAddr).run Tryd.prog w = .ok (.agg #[hd 23, .pointer (some p), .int .u64 386]) w := by kernel_rfl
theorem dKK (w : World) : (Rtype.directlyAssignable 23 23).run Tryd.prog w = .ok true w := by kernel_rfl
theorem mUnF (v : Value) (w : World) : (Go.method (Tryd.prog.types.size + Made.depth) 29 v "Unwrap").run Tryd.prog w = .ok (14, v) w := by kernel_rfl
end Go.Proofs.YtllkoinbfegonaaDoor
end
section
set_option linter.unusedVariables false
namespace Go.Proofs.YtllkoinbfegonaaDoor
open Go Go.RowKit Go.Sl Go.Stop Go.Extern.Stop Go.Extern
set_option maxRecDepth 100000
set_option maxHeartbeats 8000000
set_option linter.unusedVariables false
set_option linter.unusedSimpArgs false
attribute [local irreducible] Code.wp wpList bodyPost wpQuiet Exit.then Exit.inBlock Post wpAnyH wpOp
instance : NoIf Tryd.prog 23 := ⟨⟨_, Tryd.underlying23, fun _ h => by cases h⟩⟩
instance : NoIf Tryd.prog 29 := ⟨⟨_, Tryd.underlying29, fun _ h => by cases h⟩⟩
instance : NoIf Tryd.prog 79 := ⟨⟨_, Tryd.underlying79, fun _ h => by cases h⟩⟩
instance : NoIf Tryd.prog 31 := ⟨⟨_, Tryd.underlying31, fun _ h => by cases h⟩⟩
instance : IfTy Tryd.prog 27 := ⟨⟨_, Tryd.underlying27⟩⟩
instance : IfTy Tryd.prog 20 := ⟨⟨_, Tryd.underlying20⟩⟩
instance : PtTy Tryd.prog 29 := ⟨⟨_, Tryd.underlying29⟩⟩
theorem asKK (v : Value) (w : World) : (Instr.typeAssert (.iface 23 v) 27 23 true).run Tryd.prog w = .ok (.tuple #[v, .bool true]) w := by kernel_rfl
theorem asFF (v : Value) (w : World) : (Instr.typeAssert (.iface 29 v) 27 29 true).run Tryd.prog w = .ok (.tuple #[v, .bool true]) w := by kernel_rfl
theorem asFAs (v : Value) (w : World) : (Instr.typeAssert (.iface 29 v) 27 112 true).run Tryd.prog w = .ok (.tuple #[.nilIface, .bool false]) w := run_typeAssert_lacksB Tryd.underlying112 (by kernel_rfl) (by kernel_rfl) v _ w
theorem asFUn (v : Value) (w : World) : (Instr.typeAssert (.iface 29 v) 27 115 true).run Tryd.prog w = .ok (.tuple #[.iface 29 v, .bool true]) w := run_typeAssert_hasB Tryd.underlying115 (by kernel_rfl) v _ w
theorem callValueOf (args : Array Value) (w : World) : (callFunc 30 args).run Tryd.prog w = (((fun args => ReflectliteValue.unpack (args.getD 0 (.tuple #[]))) args).run Tryd.prog w).andThen fun v w' => .ok (.value v) w' := run_callFunc_extern (e := (fun args => ReflectliteValue.unpack (args.getD 0 (.tuple #[])))) Tryd.func30 (by kernel_rfl) (by kernel_rfl) (by kernel_rfl) (by kernel_rfl) args w
theorem callVType (args : Array Value) (w : World) : (callFunc 31 args).run Tryd.prog w = (((ReflectliteValue.methodAny (ReflectliteValue.valueError "reflectlite.Value.Type" 0) (fun t _ _ _ => ReflectliteType.toType t)) args).run Tryd.prog w).andThen fun v w' => .ok (.value v) w' := run_callFunc_extern (e := (ReflectliteValue.methodAny (ReflectliteValue.valueError "reflectlite.Value.Type" 0) (fun t _ _ _ => ReflectliteType.toType t))) Tryd.func31 (by kernel_rfl) (by kernel_rfl) (by kernel_rfl) (by kernel_rfl) args w
theorem callIsNil (args : Array Value) (w : World) : (callFunc 32 args).run Tryd.prog w = (((ReflectliteValue.method (ReflectliteValue.valueError "reflectlite.Value.IsNil" 0) ReflectliteValue.isNil) args).run Tryd.prog w).andThen fun v w' => .ok (.value v) w' := run_callFunc_extern (e := (ReflectliteValue.method (ReflectliteValue.valueError "reflectlite.Value.IsNil" 0) ReflectliteValue.isNil)) Tryd.func32 (by kernel_rfl) (by kernel_rfl) (by kernel_rfl) (by kernel_rfl) args w
theorem callVElem (args : Array Value) (w : World) : (callFunc 51 args).run Tryd.prog w = (((ReflectliteValue.method (ReflectliteValue.valueError "reflectlite.Value.Elem" 0) ReflectliteValue.elem) args).run Tryd.prog w).andThen fun v w' => .ok (.value v) w' := run_callFunc_extern (e := (ReflectliteValue.method (ReflectliteValue.valueError "reflectlite.Value.Elem" 0) ReflectliteValue.elem)) Tryd.func51 (by kernel_rfl) (by kernel_rfl) (by kernel_rfl) (by kernel_rfl) args w
theorem callVSet (args : Array Value) (w : World) : (callFunc 52 args).run Tryd.prog w = ((ReflectliteValue.set args).run Tryd.prog w).andThen fun v w' => .ok (.value v) w' := run_callFunc_extern (e := ReflectliteValue.set) Tryd.func52 (by kernel_rfl) (by kernel_rfl) (by kernel_rfl) (by kernel_rfl) args w
theorem callTypeOf (args : Array Value) (w : World) : (callFunc 36 args).run Tryd.prog w = ((ReflectliteType.typeOf args).run Tryd.prog w).andThen fun v w' => .ok (.value v) w' := run_callFunc_extern (e := ReflectliteType.typeOf) Tryd.func36 (by kernel_rfl) (by kernel_rfl) (by kernel_rfl) (by kernel_rfl) args w
theorem callKind (args : Array Value) (w : World) : (callFunc 126 args).run Tryd.prog w = (((ReflectliteType.abiMethod fun t => do pure (.int .u8 (← Rtype.kind t))) args).run Tryd.prog w).andThen fun v w' => .ok (.value v) w' := run_callFunc_extern (e := (ReflectliteType.abiMethod fun t => do pure (.int .u8 (← Rtype.kind t)))) Tryd.func126 (by kernel_rfl) (by kernel_rfl) (by kernel_rfl) (by kernel_rfl) args w
theorem callTElem (args : Array Value) (w : World) : (callFunc 136 args).run Tryd.prog w = (((ReflectliteType.method ReflectliteType.elem) args).run Tryd.prog w).andThen fun v w' => .ok (.value v) w' := run_callFunc_extern (e := (ReflectliteType.method ReflectliteType.elem)) Tryd.func136 (by kernel_rfl) (by kernel_rfl) (by kernel_rfl) (by kernel_rfl) args w
theorem callImpl (args : Array Value) (w : World) : (callFunc 137 args).run Tryd.prog w = (((ReflectliteType.relation "Implements" ReflectliteType.implements_) args).run Tryd.prog w).andThen fun v w' => .ok (.value v) w' := run_callFunc_extern (e := (ReflectliteType.relation "Implements" ReflectliteType.implements_)) Tryd.func137 (by kernel_rfl) (by kernel_rfl) (by kernel_rfl) (by kernel_rfl) args w
theorem callAssi (args : Array Value) (w : World) : (callFunc 134 args).run Tryd.prog w = (((ReflectliteType.relation "AssignableTo" ReflectliteType.assignableTo) args).run Tryd.prog w).andThen fun v w' => .ok (.value v) w' := run_callFunc_extern (e := (ReflectliteType.relation "AssignableTo" ReflectliteType.assignableTo)) Tryd.func134 (by kernel_rfl) (by kernel_rfl) (by kernel_rfl) (by kernel_rfl) args w
theorem rlm (z : Sem Value) (f : TypeId → Addr → Nat → Nat → Sem Value) (v : Value) :
    ReflectliteValue.method z f #[v] = (do match ← ReflectliteValue.parts v with | none => z | some (t, a, fl) => f t a fl (fl % 32)) := rfl
theorem isNilP (a p : Addr) (W : World) (ha : W.cell? a = some (.pointer (some p))) :
    (ReflectliteValue.method (ReflectliteValue.valueError "reflectlite.Value.IsNil" 0) ReflectliteValue.isNil #[.agg #[hd 79, .pointer (some a), .int .u64 150]]).run Tryd.prog W = .ok (.bool false) W := by
  rw [rlm]
  simp only [Sem.run_bind, pPK, Result.andThen]
  simp [ReflectliteValue.isNil, loadVar, isAgg, underlying, Tryd.underlying79, ha, Result.andThen]
theorem elemP (a p : Addr) (W : World) (ha : W.cell? a = some (.pointer (some p))) :
    (ReflectliteValue.method (ReflectliteValue.valueError "reflectlite.Value.Elem" 0) ReflectliteValue.elem #[.agg #[hd 79, .pointer (some a), .int .u64 150]]).run Tryd.prog W
      = .ok (.agg #[hd 23, .pointer (some p), .int .u64 386]) W := by
  rw [rlm]
  simp only [Sem.run_bind, pPK, Result.andThen]
  simp [ReflectliteValue.elem, loadVar, isAgg, underlying, Tryd.underlying79, ha, Result.andThen, oPK, nK]
theorem rls (v x : Value) : ReflectliteValue.set #[v, x] = (do
    let (some (dst, a, fl), some (src, b, _)) := (← ReflectliteValue.parts v, ← ReflectliteValue.parts x)
      | unsupported (.noEntry "extern/(internal/reflectlite.Value).Set.zeroValue")
    if fl / ReflectliteValue.flagAddr % 2 == 0 then unsupported (.noEntry "extern/(internal/reflectlite.Value).Set.unaddressable")
    let val ← loadVar src b
    if ← Rtype.directlyAssignable dst src then storeVar dst a val
    else if ← Rtype.implements dst src then
      if (← Rtype.kind src) == 20 then
        match val with
        | .nilIface => unsupported (.noEntry "extern/reflectlite: a nil value of one interface type handed on as a value of another")
        | _ => storeVar dst a val
      else storeVar dst a (.iface src val)
    else panicString ("reflectlite.Set: value of type " ++ (← Rtype.spelt src) ++ " is not assignable to type " ++ (← Rtype.spelt dst))
    pure (.tuple #[])) := rfl
theorem setK (ta b : Addr) (k : Int) (old : Value) (W : World) (hb : W.cell? b = some (.int .i64 k)) (ht : W.cell? ta = some old) (hf : W.frozen? ta = false) :
    (ReflectliteValue.set #[.agg #[hd 23, .pointer (some ta), .int .u64 386], .agg #[hd 23, .pointer (some b), .int .u64 130]]).run Tryd.prog W
      = .ok (.tuple #[]) (W.setCell ta (.int .i64 k)) := by
  rw [rls]
  simp only [Sem.run_bind, pKa, pK, Result.andThen]
  simp [ReflectliteValue.flagAddr, loadVar, isAgg, underlying, Tryd.underlying23, hb, Result.andThen, dKK, storeVar, Value.cells, storeCells, Addr.add]
  rw [run_store Tryd.prog W ta _ _ (by rfl)]
  simp [ht, hf]
end Go.Proofs.YtllkoinbfegonaaDoor
end
section
set_option linter.unusedVariables false
namespace Go.Proofs.YtllkoinbfegonaaDoor
open Go Go.RowKit Go.Sl Go.Stop Go.Extern.Stop Go.Extern
set_option maxRecDepth 100000
set_option maxHeartbeats 8000000
set_option linter.unusedVariables false
set_option linter.unusedSimpArgs false
attribute [local irreducible] Code.wp wpList bodyPost wpQuiet Exit.then Exit.inBlock Post wpAnyH wpOp
/-- a chain's node: its box, its name, its place -/
structure Nd where
  b : Nat
  s : ByteArray
  i : Int
/-- a chain as a value: the outermost node first; bv: what it ends in -/
def chV (bv : Value) : List Nd → Value
  | [] => bv
  | x :: _ => .iface 29 (.pointer (some ⟨x.b, 0, none⟩))
def ndC (bv : Value) (x : Nd) (r : List Nd) : List Value := [.string x.s, .int .i64 x.i, chV bv r]
def ChR (w : World) (S : FS) (bv : Value) : List Nd → Prop
  | [] => True
  | x :: r => RB w S x.b 37 (ndC bv x r) ∧ ChR w S bv r
theorem ChR.old {w0 w : World} {S0 : FS} {L : List HP} {bv : Value} (hs : St w0 S0 L w) : ∀ {r : List Nd}, ChR w0 S0 bv r → ChR w No bv r
  | [], _ => trivial
  | _ :: _, ⟨h, h2⟩ => ⟨rb_old hs h, h2.old hs⟩
theorem FUnwrap_ok (b : Nat) (cs : List Value) (u : Value) (w : World) (hr : RB w No b 37 cs) (hc : cs[2]? = some u) :
    Calls Tryd.prog 14 #[.pointer (some ⟨b, 0, none⟩)] w (Post w No (Just u)) := by
  refine enter0 (vs := [_]) Tryd.func14 rfl Tryd.ntmps14 rfl ?_
  repeat' first
    | refine k_then ?_ | refine c_seq ?_ | refine c_region ?_ | refine s_nil ?_ | refine s_move (by exact rfl) (by exact rfl) ?_ | refine s_assign (by exact rfl) (by exact rfl) ?_ | refine s_fa (by exact rfl) (by exact rfl) ?_ | refine c_skip ?_ | refine c_cond_f (by exact rfl) ?_ | refine s_q rfl rfl (by exact rfl) (q_pnil_f rfl (by exact rfl)).q ?_ | refine s_q rfl rfl (by exact rfl) (q_nilck rfl (by exact rfl)).q ?_ | fail
  refine s_ld_rb (by exact rfl) (by exact rfl) hr hc ?_
  repeat' first
    | refine k_then ?_ | refine s_nil ?_ | refine s_assign (by exact rfl) (by exact rfl) ?_ | refine c_ret ?_ | fail
  exact ret1 [] rfl rfl rfl ⟨rfl, rfl⟩
theorem iUnwrap (b : Nat) (w : World) : (callMethod (.iface 29 (.pointer (some ⟨b, 0, none⟩))) "Unwrap" (List.toArray [])).run Tryd.prog w = .ok (.enter 14 (List.toArray [.pointer (some ⟨b, 0, none⟩)])) w := by
  rw [run_callMethod (mUnF _)]
  exact (inferInstance : FnTy Tryd.prog 14).c _ _
theorem iAssi (t1 t2 : TypeId) (b : Bool) (h : ∀ w, (ReflectliteType.relation "AssignableTo" ReflectliteType.assignableTo #[.agg #[hd t1], rT t2]).run Tryd.prog w = .ok (.bool b) w) (w : World) : (callMethod (rT t1) "AssignableTo" (List.toArray [rT t2])).run Tryd.prog w = .ok (.value (.bool b)) w := by
  rw [run_callMethod (mAssi _)]
  have e : (#[Value.agg #[hd t1]] ++ (List.toArray [rT t2])) = #[.agg #[hd t1], rT t2] := rfl
  rw [e, callAssi, h]; rfl
theorem cTypeOf (v : Value) (t : TypeId) (h : ∀ w, (ReflectliteType.typeOf #[v]).run Tryd.prog w = .ok (rT t) w) (w : World) : (callFunc 36 (List.toArray [v])).run Tryd.prog w = .ok (.value (rT t)) w := by
  rw [callTypeOf]
  have e : (List.toArray [v]) = #[v] := rfl
  rw [e, h]; rfl
theorem chV_if {bv : Value} (hb : ∃ t u, bv = .iface t u) : ∀ r : List Nd, ∃ t u, chV bv r = .iface t u
  | [] => hb
  | _ :: _ => ⟨_, _, rfl⟩
theorem cElemP (a p : Nat) (w : World) (ha : w.cell? ⟨a, 0, none⟩ = some (.pointer (some ⟨p, 0, none⟩))) : (callFunc 51 (List.toArray [.agg #[hd 79, .pointer (some ⟨a, 0, none⟩), .int .u64 150]])).run Tryd.prog w = .ok (.value (.agg #[hd 23, .pointer (some ⟨p, 0, none⟩), .int .u64 386])) w := by
  rw [callVElem]
  have e := elemP ⟨a, 0, none⟩ ⟨p, 0, none⟩ w ha
  rw [show (List.toArray [Value.agg #[hd 79, .pointer (some ⟨a, 0, none⟩), .int .u64 150]]) = #[.agg #[hd 79, .pointer (some ⟨a, 0, none⟩), .int .u64 150]] from rfl, e]; rfl
theorem cValK (k : Int) (w : World) : (callFunc 30 (List.toArray [.iface 23 (.int .i64 k)])).run Tryd.prog w = .ok (.value (.agg #[hd 23, .pointer (some ⟨w.heap.size, 0, none⟩), .int .u64 130])) (w.alloc (.cells (List.toArray [.int .i64 k]) 23 (0, 0))) := by
  rw [callValueOf]
  exact congrArg (fun z => Result.andThen z fun v w' => Result.ok (Next.value v) w') (vK k w)
theorem cValPK (b : Nat) (w : World) : (callFunc 30 (List.toArray [.iface 79 (.pointer (some ⟨b, 0, none⟩))])).run Tryd.prog w = .ok (.value (.agg #[hd 79, .pointer (some ⟨w.heap.size, 0, none⟩), .int .u64 150])) (w.alloc (.cells (List.toArray [.pointer (some ⟨b, 0, none⟩)]) 79 (0, 0))) := by
  rw [callValueOf]
  exact congrArg (fun z => Result.andThen z fun v w' => Result.ok (Next.value v) w') (vPK ⟨b, 0, none⟩ w)
theorem cSetK (ta b : Nat) (k : Int) (old : Value) (w : World) (hb : w.cell? ⟨b, 0, none⟩ = some (.int .i64 k)) (ht : w.cell? ⟨ta, 0, none⟩ = some old ∧ w.frozen? ⟨ta, 0, none⟩ = false) : (callFunc 52 (List.toArray [.agg #[hd 23, .pointer (some ⟨ta, 0, none⟩), .int .u64 386], .agg #[hd 23, .pointer (some ⟨b, 0, none⟩), .int .u64 130]])).run Tryd.prog w = .ok (.value (.tuple #[])) (w.setCell ⟨ta, 0, none⟩ (.int .i64 k)) := by
  rw [callVSet]
  exact congrArg (fun z => Result.andThen z fun v w' => Result.ok (Next.value v) w') (setK ⟨ta, 0, none⟩ ⟨b, 0, none⟩ k old w hb ht.1 ht.2)
/-- what is pointed to as a Value -/
noncomputable abbrev vlP (b : Nat) : Value := .agg #[hd 79, .pointer (some ⟨b, 0, none⟩), .int .u64 150]
theorem asK_ok (k : Int) (r : List Nd) (tb vb : Nat) (old : Value) (w : World) (S : FS) (hr : ChR w S (.iface 23 (.int .i64 k)) r) (hv : RB w S vb 79 [.pointer (some ⟨tb, 0, none⟩)]) (hs : sats [boxHP tb 23 [old]] S w) :
    Calls Tryd.prog 33 #[chV (.iface 23 (.int .i64 k)) r, .iface 79 (.pointer (some ⟨tb, 0, none⟩)), vlP vb, rT 23] w
      (Post w S fun u L' => u = .bool true ∧ L' = [boxHP tb 23 [.int .i64 k]]) := by
  refine enter (vs := [_, _, _, _]) Tryd.func33 rfl Tryd.ntmps33 rfl hs ?_
  repeat' first
    | refine k_then ?_ | refine c_seq ?_ | refine c_region ?_ | refine s_nil ?_ | refine s_assign (by exact rfl) (by exact rfl) ?_ | refine o_box (by exact rfl) (by exact rfl) (fun b => ?_) | refine c_block ?_ | fail
  refine c_loop (fun r' : List Nd => ChR w S (.iface 23 (.int .i64 k)) r') (fun r' => [(0, chV (.iface 23 (.int .i64 k)) r'), (1, .iface 79 (.pointer (some ⟨tb, 0, none⟩))), (3, rT 23), (6, .pointer (some ⟨b, 0, none⟩))]) (fun _ => [boxHP b 70 [hd 79, .pointer (some ⟨vb, 0, none⟩), .int .u64 150], boxHP tb 23 [old]]) List.length r [0, 0] hr rfl ⟨rfl, rfl, rfl, rfl, trivial⟩ ?_
  intro r' hr'
  cases r' with
  | nil =>
    rw [show chV (.iface 23 (.int .i64 k)) [] = .iface 23 (.int .i64 k) from rfl]
    repeat' first
      | refine c_seq ?_ | refine c_region ?_ | refine s_move (by exact rfl) (by exact rfl) ?_ | refine c_block ?_ | fail
    refine s_q rfl rfl (by exact rfl) (q_ext (fun w _ => cTypeOf _ _ (tK _) w) rfl (by exact rfl)).q ?_
    repeat' first
      | refine s_move (by exact rfl) (by exact rfl) ?_ | fail
    refine s_q rfl rfl (by exact rfl) (q_inv (fun w => iAssi _ _ _ aKK w) rfl (by exact rfl) (by exact rfl)).q ?_
    repeat' first
      | refine k_then ?_ | refine c_seq ?_ | refine c_region ?_ | refine s_nil ?_ | refine s_ldk_box (by exact rfl) (by exact rfl) (by exact .head _) (by exact rfl) (by exact rfl) ?_ | refine c_cond_t (by exact rfl) ?_ | fail
    refine s_q rfl rfl (by exact rfl) (q_ext (fun w h => cElemP vb tb w (rb_cell h hv rfl)) rfl (by exact rfl)).q ?_
    repeat' first
      | refine s_move (by exact rfl) (by exact rfl) ?_ | fail
    refine o_ext (g := fun b => .agg #[hd 23, .pointer (some ⟨b, 0, none⟩), .int .u64 130]) (fun w _ => cValK k w) (by exact rfl) (by exact rfl) (fun kb => ?_)
    skip
    refine o_extset (i := 2) rfl (fun w h => cSetK tb kb k old w (box_cell h (.head _) rfl).1 (box_cell h (.tail _ (.tail _ (.head _))) rfl)) (by exact rfl) (by exact rfl) ?_
    repeat' first
      | refine k_then ?_ | refine c_seq ?_ | refine c_region ?_ | refine s_nil ?_ | refine s_assign (by exact rfl) (by exact rfl) ?_ | refine c_ret ?_ | refine k_then_ret ?_ | refine k_blk_ret ?_ | fail
    refine ret1 [2] rfl rfl rfl ⟨rfl, rfl⟩
  | cons x r' =>
    rw [show chV (.iface 23 (.int .i64 k)) (x :: r') = .iface 29 (.pointer (some ⟨x.b, 0, none⟩)) from rfl]
    repeat' first
      | refine c_seq ?_ | refine c_region ?_ | refine s_move (by exact rfl) (by exact rfl) ?_ | refine c_block ?_ | fail
    refine s_q rfl rfl (by exact rfl) (q_ext (fun w _ => cTypeOf _ _ (tF _) w) rfl (by exact rfl)).q ?_
    repeat' first
      | refine s_move (by exact rfl) (by exact rfl) ?_ | fail
    refine s_q rfl rfl (by exact rfl) (q_inv (fun w => iAssi _ _ _ aFK w) rfl (by exact rfl) (by exact rfl)).q ?_
    repeat' first
      | refine k_then ?_ | refine c_seq ?_ | refine c_region ?_ | refine s_nil ?_ | refine s_move (by exact rfl) (by exact rfl) ?_ | refine c_skip ?_ | refine c_cond_f (by exact rfl) ?_ | fail
    refine s_q rfl rfl (by exact rfl) (q_assert (asFAs _) rfl (by exact rfl)).q ?_
    repeat' first
      | refine k_then ?_ | refine c_seq ?_ | refine c_region ?_ | refine s_nil ?_ | refine s_move (by exact rfl) (by exact rfl) ?_ | refine s_assign (by exact rfl) (by exact rfl) ?_ | refine s_extract (by exact rfl) (by exact rfl) (by exact rfl) ?_ | refine s_pick_f (by exact rfl) (by exact rfl) (by exact rfl) ?_ | refine c_block ?_ | refine c_skip ?_ | refine c_cond_f (by exact rfl) ?_ | refine g_skip (by exact rfl) (by exact rfl) (by exact rfl) (by exact rfl) ?_ | fail
    refine s_q rfl rfl (by exact rfl) (q_assert (asFUn _) rfl (by exact rfl)).q ?_
    repeat' first
      | refine k_then ?_ | refine c_seq ?_ | refine c_region ?_ | refine s_nil ?_ | refine s_move (by exact rfl) (by exact rfl) ?_ | refine s_assign (by exact rfl) (by exact rfl) ?_ | refine s_extract (by exact rfl) (by exact rfl) (by exact rfl) ?_ | refine c_cond_t (by exact rfl) ?_ | fail
    refine s_q rfl rfl (by exact rfl) (q_invk (iUnwrap _) (fun w h => FUnwrap_ok _ _ _ w (rb_old h hr'.1) rfl) rfl (by exact rfl) (by exact rfl)) ?_
    repeat' first
      | refine k_then ?_ | refine c_seq ?_ | refine c_region ?_ | refine s_nil ?_ | refine s_move (by exact rfl) (by exact rfl) ?_ | refine s_assign (by exact rfl) (by exact rfl) ?_ | fail
    obtain ⟨tt, uu, e⟩ := chV_if (bv := .iface 23 (.int .i64 k)) ⟨_, _, rfl⟩ r'
    refine s_q rfl rfl (by exact rfl) (q_nil_f rfl (by exact congrArg some e)).q ?_
    repeat' first
      | refine k_then ?_ | refine s_nil ?_ | refine c_skip ?_ | refine k_blk ?_ | refine c_cond_f (by exact rfl) ?_ | fail
    refine c_round r' [0, 0] rfl ⟨rfl, rfl, rfl, rfl, trivial⟩ hr'.2 (Nat.lt_succ_self _)
end Go.Proofs.YtllkoinbfegonaaDoor
end
section
set_option linter.unusedVariables false
namespace Go.Proofs.YtllkoinbfegonaaDoor
open Go Go.RowKit Go.Sl Go.Stop Go.Extern.Stop Go.Extern
set_option maxRecDepth 100000
set_option maxHeartbeats 8000000
set_option linter.unusedVariables false
set_option linter.unusedSimpArgs false
attribute [local irreducible] Code.wp wpList bodyPost wpQuiet Exit.then Exit.inBlock Post wpAnyH wpOp
theorem ChR.lent {w0 w : World} {S0 S : FS} {L0 Lr : List HP} {bv : Value} (hs : Lent w0 S0 L0 Lr S w) : ∀ {r : List Nd}, ChR w0 S0 bv r → ChR w S bv r
  | [], _ => trivial
  | _ :: _, ⟨h, h2⟩ => ⟨hs.rb_old h, h2.lent hs⟩
theorem cTypePK (a : Nat) (w : World) : (callFunc 31 (List.toArray [.agg #[hd 79, .pointer (some ⟨a, 0, none⟩), .int .u64 150]])).run Tryd.prog w = .ok (.value (rT 79)) w := by
  rw [callVType]
  exact congrArg (fun z => Result.andThen z fun v w' => Result.ok (Next.value v) w') (yPK ⟨a, 0, none⟩ w)
theorem cNilPK (a p : Nat) (w : World) (ha : w.cell? ⟨a, 0, none⟩ = some (.pointer (some ⟨p, 0, none⟩))) : (callFunc 32 (List.toArray [.agg #[hd 79, .pointer (some ⟨a, 0, none⟩), .int .u64 150]])).run Tryd.prog w = .ok (.value (.bool false)) w := by
  rw [callIsNil]
  exact congrArg (fun z => Result.andThen z fun v w' => Result.ok (Next.value v) w') (isNilP ⟨a, 0, none⟩ _ w ha)
theorem iKind (t : TypeId) (k : Int) (h : ∀ w, ((ReflectliteType.abiMethod fun t => (fun a : Nat => Value.int IntKind.u8 (a : Int)) <$> Rtype.kind t) #[hd t]).run Tryd.prog w = .ok (.int .u8 k) w) (w : World) : (callMethod (rT t) "Kind" (List.toArray [])).run Tryd.prog w = .ok (.value (.int .u8 k)) w := by
  rw [run_callMethod (mKind _), callKind]
  exact congrArg (fun z => Result.andThen z fun v w' => Result.ok (Next.value v) w') (h w)
theorem iElem (t u : TypeId) (h : ∀ w, (ReflectliteType.method ReflectliteType.elem #[.agg #[hd t]]).run Tryd.prog w = .ok (rT u) w) (w : World) : (callMethod (rT t) "Elem" (List.toArray [])).run Tryd.prog w = .ok (.value (rT u)) w := by
  rw [run_callMethod (mElem _), callTElem]
  exact congrArg (fun z => Result.andThen z fun v w' => Result.ok (Next.value v) w') (h w)
theorem iImpl (t u : TypeId) (b : Bool) (h : ∀ w, (ReflectliteType.relation "Implements" ReflectliteType.implements_ #[.agg #[hd t], rT u]).run Tryd.prog w = .ok (.bool b) w) (w : World) : (callMethod (rT t) "Implements" (List.toArray [rT u])).run Tryd.prog w = .ok (.value (.bool b)) w := by
  rw [run_callMethod (mImpl _), callImpl]
  exact congrArg (fun z => Result.andThen z fun v w' => Result.ok (Next.value v) w') (h w)
theorem AsK_ok (k : Int) (r : List Nd) (tb : Nat) (old : Value) (w : World) (S : FS) (hg : RC w S 0 (rT 27)) (hr : ChR w S (.iface 23 (.int .i64 k)) r) (hs : sats [boxHP tb 23 [old]] S w) :
    Calls Tryd.prog 11 #[chV (.iface 23 (.int .i64 k)) r, .iface 79 (.pointer (some ⟨tb, 0, none⟩))] w
      (Post w S fun u L' => u = .bool true ∧ L' = [boxHP tb 23 [.int .i64 k]]) := by
  obtain ⟨tt, uu, e⟩ := chV_if (bv := .iface 23 (.int .i64 k)) ⟨_, _, rfl⟩ r
  refine enter (vs := [_, _]) Tryd.func11 rfl Tryd.ntmps11 rfl hs ?_
  repeat' first
    | refine k_then ?_ | refine c_seq ?_ | refine c_region ?_ | refine s_nil ?_ | refine s_move (by exact rfl) (by exact rfl) ?_ | refine s_assign (by exact rfl) (by exact rfl) ?_ | fail
  refine s_q rfl rfl (by exact rfl) (q_nil_f rfl (by exact congrArg some e)).q ?_
  repeat' first
    | refine k_then ?_ | refine c_seq ?_ | refine c_region ?_ | refine s_nil ?_ | refine s_move (by exact rfl) (by exact rfl) ?_ | refine c_skip ?_ | refine c_cond_f (by exact rfl) ?_ | refine s_q rfl rfl (by exact rfl) (q_nil_f rfl (by exact rfl)).q ?_ | fail
  refine o_ext (g := fun b => .agg #[hd 79, .pointer (some ⟨b, 0, none⟩), .int .u64 150]) (fun w _ => cValPK tb w) (by exact rfl) (by exact rfl) (fun vb => ?_)
  repeat' first
    | refine o_alloc (by exact rfl) (fun b => ?_) | fail
  refine o_stk_box (i := 0) (us := [hd 79, .pointer (some ⟨vb, 0, none⟩), .int .u64 150]) (by exact rfl) (by exact rfl) (by exact rfl) (by exact rfl) (by exact rfl) (by
    intro u hu
    simp only [List.mem_cons, List.mem_nil_iff, or_false] at hu
    rcases hu with rfl | rfl | rfl <;> rfl) (by decide) ?_
  repeat' first
    | refine k_then ?_ | refine c_seq ?_ | refine c_region ?_ | refine s_nil ?_ | refine s_ldk_box (by exact rfl) (by exact rfl) (by exact .head _) (by exact rfl) (by exact rfl) ?_ | fail
  refine s_q rfl rfl (by exact rfl) (q_ext (fun w _ => cTypePK vb w) rfl (by exact rfl)).q ?_
  repeat' first
    | refine k_then ?_ | refine c_seq ?_ | refine c_region ?_ | refine s_nil ?_ | refine s_move (by exact rfl) (by exact rfl) ?_ | refine s_assign (by exact rfl) (by exact rfl) ?_ | fail
  refine s_q rfl rfl (by exact rfl) (q_inv (iKind _ _ kPK) rfl (by exact rfl) (by exact rfl)).q ?_
  repeat' first
    | refine s_move (by exact rfl) (by exact rfl) ?_ | refine s_neq (by exact rfl) (by exact rfl) (by exact rfl) ?_ | (refine g_case (by exact rfl) (by exact rfl) (fun h => ?_) (fun h => ?_) <;> try (exfalso; omega)) | refine w_ldk_box (by exact rfl) (by exact rfl) (by exact rfl) (by exact rfl) (by exact .head _) (by exact rfl) (by exact rfl) ?_ | refine g_on (by exact rfl) (by exact rfl) ?_ | fail
  refine s_q rfl rfl (by exact rfl) (q_ext (fun w h => cNilPK vb tb w (box_cell h (.tail _ (.head _)) rfl).1) rfl (by exact rfl)).q ?_
  repeat' first
    | refine k_then ?_ | refine c_seq ?_ | refine c_region ?_ | refine s_nil ?_ | refine s_move (by exact rfl) (by exact rfl) ?_ | refine s_pick_f (by exact rfl) (by exact rfl) (by exact rfl) ?_ | refine c_skip ?_ | refine c_cond_f (by exact rfl) ?_ | fail
  refine s_q rfl rfl (by exact rfl) (q_inv (iElem _ _ eK) rfl (by exact rfl) (by exact rfl)).q ?_
  repeat' first
    | refine k_then ?_ | refine c_seq ?_ | refine c_region ?_ | refine s_nil ?_ | refine s_move (by exact rfl) (by exact rfl) ?_ | refine s_assign (by exact rfl) (by exact rfl) ?_ | fail
  refine s_q rfl rfl (by exact rfl) (q_inv (iKind _ _ kK) rfl (by exact rfl) (by exact rfl)).q ?_
  repeat' first
    | refine s_move (by exact rfl) (by exact rfl) ?_ | refine s_neq (by exact rfl) (by exact rfl) (by exact rfl) ?_ | (refine g_case (by exact rfl) (by exact rfl) (fun h => ?_) (fun h => ?_) <;> try (exfalso; omega)) | refine w_move (by exact rfl) (by exact rfl) (by exact rfl) (by exact rfl) ?_ | refine g_on (by exact rfl) (by exact rfl) ?_ | fail
  refine s_q rfl rfl (by exact rfl) (q_ld_rc hg rfl (by exact rfl)).q ?_
  repeat' first
    | refine g_on (by exact rfl) (by exact rfl) ?_ | fail
  refine s_q rfl rfl (by exact rfl) (q_inv (iImpl _ _ _ iK) rfl (by exact rfl) (by exact rfl)).q ?_
  repeat' first
    | refine k_then ?_ | refine c_seq ?_ | refine c_region ?_ | refine s_nil ?_ | refine s_move (by exact rfl) (by exact rfl) ?_ | refine s_pick_t (by exact rfl) (by exact rfl) (by exact rfl) ?_ | refine s_ldk_box (by exact rfl) (by exact rfl) (by exact .head _) (by exact rfl) (by exact rfl) ?_ | refine c_skip ?_ | refine c_cond_f (by exact rfl) ?_ | refine w_not (by exact rfl) (by exact rfl) (by exact rfl) (by exact rfl) ?_ | fail
  refine c_pick [2, 0, 0] (by exact rfl) ?_
  refine s_lend [boxHP tb 23 [old]] _ (by exact rfl) (by exact rfl) (by exact rfl) (fun w S h => asK_ok k r tb vb old w S (hr.lent h) (h.rb_own (.tail _ (.head _))) h.own) ?_
  rintro u L' ⟨rfl, rfl⟩
  repeat' first
    | refine k_then ?_ | refine s_nil ?_ | refine s_assign (by exact rfl) (by exact rfl) ?_ | refine c_ret ?_ | fail
  refine ret1 [0] rfl rfl rfl ⟨rfl, rfl⟩
end Go.Proofs.YtllkoinbfegonaaDoor
end
section
set_option linter.unusedVariables false
namespace Go.Proofs.YtllkoinbfegonaaDoor
open Go Go.RowKit Go.Sl Go.Stop Go.Extern.Stop Go.Extern
set_option maxRecDepth 100000
set_option maxHeartbeats 8000000
set_option linter.unusedVariables false
set_option linter.unusedSimpArgs false
attribute [local irreducible] Code.wp wpList bodyPost wpQuiet Exit.then Exit.inBlock Post wpAnyH wpOp
theorem FOf_ok (k : Int) (r : List Nd) (w : World) (hg : RC w No 0 (rT 27)) (hr : ChR w No (.iface 23 (.int .i64 k)) r) :
    Calls Tryd.prog 15 #[chV (.iface 23 (.int .i64 k)) r] w (Post w No (Just (.int .i64 k))) := by
  obtain ⟨tt, uu, e⟩ := chV_if (bv := .iface 23 (.int .i64 k)) ⟨_, _, rfl⟩ r
  refine enter0 (vs := [_]) Tryd.func15 rfl Tryd.ntmps15 rfl ?_
  repeat' first
    | refine k_then ?_ | refine c_seq ?_ | refine c_region ?_ | refine s_nil ?_ | refine s_move (by exact rfl) (by exact rfl) ?_ | refine s_assign (by exact rfl) (by exact rfl) ?_ | fail
  refine s_q rfl rfl (by exact rfl) (q_nil_f rfl (by exact congrArg some e)).q ?_
  repeat' first
    | refine k_then ?_ | refine c_seq ?_ | refine c_region ?_ | refine s_nil ?_ | refine s_move (by exact rfl) (by exact rfl) ?_ | refine o_alloc (by exact rfl) (fun b => ?_) | refine c_skip ?_ | refine c_cond_f (by exact rfl) ?_ | refine s_q rfl rfl (by exact rfl) (q_iface rfl (by exact rfl)).q ?_ | fail
  refine s_lend [boxHP b 23 [.int .i64 0]] [] (by exact rfl) (by exact rfl) (by exact rfl) (fun w S h => AsK_ok k r b _ w S (hg.lent h) (hr.lent h) h.own) ?_
  rintro u L' ⟨rfl, rfl⟩
  repeat' first
    | refine k_then ?_ | refine c_seq ?_ | refine c_region ?_ | refine s_nil ?_ | refine s_assign (by exact rfl) (by exact rfl) ?_ | refine s_ld_box (by exact rfl) (by exact rfl) (by exact .head _) (by exact rfl) ?_ | refine c_ret ?_ | refine k_then_ret ?_ | refine c_cond_t (by exact rfl) ?_ | fail
  exact ret1 [] rfl rfl rfl ⟨rfl, rfl⟩
end Go.Proofs.YtllkoinbfegonaaDoor
end
section
set_option linter.unusedVariables false
namespace Go.Proofs.YtllkoinbfegonaaDoor
open Go Go.RowKit Go.Sl Go.Stop Go.Extern.Stop Go.Extern
set_option maxRecDepth 100000
set_option maxHeartbeats 8000000
set_option linter.unusedVariables false
set_option linter.unusedSimpArgs false
attribute [local irreducible] Code.wp wpList bodyPost wpQuiet Exit.then Exit.inBlock Post wpAnyH wpOp
/-- a list of steps, cell by cell -/
abbrev Stp := ByteArray × Int
theorem WrapOK_ok (s : ByteArray) (i : Int) (w : World) : Calls Tryd.prog 19 #[.string s, .int .i64 i, .iface 23 (.int .i64 0)] w (Post w No (Just .nilIface)) := by
  refine enter0 (vs := [_, _, _]) Tryd.func19 rfl Tryd.ntmps19 rfl ?_
  repeat' first
    | refine k_then ?_ | refine c_seq ?_ | refine c_region ?_ | refine s_nil ?_ | refine s_move (by exact rfl) (by exact rfl) ?_ | refine s_assign (by exact rfl) (by exact rfl) ?_ | refine c_skip ?_ | refine c_cond_f (by exact rfl) ?_ | refine s_q rfl rfl (by exact rfl) (q_nil_f rfl (by exact rfl)).q ?_ | fail
  refine s_q rfl rfl (by exact rfl) (q_assert (asKK _) rfl (by exact rfl)).q ?_
  repeat' first
    | refine k_then ?_ | refine c_seq ?_ | refine c_region ?_ | refine s_nil ?_ | refine s_move (by exact rfl) (by exact rfl) ?_ | refine s_assign (by exact rfl) (by exact rfl) ?_ | refine s_extract (by exact rfl) (by exact rfl) (by exact rfl) ?_ | refine s_pick_t (by exact rfl) (by exact rfl) (by exact rfl) ?_ | refine c_ret ?_ | refine k_then_ret ?_ | (refine c_cond_p (by exact rfl) (fun h => ?_) (fun h => ?_) <;> try (exfalso; omega)) | refine w_move (by exact rfl) (by exact rfl) (by exact rfl) (by exact rfl) ?_ | refine w_eql (by exact rfl) (by exact rfl) (by exact rfl) (by exact rfl) (by exact rfl) ?_ | fail
  exact ret1 [] rfl rfl rfl ⟨rfl, rfl⟩
/-- one more around a chain -/
def Wrapped (bv : Value) (r : List Nd) (s : ByteArray) (i : Int) (v : Value) (L : List HP) : Prop :=
  ∃ b, v = chV bv (⟨b, s, i⟩ :: r) ∧ L = [boxHP b 37 (ndC bv ⟨b, s, i⟩ r)]
theorem WrapK_ok (s : ByteArray) (i k : Int) (w : World) (hk : k ≠ 0) : Calls Tryd.prog 19 #[.string s, .int .i64 i, .iface 23 (.int .i64 k)] w (Post w No (Wrapped (.iface 23 (.int .i64 k)) [] s i)) := by
  refine enter0 (vs := [_, _, _]) Tryd.func19 rfl Tryd.ntmps19 rfl ?_
  repeat' first
    | refine k_then ?_ | refine c_seq ?_ | refine c_region ?_ | refine s_nil ?_ | refine s_move (by exact rfl) (by exact rfl) ?_ | refine s_assign (by exact rfl) (by exact rfl) ?_ | refine c_skip ?_ | refine c_cond_f (by exact rfl) ?_ | refine s_q rfl rfl (by exact rfl) (q_nil_f rfl (by exact rfl)).q ?_ | fail
  refine s_q rfl rfl (by exact rfl) (q_assert (asKK _) rfl (by exact rfl)).q ?_
  repeat' first
    | refine k_then ?_ | refine c_seq ?_ | refine c_region ?_ | refine s_nil ?_ | refine s_move (by exact rfl) (by exact rfl) ?_ | refine s_assign (by exact rfl) (by exact rfl) ?_ | refine s_extract (by exact rfl) (by exact rfl) (by exact rfl) ?_ | refine s_pick_t (by exact rfl) (by exact rfl) (by exact rfl) ?_ | refine c_skip ?_ | (refine c_cond_p (by exact rfl) (fun h => ?_) (fun h => ?_) <;> try (exfalso; omega)) | refine w_move (by exact rfl) (by exact rfl) (by exact rfl) (by exact rfl) ?_ | refine w_eql (by exact rfl) (by exact rfl) (by exact rfl) (by exact rfl) (by exact rfl) ?_ | fail
  refine o_build [(0, .string s, [.string s]), (1, .int .i64 i, [.int .i64 i]), (2, .iface 23 (.int .i64 k), [.iface 23 (.int .i64 k)])] (by exact rfl) (by exact rfl) (by simp [Value.cells]) (by exact rfl) ?_
  repeat' first
    | refine k_then ?_ | refine s_nil ?_ | refine s_assign (by exact rfl) (by exact rfl) ?_ | refine o_box (by exact rfl) (by exact rfl) (fun b => ?_) | refine c_ret ?_ | refine s_q rfl rfl (by exact rfl) (q_iface rfl (by exact rfl)).q ?_ | fail
  exact ret1 [0] rfl rfl rfl ⟨b, rfl, rfl⟩
/-- a chain made of steps -/
def ndOf (r : List Nd) : List Stp := r.map fun x => (x.s, x.i)
end Go.Proofs.YtllkoinbfegonaaDoor
end
section
set_option linter.unusedVariables false
set_option linter.unusedSimpArgs false
namespace Go.Sl
open Go Go.RowKit
abbrev pan (v : Value) : PanicEntry := { v := v, recovered := false }
/-- What a call comes to that panics: with v, of which G says what it leaves; it turned nothing but what it was lent. -/
def PanP (w : World) (S : FS) (G : Value → List HP → Prop) (e : Ending) (w' : World) : Prop :=
  ∃ v L', G v L' ∧ e = .panicked [pan v] ∧ ∃ S', Mod w S w' S' ∧ sats L' S' w'
/-- what is said of a panic hangs on the temporaries of D alone -/
class POx (D : List Nat) (Q : Exit → Act → World → Prop) : Prop where
  ok : ∀ c (a : Act) d v w, (∀ k ∈ D, d ≠ some k) → Q (.panic c) (a.put d v) w → Q (.panic c) a w
instance {D : List Nat} {K : Act → World → Prop} {Q : Exit → Act → World → Prop} [T : POx D Q] : POx D (Exit.then K Q) := ⟨fun c a d v w hd h => T.ok c a d v w hd h⟩
instance {D : List Nat} {id : Nat} {Q : Exit → Act → World → Prop} [T : POx D Q] : POx D (Exit.inBlock id Q) := ⟨fun c a d v w hd h => T.ok c a d v w hd h⟩
section
variable {P : Program} {w0 : World} {S0 : FS} {n : Nat} {F : List (Nat × Value)} {L Lk : List HP} {o : Oper} {rest : List Oper} {ops : Array Oper} {Q : Exit → Act → World → Prop} {d i : Nat} {v : Value} {x : Operand} {t : TypeId} {R : Act → World → Prop} [HasD n]
theorem k_then_pan {K : Act → World → Prop} {ch : List PanicEntry} (h : Reach w0 S0 n F L (Q (.panic ch))) : Reach w0 S0 n F L (Exit.then K Q (.panic ch)) := fun a w hf hs => h a w hf hs
theorem k_blk_pan {id : Nat} {ch : List PanicEntry} (h : Reach w0 S0 n F L (Q (.panic ch))) : Reach w0 S0 n F L (Exit.inBlock id Q (.panic ch)) := fun a w hf hs => h a w hf hs
/-- a call that panics, lent entries -/
theorem l_callF {f : FuncId} {xs : Array Operand} {ts : Array TypeId} {vs : List Value} {G : Value → List HP → Prop} (L0 Lr : List HP) (hLL : L = L0 ++ Lr) (ho : o.op = .call { callee := .value (.func f), args := xs, argTypes := ts }) (hvs : xs.toList.map (ev F) = vs.map some) [T : FnTy P f]
    (hc : ∀ w S, Lent w0 S0 L0 Lr S w → Calls P f vs.toArray w (PanP w S G)) (h : ∀ v L', G v L' → Reach w0 S0 n F (L' ++ Lr) (Q (.panic [pan v]))) : Reach w0 S0 n F L (fun a w => o.wp P a w R Q) := by
  subst hLL
  intro a w hf hs
  have hargs := args_eval hf hvs
  have hr : (execOp a.eval o).run P w = .ok (.enter f vs.toArray) w := by
    have e : a.eval (.func f) = .func (.func f) #[] #[] := rfl
    simp only [execOp, ho, resolve, hargs, e, Deferred.ofValue, invoke, Sem.run_bind, Sem.run_pure, Result.andThen_ok, Array.append_empty, Array.empty_append, T.c]
  unfold Oper.wp
  rw [hr, Oper.upon_enter]
  obtain ⟨S, Sr, Sf, hm0, hs0, hsr, hSf, hSr, hdis⟩ := hs.lend
  refine (hc w S ⟨hs0, ⟨Sf, hm0, hSf⟩, ⟨Sr, hsr, hdis⟩⟩).mono ?_
  rintro e w' ⟨u, L', g, rfl, S', hm, hl⟩
  refine h u L' g _ _ hf ?_
  have hsr' : sats Lr Sr w' := sats_move (fun k hk hlt => hm.keep k hlt (fun h => hdis k h hk)) hsr
  refine ⟨fun k => S' k ∨ Sr k, hm0.trans ⟨hm.os, hm.tape, hm.output, hm.drawn, hm.size, fun k hk hn => hm.keep k hk (fun h => hn (hSf k h)), ?_⟩, sats_append hl hsr' ?_⟩
  · rintro k (hk | hk)
    · exact (hm.new k hk).imp (hSf k) id
    · exact .inl (hSr k hk).1
  · intro k hk hk2
    rcases hm.new k hk with h | h
    · exact hdis k h hk2
    · have := (hSr k hk2).2; omega
theorem s_of_l' (hg : o.guard = none) (h : ∀ R : Act → World → Prop, Reach w0 S0 n F L (fun a w => o.wp P a w R Q)) : Reach w0 S0 n F L (wpList P ops Q (o :: rest)) := by
  intro a w hf hs
  exact wpList_plain hg fun K hK => h K a w hf hs
theorem s_callF {f : FuncId} {xs : Array Operand} {ts : Array TypeId} {vs : List Value} {G : Value → List HP → Prop} {ds : Option Nat} {ty : TypeId} {ps : String} {af : Array Edge} (L0 Lr : List HP) (hLL : L = L0 ++ Lr) (hvs : xs.toList.map (ev F) = vs.map some) [T : FnTy P f]
    (hc : ∀ w S, Lent w0 S0 L0 Lr S w → Calls P f vs.toArray w (PanP w S G)) (h : ∀ v L', G v L' → Reach w0 S0 n F (L' ++ Lr) (Q (.panic [pan v]))) : Reach w0 S0 n F L (wpList P ops Q (⟨ds, .call { callee := .value (.func f), args := xs, argTypes := ts }, ty, ps, af, none⟩ :: rest)) :=
  s_of_l' rfl fun R => l_callF L0 Lr hLL rfl hvs hc h
/-- the last one of a region that draws -/
theorem p_callF {f : FuncId} {xs : Array Operand} {ts : Array TypeId} {vs : List Value} {G : Value → List HP → Prop} {ds : Option Nat} {ty : TypeId} {ps : String} {af : Array Edge} {restp : List PI} (L0 Lr : List HP) (hLL : L = L0 ++ Lr) [T : FnTy P f] (ho : ops[i]? = some ⟨ds, .call { callee := .value (.func f), args := xs, argTypes := ts }, ty, ps, af, none⟩) (hvs : xs.toList.map (ev F) = vs.map some)
    (hc : ∀ w S, Lent w0 S0 L0 Lr S w → Calls P f vs.toArray w (PanP w S G)) (h : ∀ v L', G v L' → Reach w0 S0 n F (L' ++ Lr) (Q (.panic [pan v]))) : RP P w0 S0 n ops Q Lk (.mk i false :: restp) F L :=
  p_l ho rfl fun R hR => l_callF L0 Lr hLL rfl hvs hc h
/-- the text's own panic -/
theorem s_panic {tu : TypeId} {u : Value} {ds : Option Nat} {ty : TypeId} {ps : String} {af : Array Edge} (hx : ev F x = some (.iface tu u)) (h : Reach w0 S0 n F L (Q (.panic [pan (.iface tu u)]))) : Reach w0 S0 n F L (wpList P ops Q (⟨ds, .panic x, ty, ps, af, none⟩ :: rest)) :=
  s_of_l' rfl fun R a w hf hs => by
    have e : (execOp a.eval ⟨ds, .panic x, ty, ps, af, none⟩).run P w = .halt (.panic (.iface tu u)) w := by
      simp only [execOp, hf.eval hx, Sem.run_bind]
      rfl
    show Oper.upon P _ a R Q ((execOp a.eval ⟨ds, .panic x, ty, ps, af, none⟩).run P w)
    rw [e]
    exact h a w hf hs
/-- a region that draws, under a post whose word on panics hangs on some temporaries -/
theorem p_beginx (D : List Nat) [T : POx D Q] {id : Nat} {l : List Oper} (plan : List PI) (Lk : List HP) (hm : (P.follows .mixedOrders && Region.noSelect l.toArray && planOk l.toArray (Array.replicate l.toArray.size false) plan && (planLen plan == l.toArray.size) && l.all fun o => D.all fun k => o.dst != some k) = true)
    (h : RP P w0 S0 n l.toArray Q Lk plan F L) : Reach w0 S0 n F L ((Code.region id l.toArray true).wp P Q) := by
  simp only [Bool.and_eq_true, beq_iff_eq] at hm
  obtain ⟨⟨⟨⟨h1, h2⟩, h3⟩, h4⟩, h5⟩ := hm
  refine a_begin Lk h1 ?_
  intro a w hf hs
  have := pw_soundx (P := P) (Q := Q) (S := St w0 S0 Lk) h2 (fun i o ho c a v w hq => T.ok c a _ v w (fun k hk => by
    have hmem : o ∈ l := List.mem_of_getElem? (by simpa using ho)
    have h6 := List.all_eq_true.1 (List.all_eq_true.1 h5 o hmem) k hk
    simpa using h6) hq) plan _ a w h3 (h a w hf hs)
  rwa [h4] at this
end
section
variable {P : Program} {w0 : World} {S0 : FS} {n : Nat} {F : List (Nat × Value)} {L : List HP}
/-- the end in a panic, where nothing is deferred -/
theorem pan_end {fn : Func} {w : World} {S : FS} {G : Value → List HP → Prop} {v : Value} (is : List Nat) {M : List HP} (hL : pick L is = some M) (hG : G v M) : Reach w S n F L (bodyPost P fn (PanP w S G) (.panic [pan v])) := by
  intro a w' hf hs
  exact ⟨hf.df, v, M, hG, rfl, hs.pick is hL⟩
theorem enterF {f : FuncId} {fn : Func} {c : Code} {vs : List Value} {w : World} {S : FS} {G : Value → List HP → Prop} {L0 : List HP} (hf : P.funcs[f]? = some fn) (hb : fn.body = some c) (hn : fn.ntmps = n) (hl : Nat.ble vs.length n = true) (hL : sats L0 S w)
    (h : Reach w S n (argsF 0 vs) L0 (c.wp P (bodyPost P fn (PanP w S G)))) : Calls P f vs.toArray w (PanP w S G) := by
  refine calls_of_wp hf hb (h _ _ ⟨rfl, ?_, ?_⟩ (St.start hL))
  · have : vs.length ≤ n := by simpa using hl
    simp [hn]; omega
  · intro t u ht
    obtain ⟨j, rfl, hj⟩ := argsF_get vs 0 t u ht
    have hlt := (List.getElem?_eq_some_iff.1 hj).1
    simp only [Nat.zero_add, Array.getD_eq_getD_getElem?]
    rw [Array.getElem?_append_left (by simpa using hlt)]
    simp [hj]
end
theorem bodyPost_imp {P : Program} {fn : Func} {R R' : Ending → World → Prop} (h : ∀ e w, R e w → R' e w) : ∀ (e : Exit) (a : Act) (w : World), bodyPost P fn R e a w → bodyPost P fn R' e a w := by
  intro e a w hb
  cases e with
  | normal => obtain ⟨h1, v, h2, h3⟩ := hb; exact ⟨h1, v, h2, h _ _ h3⟩
  | ret => obtain ⟨h1, v, h2, h3⟩ := hb; exact ⟨h1, v, h2, h _ _ h3⟩
  | panic c => exact ⟨hb.1, h _ _ hb.2⟩
  | outgrown => exact h _ _ hb
  | exit id => exact hb.elim
  | goto l => exact hb.elim
theorem enterR {P : Program} {n : Nat} {f : FuncId} {fn : Func} {c : Code} {vs : List Value} {w : World} {S : FS} {R : Ending → World → Prop} {L0 : List HP} (hf : P.funcs[f]? = some fn) (hb : fn.body = some c) (hn : fn.ntmps = n) (hl : Nat.ble vs.length n = true) (hL : sats L0 S w)
    (h : Reach w S n (argsF 0 vs) L0 (c.wp P (bodyPost P fn R))) : Calls P f vs.toArray w R := by
  refine calls_of_wp hf hb (h _ _ ⟨rfl, ?_, ?_⟩ (St.start hL))
  · have : vs.length ≤ n := by simpa using hl
    simp [hn]; omega
  · intro t u ht
    obtain ⟨j, rfl, hj⟩ := argsF_get vs 0 t u ht
    have hlt := (List.getElem?_eq_some_iff.1 hj).1
    simp only [Nat.zero_add, Array.getD_eq_getD_getElem?]
    rw [Array.getElem?_append_left (by simpa using hlt)]
    simp [hj]
end Go.Sl
end
section
set_option linter.unusedVariables false
namespace Go.Sl
open Go Go.RowKit
section
variable {P : Program} {w0 : World} {S0 : FS} {n : Nat} {F : List (Nat × Value)} {L Lk : List HP} {o : Oper} {rest : List Oper} {ops : Array Oper} {Q : Exit → Act → World → Prop} {d i : Nat} {x : Operand} {plan : List PI} {ty : TypeId} {ps : String} {af : Array Edge} [HasD n]
theorem t_nilc {p : Addr} (hn : Nat.blt d n = true) (hx : ev F x = some (.pointer (some p))) (hkeep : ∀ w, St w0 S0 L w → St w0 S0 Lk w) (h : RP P w0 S0 n ops Q Lk plan ((d, .pointer (some p)) :: F) L) : RPo P w0 S0 n ops Q Lk ⟨some d, .nilCheck x, ty, ps, af, none⟩ i true plan F L := fun ho => p_q ho rfl rfl hn hkeep (q_nilc rfl hx) h
end
end Go.Sl
end
section
set_option linter.unusedVariables false
namespace Go.Proofs.YtllkoinbfegonaaDoor
open Go Go.RowKit Go.Sl Go.Num
set_option maxRecDepth 100000
set_option maxHeartbeats 8000000
set_option linter.unusedVariables false
set_option linter.unusedSimpArgs false
attribute [local irreducible] Code.wp wpList bodyPost wpQuiet Exit.then Exit.inBlock Post wpAnyH wpOp
instance : NoIf Tryd.prog 95 := ⟨⟨_, Tryd.underlying95, fun _ h => by cases h⟩⟩
def lnB : ByteArray := ⟨#[108, 105, 110, 101]⟩
abbrev kdV (k : Int) : Value := .iface 23 (.int .i64 k)
/-- what such a panic holds: a fault at a line -/
def StopAt (i k : Int) (v : Value) (L : List HP) : Prop :=
  ∃ nb, v = .iface 95 (.agg #[chV (kdV k) [⟨nb, lnB, i⟩]]) ∧ L = [boxHP nb 37 (ndC (kdV k) ⟨nb, lnB, i⟩ [])]
theorem needT_ok (i k : Int) (w : World) : Calls Tryd.prog 47 #[.bool true, .int .i64 i, .int .i64 k] w (Post w No (Just (.tuple #[]))) := by
  refine enter0 (vs := [_, _, _]) Tryd.func47 rfl Tryd.ntmps47 rfl ?_
  repeat' first
    | refine k_then ?_ | refine c_seq ?_ | refine c_region ?_ | refine s_nil ?_ | refine s_move (by exact rfl) (by exact rfl) ?_ | refine s_not (by exact rfl) (by exact rfl) ?_ | refine c_skip ?_ | refine c_cond_f (by exact rfl) ?_ | fail
  exact ret0 [] rfl rfl ⟨rfl, rfl⟩
theorem needF_ok (i k : Int) (hk : k ≠ 0) (w : World) (S : FS) : Calls Tryd.prog 47 #[.bool false, .int .i64 i, .int .i64 k] w (PanP w S (StopAt i k)) := by
  refine enterF (vs := [_, _, _]) (L0 := []) Tryd.func47 rfl Tryd.ntmps47 rfl trivial ?_
  repeat' first
    | refine k_then ?_ | refine c_seq ?_ | refine c_region ?_ | refine s_nil ?_ | refine s_move (by exact rfl) (by exact rfl) ?_ | refine s_not (by exact rfl) (by exact rfl) ?_ | refine c_cond_t (by exact rfl) ?_ | refine s_q rfl rfl (by exact rfl) (q_iface rfl (by exact rfl)).q ?_ | fail
  refine o_call (vs := [.string lnB, .int .i64 i, kdV k]) (by exact rfl) (by exact rfl) (fun w h => WrapK_ok lnB i k w hk) ?_
  rintro u L' ⟨nb, rfl, rfl⟩
  refine o_build [(0, chV (kdV k) [⟨nb, lnB, i⟩], [chV (kdV k) [⟨nb, lnB, i⟩]])] (by exact rfl) (by exact rfl) (by simp [Value.cells, chV]) (by exact rfl) ?_
  repeat' first
    | refine s_q rfl rfl (by exact rfl) (q_iface rfl (by exact rfl)).q ?_ | fail
  refine s_panic (by exact rfl) ?_
  skip
  repeat first | refine k_then_pan ?_ | refine k_blk_pan ?_
  exact pan_end [0] rfl ⟨nb, rfl, rfl⟩
theorem take_snoc' {α : Type} {l : List α} {k : Nat} {b : α} (h : l[k]? = some b) : l.take (k + 1) = l.take k ++ [b] := by rw [List.take_add_one, h]; rfl
theorem strEq (x y : List UInt8) : ((⟨x.toArray⟩ : ByteArray).toList == (⟨y.toArray⟩ : ByteArray).toList) = decide (x = y) := by
  rw [Lib.toList_data, Lib.toList_data, Bool.eq_iff_iff, beq_iff_eq, decide_eq_true_iff]
def i6V (l : List Int) : List Value := l.map (Value.int .i64)
theorem i6V_length (l : List Int) : (i6V l).length = l.length := List.length_map ..
theorem i6V_snoc (l : List Int) (i : Int) : i6V (l ++ [i]) = i6V l ++ [.int .i64 i] := by simp [i6V]
/-- what a line's reading comes to -/
def LineP (rb : Nat) (s first : List UInt8) (many : Nat) (i : Int) (w : World) (S : FS) (e : Ending) (w' : World) : Prop :=
  match lineL s first many with
  | some p => Post w S (fun v L' => L' = [boxHP rb 99 [.string ⟨p.2.toArray⟩, .int .i64 (i + 1)], rowHP v 2 1 p.1.length (i6V p.1)]) e w'
  | none => PanP w S (StopAt (i + 1) 3) e w'
theorem line_ok (rb : Nat) (s first : List UInt8) (many : Nat) (i : Int) (hz : s.length < 4294967281) (hmany : many ≤ 100) (hi : 0 ≤ i ∧ i ≤ 4611686018427387904) (w : World) (S : FS) (hM : MX w S) (hs : sats [boxHP rb 99 [.string ⟨s.toArray⟩, .int .i64 i]] S w) :
    Calls Tryd.prog 46 #[.pointer (some ⟨rb, 0, none⟩), .string ⟨first.toArray⟩, .int .i64 (many : Int)] w (LineP rb s first many i w S) := by
  refine enterR (vs := [_, _, _]) Tryd.func46 rfl Tryd.ntmps46 rfl hs ?_
  repeat' first
    | refine k_then ?_ | refine c_seq ?_ | refine c_region ?_ | refine s_nil ?_ | refine s_move (by exact rfl) (by exact rfl) ?_ | refine s_assign (by exact rfl) (by exact rfl) ?_ | refine s_fa (by exact rfl) (by exact rfl) ?_ | refine s_ld_box (by exact rfl) (by exact rfl) (by exact .head _) (by exact rfl) ?_ | refine s_add (by exact rfl) (by exact rfl) (by exact rfl) (by omega) ?_ | refine s_nilc (by exact rfl) (by exact rfl) ?_ | fail
  refine o_st_box (i := 0) (by exact rfl) (by exact rfl) (by exact rfl) rfl (by simp) ?_
  repeat' first
    | refine k_then ?_ | refine c_seq ?_ | refine c_region ?_ | refine s_nil ?_ | refine s_move (by exact rfl) (by exact rfl) ?_ | refine s_fa (by exact rfl) (by exact rfl) ?_ | refine s_ld_box (by exact rfl) (by exact rfl) (by exact .head _) (by exact rfl) ?_ | refine s_nilc (by exact rfl) (by exact rfl) ?_ | fail
  refine s_call (by exact rfl) (by exact rfl) (fun w h => Cut_ok ⟨s.toArray⟩ 10 w hz (hM.old h)) ?_
  rw [show (⟨s.toArray⟩ : ByteArray).data.toList = s from rfl]
  cases hc : cutL 10 s with
  | none =>
    have hbad : lineL s first many = none := by rw [lineL, hc]
    repeat' first
      | refine k_then ?_ | refine c_seq ?_ | refine c_region ?_ | refine s_nil ?_ | refine s_move (by exact rfl) (by exact rfl) ?_ | refine s_assign (by exact rfl) (by exact rfl) ?_ | refine s_fa (by exact rfl) (by exact rfl) ?_ | refine s_ld_box (by exact rfl) (by exact rfl) (by exact .head _) (by exact rfl) ?_ | refine s_extract (by exact rfl) (by exact rfl) (by exact rfl) ?_ | refine s_nilc (by exact rfl) (by exact rfl) ?_ | fail
    refine s_callF [] _ rfl (by exact rfl) (fun w S h => needF_ok (i + 1) 3 (by decide) w S) ?_
    intro v L' hv
    obtain ⟨nb, rfl, rfl⟩ := hv
    repeat first | refine k_then_pan ?_ | refine k_blk_pan ?_
    exact Reach.imp (bodyPost_imp (R := PanP w S (StopAt (i + 1) 3)) (fun e w' h => by rw [LineP, hbad]; exact h) _) (pan_end [0] rfl ⟨nb, rfl, rfl⟩)
  | some p =>
    obtain ⟨l, rest⟩ := p
    have hlen := cutL_len hc
    have hzl : l.length < 4294967281 := by rw [hlen] at hz; simp at hz; omega
    repeat' first
      | refine k_then ?_ | refine c_seq ?_ | refine c_region ?_ | refine s_nil ?_ | refine s_move (by exact rfl) (by exact rfl) ?_ | refine s_assign (by exact rfl) (by exact rfl) ?_ | refine s_fa (by exact rfl) (by exact rfl) ?_ | refine s_ld_box (by exact rfl) (by exact rfl) (by exact .head _) (by exact rfl) ?_ | refine s_extract (by exact rfl) (by exact rfl) (by exact rfl) ?_ | refine s_nilc (by exact rfl) (by exact rfl) ?_ | fail
    refine s_call (by exact rfl) (by exact rfl) (fun w h => needT_ok _ _ w) ?_
    repeat' first
      | refine k_then ?_ | refine c_seq ?_ | refine c_region ?_ | refine s_nil ?_ | refine s_move (by exact rfl) (by exact rfl) ?_ | refine s_fa (by exact rfl) (by exact rfl) ?_ | refine s_nilc (by exact rfl) (by exact rfl) ?_ | fail
    refine o_st_box (i := 0) (by exact rfl) (by exact rfl) (by exact rfl) rfl (by simp) ?_
    repeat' first
      | refine k_then ?_ | refine c_seq ?_ | refine c_region ?_ | refine s_nil ?_ | refine s_move (by exact rfl) (by exact rfl) ?_ | fail
    refine o_call (by exact rfl) (by exact rfl) (fun w h => Split_ok ⟨l.toArray⟩ 32 w hzl (hM.old h)) ?_
    rw [show (⟨l.toArray⟩ : ByteArray).data.toList = l from rfl]
    rintro vw L' rfl
    refine know_row (v := vw) (.head _) fun hvw _ => ?_
    have hpos : 0 < (splitL 32 l).length := List.length_pos_iff.2 (splitL_ne 32 l)
    obtain ⟨x0, hx0⟩ : ∃ x, (splitL 32 l)[0]? = some x := ⟨_, List.getElem?_eq_getElem hpos⟩
    have hh : (splitL 32 l).head? = some x0 := by rw [List.head?_eq_getElem?]; exact hx0
    have hvct := hvw.cut (sz := 1) (a := 1) (b := (splitL 32 l).length) (by omega) (Nat.le_refl _)
    have g0 : (strB (splitL 32 l))[0 * 1]? = some (.string ⟨x0.toArray⟩) := by rw [Nat.zero_mul]; exact strB_get hx0
    by_cases hw0 : x0 = first ∧ (splitL 32 l).length = many + 1
    · obtain ⟨e0, e1⟩ := hw0
      repeat' first
        | refine k_then ?_ | refine c_seq ?_ | refine s_nil ?_ | refine s_assign (by exact rfl) (by exact rfl) ?_ | fail
      refine c_draw (by kernel_rfl) (by kernel_rfl) ?_
      repeat' first
        | refine d_move (by exact rfl) (by exact rfl) ?_ | refine d_idx (by exact rfl) (by exact rfl) (by exact rfl) (by assumption) (by first | assumption | omega) ?_ | refine d_ld_row (by exact rfl) (by exact rfl) (by exact .head _) (by assumption) ?_ | refine d_q rfl rfl (by exact rfl) (q_seq rfl (by exact rfl) (by exact rfl)).q ?_ | fail
      rw [strEq, decide_eq_true e0]
      repeat' first
        | refine d_move (by exact rfl) (by exact rfl) ?_ | refine d_fa (by exact rfl) (by exact rfl) ?_ | refine d_ld_box (by exact rfl) (by exact rfl) (by exact .tail _ (.head _)) (by exact rfl) ?_ | refine d_pick_t (by exact rfl) (by exact rfl) (by exact rfl) ?_ | refine dw_move (by exact rfl) (by exact rfl) (by exact rfl) (by exact rfl) ?_ | refine dw_eql (by exact rfl) (by exact rfl) (by exact rfl) (by exact rfl) (by exact rfl) ?_ | refine dw_add (by exact rfl) (by exact rfl) (by exact rfl) (by exact rfl) (by exact rfl) (by omega) ?_ | refine dw_len (by exact rfl) (by exact rfl) (by exact rfl) (by exact rfl) (by assumption) ?_ | refine d_q rfl rfl (by exact rfl) (q_nilck rfl (by exact rfl)).q ?_ | fail
      rw [decide_eq_true (p := (((splitL 32 l).length : Nat) : Int) = (many : Int) + 1) (by omega)]
      refine d_call (by exact rfl) (by exact rfl) (fun w h => needT_ok _ _ w) ?_
      repeat' first
        | refine d_nil ?_ | fail
      repeat' first
        | refine k_then ?_ | refine c_seq ?_ | refine c_region ?_ | refine s_nil ?_ | refine s_move (by exact rfl) (by exact rfl) ?_ | refine s_len (by exact rfl) (by exact rfl) (by assumption) ?_ | refine s_cut_lo (by exact rfl) (by exact rfl) (by exact rfl) (by assumption) (by omega) ?_ | refine c_block ?_ | fail
      have hws : ((strB (splitL 32 l)).drop (1 * 1)).take (((splitL 32 l).length - 1) * 1) = strB (splitL 32 l).tail := by
        rw [Nat.mul_one, Nat.mul_one, strB, ← List.map_drop, List.drop_one, List.take_of_length_le (by rw [List.length_map, List.length_tail]; exact Nat.le_refl _)]
        rfl
      have htl : (splitL 32 l).tail.length = (splitL 32 l).length - 1 := List.length_tail ..
      refine c_cutrow 0 1 (splitL 32 l).length (by exact rfl) (by omega) (Nat.le_refl _) ?_
      rw [hws]
      refine c_nil 2 1 ?_
      refine c_loop (fun x : Nat × List Int × Value => x.1 ≤ (splitL 32 l).tail.length ∧ numsL ((splitL 32 l).tail.take x.1) = some x.2.1) (fun x => [(0, .pointer (some ⟨rb, 0, none⟩)), (6, x.2.2), (61, cutV vw 1 1 (splitL 32 l).length), (62, .int .i64 (((splitL 32 l).length - 1 : Nat) : Int)), (63, .int .i64 (x.1 : Int))])
        (fun x => [boxHP rb 99 [.string ⟨rest.toArray⟩, .int .i64 (i + 1)], rowHP (cutV vw 1 1 (splitL 32 l).length) 9 1 ((splitL 32 l).length - 1) (strB (splitL 32 l).tail), rowHP x.2.2 2 1 x.2.1.length (i6V x.2.1)])
        (fun x => (splitL 32 l).tail.length - x.1) (0, [], .slice none 0 0) [2, 1, 0] ⟨Nat.zero_le _, rfl⟩ rfl ⟨rfl, rfl, rfl, rfl, rfl, trivial⟩ ?_
      rintro ⟨j, ns, v6⟩ ⟨hj, hns⟩
      dsimp only at hj hns ⊢
      refine know_row (v := cutV vw 1 1 (splitL 32 l).length) (.tail _ (.head _)) fun hvc _ => ?_
      have hnl : ns.length = j := by rw [numsL_length hns, List.length_take]; omega
      repeat' first
        | refine k_then ?_ | refine c_seq ?_ | refine c_region ?_ | refine s_nil ?_ | refine s_move (by exact rfl) (by exact rfl) ?_ | refine s_assign (by exact rfl) (by exact rfl) ?_ | refine s_lss (by exact rfl) (by exact rfl) (by exact rfl) ?_ | refine s_idx (by exact rfl) (by exact rfl) (by exact rfl) (by assumption) (by first | assumption | omega) ?_ | refine c_block ?_ | refine c_skip ?_ | refine c_exit ?_ | refine c_ret ?_ | refine k_then_exit ?_ | refine k_blk_eq ?_ | (refine c_cond_p (by exact rfl) (fun h => ?_) (fun h => ?_) <;> try (exfalso; omega)) | fail
      · obtain ⟨x, hx⟩ : ∃ x, (splitL 32 l).tail[j]? = some x := ⟨_, List.getElem?_eq_getElem (by omega)⟩
        have gx : (strB (splitL 32 l).tail)[j * 1]? = some (.string ⟨x.toArray⟩) := by rw [Nat.mul_one]; exact strB_get hx
        have hxm : x ∈ splitL 32 l := List.mem_of_mem_tail (List.mem_of_getElem? hx)
        have hxs := splitL_size 32 l x hxm
        repeat' first
          | refine k_then ?_ | refine c_seq ?_ | refine c_region ?_ | refine s_nil ?_ | refine s_move (by exact rfl) (by exact rfl) ?_ | refine s_assign (by exact rfl) (by exact rfl) ?_ | refine s_ld_row (by exact rfl) (by exact rfl) (by exact .tail _ (.head _)) (by assumption) ?_ | fail
        refine s_call (by exact rfl) (by exact rfl) (fun w h => Number_ok ⟨x.toArray⟩ w (by show x.length ≤ _; omega)) ?_
        rw [show bytL ⟨x.toArray⟩ = x from rfl]
        cases hnx : num x with
        | none =>
          have hbad : lineL s first many = none := by
            have : lineN l first many = none := by
              unfold lineN
              split
              · exact numsL_bad (List.mem_of_getElem? hx) hnx
              · rfl
            rw [lineL, hc]; simp only [this]; rfl
          rw [numV]
          repeat' first
            | refine k_then ?_ | refine c_seq ?_ | refine c_region ?_ | refine s_nil ?_ | refine s_move (by exact rfl) (by exact rfl) ?_ | refine s_assign (by exact rfl) (by exact rfl) ?_ | refine s_fa (by exact rfl) (by exact rfl) ?_ | refine s_ld_box (by exact rfl) (by exact rfl) (by exact .head _) (by exact rfl) ?_ | refine s_eql (by exact rfl) (by exact rfl) (by exact rfl) ?_ | refine s_extract (by exact rfl) (by exact rfl) (by exact rfl) ?_ | refine s_nilc (by exact rfl) (by exact rfl) ?_ | fail
          refine s_callF (vs := [.bool false, .int .i64 (i + 1), .int .i64 3]) [] _ rfl (by exact rfl) (fun w S h => needF_ok (i + 1) 3 (by decide) w S) ?_
          intro v L' hv
          obtain ⟨nb, rfl, rfl⟩ := hv
          repeat first | refine k_then_pan ?_ | refine k_blk_pan ?_
          exact Reach.imp (bodyPost_imp (R := PanP w S (StopAt (i + 1) 3)) (fun e w' h => by rw [LineP, hbad]; exact h) _) (pan_end [0] rfl ⟨nb, rfl, rfl⟩)
        | some y =>
          rw [numV]
          repeat' first
            | refine k_then ?_ | refine c_seq ?_ | refine c_region ?_ | refine s_nil ?_ | refine s_move (by exact rfl) (by exact rfl) ?_ | refine s_assign (by exact rfl) (by exact rfl) ?_ | refine s_fa (by exact rfl) (by exact rfl) ?_ | refine s_ld_box (by exact rfl) (by exact rfl) (by exact .head _) (by exact rfl) ?_ | refine s_eql (by exact rfl) (by exact rfl) (by exact rfl) ?_ | refine s_extract (by exact rfl) (by exact rfl) (by exact rfl) ?_ | refine s_nilc (by exact rfl) (by exact rfl) ?_ | fail
          refine s_call (vs := [.bool true, .int .i64 (i + 1), .int .i64 3]) (by exact rfl) (by exact rfl) (fun w h => needT_ok _ _ w) ?_
          repeat' first
            | refine k_then ?_ | refine c_region ?_ | refine s_nil ?_ | refine s_move (by exact rfl) (by exact rfl) ?_ | fail
          refine o_mk [.int .i64 y] (by exact rfl) (by exact rfl) rfl ?_ ?_ (by simp) fun va hva => ?_
          · simp [Value.cells]
          · simp
          have hl6 : (i6V ns).length = ns.length * 1 := by rw [i6V_length]; omega
          refine o_append_row (bytes := 8) (k := 1) (i := 3) (by exact rfl) (by exact rfl) (by exact rfl) (by exact rfl) (by exact .head _) (by exact rfl) (by simp [Value.cells, Value.oneCell']) (by omega) fun v7 hv7 => ?_
          repeat' first
            | refine k_then ?_ | refine c_region ?_ | refine s_nil ?_ | refine s_move (by exact rfl) (by exact rfl) ?_ | refine s_assign (by exact rfl) (by exact rfl) ?_ | refine s_add (by exact rfl) (by exact rfl) (by exact rfl) (by omega) ?_ | refine k_blk ?_ | fail
          refine c_round (j + 1, ns ++ [y], v7) [1, 1, 1] (by dsimp only; rw [List.length_append, i6V_snoc]; exact rfl) ⟨rfl, rfl, rfl, rfl, rfl, trivial⟩ ⟨by dsimp only; omega, by
            dsimp only
            rw [take_snoc' hx]
            exact numsL_snoc hns hnx⟩ (by dsimp only; omega)
      · have hjl : j = (splitL 32 l).tail.length := by omega
        rw [hjl, List.take_length] at hns
        have hgood : lineL s first many = some (ns, rest) := by
          have : lineN l first many = some ns := by
            unfold lineN
            rw [if_pos ⟨by rw [hh, e0], e1⟩]
            exact hns
          rw [lineL, hc]; simp only [this]; rfl
        exact Reach.imp (bodyPost_imp (R := Post w S (fun v L' => L' = [boxHP rb 99 [.string ⟨rest.toArray⟩, .int .i64 (i + 1)], rowHP v 2 1 ns.length (i6V ns)])) (fun e w' h => by rw [LineP, hgood]; exact h) _) (retL [.tmp 6] [v6] [0, 1] rfl ⟨res_tmp rfl, trivial⟩ (by exact rfl) rfl)
    · have hbad : lineL s first many = none := by
        have : lineN l first many = none := if_neg fun hw => hw0 ⟨by have := hw.1; rw [hh] at this; exact Option.some.inj this, hw.2⟩
        rw [lineL, hc]; simp only [this]; rfl
      repeat' first
        | refine k_then ?_ | refine c_seq ?_ | refine s_nil ?_ | refine s_assign (by exact rfl) (by exact rfl) ?_ | fail
      refine p_begin0 [(0, true), (1, true), (2, true), (3, true), (4, true), (5, true), (6, true), (7, true), (8, true), (9, true), (10, true), (11, true), (12, true), (13, true), (14, true), (15, true), (16, false)] (by kernel_rfl) ?_
      repeat' first
        | (refine p_at (by exact rfl) ?_
           first
            | refine t_move (by exact rfl) (by exact rfl) (by exact fun _ h => h) ?_ | refine t_idx (by exact rfl) (by exact rfl) (by exact rfl) (by assumption) (by first | assumption | omega) (by exact fun _ h => h) ?_ | refine t_ld_row (by exact rfl) (by exact rfl) (by exact .head _) (by assumption) (by exact fun _ h => h) ?_ | fail)
        | fail
      refine p_q (by exact rfl) rfl rfl (by exact rfl) (by exact fun _ h => h) (q_seq rfl (by exact rfl) (by exact rfl)) ?_
      rw [strEq]
      by_cases e0 : x0 = first
      · have e1 : ¬ (splitL 32 l).length = many + 1 := fun e => hw0 ⟨e0, e⟩
        rw [decide_eq_true e0]
        repeat' first
          | (refine p_at (by exact rfl) ?_
             first
              | refine t_move (by exact rfl) (by exact rfl) (by exact fun _ h => h) ?_ | refine t_pick_t (by exact rfl) (by exact rfl) (by exact rfl) (by exact fun _ h => h) ?_ | refine tw_move (by exact rfl) (by exact rfl) (by exact rfl) (by exact rfl) (by exact fun _ h => h) ?_ | refine tw_eql (by exact rfl) (by exact rfl) (by exact rfl) (by exact rfl) (by exact rfl) (by exact fun _ h => h) ?_ | refine tw_add (by exact rfl) (by exact rfl) (by exact rfl) (by exact rfl) (by exact rfl) (by omega) (by exact fun _ h => h) ?_ | refine tw_len (by exact rfl) (by exact rfl) (by exact rfl) (by exact rfl) (by assumption) (by exact fun _ h => h) ?_ | fail)
          | fail
        refine p_at (by exact rfl) ?_
        refine t_nilc (by exact rfl) (by exact rfl) (by exact fun _ h => h) ?_
        repeat' first
          | (refine p_at (by exact rfl) ?_
             first
              | refine t_fa (by exact rfl) (by exact rfl) (by exact fun _ h => h) ?_ | refine t_ld_box (by exact rfl) (by exact rfl) (by exact .tail _ (.head _)) (by exact rfl) (by exact fun _ h => h) ?_ | fail)
          | fail
        rw [decide_eq_false (p := (((splitL 32 l).length : Nat) : Int) = (many : Int) + 1) (by omega)]
        refine p_callF (vs := [.bool false, .int .i64 (i + 1), .int .i64 3]) [] _ rfl (by exact rfl) (by exact rfl) (fun w S h => needF_ok (i + 1) 3 (by decide) w S) ?_
        intro v L' hv
        obtain ⟨nb, rfl, rfl⟩ := hv
        repeat first | refine k_then_pan ?_ | refine k_blk_pan ?_
        exact Reach.imp (bodyPost_imp (R := PanP w S (StopAt (i + 1) 3)) (fun e w' h => by rw [LineP, hbad]; exact h) _) (pan_end [0] rfl ⟨nb, rfl, rfl⟩)
      · rw [decide_eq_false e0]
        repeat' first
          | (refine p_at (by exact rfl) ?_
             first
              | refine t_move (by exact rfl) (by exact rfl) (by exact fun _ h => h) ?_ | refine t_pick_f (by exact rfl) (by exact rfl) (by exact rfl) (by exact fun _ h => h) ?_ | refine t_skip (by exact rfl) (by exact rfl) (by exact rfl) (by exact rfl) (by exact fun _ h => h) ?_ | fail)
          | fail
        refine p_at (by exact rfl) ?_
        refine t_nilc (by exact rfl) (by exact rfl) (by exact fun _ h => h) ?_
        repeat' first
          | (refine p_at (by exact rfl) ?_
             first
              | refine t_fa (by exact rfl) (by exact rfl) (by exact fun _ h => h) ?_ | refine t_ld_box (by exact rfl) (by exact rfl) (by exact .tail _ (.head _)) (by exact rfl) (by exact fun _ h => h) ?_ | fail)
          | fail
        refine p_callF (vs := [.bool false, .int .i64 (i + 1), .int .i64 3]) [] _ rfl (by exact rfl) (by exact rfl) (fun w S h => needF_ok (i + 1) 3 (by decide) w S) ?_
        intro v L' hv
        obtain ⟨nb, rfl, rfl⟩ := hv
        repeat first | refine k_then_pan ?_ | refine k_blk_pan ?_
        exact Reach.imp (bodyPost_imp (R := PanP w S (StopAt (i + 1) 3)) (fun e w' h => by rw [LineP, hbad]; exact h) _) (pan_end [0] rfl ⟨nb, rfl, rfl⟩)
end Go.Proofs.YtllkoinbfegonaaDoor
end
section
namespace Fil
abbrev E := Int × Int × Int
def cmpK (a b : Int) : Int := if a < b then -1 else if b < a then 1 else 0
def orderK (a b : E) : Int := if cmpK a.1 b.1 = 0 then cmpK a.2.1 b.2.1 else cmpK a.1 b.1
def sizesK (n m : Int) : Int := if n < 0 then 1 else if 1048576 < n ∨ 4194304 < m then 4 else 0
def aloneK (n u v x : Int) : Int := if min u v < 0 ∨ n ≤ max u v then 5 else if u = v then 6 else if x ≤ -2147483648 ∨ 2147483648 ≤ x then 8 else 0
def belowB (a b : E) : Bool := decide (a.1 < b.1) || (decide (a.1 = b.1) && decide (a.2.1 < b.2.1))
end Fil
end
section
namespace Go.Proofs.YtllkoinbfegonaaDoor
open Go.RowKit Go.Sl Fil
set_option maxRecDepth 100000
set_option maxHeartbeats 8000000
set_option linter.unusedVariables false
set_option linter.unusedSimpArgs false
attribute [local irreducible] Code.wp wpList bodyPost wpQuiet Exit.then Exit.inBlock Post wpAnyH wpOp
def eV (e : E) : List Value := [.int .i64 e.1, .int .i64 e.2.1, .int .i64 e.2.2]
def esV (es : List E) : List Value := es.flatMap eV
theorem esV_at {es : List E} {k : Nat} {e : E} (h : es[k]? = some e) : ((esV es).drop (k * 3)).take 3 = eV e := by
  induction es generalizing k with
  | nil => simp at h
  | cons x es ih =>
    cases k with
    | zero =>
      obtain rfl : x = e := by simpa using h
      rfl
    | succ k =>
      have := ih (k := k) (by simpa using h)
      rw [show (k + 1) * 3 = 3 + k * 3 from by omega]
      show (((eV x) ++ esV es).drop (3 + k * 3)).take 3 = eV e
      rw [← List.drop_drop, List.drop_append_of_le_length (by simp [eV])]
      simpa [eV] using this
theorem esV_length (es : List E) : (esV es).length = es.length * 3 := by
  induction es with
  | nil => rfl
  | cons x es ih => show ((eV x) ++ esV es).length = _; rw [List.length_append, ih]; simp [eV]; omega
theorem isNaN_ok (a : Int) (w : World) : Calls Tryd.prog 89 #[.int .i64 a] w (Post w No (Just (.bool false))) := by
  refine enter0 (vs := [_]) Tryd.func89 rfl Tryd.ntmps89 rfl ?_
  repeat' first
    | refine k_then ?_ | refine c_seq ?_ | refine c_region ?_ | refine s_nil ?_ | refine s_move (by exact rfl) (by exact rfl) ?_ | refine s_assign (by exact rfl) (by exact rfl) ?_ | refine s_neq (by exact rfl) (by exact rfl) (by exact rfl) ?_ | refine c_ret ?_
  refine ret1 [] rfl rfl rfl ⟨by simp, rfl⟩
theorem Compare_ok (a b : Int) (w : World) : Calls Tryd.prog 70 #[.int .i64 a, .int .i64 b] w (Post w No (Just (.int .i64 (cmpK a b)))) := by
  refine enter0 (vs := [_, _]) Tryd.func70 rfl Tryd.ntmps70 rfl ?_
  repeat' first
    | refine k_then ?_ | refine c_seq ?_ | refine c_region ?_ | refine s_nil ?_ | refine s_move (by exact rfl) (by exact rfl) ?_ | refine s_assign (by exact rfl) (by exact rfl) ?_
  refine s_call (by exact rfl) (by exact rfl) (fun w hs => isNaN_ok _ w) ?_
  repeat' first
    | refine k_then ?_ | refine c_seq ?_ | refine c_region ?_ | refine s_nil ?_ | refine s_move (by exact rfl) (by exact rfl) ?_ | refine s_assign (by exact rfl) (by exact rfl) ?_
  refine s_call (by exact rfl) (by exact rfl) (fun w hs => isNaN_ok _ w) ?_
  repeat' first
    | refine k_then ?_ | refine c_seq ?_ | refine c_region ?_ | refine s_nil ?_ | refine s_move (by exact rfl) (by exact rfl) ?_ | refine s_assign (by exact rfl) (by exact rfl) ?_ | refine s_lss (by exact rfl) (by exact rfl) (by exact rfl) ?_ | refine s_gtr (by exact rfl) (by exact rfl) (by exact rfl) ?_ | refine c_skip ?_ | refine c_ret ?_ | refine k_then_ret ?_ | (refine c_cond_p (by exact rfl) (fun h => ?_) (fun h => ?_) <;> try (exfalso; omega)) | refine c_cond_f (by exact rfl) ?_
  all_goals refine ret1 [] rfl rfl rfl ⟨?_, rfl⟩
  all_goals (refine congrArg (Value.int .i64) ?_; simp only [cmpK]; repeat' split)
  all_goals omega
theorem Or_ok (s : Value) (a b : Int) (w : World) (hr : RO w No s [.int .i64 a, .int .i64 b]) (hs : Shp s 2) : Calls Tryd.prog 69 #[s] w (Post w No (Just (.int .i64 (if a = 0 then b else a)))) := by
  refine enter0 (vs := [_]) Tryd.func69 rfl Tryd.ntmps69 rfl ?_
  repeat' first
    | refine k_then ?_ | refine c_seq ?_ | refine c_region ?_ | refine s_nil ?_ | refine s_move (by exact rfl) (by exact rfl) ?_ | refine s_assign (by exact rfl) (by exact rfl) ?_ | refine s_len (by exact rfl) (by exact rfl) (by assumption) ?_ | refine c_block ?_
  refine c_loop (fun k : Nat => k ≤ 2 ∧ (0 < k → a = 0) ∧ (1 < k → b = 0)) (fun k => [(0, s), (6, s), (7, .int .i64 2), (8, .int .i64 (k : Int)), (3, .int .i64 0)]) (fun _ => []) (fun k => 2 - k) 0 [] ⟨by omega, by omega, by omega⟩ rfl ⟨rfl, rfl, rfl, rfl, rfl, trivial⟩ ?_
  rintro k ⟨hk, ha, hb⟩
  by_cases hlt : k < 2
  · have hc : ([.int .i64 a, .int .i64 b] : List Value)[k * 1]? = some (.int .i64 (if k = 0 then a else b)) := by
      rcases Nat.lt_or_ge k 1 with h | h
      · obtain rfl : k = 0 := by omega
        rfl
      · obtain rfl : k = 1 := by omega
        rfl
    repeat' first
      | refine k_then ?_ | refine c_seq ?_ | refine c_region ?_ | refine s_nil ?_ | refine s_move (by exact rfl) (by exact rfl) ?_ | refine s_assign (by exact rfl) (by exact rfl) ?_ | refine s_lss (by exact rfl) (by exact rfl) (by exact rfl) ?_ | refine s_neq (by exact rfl) (by exact rfl) (by exact rfl) ?_ | refine s_add (by exact rfl) (by exact rfl) (by exact rfl) (by omega) ?_ | refine s_idx (by exact rfl) (by exact rfl) (by exact rfl) (by assumption) (by first | assumption | omega) ?_ | refine s_ld_ro (by exact rfl) (by exact rfl) (by assumption) (by assumption) ?_ | refine c_block ?_ | refine c_skip ?_ | refine c_ret ?_ | refine k_then_ret ?_ | refine k_blk ?_ | refine k_blk_ret ?_ | (refine c_cond_p (by exact rfl) (fun h => ?_) (fun h => ?_) <;> try (exfalso; omega))
    · refine ret1 [] rfl rfl rfl ⟨congrArg (Value.int .i64) ?_, rfl⟩
      rcases Nat.lt_or_ge k 1 with h' | h'
      · obtain rfl : k = 0 := by omega
        simp_all
      · obtain rfl : k = 1 := by omega
        simp_all
    · refine c_round (k + 1) [] (by exact rfl) (by exact ⟨rfl, rfl, rfl, rfl, rfl, trivial⟩) ⟨by omega, fun _ => ?_, fun _ => ?_⟩ (by omega)
      · rcases Nat.lt_or_ge k 1 with h' | h'
        · obtain rfl : k = 0 := by omega
          simp_all
        · exact ha (by omega)
      · obtain rfl : k = 1 := by omega
        simp_all
  · repeat' first
      | refine k_then ?_ | refine c_seq ?_ | refine c_region ?_ | refine s_nil ?_ | refine s_move (by exact rfl) (by exact rfl) ?_ | refine s_assign (by exact rfl) (by exact rfl) ?_ | refine s_lss (by exact rfl) (by exact rfl) (by exact rfl) ?_ | refine c_exit ?_ | refine c_ret ?_ | refine k_then_exit ?_ | refine k_blk_eq ?_ | (refine c_cond_p (by exact rfl) (fun h => ?_) (fun h => ?_) <;> try (exfalso; omega))
    refine ret1 [] rfl rfl rfl ⟨congrArg (Value.int .i64) ?_, rfl⟩
    simp [ha (by omega), hb (by omega)]
theorem sizes_ok (n m : Int) (w : World) :
    Calls Tryd.prog 58 #[.int .i64 n, .int .i64 m] w (Post w No (Just (.int .i64 (sizesK n m)))) := by
  refine enter0 (vs := [_, _]) Tryd.func58 rfl Tryd.ntmps58 rfl ?_
  repeat' first
    | refine k_then ?_ | refine c_seq ?_ | refine c_region ?_ | refine s_nil ?_ | refine s_move (by exact rfl) (by exact rfl) ?_ | refine s_assign (by exact rfl) (by exact rfl) ?_ | refine s_lss (by exact rfl) (by exact rfl) (by exact rfl) ?_ | refine s_gtr (by exact rfl) (by exact rfl) (by exact rfl) ?_ | refine c_block ?_ | refine c_skip ?_ | refine c_ret ?_ | refine k_then_ret ?_ | refine k_blk ?_ | refine k_blk_ret ?_ | (refine c_cond_p (by exact rfl) (fun h => ?_) (fun h => ?_) <;> try (exfalso; omega))
  all_goals refine ret1 [] rfl rfl rfl ⟨?_, rfl⟩
  all_goals (refine congrArg (Value.int .i64) ?_; simp only [sizesK]; repeat' split)
  all_goals omega
theorem alone_ok (n : Int) (e : E) (w : World) :
    Calls Tryd.prog 60 #[.int .i64 n, .agg (eV e).toArray] w (Post w No (Just (.int .i64 (aloneK n e.1 e.2.1 e.2.2)))) := by
  refine enter0 (vs := [_, _]) Tryd.func60 rfl Tryd.ntmps60 rfl ?_
  repeat' first
    | refine k_then ?_ | refine c_seq ?_ | refine c_region ?_ | refine s_nil ?_ | refine s_move (by exact rfl) (by exact rfl) ?_ | refine s_assign (by exact rfl) (by exact rfl) ?_ | refine s_fa (by exact rfl) (by exact rfl) ?_ | refine s_ld_box (by exact rfl) (by exact rfl) (by exact .head _) (by exact rfl) ?_ | refine s_lss (by exact rfl) (by exact rfl) (by exact rfl) ?_ | refine s_leq (by exact rfl) (by exact rfl) (by exact rfl) ?_ | refine s_eql (by exact rfl) (by exact rfl) (by exact rfl) ?_ | refine s_min (by exact rfl) (by exact rfl) (by exact rfl) ?_ | refine s_pick_t (by exact rfl) (by exact rfl) (by exact rfl) ?_ | refine s_pick_f (by exact rfl) (by exact rfl) (by exact rfl) ?_ | refine o_box (by exact rfl) (by exact rfl) (fun b => ?_) | refine c_block ?_ | refine c_skip ?_ | refine c_ret ?_ | refine k_then_ret ?_ | refine k_blk ?_ | refine k_blk_ret ?_ | (refine c_cond_p (by exact rfl) (fun h => ?_) (fun h => ?_) <;> try (exfalso; omega)) | refine c_cond_t (by exact rfl) ?_ | (refine g_case (by exact rfl) (by exact rfl) (fun h => ?_) (fun h => ?_) <;> try (exfalso; omega)) | refine g_skip (by exact rfl) (by exact rfl) (by exact rfl) (by exact rfl) ?_ | refine w_move (by exact rfl) (by exact rfl) (by exact rfl) (by exact rfl) ?_ | refine w_fa (by exact rfl) (by exact rfl) (by exact rfl) (by exact rfl) ?_ | refine w_ld_box (by exact rfl) (by exact rfl) (by exact rfl) (by exact rfl) (by exact .head _) (by exact rfl) ?_ | refine w_geq (by exact rfl) (by exact rfl) (by exact rfl) (by exact rfl) (by exact rfl) ?_ | refine w_max (by exact rfl) (by exact rfl) (by exact rfl) (by exact rfl) (by exact rfl) ?_
  all_goals refine ret1 [] rfl rfl rfl ⟨?_, rfl⟩
  all_goals (refine congrArg (Value.int .i64) ?_; simp only [aloneK]; repeat' split)
  all_goals omega
theorem order_ok (a b : E) (w : World) : Calls Tryd.prog 62 #[.agg (eV a).toArray, .agg (eV b).toArray] w (Post w No (Just (.int .i64 (orderK a b)))) := by
  refine enter0 (vs := [_, _]) Tryd.func62 rfl Tryd.ntmps62 rfl ?_
  repeat' first
    | refine k_then ?_ | refine c_seq ?_ | refine c_region ?_ | refine s_nil ?_ | refine s_assign (by exact rfl) (by exact rfl) ?_ | refine o_box (by exact rfl) (by exact rfl) (fun b => ?_)
  refine p_begin0 [(0, true), (1, true), (2, true), (3, true), (5, true), (6, true), (7, true), (8, true), (4, false), (9, false), (10, false), (11, false), (12, true)] (by kernel_rfl) ?_
  repeat' first
    | (refine p_at (by exact rfl) ?_
       first
        | refine t_fa (by exact rfl) (by exact rfl) (by exact fun _ h => h) ?_ | refine t_ld_box (by exact rfl) (by exact rfl) (by first | exact .head _ | exact .tail _ (.head _)) (by exact rfl) (by exact fun _ h => h) ?_)
  refine p_call (gd := none) (by exact rfl) rfl (by exact rfl) (fun w hs => Compare_ok _ _ w) (by exact fun _ h => h) ?_
  refine p_call (gd := none) (by exact rfl) rfl (by exact rfl) (fun w hs => Compare_ok _ _ w) (by exact fun _ h => h) ?_
  refine p_mk [_, _] (by exact rfl) rfl (by exact rfl) rfl ?_ ?_ (by simp) (fun w A h => h.tl) (fun s hs => ?_)
  · simp [Value.cells]
  · simp
  refine p_call (gd := none) (by exact rfl) rfl (by exact rfl) (fun w h => Or_ok s _ _ w (ro_own h (.head _)) hs) (by exact fun _ h => h.tl) ?_
  repeat' first
    | refine p_nil ?_
    | (refine p_at (by exact rfl) ?_
       first
        | refine t_assign (by exact rfl) (by exact rfl) (by exact fun _ h => h.tl) ?_)
  repeat' first
    | refine k_then ?_ | refine c_ret ?_
  refine ret1 [] rfl rfl rfl ⟨?_, rfl⟩
  simp [orderK]
end Go.Proofs.YtllkoinbfegonaaDoor
end
section
set_option linter.unusedVariables false
namespace Go.Num
open Go Fil
def edgeB : List UInt8 := [101, 100, 103, 101]
def graphB : List UInt8 := [103, 114, 97, 112, 104]
/-- what stands against an edge: 0: nothing -/
def edgeK (n u v w : Int) : Int := if ¬ (0 ≤ min u v ∧ max u v < n) then 5 else if u = v then 6 else if ¬ (-2147483648 < w ∧ w < 2147483648) then 8 else 0
/-- so many edges' lines; else the line that is wrong, and how -/
def edgesL (n : Int) : Nat → Int → List UInt8 → (Int × Int) ⊕ (List E × List UInt8)
  | 0, _, s => .inr ([], s)
  | m + 1, i, s => match lineL s edgeB 3 with
    | none => .inl (i + 1, 3)
    | some p => match p.1 with
      | [a, b, c] => if edgeK n a b c = 0 then (match edgesL n m (i + 1) p.2 with
          | .inl x => .inl x
          | .inr y => .inr ((a, b, c) :: y.1, y.2)) else .inl (i + 1, edgeK n a b c)
      | _ => .inl (i + 1, 3)
/-- a text's vertices and edges, as they stand there -/
def readL (s : List UInt8) : (Int × Int) ⊕ (Int × List E) := match lineL s graphB 2 with
  | none => .inl (1, 3)
  | some p => match p.1 with
    | [n, m] => if ¬ 0 ≤ min n m then .inl (1, 1) else if ¬ (n ≤ 1048576 ∧ m ≤ 4194304) then .inl (1, 4) else (match edgesL n m.toNat 1 p.2 with
        | .inl x => .inl x
        | .inr y => if y.2 = [] then .inr (n, y.1) else .inl (m + 2, 3))
    | _ => .inl (1, 3)
/-- one more edge that is read -/
theorem edgesL_step {n : Int} {m : Nat} {i : Int} {s : List UInt8} {a b c : Int} {r : List UInt8} (h : lineL s edgeB 3 = some ([a, b, c], r)) (hk : edgeK n a b c = 0) : edgesL n (m + 1) i s = (match edgesL n m (i + 1) r with
          | .inl x => .inl x
          | .inr y => .inr ((a, b, c) :: y.1, y.2)) := by
  rw [edgesL, h]; simp only [hk, if_true]
theorem edgesL_none {n : Int} {m : Nat} {i : Int} {s : List UInt8} (h : lineL s edgeB 3 = none) : edgesL n (m + 1) i s = .inl (i + 1, 3) := by
  rw [edgesL, h]
theorem edgesL_bad {n : Int} {m : Nat} {i : Int} {s : List UInt8} {a b c : Int} {r : List UInt8} (h : lineL s edgeB 3 = some ([a, b, c], r)) (hk : edgeK n a b c ≠ 0) : edgesL n (m + 1) i s = .inl (i + 1, edgeK n a b c) := by
  rw [edgesL, h]; simp only [hk, if_false]
/-- what was read, ahead of what is left -/
def pre (es : List E) : (Int × Int) ⊕ (List E × List UInt8) → (Int × Int) ⊕ (List E × List UInt8)
  | .inl x => .inl x
  | .inr y => .inr (es ++ y.1, y.2)
theorem pre_nil (x : (Int × Int) ⊕ (List E × List UInt8)) : pre [] x = x := by cases x <;> rfl
theorem pre_snoc (es : List E) (e : E) (x : (Int × Int) ⊕ (List E × List UInt8)) : pre (es ++ [e]) x = pre es (match x with
          | .inl x => .inl x
          | .inr y => .inr (e :: y.1, y.2)) := by cases x <;> simp [pre]
end Go.Num
end
section
set_option linter.unusedVariables false
namespace Go.Proofs.YtllkoinbfegonaaDoor
open Go Go.RowKit Go.Sl Go.Num Fil
set_option maxRecDepth 100000
set_option maxHeartbeats 8000000
set_option linter.unusedVariables false
set_option linter.unusedSimpArgs false
attribute [local irreducible] Code.wp wpList bodyPost wpQuiet Exit.then Exit.inBlock Post wpAnyH wpOp
def EdgeP (rb : Nat) (s : List UInt8) (n i : Int) (w : World) (S : FS) (e : Ending) (w' : World) : Prop :=
  match lineL s edgeB 3 with
  | none => PanP w S (StopAt (i + 1) 3) e w'
  | some p => match p.1 with
    | [a, b, c] => if edgeK n a b c = 0 then Post w S (fun v L' => v = .agg (eV (a, b, c)).toArray ∧ L' = [boxHP rb 99 [.string ⟨p.2.toArray⟩, .int .i64 (i + 1)]]) e w' else PanP w S (StopAt (i + 1) (edgeK n a b c)) e w'
    | _ => True
theorem LineP.pan {rb : Nat} {s first : List UInt8} {many : Nat} {i : Int} {w : World} {S : FS} (h : lineL s first many = none) : ∀ e w', LineP rb s first many i w S e w' → PanP w S (StopAt (i + 1) 3) e w' := fun e w' hp => by rw [LineP, h] at hp; exact hp
theorem LineP.post {rb : Nat} {s first : List UInt8} {many : Nat} {i : Int} {w : World} {S : FS} {p : List Int × List UInt8} (h : lineL s first many = some p) : ∀ e w', LineP rb s first many i w S e w' → Post w S (fun v L' => L' = [boxHP rb 99 [.string ⟨p.2.toArray⟩, .int .i64 (i + 1)], rowHP v 2 1 p.1.length (i6V p.1)]) e w' := fun e w' hp => by rw [LineP, h] at hp; exact hp
theorem tEdge_ok (rb : Nat) (s : List UInt8) (n i : Int) (hz : s.length < 4294967281) (hi : 0 ≤ i ∧ i ≤ 4611686018427387904) (w : World) (S : FS) (hM : MX w S) (hs : sats [boxHP rb 99 [.string ⟨s.toArray⟩, .int .i64 i]] S w) :
    Calls Tryd.prog 48 #[.pointer (some ⟨rb, 0, none⟩), .int .i64 n] w (EdgeP rb s n i w S) := by
  refine enterR (vs := [_, _]) Tryd.func48 rfl Tryd.ntmps48 rfl hs ?_
  repeat' first
    | refine k_then ?_ | refine c_seq ?_ | refine c_region ?_ | refine s_nil ?_ | refine s_move (by exact rfl) (by exact rfl) ?_ | refine o_alloc (by exact rfl) (fun b => ?_) | fail
  refine c_pick [1, 0] (by exact rfl) ?_
  cases hL : lineL s edgeB 3 with
  | none =>
    refine s_callF (vs := [_, .string ⟨edgeB.toArray⟩, .int .i64 3]) [boxHP rb 99 [.string ⟨s.toArray⟩, .int .i64 i]] _ rfl (by exact rfl) (fun w S h => (line_ok rb s edgeB 3 i hz (by decide) hi w S (hM.lent h) h.own).mono (LineP.pan hL)) ?_
    intro v L' hv
    obtain ⟨nb, rfl, rfl⟩ := hv
    repeat first | refine k_then_pan ?_ | refine k_blk_pan ?_
    exact Reach.imp (bodyPost_imp (R := PanP w S (StopAt (i + 1) 3)) (fun e w' h => by rw [EdgeP, hL]; exact h) _) (pan_end [0] rfl ⟨nb, rfl, rfl⟩)
  | some p =>
    obtain ⟨ns, rest⟩ := p
    refine s_lend (vs := [_, .string ⟨edgeB.toArray⟩, .int .i64 3]) [boxHP rb 99 [.string ⟨s.toArray⟩, .int .i64 i]] _ rfl (by exact rfl) (by exact rfl) (fun w S h => (line_ok rb s edgeB 3 i hz (by decide) hi w S (hM.lent h) h.own).mono (LineP.post hL)) ?_
    rintro v5 L' rfl
    obtain ⟨hl3, _, hb3⟩ := lineL_len hL
    obtain ⟨a, b, c, rfl⟩ : ∃ a b c, ns = [a, b, c] := by
      match ns, hl3 with
      | [a, b, c], _ => exact ⟨a, b, c, rfl⟩
    have ha := hb3 a (by simp)
    have hb := hb3 b (by simp)
    have hc := hb3 c (by simp)
    refine know_row (v := v5) (.tail _ (.head _)) fun hv5 _ => ?_
    dsimp only at hv5 ⊢
    have g0 : (i6V [a, b, c])[0 * 1]? = some (.int .i64 a) := rfl
    have g1 : (i6V [a, b, c])[1 * 1]? = some (.int .i64 b) := rfl
    have g2 : (i6V [a, b, c])[2 * 1]? = some (.int .i64 c) := rfl
    have hE : ∀ {R : Ending → World → Prop}, (∀ e w', R e w' → (if edgeK n a b c = 0 then Post w S (fun v L' => v = .agg (eV (a, b, c)).toArray ∧ L' = [boxHP rb 99 [.string ⟨rest.toArray⟩, .int .i64 (i + 1)]]) e w' else PanP w S (StopAt (i + 1) (edgeK n a b c)) e w')) → ∀ e w', R e w' → EdgeP rb s n i w S e w' := fun h e w' hr => by
      rw [EdgeP, hL]; exact h e w' hr
    have hbad : ∀ k, edgeK n a b c = k → k ≠ 0 → ∀ e w', PanP w S (StopAt (i + 1) k) e w' → EdgeP rb s n i w S e w' := fun k hk h0 => hE fun e w' h => by rw [hk, if_neg h0]; exact h
    repeat' first
      | refine k_then ?_ | refine c_seq ?_ | refine s_nil ?_ | refine s_assign (by exact rfl) (by exact rfl) ?_ | fail
    by_cases h5 : 0 ≤ min a b ∧ max a b < n
    · refine c_draw (by kernel_rfl) (by kernel_rfl) ?_
      repeat' first
        | refine d_move (by exact rfl) (by exact rfl) ?_ | refine d_fa (by exact rfl) (by exact rfl) ?_ | refine d_ld_box (by exact rfl) (by exact rfl) (by exact .head _) (by exact rfl) ?_ | refine d_geq (by exact rfl) (by exact rfl) (by exact rfl) ?_ | refine d_min (by exact rfl) (by exact rfl) (by exact rfl) ?_ | refine d_idxi (by exact rfl) (by exact rfl) (by exact rfl) (by assumption) (by first | assumption | omega) ?_ | refine d_pick_t (by exact rfl) (by exact rfl) (by exact rfl) ?_ | refine d_ld_row (by exact rfl) (by exact rfl) (by exact .tail _ (.head _)) (by assumption) ?_ | (refine dg_case (by exact rfl) (by exact rfl) (fun h => ?_) (fun h => ?_) <;> try (exfalso; omega)) | refine dw_move (by exact rfl) (by exact rfl) (by exact rfl) (by exact rfl) ?_ | refine dw_lss (by exact rfl) (by exact rfl) (by exact rfl) (by exact rfl) (by exact rfl) ?_ | refine dw_max (by exact rfl) (by exact rfl) (by exact rfl) (by exact rfl) (by exact rfl) ?_ | refine dw_idxi (by exact rfl) (by exact rfl) (by exact rfl) (by exact rfl) (by exact rfl) (by assumption) (by first | assumption | omega) ?_ | refine dw_ld_row (by exact rfl) (by exact rfl) (by exact rfl) (by exact rfl) (by exact .tail _ (.head _)) (by assumption) ?_ | refine d_q rfl rfl (by exact rfl) (q_nilck rfl (by exact rfl)).q ?_ | fail
      rw [decide_eq_true h5.2]
      refine d_call (vs := [.bool true, .int .i64 (i + 1), .int .i64 5]) (by exact rfl) (by exact rfl) (fun w h => needT_ok _ _ w) ?_
      repeat' first
        | refine d_nil ?_ | fail
      repeat' first
        | refine k_then ?_ | refine c_seq ?_ | fail
      by_cases h6 : a = b
      · have hk : edgeK n a b c = 6 := by rw [edgeK, if_neg (fun h => h h5), if_pos h6]
        refine p_begin0 [(0, true), (1, true), (2, true), (3, true), (4, true), (5, true), (6, true), (7, true), (8, true), (9, true), (10, true), (11, false)] (by kernel_rfl) ?_
        repeat' first
          | (refine p_at (by exact rfl) ?_
             first
              | refine t_move (by exact rfl) (by exact rfl) (by exact fun _ h => h) ?_ | refine t_neq (by exact rfl) (by exact rfl) (by exact rfl) (by exact fun _ h => h) ?_ | refine t_idxi (by exact rfl) (by exact rfl) (by exact rfl) (by assumption) (by first | assumption | omega) (by exact fun _ h => h) ?_ | refine t_ld_row (by exact rfl) (by exact rfl) (by exact .tail _ (.head _)) (by assumption) (by exact fun _ h => h) ?_ | fail)
          | fail
        refine p_at (by exact rfl) ?_
        refine t_nilc (by exact rfl) (by exact rfl) (by exact fun _ h => h) ?_
        repeat' first
          | (refine p_at (by exact rfl) ?_
             first
              | refine t_fa (by exact rfl) (by exact rfl) (by exact fun _ h => h) ?_ | refine t_ld_box (by exact rfl) (by exact rfl) (by exact .head _) (by exact rfl) (by exact fun _ h => h) ?_ | fail)
          | fail
        rw [decide_eq_false (p := a ≠ b) (fun h => h h6)]
        refine p_callF (vs := [.bool false, .int .i64 (i + 1), .int .i64 6]) [] _ rfl (by exact rfl) (by exact rfl) (fun w S h => needF_ok (i + 1) 6 (by decide) w S) ?_
        intro v L' hv
        obtain ⟨nb, rfl, rfl⟩ := hv
        repeat first | refine k_then_pan ?_ | refine k_blk_pan ?_
        exact Reach.imp (bodyPost_imp (hbad 6 hk (by decide)) _) (pan_end [0] rfl ⟨nb, rfl, rfl⟩)
      · refine c_draw (by kernel_rfl) (by kernel_rfl) ?_
        repeat' first
          | refine d_move (by exact rfl) (by exact rfl) ?_ | refine d_fa (by exact rfl) (by exact rfl) ?_ | refine d_ld_box (by exact rfl) (by exact rfl) (by exact .head _) (by exact rfl) ?_ | refine d_neq (by exact rfl) (by exact rfl) (by exact rfl) ?_ | refine d_idxi (by exact rfl) (by exact rfl) (by exact rfl) (by assumption) (by first | assumption | omega) ?_ | refine d_ld_row (by exact rfl) (by exact rfl) (by exact .tail _ (.head _)) (by assumption) ?_ | refine d_q rfl rfl (by exact rfl) (q_nilck rfl (by exact rfl)).q ?_ | fail
        rw [decide_eq_true (p := a ≠ b) h6]
        refine d_call (vs := [.bool true, .int .i64 (i + 1), .int .i64 6]) (by exact rfl) (by exact rfl) (fun w h => needT_ok _ _ w) ?_
        repeat' first
          | refine d_nil ?_ | fail
        repeat' first
          | refine k_then ?_ | refine c_seq ?_ | fail
        by_cases h8 : -2147483648 < c ∧ c < 2147483648
        · have hk : edgeK n a b c = 0 := by rw [edgeK, if_neg (fun h => h h5), if_neg h6, if_neg (fun h => h h8)]
          refine c_draw (by kernel_rfl) (by kernel_rfl) ?_
          repeat' first
            | refine d_move (by exact rfl) (by exact rfl) ?_ | refine d_fa (by exact rfl) (by exact rfl) ?_ | refine d_ld_box (by exact rfl) (by exact rfl) (by exact .head _) (by exact rfl) ?_ | refine d_lss (by exact rfl) (by exact rfl) (by exact rfl) ?_ | refine d_idxi (by exact rfl) (by exact rfl) (by exact rfl) (by assumption) (by first | assumption | omega) ?_ | refine d_pick_t (by exact rfl) (by exact rfl) (by exact rfl) ?_ | refine d_ld_row (by exact rfl) (by exact rfl) (by exact .tail _ (.head _)) (by assumption) ?_ | (refine dg_case (by exact rfl) (by exact rfl) (fun h => ?_) (fun h => ?_) <;> try (exfalso; omega)) | refine dw_move (by exact rfl) (by exact rfl) (by exact rfl) (by exact rfl) ?_ | refine dw_lss (by exact rfl) (by exact rfl) (by exact rfl) (by exact rfl) (by exact rfl) ?_ | refine dw_idxi (by exact rfl) (by exact rfl) (by exact rfl) (by exact rfl) (by exact rfl) (by assumption) (by first | assumption | omega) ?_ | refine dw_ld_row (by exact rfl) (by exact rfl) (by exact rfl) (by exact rfl) (by exact .tail _ (.head _)) (by assumption) ?_ | refine d_q rfl rfl (by exact rfl) (q_nilck rfl (by exact rfl)).q ?_ | fail
          rw [decide_eq_true h8.2]
          refine d_call (vs := [.bool true, .int .i64 (i + 1), .int .i64 8]) (by exact rfl) (by exact rfl) (fun w h => needT_ok _ _ w) ?_
          repeat' first
            | refine d_nil ?_ | fail
          repeat' first
            | refine k_then ?_ | refine c_seq ?_ | fail
          refine c_pick [2, 0, 0] (by exact rfl) ?_
          refine p_begin [(0, true), (1, true), (2, true), (3, true), (4, true), (5, true), (6, true), (7, true), (8, true), (9, true), (10, false)] [boxHP rb 99 [.string ⟨rest.toArray⟩, .int .i64 (i + 1)], rowHP v5 2 1 3 (i6V [a, b, c])] (by kernel_rfl) ?_
          repeat' first
            | (refine p_at (by exact rfl) ?_
               first
                | refine t_move (by exact rfl) (by exact rfl) (by exact fun _ h => h.tl) ?_ | refine t_idxi (by exact rfl) (by exact rfl) (by exact rfl) (by assumption) (by first | assumption | omega) (by exact fun _ h => h.tl) ?_ | refine t_ld_row (by exact rfl) (by exact rfl) (by exact .tail _ (.head _)) (by assumption) (by exact fun _ h => h.tl) ?_ | fail)
            | fail
          refine p_buildt (cs := eV (a, b, c)) [(0, .int .i64 a, [.int .i64 a]), (1, .int .i64 b, [.int .i64 b]), (2, .int .i64 c, [.int .i64 c])] (by exact rfl) (by exact rfl) (by exact rfl) (by simp [Value.cells]) ?_ (by exact fun _ h => h.tl) ?_
          · exact rfl
          refine p_stk_box (j := 0) (us := eV (a, b, c)) (by exact rfl) (by exact rfl) (by exact rfl) (by exact rfl) (by simp [Value.cells]) rfl (by simp [eV, Value.oneCell']) (by simp [eV, Value.cells]) (fun _ h => h.tl) ?_
          refine p_nil ?_
          repeat' first
            | refine k_then ?_ | refine c_ret ?_ | fail
          exact Reach.imp (bodyPost_imp (R := Post w S (fun v L' => v = .agg (eV (a, b, c)).toArray ∧ L' = [boxHP rb 99 [.string ⟨rest.toArray⟩, .int .i64 (i + 1)]])) (hE fun e w' h => by rw [hk, if_pos rfl]; exact h) _) (retL [.cell 4 60] [.agg (eV (a, b, c)).toArray] [1] rfl ⟨res_cellk (cs := eV (a, b, c)) (k := 3) (off := 0) (us := eV (a, b, c)) rfl (.head _) rfl rfl, trivial⟩ (by exact rfl) ⟨rfl, rfl⟩)
        · have hk : edgeK n a b c = 8 := by rw [edgeK, if_neg (fun h => h h5), if_neg h6, if_pos h8]
          refine p_begin0 [(0, true), (1, true), (2, true), (3, true), (4, true), (5, true), (6, true), (7, true), (8, true), (9, true), (10, true), (11, true), (12, true), (13, true), (14, false)] (by kernel_rfl) ?_
          repeat' first
            | (refine p_at (by exact rfl) ?_
               first
                | refine t_move (by exact rfl) (by exact rfl) (by exact fun _ h => h) ?_ | refine t_lss (by exact rfl) (by exact rfl) (by exact rfl) (by exact fun _ h => h) ?_ | refine t_idxi (by exact rfl) (by exact rfl) (by exact rfl) (by assumption) (by first | assumption | omega) (by exact fun _ h => h) ?_ | refine t_pick_t (by exact rfl) (by exact rfl) (by exact rfl) (by exact fun _ h => h) ?_ | refine t_pick_f (by exact rfl) (by exact rfl) (by exact rfl) (by exact fun _ h => h) ?_ | refine t_ld_row (by exact rfl) (by exact rfl) (by exact .tail _ (.head _)) (by assumption) (by exact fun _ h => h) ?_ | refine tw_move (by exact rfl) (by exact rfl) (by exact rfl) (by exact rfl) (by exact fun _ h => h) ?_ | refine tw_lss (by exact rfl) (by exact rfl) (by exact rfl) (by exact rfl) (by exact rfl) (by exact fun _ h => h) ?_ | refine tw_idxi (by exact rfl) (by exact rfl) (by exact rfl) (by exact rfl) (by exact rfl) (by assumption) (by first | assumption | omega) (by exact fun _ h => h) ?_ | refine tw_ld_row (by exact rfl) (by exact rfl) (by exact rfl) (by exact rfl) (by exact .tail _ (.head _)) (by assumption) (by exact fun _ h => h) ?_ | (refine t_case (by exact rfl) (by exact rfl) (fun h => ?_) (fun h => ?_) <;> try (exfalso; omega)) | refine t_skip (by exact rfl) (by exact rfl) (by exact rfl) (by exact rfl) (by exact fun _ h => h) ?_ | fail)
            | fail
          · refine p_at (by exact rfl) ?_
            refine t_nilc (by exact rfl) (by exact rfl) (by exact fun _ h => h) ?_
            repeat' first
              | (refine p_at (by exact rfl) ?_
                 first
                  | refine t_fa (by exact rfl) (by exact rfl) (by exact fun _ h => h) ?_ | refine t_ld_box (by exact rfl) (by exact rfl) (by exact .head _) (by exact rfl) (by exact fun _ h => h) ?_ | fail)
              | fail
            rw [decide_eq_false (p := c < 2147483648) (by omega)]
            refine p_callF (vs := [.bool false, .int .i64 (i + 1), .int .i64 8]) [] _ rfl (by exact rfl) (by exact rfl) (fun w S h => needF_ok (i + 1) 8 (by decide) w S) ?_
            intro v L' hv
            obtain ⟨nb, rfl, rfl⟩ := hv
            repeat first | refine k_then_pan ?_ | refine k_blk_pan ?_
            exact Reach.imp (bodyPost_imp (hbad 8 hk (by decide)) _) (pan_end [0] rfl ⟨nb, rfl, rfl⟩)
          · refine p_at (by exact rfl) ?_
            refine t_nilc (by exact rfl) (by exact rfl) (by exact fun _ h => h) ?_
            repeat' first
              | (refine p_at (by exact rfl) ?_
                 first
                  | refine t_fa (by exact rfl) (by exact rfl) (by exact fun _ h => h) ?_ | refine t_ld_box (by exact rfl) (by exact rfl) (by exact .head _) (by exact rfl) (by exact fun _ h => h) ?_ | fail)
              | fail
            refine p_callF (vs := [.bool false, .int .i64 (i + 1), .int .i64 8]) [] _ rfl (by exact rfl) (by exact rfl) (fun w S h => needF_ok (i + 1) 8 (by decide) w S) ?_
            intro v L' hv
            obtain ⟨nb, rfl, rfl⟩ := hv
            repeat first | refine k_then_pan ?_ | refine k_blk_pan ?_
            exact Reach.imp (bodyPost_imp (hbad 8 hk (by decide)) _) (pan_end [0] rfl ⟨nb, rfl, rfl⟩)
    · have hk : edgeK n a b c = 5 := by rw [edgeK, if_pos h5]
      refine p_begin0 [(0, true), (1, true), (2, true), (3, true), (4, true), (5, true), (6, true), (7, true), (8, true), (9, true), (10, true), (11, true), (12, true), (13, true), (14, true), (15, true), (16, true), (17, true), (18, true), (19, true), (20, true), (21, true), (22, true), (23, false)] (by kernel_rfl) ?_
      repeat' first
        | (refine p_at (by exact rfl) ?_
           first
            | refine t_move (by exact rfl) (by exact rfl) (by exact fun _ h => h) ?_ | refine t_geq (by exact rfl) (by exact rfl) (by exact rfl) (by exact fun _ h => h) ?_ | refine t_min (by exact rfl) (by exact rfl) (by exact rfl) (by exact fun _ h => h) ?_ | refine t_idxi (by exact rfl) (by exact rfl) (by exact rfl) (by assumption) (by first | assumption | omega) (by exact fun _ h => h) ?_ | refine t_pick_t (by exact rfl) (by exact rfl) (by exact rfl) (by exact fun _ h => h) ?_ | refine t_pick_f (by exact rfl) (by exact rfl) (by exact rfl) (by exact fun _ h => h) ?_ | refine t_ld_row (by exact rfl) (by exact rfl) (by exact .tail _ (.head _)) (by assumption) (by exact fun _ h => h) ?_ | refine tw_move (by exact rfl) (by exact rfl) (by exact rfl) (by exact rfl) (by exact fun _ h => h) ?_ | refine tw_lss (by exact rfl) (by exact rfl) (by exact rfl) (by exact rfl) (by exact rfl) (by exact fun _ h => h) ?_ | refine tw_max (by exact rfl) (by exact rfl) (by exact rfl) (by exact rfl) (by exact rfl) (by exact fun _ h => h) ?_ | refine tw_idxi (by exact rfl) (by exact rfl) (by exact rfl) (by exact rfl) (by exact rfl) (by assumption) (by first | assumption | omega) (by exact fun _ h => h) ?_ | refine tw_ld_row (by exact rfl) (by exact rfl) (by exact rfl) (by exact rfl) (by exact .tail _ (.head _)) (by assumption) (by exact fun _ h => h) ?_ | (refine t_case (by exact rfl) (by exact rfl) (fun h => ?_) (fun h => ?_) <;> try (exfalso; omega)) | refine t_skip (by exact rfl) (by exact rfl) (by exact rfl) (by exact rfl) (by exact fun _ h => h) ?_ | fail)
        | fail
      · refine p_at (by exact rfl) ?_
        refine t_nilc (by exact rfl) (by exact rfl) (by exact fun _ h => h) ?_
        repeat' first
          | (refine p_at (by exact rfl) ?_
             first
              | refine t_fa (by exact rfl) (by exact rfl) (by exact fun _ h => h) ?_ | refine t_ld_box (by exact rfl) (by exact rfl) (by exact .head _) (by exact rfl) (by exact fun _ h => h) ?_ | fail)
          | fail
        rw [decide_eq_false (p := max a b < n) (by omega)]
        refine p_callF (vs := [.bool false, .int .i64 (i + 1), .int .i64 5]) [] _ rfl (by exact rfl) (by exact rfl) (fun w S h => needF_ok (i + 1) 5 (by decide) w S) ?_
        intro v L' hv
        obtain ⟨nb, rfl, rfl⟩ := hv
        repeat first | refine k_then_pan ?_ | refine k_blk_pan ?_
        exact Reach.imp (bodyPost_imp (hbad 5 hk (by decide)) _) (pan_end [0] rfl ⟨nb, rfl, rfl⟩)
      · refine p_at (by exact rfl) ?_
        refine t_nilc (by exact rfl) (by exact rfl) (by exact fun _ h => h) ?_
        repeat' first
          | (refine p_at (by exact rfl) ?_
             first
              | refine t_fa (by exact rfl) (by exact rfl) (by exact fun _ h => h) ?_ | refine t_ld_box (by exact rfl) (by exact rfl) (by exact .head _) (by exact rfl) (by exact fun _ h => h) ?_ | fail)
          | fail
        refine p_callF (vs := [.bool false, .int .i64 (i + 1), .int .i64 5]) [] _ rfl (by exact rfl) (by exact rfl) (fun w S h => needF_ok (i + 1) 5 (by decide) w S) ?_
        intro v L' hv
        obtain ⟨nb, rfl, rfl⟩ := hv
        repeat first | refine k_then_pan ?_ | refine k_blk_pan ?_
        exact Reach.imp (bodyPost_imp (hbad 5 hk (by decide)) _) (pan_end [0] rfl ⟨nb, rfl, rfl⟩)
end Go.Proofs.YtllkoinbfegonaaDoor
end
