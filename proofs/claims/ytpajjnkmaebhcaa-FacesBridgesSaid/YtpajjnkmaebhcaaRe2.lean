/- Of FacesBridges: part 2: what the walks rest on, contracts of functions and plain lemmas; no condition but those that each states. -/
import Derived.Test.YtpajjnkmaebhcaaRe1
import Derived.Test.YtpajjnkmaebhcaaProg
import Derived.Maps.Keyed
import Derived.Maps.RangeRun
import Derived.Laws.Cover3
import Derived.Laws.Shifts
import Derived.RangeFuncIn
import Derived.RangeFuncRecord
import Derived.RangeFuncLeaves
import Derived.RangeFuncCalls
import Derived.Sort.LoopGhostIn
import Derived.Shelf.SortM.Plain
import Derived.Shelf.SortM.SortNone
import Derived.Shelf.SlGeneric
import Derived.Ground.SlgmProg
import Derived.Sort.OwnSortedInts
set_option linter.unusedVariables false
set_option linter.unusedSimpArgs false
section
set_option linter.unusedVariables false
namespace Go.Proofs.Ytpajjnkmaebhcaa
open Go.Sl
instance : ScTy Try.prog 1 := ⟨Try.isAgg1, Try.sizeOf1⟩
instance : ZrTy Try.prog 1 .nilFunc := ⟨Try.zeroValue1⟩
instance : ScTy Try.prog 2 := ⟨Try.isAgg2, Try.sizeOf2⟩
instance : ZrTy Try.prog 2 (.int .i64 0) := ⟨Try.zeroValue2⟩
instance : ScTy Try.prog 3 := ⟨Try.isAgg3, Try.sizeOf3⟩
instance : ZrTy Try.prog 3 (.int .i64 0) := ⟨Try.zeroValue3⟩
instance : ScTy Try.prog 4 := ⟨Try.isAgg4, Try.sizeOf4⟩
instance : ZrTy Try.prog 4 (.bool false) := ⟨Try.zeroValue4⟩
instance : ScTy Try.prog 5 := ⟨Try.isAgg5, Try.sizeOf5⟩
instance : ZrTy Try.prog 5 (.int .u8 0) := ⟨Try.zeroValue5⟩
instance : ScTy Try.prog 6 := ⟨Try.isAgg6, Try.sizeOf6⟩
instance : ZrTy Try.prog 6 (.int .u8 0) := ⟨Try.zeroValue6⟩
instance : BdTy Try.prog 7 (.agg #[(.int .i64 0), (.int .i64 0), (.bool false), (.int .u8 0)]) [(0, 1), (1, 1), (2, 1), (3, 1)] := ⟨Try.zeroValue7, _, Try.underlying7, fun w => by simp only [List.mapM_cons, List.mapM_nil, Sem.run_bind, Sem.run_pure, Result.andThen_ok, Try.sizeOf2, Try.sizeOf3, Try.sizeOf4, Try.sizeOf6]⟩
instance : FdTy Try.prog 7 0 0 0 false := ⟨_, _, Try.underlying7, rfl, rfl, Try.sizeOf2, Try.isAgg2⟩
instance : FdTy Try.prog 7 1 1 0 false := ⟨_, _, Try.underlying7, rfl, rfl, Try.sizeOf3, Try.isAgg3⟩
instance : FdTy Try.prog 7 2 2 0 false := ⟨_, _, Try.underlying7, rfl, rfl, Try.sizeOf4, Try.isAgg4⟩
instance : FdTy Try.prog 7 3 3 0 false := ⟨_, _, Try.underlying7, rfl, rfl, Try.sizeOf6, Try.isAgg6⟩
instance : AgTy Try.prog 7 4 := ⟨Try.isAgg7, Try.sizeOf7⟩
instance : ZrTy Try.prog 7 (.agg #[(.int .i64 0), (.int .i64 0), (.bool false), (.int .u8 0)]) := ⟨Try.zeroValue7⟩
instance : BdTy Try.prog 8 (.agg #[(.int .i64 0), (.int .i64 0), (.bool false), (.int .u8 0)]) [(0, 1), (1, 1), (2, 1), (3, 1)] := ⟨Try.zeroValue8, _, Try.underlying8, fun w => by simp only [List.mapM_cons, List.mapM_nil, Sem.run_bind, Sem.run_pure, Result.andThen_ok, Try.sizeOf2, Try.sizeOf3, Try.sizeOf4, Try.sizeOf6]⟩
instance : FdTy Try.prog 8 0 0 0 false := ⟨_, _, Try.underlying8, rfl, rfl, Try.sizeOf2, Try.isAgg2⟩
instance : FdTy Try.prog 8 1 1 0 false := ⟨_, _, Try.underlying8, rfl, rfl, Try.sizeOf3, Try.isAgg3⟩
instance : FdTy Try.prog 8 2 2 0 false := ⟨_, _, Try.underlying8, rfl, rfl, Try.sizeOf4, Try.isAgg4⟩
instance : FdTy Try.prog 8 3 3 0 false := ⟨_, _, Try.underlying8, rfl, rfl, Try.sizeOf6, Try.isAgg6⟩
instance : AgTy Try.prog 8 4 := ⟨Try.isAgg8, Try.sizeOf8⟩
instance : ZrTy Try.prog 8 (.agg #[(.int .i64 0), (.int .i64 0), (.bool false), (.int .u8 0)]) := ⟨Try.zeroValue8⟩
instance : ScTy Try.prog 9 := ⟨Try.isAgg9, Try.sizeOf9⟩
instance : ZrTy Try.prog 9 (.string ⟨#[]⟩) := ⟨Try.zeroValue9⟩
instance : StTy Try.prog 9 := ⟨Try.underlying9⟩
instance : ScTy Try.prog 10 := ⟨Try.isAgg10, Try.sizeOf10⟩
instance : ZrTy Try.prog 10 (.string ⟨#[]⟩) := ⟨Try.zeroValue10⟩
instance : StTy Try.prog 10 := ⟨Try.underlying10⟩
instance : ScTy Try.prog 11 := ⟨Try.isAgg11, Try.sizeOf11⟩
instance : ZrTy Try.prog 11 (.string ⟨#[]⟩) := ⟨Try.zeroValue11⟩
instance : StTy Try.prog 11 := ⟨Try.underlying11⟩
instance : ScTy Try.prog 12 := ⟨Try.isAgg12, Try.sizeOf12⟩
instance : ZrTy Try.prog 12 (.int .u64 0) := ⟨Try.zeroValue12⟩
instance : BdTy Try.prog 13 (.agg #[(.string ⟨#[]⟩), (.int .u64 0)]) [(0, 1), (1, 1)] := ⟨Try.zeroValue13, _, Try.underlying13, fun w => by simp only [List.mapM_cons, List.mapM_nil, Sem.run_bind, Sem.run_pure, Result.andThen_ok, Try.sizeOf9, Try.sizeOf12]⟩
instance : FdTy Try.prog 13 0 0 0 false := ⟨_, _, Try.underlying13, rfl, rfl, Try.sizeOf9, Try.isAgg9⟩
instance : FdTy Try.prog 13 1 1 0 false := ⟨_, _, Try.underlying13, rfl, rfl, Try.sizeOf12, Try.isAgg12⟩
instance : AgTy Try.prog 13 2 := ⟨Try.isAgg13, Try.sizeOf13⟩
instance : ZrTy Try.prog 13 (.agg #[(.string ⟨#[]⟩), (.int .u64 0)]) := ⟨Try.zeroValue13⟩
instance : BdTy Try.prog 14 (.agg #[(.string ⟨#[]⟩), (.int .u64 0)]) [(0, 1), (1, 1)] := ⟨Try.zeroValue14, _, Try.underlying14, fun w => by simp only [List.mapM_cons, List.mapM_nil, Sem.run_bind, Sem.run_pure, Result.andThen_ok, Try.sizeOf9, Try.sizeOf12]⟩
instance : FdTy Try.prog 14 0 0 0 false := ⟨_, _, Try.underlying14, rfl, rfl, Try.sizeOf9, Try.isAgg9⟩
instance : FdTy Try.prog 14 1 1 0 false := ⟨_, _, Try.underlying14, rfl, rfl, Try.sizeOf12, Try.isAgg12⟩
instance : AgTy Try.prog 14 2 := ⟨Try.isAgg14, Try.sizeOf14⟩
instance : ZrTy Try.prog 14 (.agg #[(.string ⟨#[]⟩), (.int .u64 0)]) := ⟨Try.zeroValue14⟩
instance : ScTy Try.prog 15 := ⟨Try.isAgg15, Try.sizeOf15⟩
instance : ZrTy Try.prog 15 (.pointer none) := ⟨Try.zeroValue15⟩
instance : ScTy Try.prog 16 := ⟨Try.isAgg16, Try.sizeOf16⟩
instance : ZrTy Try.prog 16 (.pointer none) := ⟨Try.zeroValue16⟩
instance : ScTy Try.prog 17 := ⟨Try.isAgg17, Try.sizeOf17⟩
instance : ZrTy Try.prog 17 (.pointer none) := ⟨Try.zeroValue17⟩
instance : BdTy Try.prog 18 (.agg #[(.pointer none)]) [(0, 1)] := ⟨Try.zeroValue18, _, Try.underlying18, fun w => by simp only [List.mapM_cons, List.mapM_nil, Sem.run_bind, Sem.run_pure, Result.andThen_ok, Try.sizeOf17]⟩
instance : FdTy Try.prog 18 0 0 0 false := ⟨_, _, Try.underlying18, rfl, rfl, Try.sizeOf17, Try.isAgg17⟩
instance : AgTy Try.prog 18 1 := ⟨Try.isAgg18, Try.sizeOf18⟩
instance : ZrTy Try.prog 18 (.agg #[(.pointer none)]) := ⟨Try.zeroValue18⟩
instance : BdTy Try.prog 19 (.agg #[(.pointer none)]) [(0, 1)] := ⟨Try.zeroValue19, _, Try.underlying19, fun w => by simp only [List.mapM_cons, List.mapM_nil, Sem.run_bind, Sem.run_pure, Result.andThen_ok, Try.sizeOf17]⟩
instance : FdTy Try.prog 19 0 0 0 false := ⟨_, _, Try.underlying19, rfl, rfl, Try.sizeOf17, Try.isAgg17⟩
instance : AgTy Try.prog 19 1 := ⟨Try.isAgg19, Try.sizeOf19⟩
instance : ZrTy Try.prog 19 (.agg #[(.pointer none)]) := ⟨Try.zeroValue19⟩
instance : ScTy Try.prog 20 := ⟨Try.isAgg20, Try.sizeOf20⟩
instance : ZrTy Try.prog 20 .nilIface := ⟨Try.zeroValue20⟩
instance : ScTy Try.prog 21 := ⟨Try.isAgg21, Try.sizeOf21⟩
instance : ZrTy Try.prog 21 (.int .i32 0) := ⟨Try.zeroValue21⟩
instance : ScTy Try.prog 22 := ⟨Try.isAgg22, Try.sizeOf22⟩
instance : ZrTy Try.prog 22 (.slice none 0 0) := ⟨Try.zeroValue22⟩
instance : SlTy Try.prog 22 60 (.agg #[(.int .i64 0), (.int .i64 0), (.int .i64 0)]) 3 24 := ⟨Try.underlying22, by kernel_rfl, Try.sizeOf60, rfl, by decide, by decide⟩
instance : BdTy Try.prog 23 (.agg #[(.int .i64 0), (.slice none 0 0)]) [(0, 1), (1, 1)] := ⟨Try.zeroValue23, _, Try.underlying23, fun w => by simp only [List.mapM_cons, List.mapM_nil, Sem.run_bind, Sem.run_pure, Result.andThen_ok, Try.sizeOf3, Try.sizeOf22]⟩
instance : FdTy Try.prog 23 0 0 0 false := ⟨_, _, Try.underlying23, rfl, rfl, Try.sizeOf3, Try.isAgg3⟩
instance : FdTy Try.prog 23 1 1 0 false := ⟨_, _, Try.underlying23, rfl, rfl, Try.sizeOf22, Try.isAgg22⟩
instance : AgTy Try.prog 23 2 := ⟨Try.isAgg23, Try.sizeOf23⟩
instance : ZrTy Try.prog 23 (.agg #[(.int .i64 0), (.slice none 0 0)]) := ⟨Try.zeroValue23⟩
instance : BdTy Try.prog 24 (.agg #[(.int .i64 0), (.slice none 0 0)]) [(0, 1), (1, 1)] := ⟨Try.zeroValue24, _, Try.underlying24, fun w => by simp only [List.mapM_cons, List.mapM_nil, Sem.run_bind, Sem.run_pure, Result.andThen_ok, Try.sizeOf3, Try.sizeOf22]⟩
instance : FdTy Try.prog 24 0 0 0 false := ⟨_, _, Try.underlying24, rfl, rfl, Try.sizeOf3, Try.isAgg3⟩
instance : FdTy Try.prog 24 1 1 0 false := ⟨_, _, Try.underlying24, rfl, rfl, Try.sizeOf22, Try.isAgg22⟩
instance : AgTy Try.prog 24 2 := ⟨Try.isAgg24, Try.sizeOf24⟩
instance : ZrTy Try.prog 24 (.agg #[(.int .i64 0), (.slice none 0 0)]) := ⟨Try.zeroValue24⟩
instance : ScTy Try.prog 25 := ⟨Try.isAgg25, Try.sizeOf25⟩
instance : ZrTy Try.prog 25 (.slice none 0 0) := ⟨Try.zeroValue25⟩
instance : SlTy Try.prog 25 36 (.slice none 0 0) 1 24 := ⟨Try.underlying25, by kernel_rfl, Try.sizeOf36, rfl, by decide, by decide⟩
instance : ScTy Try.prog 26 := ⟨Try.isAgg26, Try.sizeOf26⟩
instance : ZrTy Try.prog 26 .nilFunc := ⟨Try.zeroValue26⟩
instance : ScTy Try.prog 27 := ⟨Try.isAgg27, Try.sizeOf27⟩
instance : ZrTy Try.prog 27 .nilFunc := ⟨Try.zeroValue27⟩
instance : ScTy Try.prog 28 := ⟨Try.isAgg28, Try.sizeOf28⟩
instance : ZrTy Try.prog 28 (.slice none 0 0) := ⟨Try.zeroValue28⟩
instance : SlTy Try.prog 28 41 (.slice none 0 0) 1 24 := ⟨Try.underlying28, by kernel_rfl, Try.sizeOf41, rfl, by decide, by decide⟩
instance : ScTy Try.prog 29 := ⟨Try.isAgg29, Try.sizeOf29⟩
instance : ZrTy Try.prog 29 (.int .i64 0) := ⟨Try.zeroValue29⟩
instance : ScTy Try.prog 31 := ⟨Try.isAgg31, Try.sizeOf31⟩
instance : ZrTy Try.prog 31 .nilFunc := ⟨Try.zeroValue31⟩
instance : ScTy Try.prog 32 := ⟨Try.isAgg32, Try.sizeOf32⟩
instance : ZrTy Try.prog 32 .nilFunc := ⟨Try.zeroValue32⟩
instance : ScTy Try.prog 33 := ⟨Try.isAgg33, Try.sizeOf33⟩
instance : ZrTy Try.prog 33 .nilFunc := ⟨Try.zeroValue33⟩
instance : ScTy Try.prog 34 := ⟨Try.isAgg34, Try.sizeOf34⟩
instance : ZrTy Try.prog 34 .nilFunc := ⟨Try.zeroValue34⟩
instance : ScTy Try.prog 35 := ⟨Try.isAgg35, Try.sizeOf35⟩
instance : ZrTy Try.prog 35 .nilFunc := ⟨Try.zeroValue35⟩
instance : ScTy Try.prog 36 := ⟨Try.isAgg36, Try.sizeOf36⟩
instance : ZrTy Try.prog 36 (.slice none 0 0) := ⟨Try.zeroValue36⟩
instance : SlTy Try.prog 36 3 (.int .i64 0) 1 8 := ⟨Try.underlying36, by kernel_rfl, Try.sizeOf3, rfl, by decide, by decide⟩
instance : ScTy Try.prog 38 := ⟨Try.isAgg38, Try.sizeOf38⟩
instance : ZrTy Try.prog 38 .nilFunc := ⟨Try.zeroValue38⟩
instance : ScTy Try.prog 39 := ⟨Try.isAgg39, Try.sizeOf39⟩
instance : ZrTy Try.prog 39 .nilFunc := ⟨Try.zeroValue39⟩
instance : ScTy Try.prog 40 := ⟨Try.isAgg40, Try.sizeOf40⟩
instance : ZrTy Try.prog 40 .nilFunc := ⟨Try.zeroValue40⟩
instance : ScTy Try.prog 41 := ⟨Try.isAgg41, Try.sizeOf41⟩
instance : ZrTy Try.prog 41 (.slice none 0 0) := ⟨Try.zeroValue41⟩
instance : SlTy Try.prog 41 43 (.agg #[(.int .i64 0), (.int .i64 0)]) 2 16 := ⟨Try.underlying41, by kernel_rfl, Try.sizeOf43, rfl, by decide, by decide⟩
instance : BdTy Try.prog 42 (.agg #[(.int .i64 0), (.int .i64 0)]) [(0, 1), (1, 1)] := ⟨Try.zeroValue42, _, Try.underlying42, fun w => by simp only [List.mapM_cons, List.mapM_nil, Sem.run_bind, Sem.run_pure, Result.andThen_ok, Try.sizeOf3]⟩
instance : FdTy Try.prog 42 0 0 0 false := ⟨_, _, Try.underlying42, rfl, rfl, Try.sizeOf3, Try.isAgg3⟩
instance : FdTy Try.prog 42 1 1 0 false := ⟨_, _, Try.underlying42, rfl, rfl, Try.sizeOf3, Try.isAgg3⟩
instance : AgTy Try.prog 42 2 := ⟨Try.isAgg42, Try.sizeOf42⟩
instance : ZrTy Try.prog 42 (.agg #[(.int .i64 0), (.int .i64 0)]) := ⟨Try.zeroValue42⟩
instance : BdTy Try.prog 43 (.agg #[(.int .i64 0), (.int .i64 0)]) [(0, 1), (1, 1)] := ⟨Try.zeroValue43, _, Try.underlying43, fun w => by simp only [List.mapM_cons, List.mapM_nil, Sem.run_bind, Sem.run_pure, Result.andThen_ok, Try.sizeOf3]⟩
instance : FdTy Try.prog 43 0 0 0 false := ⟨_, _, Try.underlying43, rfl, rfl, Try.sizeOf3, Try.isAgg3⟩
instance : FdTy Try.prog 43 1 1 0 false := ⟨_, _, Try.underlying43, rfl, rfl, Try.sizeOf3, Try.isAgg3⟩
instance : AgTy Try.prog 43 2 := ⟨Try.isAgg43, Try.sizeOf43⟩
instance : ZrTy Try.prog 43 (.agg #[(.int .i64 0), (.int .i64 0)]) := ⟨Try.zeroValue43⟩
instance : ScTy Try.prog 45 := ⟨Try.isAgg45, Try.sizeOf45⟩
instance : ZrTy Try.prog 45 .nilFunc := ⟨Try.zeroValue45⟩
instance : ScTy Try.prog 46 := ⟨Try.isAgg46, Try.sizeOf46⟩
instance : ZrTy Try.prog 46 .nilFunc := ⟨Try.zeroValue46⟩
instance : ScTy Try.prog 47 := ⟨Try.isAgg47, Try.sizeOf47⟩
instance : ZrTy Try.prog 47 .nilFunc := ⟨Try.zeroValue47⟩
instance : ScTy Try.prog 48 := ⟨Try.isAgg48, Try.sizeOf48⟩
instance : ZrTy Try.prog 48 .nilFunc := ⟨Try.zeroValue48⟩
instance : ScTy Try.prog 49 := ⟨Try.isAgg49, Try.sizeOf49⟩
instance : ZrTy Try.prog 49 .nilFunc := ⟨Try.zeroValue49⟩
instance : ScTy Try.prog 50 := ⟨Try.isAgg50, Try.sizeOf50⟩
instance : ZrTy Try.prog 50 .nilFunc := ⟨Try.zeroValue50⟩
instance : ScTy Try.prog 51 := ⟨Try.isAgg51, Try.sizeOf51⟩
instance : ZrTy Try.prog 51 (.slice none 0 0) := ⟨Try.zeroValue51⟩
instance : SlTy Try.prog 51 58 (.agg #[(.int .i64 0), (.int .i64 0)]) 2 16 := ⟨Try.underlying51, by kernel_rfl, Try.sizeOf58, rfl, by decide, by decide⟩
instance : ScTy Try.prog 53 := ⟨Try.isAgg53, Try.sizeOf53⟩
instance : ZrTy Try.prog 53 .nilFunc := ⟨Try.zeroValue53⟩
instance : ScTy Try.prog 55 := ⟨Try.isAgg55, Try.sizeOf55⟩
instance : ZrTy Try.prog 55 .nilFunc := ⟨Try.zeroValue55⟩
instance : ScTy Try.prog 56 := ⟨Try.isAgg56, Try.sizeOf56⟩
instance : ZrTy Try.prog 56 .nilFunc := ⟨Try.zeroValue56⟩
instance : ScTy Try.prog 57 := ⟨Try.isAgg57, Try.sizeOf57⟩
instance : ZrTy Try.prog 57 .nilFunc := ⟨Try.zeroValue57⟩
instance : AgTy Try.prog 58 2 := ⟨Try.isAgg58, Try.sizeOf58⟩
instance : ZrTy Try.prog 58 (.agg #[(.int .i64 0), (.int .i64 0)]) := ⟨Try.zeroValue58⟩
instance : ArTy Try.prog 58 2 3 1 := ⟨Try.underlying58, Try.sizeOf3⟩
instance : BdTy Try.prog 59 (.agg #[(.int .i64 0), (.int .i64 0), (.int .i64 0)]) [(0, 1), (1, 1), (2, 1)] := ⟨Try.zeroValue59, _, Try.underlying59, fun w => by simp only [List.mapM_cons, List.mapM_nil, Sem.run_bind, Sem.run_pure, Result.andThen_ok, Try.sizeOf2, Try.sizeOf3]⟩
instance : FdTy Try.prog 59 0 0 0 false := ⟨_, _, Try.underlying59, rfl, rfl, Try.sizeOf3, Try.isAgg3⟩
instance : FdTy Try.prog 59 1 1 0 false := ⟨_, _, Try.underlying59, rfl, rfl, Try.sizeOf3, Try.isAgg3⟩
instance : FdTy Try.prog 59 2 2 0 false := ⟨_, _, Try.underlying59, rfl, rfl, Try.sizeOf2, Try.isAgg2⟩
instance : AgTy Try.prog 59 3 := ⟨Try.isAgg59, Try.sizeOf59⟩
instance : ZrTy Try.prog 59 (.agg #[(.int .i64 0), (.int .i64 0), (.int .i64 0)]) := ⟨Try.zeroValue59⟩
instance : BdTy Try.prog 60 (.agg #[(.int .i64 0), (.int .i64 0), (.int .i64 0)]) [(0, 1), (1, 1), (2, 1)] := ⟨Try.zeroValue60, _, Try.underlying60, fun w => by simp only [List.mapM_cons, List.mapM_nil, Sem.run_bind, Sem.run_pure, Result.andThen_ok, Try.sizeOf2, Try.sizeOf3]⟩
instance : FdTy Try.prog 60 0 0 0 false := ⟨_, _, Try.underlying60, rfl, rfl, Try.sizeOf3, Try.isAgg3⟩
instance : FdTy Try.prog 60 1 1 0 false := ⟨_, _, Try.underlying60, rfl, rfl, Try.sizeOf3, Try.isAgg3⟩
instance : FdTy Try.prog 60 2 2 0 false := ⟨_, _, Try.underlying60, rfl, rfl, Try.sizeOf2, Try.isAgg2⟩
instance : AgTy Try.prog 60 3 := ⟨Try.isAgg60, Try.sizeOf60⟩
instance : ZrTy Try.prog 60 (.agg #[(.int .i64 0), (.int .i64 0), (.int .i64 0)]) := ⟨Try.zeroValue60⟩
instance : ScTy Try.prog 62 := ⟨Try.isAgg62, Try.sizeOf62⟩
instance : ZrTy Try.prog 62 .nilFunc := ⟨Try.zeroValue62⟩
instance : ScTy Try.prog 63 := ⟨Try.isAgg63, Try.sizeOf63⟩
instance : ZrTy Try.prog 63 .nilFunc := ⟨Try.zeroValue63⟩
instance : ScTy Try.prog 64 := ⟨Try.isAgg64, Try.sizeOf64⟩
instance : ZrTy Try.prog 64 .nilFunc := ⟨Try.zeroValue64⟩
instance : ScTy Try.prog 65 := ⟨Try.isAgg65, Try.sizeOf65⟩
instance : ZrTy Try.prog 65 (.map none) := ⟨Try.zeroValue65⟩
instance : MpTy Try.prog 65 43 43 := ⟨Try.underlying65⟩
instance : ScTy Try.prog 66 := ⟨Try.isAgg66, Try.sizeOf66⟩
instance : ZrTy Try.prog 66 .nilFunc := ⟨Try.zeroValue66⟩
instance : ScTy Try.prog 67 := ⟨Try.isAgg67, Try.sizeOf67⟩
instance : ZrTy Try.prog 67 .nilFunc := ⟨Try.zeroValue67⟩
instance : ScTy Try.prog 68 := ⟨Try.isAgg68, Try.sizeOf68⟩
instance : ZrTy Try.prog 68 .nilFunc := ⟨Try.zeroValue68⟩
instance : ScTy Try.prog 69 := ⟨Try.isAgg69, Try.sizeOf69⟩
instance : ZrTy Try.prog 69 (.map none) := ⟨Try.zeroValue69⟩
instance : MpTy Try.prog 69 43 4 := ⟨Try.underlying69⟩
instance : ScTy Try.prog 70 := ⟨Try.isAgg70, Try.sizeOf70⟩
instance : ZrTy Try.prog 70 .nilFunc := ⟨Try.zeroValue70⟩
instance : ScTy Try.prog 71 := ⟨Try.isAgg71, Try.sizeOf71⟩
instance : ZrTy Try.prog 71 .nilFunc := ⟨Try.zeroValue71⟩
instance : ScTy Try.prog 72 := ⟨Try.isAgg72, Try.sizeOf72⟩
instance : ZrTy Try.prog 72 .nilFunc := ⟨Try.zeroValue72⟩
instance : ScTy Try.prog 73 := ⟨Try.isAgg73, Try.sizeOf73⟩
instance : ZrTy Try.prog 73 .nilFunc := ⟨Try.zeroValue73⟩
instance : ScTy Try.prog 74 := ⟨Try.isAgg74, Try.sizeOf74⟩
instance : ZrTy Try.prog 74 .nilFunc := ⟨Try.zeroValue74⟩
instance : ScTy Try.prog 75 := ⟨Try.isAgg75, Try.sizeOf75⟩
instance : ZrTy Try.prog 75 .nilFunc := ⟨Try.zeroValue75⟩
instance : ScTy Try.prog 76 := ⟨Try.isAgg76, Try.sizeOf76⟩
instance : ZrTy Try.prog 76 .nilFunc := ⟨Try.zeroValue76⟩
instance : ScTy Try.prog 77 := ⟨Try.isAgg77, Try.sizeOf77⟩
instance : ZrTy Try.prog 77 .nilFunc := ⟨Try.zeroValue77⟩
instance : ScTy Try.prog 78 := ⟨Try.isAgg78, Try.sizeOf78⟩
instance : ZrTy Try.prog 78 .nilFunc := ⟨Try.zeroValue78⟩
instance : ScTy Try.prog 79 := ⟨Try.isAgg79, Try.sizeOf79⟩
instance : ZrTy Try.prog 79 .nilFunc := ⟨Try.zeroValue79⟩
instance : ScTy Try.prog 80 := ⟨Try.isAgg80, Try.sizeOf80⟩
instance : ZrTy Try.prog 80 .nilFunc := ⟨Try.zeroValue80⟩
instance : ScTy Try.prog 81 := ⟨Try.isAgg81, Try.sizeOf81⟩
instance : ZrTy Try.prog 81 .nilFunc := ⟨Try.zeroValue81⟩
instance : ScTy Try.prog 82 := ⟨Try.isAgg82, Try.sizeOf82⟩
instance : ZrTy Try.prog 82 (.map none) := ⟨Try.zeroValue82⟩
instance : MpTy Try.prog 82 43 3 := ⟨Try.underlying82⟩
instance : ScTy Try.prog 83 := ⟨Try.isAgg83, Try.sizeOf83⟩
instance : ZrTy Try.prog 83 .nilFunc := ⟨Try.zeroValue83⟩
instance : ScTy Try.prog 84 := ⟨Try.isAgg84, Try.sizeOf84⟩
instance : ZrTy Try.prog 84 .nilFunc := ⟨Try.zeroValue84⟩
instance : ScTy Try.prog 85 := ⟨Try.isAgg85, Try.sizeOf85⟩
instance : ZrTy Try.prog 85 .nilFunc := ⟨Try.zeroValue85⟩
instance : ScTy Try.prog 86 := ⟨Try.isAgg86, Try.sizeOf86⟩
instance : ZrTy Try.prog 86 .nilFunc := ⟨Try.zeroValue86⟩
instance : ScTy Try.prog 87 := ⟨Try.isAgg87, Try.sizeOf87⟩
instance : ZrTy Try.prog 87 .nilFunc := ⟨Try.zeroValue87⟩
instance : ScTy Try.prog 88 := ⟨Try.isAgg88, Try.sizeOf88⟩
instance : ZrTy Try.prog 88 .nilFunc := ⟨Try.zeroValue88⟩
instance : ScTy Try.prog 89 := ⟨Try.isAgg89, Try.sizeOf89⟩
instance : ZrTy Try.prog 89 (.int .u64 0) := ⟨Try.zeroValue89⟩
instance : ScTy Try.prog 90 := ⟨Try.isAgg90, Try.sizeOf90⟩
instance : ZrTy Try.prog 90 .nilFunc := ⟨Try.zeroValue90⟩
instance : ScTy Try.prog 91 := ⟨Try.isAgg91, Try.sizeOf91⟩
instance : ZrTy Try.prog 91 .nilFunc := ⟨Try.zeroValue91⟩
instance : ScTy Try.prog 92 := ⟨Try.isAgg92, Try.sizeOf92⟩
instance : ZrTy Try.prog 92 .nilFunc := ⟨Try.zeroValue92⟩
instance : ScTy Try.prog 93 := ⟨Try.isAgg93, Try.sizeOf93⟩
instance : ZrTy Try.prog 93 .nilFunc := ⟨Try.zeroValue93⟩
instance : ScTy Try.prog 94 := ⟨Try.isAgg94, Try.sizeOf94⟩
instance : ZrTy Try.prog 94 .nilFunc := ⟨Try.zeroValue94⟩
instance : ScTy Try.prog 95 := ⟨Try.isAgg95, Try.sizeOf95⟩
instance : ZrTy Try.prog 95 (.slice none 0 0) := ⟨Try.zeroValue95⟩
instance : SlTy Try.prog 95 98 (.slice none 0 0) 1 24 := ⟨Try.underlying95, by kernel_rfl, Try.sizeOf98, rfl, by decide, by decide⟩
instance : ScTy Try.prog 96 := ⟨Try.isAgg96, Try.sizeOf96⟩
instance : ZrTy Try.prog 96 .nilFunc := ⟨Try.zeroValue96⟩
instance : ScTy Try.prog 97 := ⟨Try.isAgg97, Try.sizeOf97⟩
instance : ZrTy Try.prog 97 (.slice none 0 0) := ⟨Try.zeroValue97⟩
instance : SlTy Try.prog 97 4 (.bool false) 1 1 := ⟨Try.underlying97, by kernel_rfl, Try.sizeOf4, rfl, by decide, by decide⟩
instance : ScTy Try.prog 98 := ⟨Try.isAgg98, Try.sizeOf98⟩
instance : ZrTy Try.prog 98 (.slice none 0 0) := ⟨Try.zeroValue98⟩
instance : SlTy Try.prog 98 100 (.agg #[(.int .i64 0), (.int .i64 0)]) 2 16 := ⟨Try.underlying98, by kernel_rfl, Try.sizeOf100, rfl, by decide, by decide⟩
instance : BdTy Try.prog 99 (.agg #[(.int .i64 0), (.int .i64 0)]) [(0, 1), (1, 1)] := ⟨Try.zeroValue99, _, Try.underlying99, fun w => by simp only [List.mapM_cons, List.mapM_nil, Sem.run_bind, Sem.run_pure, Result.andThen_ok, Try.sizeOf3]⟩
instance : FdTy Try.prog 99 0 0 0 false := ⟨_, _, Try.underlying99, rfl, rfl, Try.sizeOf3, Try.isAgg3⟩
instance : FdTy Try.prog 99 1 1 0 false := ⟨_, _, Try.underlying99, rfl, rfl, Try.sizeOf3, Try.isAgg3⟩
instance : AgTy Try.prog 99 2 := ⟨Try.isAgg99, Try.sizeOf99⟩
instance : ZrTy Try.prog 99 (.agg #[(.int .i64 0), (.int .i64 0)]) := ⟨Try.zeroValue99⟩
instance : BdTy Try.prog 100 (.agg #[(.int .i64 0), (.int .i64 0)]) [(0, 1), (1, 1)] := ⟨Try.zeroValue100, _, Try.underlying100, fun w => by simp only [List.mapM_cons, List.mapM_nil, Sem.run_bind, Sem.run_pure, Result.andThen_ok, Try.sizeOf3]⟩
instance : FdTy Try.prog 100 0 0 0 false := ⟨_, _, Try.underlying100, rfl, rfl, Try.sizeOf3, Try.isAgg3⟩
instance : FdTy Try.prog 100 1 1 0 false := ⟨_, _, Try.underlying100, rfl, rfl, Try.sizeOf3, Try.isAgg3⟩
instance : AgTy Try.prog 100 2 := ⟨Try.isAgg100, Try.sizeOf100⟩
instance : ZrTy Try.prog 100 (.agg #[(.int .i64 0), (.int .i64 0)]) := ⟨Try.zeroValue100⟩
instance : ScTy Try.prog 101 := ⟨Try.isAgg101, Try.sizeOf101⟩
instance : ZrTy Try.prog 101 .nilFunc := ⟨Try.zeroValue101⟩
instance : ScTy Try.prog 102 := ⟨Try.isAgg102, Try.sizeOf102⟩
instance : ZrTy Try.prog 102 .nilFunc := ⟨Try.zeroValue102⟩
instance : ScTy Try.prog 103 := ⟨Try.isAgg103, Try.sizeOf103⟩
instance : ZrTy Try.prog 103 .nilFunc := ⟨Try.zeroValue103⟩
instance : ScTy Try.prog 104 := ⟨Try.isAgg104, Try.sizeOf104⟩
instance : ZrTy Try.prog 104 .nilFunc := ⟨Try.zeroValue104⟩
instance : ScTy Try.prog 105 := ⟨Try.isAgg105, Try.sizeOf105⟩
instance : ZrTy Try.prog 105 (.int .i64 0) := ⟨Try.zeroValue105⟩
instance : ScTy Try.prog 107 := ⟨Try.isAgg107, Try.sizeOf107⟩
instance : ZrTy Try.prog 107 .nilFunc := ⟨Try.zeroValue107⟩
instance : ScTy Try.prog 108 := ⟨Try.isAgg108, Try.sizeOf108⟩
instance : ZrTy Try.prog 108 .nilFunc := ⟨Try.zeroValue108⟩
instance : ScTy Try.prog 109 := ⟨Try.isAgg109, Try.sizeOf109⟩
instance : ZrTy Try.prog 109 .nilFunc := ⟨Try.zeroValue109⟩
instance : ScTy Try.prog 111 := ⟨Try.isAgg111, Try.sizeOf111⟩
instance : ZrTy Try.prog 111 .nilFunc := ⟨Try.zeroValue111⟩
instance : ScTy Try.prog 112 := ⟨Try.isAgg112, Try.sizeOf112⟩
instance : ZrTy Try.prog 112 .nilFunc := ⟨Try.zeroValue112⟩
instance : ScTy Try.prog 113 := ⟨Try.isAgg113, Try.sizeOf113⟩
instance : ZrTy Try.prog 113 (.int .u32 0) := ⟨Try.zeroValue113⟩
instance : ScTy Try.prog 114 := ⟨Try.isAgg114, Try.sizeOf114⟩
instance : ZrTy Try.prog 114 .nilFunc := ⟨Try.zeroValue114⟩
instance : ScTy Try.prog 115 := ⟨Try.isAgg115, Try.sizeOf115⟩
instance : ZrTy Try.prog 115 (.int .u64 0) := ⟨Try.zeroValue115⟩
instance : ScTy Try.prog 116 := ⟨Try.isAgg116, Try.sizeOf116⟩
instance : ZrTy Try.prog 116 .nilFunc := ⟨Try.zeroValue116⟩
instance : ScTy Try.prog 117 := ⟨Try.isAgg117, Try.sizeOf117⟩
instance : ZrTy Try.prog 117 .nilFunc := ⟨Try.zeroValue117⟩
instance : ScTy Try.prog 118 := ⟨Try.isAgg118, Try.sizeOf118⟩
instance : ZrTy Try.prog 118 (.int .u64 0) := ⟨Try.zeroValue118⟩
instance : ScTy Try.prog 119 := ⟨Try.isAgg119, Try.sizeOf119⟩
instance : ZrTy Try.prog 119 .nilFunc := ⟨Try.zeroValue119⟩
instance : ScTy Try.prog 120 := ⟨Try.isAgg120, Try.sizeOf120⟩
instance : ZrTy Try.prog 120 .nilFunc := ⟨Try.zeroValue120⟩
instance : ScTy Try.prog 121 := ⟨Try.isAgg121, Try.sizeOf121⟩
instance : ZrTy Try.prog 121 .nilFunc := ⟨Try.zeroValue121⟩
instance : ScTy Try.prog 122 := ⟨Try.isAgg122, Try.sizeOf122⟩
instance : ZrTy Try.prog 122 (.pointer none) := ⟨Try.zeroValue122⟩
instance : ScTy Try.prog 123 := ⟨Try.isAgg123, Try.sizeOf123⟩
instance : ZrTy Try.prog 123 .nilFunc := ⟨Try.zeroValue123⟩
instance : ScTy Try.prog 124 := ⟨Try.isAgg124, Try.sizeOf124⟩
instance : ZrTy Try.prog 124 .nilFunc := ⟨Try.zeroValue124⟩
instance : ScTy Try.prog 125 := ⟨Try.isAgg125, Try.sizeOf125⟩
instance : ZrTy Try.prog 125 .nilFunc := ⟨Try.zeroValue125⟩
instance : ScTy Try.prog 126 := ⟨Try.isAgg126, Try.sizeOf126⟩
instance : ZrTy Try.prog 126 .nilFunc := ⟨Try.zeroValue126⟩
instance : ScTy Try.prog 127 := ⟨Try.isAgg127, Try.sizeOf127⟩
instance : ZrTy Try.prog 127 .nilFunc := ⟨Try.zeroValue127⟩
instance : ScTy Try.prog 128 := ⟨Try.isAgg128, Try.sizeOf128⟩
instance : ZrTy Try.prog 128 .nilFunc := ⟨Try.zeroValue128⟩
instance : ScTy Try.prog 129 := ⟨Try.isAgg129, Try.sizeOf129⟩
instance : ZrTy Try.prog 129 .nilFunc := ⟨Try.zeroValue129⟩
instance : ScTy Try.prog 130 := ⟨Try.isAgg130, Try.sizeOf130⟩
instance : ZrTy Try.prog 130 (.pointer none) := ⟨Try.zeroValue130⟩
instance : ScTy Try.prog 132 := ⟨Try.isAgg132, Try.sizeOf132⟩
instance : ZrTy Try.prog 132 .nilFunc := ⟨Try.zeroValue132⟩
instance : ScTy Try.prog 133 := ⟨Try.isAgg133, Try.sizeOf133⟩
instance : ZrTy Try.prog 133 .nilFunc := ⟨Try.zeroValue133⟩
instance : ScTy Try.prog 134 := ⟨Try.isAgg134, Try.sizeOf134⟩
instance : ZrTy Try.prog 134 .nilFunc := ⟨Try.zeroValue134⟩
instance : ScTy Try.prog 135 := ⟨Try.isAgg135, Try.sizeOf135⟩
instance : ZrTy Try.prog 135 .nilFunc := ⟨Try.zeroValue135⟩
instance : ScTy Try.prog 136 := ⟨Try.isAgg136, Try.sizeOf136⟩
instance : ZrTy Try.prog 136 .nilFunc := ⟨Try.zeroValue136⟩
instance : BdTy Try.prog 137 (.agg #[(.pointer none), (.pointer none), (.pointer none), (.string ⟨#[]⟩)]) [(0, 1), (1, 1), (2, 1), (3, 1)] := ⟨Try.zeroValue137, _, Try.underlying137, fun w => by simp only [List.mapM_cons, List.mapM_nil, Sem.run_bind, Sem.run_pure, Result.andThen_ok, Try.sizeOf9, Try.sizeOf17]⟩
instance : FdTy Try.prog 137 0 0 0 false := ⟨_, _, Try.underlying137, rfl, rfl, Try.sizeOf17, Try.isAgg17⟩
instance : FdTy Try.prog 137 1 1 0 false := ⟨_, _, Try.underlying137, rfl, rfl, Try.sizeOf17, Try.isAgg17⟩
instance : FdTy Try.prog 137 2 2 0 false := ⟨_, _, Try.underlying137, rfl, rfl, Try.sizeOf17, Try.isAgg17⟩
instance : FdTy Try.prog 137 3 3 0 false := ⟨_, _, Try.underlying137, rfl, rfl, Try.sizeOf9, Try.isAgg9⟩
instance : AgTy Try.prog 137 4 := ⟨Try.isAgg137, Try.sizeOf137⟩
instance : ZrTy Try.prog 137 (.agg #[(.pointer none), (.pointer none), (.pointer none), (.string ⟨#[]⟩)]) := ⟨Try.zeroValue137⟩
instance : BdTy Try.prog 138 (.agg #[(.pointer none), (.pointer none), (.pointer none), (.string ⟨#[]⟩)]) [(0, 1), (1, 1), (2, 1), (3, 1)] := ⟨Try.zeroValue138, _, Try.underlying138, fun w => by simp only [List.mapM_cons, List.mapM_nil, Sem.run_bind, Sem.run_pure, Result.andThen_ok, Try.sizeOf9, Try.sizeOf17]⟩
instance : FdTy Try.prog 138 0 0 0 false := ⟨_, _, Try.underlying138, rfl, rfl, Try.sizeOf17, Try.isAgg17⟩
instance : FdTy Try.prog 138 1 1 0 false := ⟨_, _, Try.underlying138, rfl, rfl, Try.sizeOf17, Try.isAgg17⟩
instance : FdTy Try.prog 138 2 2 0 false := ⟨_, _, Try.underlying138, rfl, rfl, Try.sizeOf17, Try.isAgg17⟩
instance : FdTy Try.prog 138 3 3 0 false := ⟨_, _, Try.underlying138, rfl, rfl, Try.sizeOf9, Try.isAgg9⟩
instance : AgTy Try.prog 138 4 := ⟨Try.isAgg138, Try.sizeOf138⟩
instance : ZrTy Try.prog 138 (.agg #[(.pointer none), (.pointer none), (.pointer none), (.string ⟨#[]⟩)]) := ⟨Try.zeroValue138⟩
instance : ZrTy Try.prog 139 (.agg #[]) := ⟨Try.zeroValue139⟩
instance : ArTy Try.prog 139 0 16 1 := ⟨Try.underlying139, Try.sizeOf16⟩
instance : ZrTy Try.prog 140 (.agg #[]) := ⟨Try.zeroValue140⟩
instance : ZrTy Try.prog 141 (.agg #[]) := ⟨Try.zeroValue141⟩
instance : ScTy Try.prog 142 := ⟨Try.isAgg142, Try.sizeOf142⟩
instance : ZrTy Try.prog 142 .nilFunc := ⟨Try.zeroValue142⟩
instance : ScTy Try.prog 143 := ⟨Try.isAgg143, Try.sizeOf143⟩
instance : ZrTy Try.prog 143 (.int .u8 0) := ⟨Try.zeroValue143⟩
instance : ScTy Try.prog 144 := ⟨Try.isAgg144, Try.sizeOf144⟩
instance : ZrTy Try.prog 144 (.int .u8 0) := ⟨Try.zeroValue144⟩
instance : ScTy Try.prog 145 := ⟨Try.isAgg145, Try.sizeOf145⟩
instance : ZrTy Try.prog 145 .nilFunc := ⟨Try.zeroValue145⟩
instance : ScTy Try.prog 146 := ⟨Try.isAgg146, Try.sizeOf146⟩
instance : ZrTy Try.prog 146 (.pointer none) := ⟨Try.zeroValue146⟩
instance : ScTy Try.prog 147 := ⟨Try.isAgg147, Try.sizeOf147⟩
instance : ZrTy Try.prog 147 (.int .i32 0) := ⟨Try.zeroValue147⟩
instance : ScTy Try.prog 148 := ⟨Try.isAgg148, Try.sizeOf148⟩
instance : ZrTy Try.prog 148 (.int .i32 0) := ⟨Try.zeroValue148⟩
instance : BdTy Try.prog 149 (.agg #[(.int .u64 0), (.int .u64 0), (.int .u32 0), (.int .u8 0), (.int .u8 0), (.int .u8 0), (.int .u8 0), .nilFunc, (.pointer none), (.int .i32 0), (.int .i32 0)]) [(0, 1), (1, 1), (2, 1), (3, 1), (4, 1), (5, 1), (6, 1), (7, 1), (8, 1), (9, 1), (10, 1)] := ⟨Try.zeroValue149, _, Try.underlying149, fun w => by simp only [List.mapM_cons, List.mapM_nil, Sem.run_bind, Sem.run_pure, Result.andThen_ok, Try.sizeOf5, Try.sizeOf12, Try.sizeOf113, Try.sizeOf143, Try.sizeOf144, Try.sizeOf145, Try.sizeOf146, Try.sizeOf147, Try.sizeOf148]⟩
instance : FdTy Try.prog 149 0 0 0 false := ⟨_, _, Try.underlying149, rfl, rfl, Try.sizeOf12, Try.isAgg12⟩
instance : FdTy Try.prog 149 1 1 0 false := ⟨_, _, Try.underlying149, rfl, rfl, Try.sizeOf12, Try.isAgg12⟩
instance : FdTy Try.prog 149 2 2 0 false := ⟨_, _, Try.underlying149, rfl, rfl, Try.sizeOf113, Try.isAgg113⟩
instance : FdTy Try.prog 149 3 3 0 false := ⟨_, _, Try.underlying149, rfl, rfl, Try.sizeOf143, Try.isAgg143⟩
instance : FdTy Try.prog 149 4 4 0 false := ⟨_, _, Try.underlying149, rfl, rfl, Try.sizeOf5, Try.isAgg5⟩
instance : FdTy Try.prog 149 5 5 0 false := ⟨_, _, Try.underlying149, rfl, rfl, Try.sizeOf5, Try.isAgg5⟩
instance : FdTy Try.prog 149 6 6 0 false := ⟨_, _, Try.underlying149, rfl, rfl, Try.sizeOf144, Try.isAgg144⟩
instance : FdTy Try.prog 149 7 7 0 false := ⟨_, _, Try.underlying149, rfl, rfl, Try.sizeOf145, Try.isAgg145⟩
instance : FdTy Try.prog 149 8 8 0 false := ⟨_, _, Try.underlying149, rfl, rfl, Try.sizeOf146, Try.isAgg146⟩
instance : FdTy Try.prog 149 9 9 0 false := ⟨_, _, Try.underlying149, rfl, rfl, Try.sizeOf147, Try.isAgg147⟩
instance : FdTy Try.prog 149 10 10 0 false := ⟨_, _, Try.underlying149, rfl, rfl, Try.sizeOf148, Try.isAgg148⟩
instance : AgTy Try.prog 149 11 := ⟨Try.isAgg149, Try.sizeOf149⟩
instance : ZrTy Try.prog 149 (.agg #[(.int .u64 0), (.int .u64 0), (.int .u32 0), (.int .u8 0), (.int .u8 0), (.int .u8 0), (.int .u8 0), .nilFunc, (.pointer none), (.int .i32 0), (.int .i32 0)]) := ⟨Try.zeroValue149⟩
instance : BdTy Try.prog 150 (.agg #[(.int .u64 0), (.int .u64 0), (.int .u32 0), (.int .u8 0), (.int .u8 0), (.int .u8 0), (.int .u8 0), .nilFunc, (.pointer none), (.int .i32 0), (.int .i32 0)]) [(0, 1), (1, 1), (2, 1), (3, 1), (4, 1), (5, 1), (6, 1), (7, 1), (8, 1), (9, 1), (10, 1)] := ⟨Try.zeroValue150, _, Try.underlying150, fun w => by simp only [List.mapM_cons, List.mapM_nil, Sem.run_bind, Sem.run_pure, Result.andThen_ok, Try.sizeOf5, Try.sizeOf12, Try.sizeOf113, Try.sizeOf143, Try.sizeOf144, Try.sizeOf145, Try.sizeOf146, Try.sizeOf147, Try.sizeOf148]⟩
instance : FdTy Try.prog 150 0 0 0 false := ⟨_, _, Try.underlying150, rfl, rfl, Try.sizeOf12, Try.isAgg12⟩
instance : FdTy Try.prog 150 1 1 0 false := ⟨_, _, Try.underlying150, rfl, rfl, Try.sizeOf12, Try.isAgg12⟩
instance : FdTy Try.prog 150 2 2 0 false := ⟨_, _, Try.underlying150, rfl, rfl, Try.sizeOf113, Try.isAgg113⟩
instance : FdTy Try.prog 150 3 3 0 false := ⟨_, _, Try.underlying150, rfl, rfl, Try.sizeOf143, Try.isAgg143⟩
instance : FdTy Try.prog 150 4 4 0 false := ⟨_, _, Try.underlying150, rfl, rfl, Try.sizeOf5, Try.isAgg5⟩
instance : FdTy Try.prog 150 5 5 0 false := ⟨_, _, Try.underlying150, rfl, rfl, Try.sizeOf5, Try.isAgg5⟩
instance : FdTy Try.prog 150 6 6 0 false := ⟨_, _, Try.underlying150, rfl, rfl, Try.sizeOf144, Try.isAgg144⟩
instance : FdTy Try.prog 150 7 7 0 false := ⟨_, _, Try.underlying150, rfl, rfl, Try.sizeOf145, Try.isAgg145⟩
instance : FdTy Try.prog 150 8 8 0 false := ⟨_, _, Try.underlying150, rfl, rfl, Try.sizeOf146, Try.isAgg146⟩
instance : FdTy Try.prog 150 9 9 0 false := ⟨_, _, Try.underlying150, rfl, rfl, Try.sizeOf147, Try.isAgg147⟩
instance : FdTy Try.prog 150 10 10 0 false := ⟨_, _, Try.underlying150, rfl, rfl, Try.sizeOf148, Try.isAgg148⟩
instance : AgTy Try.prog 150 11 := ⟨Try.isAgg150, Try.sizeOf150⟩
instance : ZrTy Try.prog 150 (.agg #[(.int .u64 0), (.int .u64 0), (.int .u32 0), (.int .u8 0), (.int .u8 0), (.int .u8 0), (.int .u8 0), .nilFunc, (.pointer none), (.int .i32 0), (.int .i32 0)]) := ⟨Try.zeroValue150⟩
instance : ZrTy Try.prog 151 (.pointer none) := ⟨Try.zeroValue151⟩
instance : FnTy Try.prog 3 := ⟨Try.call3⟩
instance : FnTy Try.prog 4 := ⟨Try.call4⟩
instance : FnTy Try.prog 5 := ⟨Try.call5⟩
instance : FnTy Try.prog 6 := ⟨Try.call6⟩
instance : FnTy Try.prog 7 := ⟨Try.call7⟩
instance : FnTy Try.prog 8 := ⟨Try.call8⟩
instance : FnTy Try.prog 9 := ⟨Try.call9⟩
instance : FnTy Try.prog 10 := ⟨Try.call10⟩
instance : FnTy Try.prog 11 := ⟨Try.call11⟩
instance : FnTy Try.prog 12 := ⟨Try.call12⟩
instance : FnTy Try.prog 13 := ⟨Try.call13⟩
instance : FnTy Try.prog 14 := ⟨Try.call14⟩
instance : FnTy Try.prog 15 := ⟨Try.call15⟩
instance : FnTy Try.prog 16 := ⟨Try.call16⟩
instance : FnTy Try.prog 17 := ⟨Try.call17⟩
instance : FnTy Try.prog 18 := ⟨Try.call18⟩
instance : FnTy Try.prog 19 := ⟨Try.call19⟩
instance : FnTy Try.prog 20 := ⟨Try.call20⟩
instance : FnTy Try.prog 21 := ⟨Try.call21⟩
instance : FnTy Try.prog 22 := ⟨Try.call22⟩
instance : FnTy Try.prog 23 := ⟨Try.call23⟩
instance : FnTy Try.prog 24 := ⟨Try.call24⟩
instance : FnTy Try.prog 25 := ⟨Try.call25⟩
instance : FnTy Try.prog 26 := ⟨Try.call26⟩
instance : FnTy Try.prog 27 := ⟨Try.call27⟩
instance : FnTy Try.prog 28 := ⟨Try.call28⟩
instance : FnTy Try.prog 29 := ⟨Try.call29⟩
instance : FnTy Try.prog 30 := ⟨Try.call30⟩
instance : FnTy Try.prog 31 := ⟨Try.call31⟩
instance : FnTy Try.prog 32 := ⟨Try.call32⟩
instance : FnTy Try.prog 33 := ⟨Try.call33⟩
instance : FnTy Try.prog 34 := ⟨Try.call34⟩
instance : FnTy Try.prog 35 := ⟨Try.call35⟩
instance : FnTy Try.prog 36 := ⟨Try.call36⟩
instance : FnTy Try.prog 37 := ⟨Try.call37⟩
instance : FnTy Try.prog 38 := ⟨Try.call38⟩
instance : FnTy Try.prog 39 := ⟨Try.call39⟩
instance : FnTy Try.prog 40 := ⟨Try.call40⟩
instance : FnTy Try.prog 41 := ⟨Try.call41⟩
instance : FnTy Try.prog 42 := ⟨Try.call42⟩
instance : FnTy Try.prog 43 := ⟨Try.call43⟩
instance : FnTy Try.prog 44 := ⟨Try.call44⟩
instance : FnTy Try.prog 45 := ⟨Try.call45⟩
instance : FnTy Try.prog 46 := ⟨Try.call46⟩
instance : FnTy Try.prog 47 := ⟨Try.call47⟩
instance : FnTy Try.prog 48 := ⟨Try.call48⟩
instance : FnTy Try.prog 49 := ⟨Try.call49⟩
instance : FnTy Try.prog 50 := ⟨Try.call50⟩
instance : FnTy Try.prog 51 := ⟨Try.call51⟩
instance : FnTy Try.prog 52 := ⟨Try.call52⟩
instance : FnTy Try.prog 53 := ⟨Try.call53⟩
instance : FnTy Try.prog 54 := ⟨Try.call54⟩
instance : FnTy Try.prog 55 := ⟨Try.call55⟩
instance : FnTy Try.prog 56 := ⟨Try.call56⟩
instance : FnTy Try.prog 57 := ⟨Try.call57⟩
instance : FnTy Try.prog 58 := ⟨Try.call58⟩
instance : FnTy Try.prog 59 := ⟨Try.call59⟩
instance : FnTy Try.prog 60 := ⟨Try.call60⟩
instance : FnTy Try.prog 61 := ⟨Try.call61⟩
instance : FnTy Try.prog 62 := ⟨Try.call62⟩
instance : FnTy Try.prog 63 := ⟨Try.call63⟩
instance : FnTy Try.prog 64 := ⟨Try.call64⟩
instance : FnTy Try.prog 65 := ⟨Try.call65⟩
instance : FnTy Try.prog 66 := ⟨Try.call66⟩
instance : FnTy Try.prog 67 := ⟨Try.call67⟩
instance : FnTy Try.prog 68 := ⟨Try.call68⟩
instance : FnTy Try.prog 69 := ⟨Try.call69⟩
instance : FnTy Try.prog 70 := ⟨Try.call70⟩
instance : FnTy Try.prog 71 := ⟨Try.call71⟩
instance : FnTy Try.prog 72 := ⟨Try.call72⟩
instance : FnTy Try.prog 73 := ⟨Try.call73⟩
instance : FnTy Try.prog 74 := ⟨Try.call74⟩
instance : FnTy Try.prog 75 := ⟨Try.call75⟩
instance : FnTy Try.prog 76 := ⟨Try.call76⟩
instance : FnTy Try.prog 77 := ⟨Try.call77⟩
instance : FnTy Try.prog 78 := ⟨Try.call78⟩
instance : FnTy Try.prog 79 := ⟨Try.call79⟩
instance : FnTy Try.prog 80 := ⟨Try.call80⟩
instance : FnTy Try.prog 81 := ⟨Try.call81⟩
instance : FnTy Try.prog 82 := ⟨Try.call82⟩
instance : FnTy Try.prog 83 := ⟨Try.call83⟩
instance : FnTy Try.prog 84 := ⟨Try.call84⟩
instance : FnTy Try.prog 85 := ⟨Try.call85⟩
instance : FnTy Try.prog 86 := ⟨Try.call86⟩
instance : FnTy Try.prog 87 := ⟨Try.call87⟩
instance : FnTy Try.prog 88 := ⟨Try.call88⟩
instance : FnTy Try.prog 89 := ⟨Try.call89⟩
instance : FnTy Try.prog 90 := ⟨Try.call90⟩
instance : FnTy Try.prog 91 := ⟨Try.call91⟩
instance : FnTy Try.prog 92 := ⟨Try.call92⟩
instance : FnTy Try.prog 93 := ⟨Try.call93⟩
instance : FnTy Try.prog 94 := ⟨Try.call94⟩
instance : FnTy Try.prog 95 := ⟨Try.call95⟩
instance : FnTy Try.prog 96 := ⟨Try.call96⟩
instance : FnTy Try.prog 97 := ⟨Try.call97⟩
instance : FnTy Try.prog 98 := ⟨Try.call98⟩
instance : FnTy Try.prog 99 := ⟨Try.call99⟩
instance : FnTy Try.prog 100 := ⟨Try.call100⟩
instance : FnTy Try.prog 101 := ⟨Try.call101⟩
instance : FnTy Try.prog 102 := ⟨Try.call102⟩
instance : FnTy Try.prog 103 := ⟨Try.call103⟩
instance : FnTy Try.prog 104 := ⟨Try.call104⟩
instance : FnTy Try.prog 105 := ⟨Try.call105⟩
instance : FnTy Try.prog 106 := ⟨Try.call106⟩
instance : FnTy Try.prog 107 := ⟨Try.call107⟩
instance : FnTy Try.prog 108 := ⟨Try.call108⟩
instance : FnTy Try.prog 109 := ⟨Try.call109⟩
instance : FnTy Try.prog 110 := ⟨Try.call110⟩
instance : FnTy Try.prog 111 := ⟨Try.call111⟩
instance : FnTy Try.prog 112 := ⟨Try.call112⟩
instance : FnTy Try.prog 113 := ⟨Try.call113⟩
end Go.Proofs.Ytpajjnkmaebhcaa
end
section
set_option linter.unusedVariables false
namespace Go.Sl
open Go Go.RowKit
section
variable {P : Program} {w0 : World} {S0 : FS} {n : Nat} {F : List (Nat × Value)} {L : List HP} {R : Act → World → Prop}
/-- one that waits for a guard that is met -/
theorem g_on {ops : Array Oper} {Q : Exit → Act → World → Prop} {rest : List Oper} {ds : Option Tmp} {op : Op} {ty : TypeId} {ps : String} {af : Array Edge} {gd : Nat × Bool} {t : Nat} {want : Bool} (hg : gslot ops ⟨ds, op, ty, ps, af, some gd⟩ = some (t, want)) (ht : fget F t = some (.bool want))
    (h : Reach w0 S0 n F L (wpList P ops Q (⟨ds, op, ty, ps, af, none⟩ :: rest))) : Reach w0 S0 n F L (wpList P ops Q (⟨ds, op, ty, ps, af, some gd⟩ :: rest)) := by
  intro a w hf hs
  have h1 := h a w hf hs
  have e1 := wanted_of hf hg ht
  unfold wpList at h1 ⊢
  rw [e1]
  simp only [Region.wanted, beq_self_eq_true, if_true] at h1 ⊢
  exact h1
end
end Go.Sl
end
section
set_option linter.unusedVariables false
set_option linter.unusedSimpArgs false
namespace Go.Sl
open Go Go.RowKit
/-- a type of booleans -/
class BoTy (P : Program) (t : TypeId) : Prop where
  u : P.underlying t = some .bool
section
variable {P : Program} {w0 : World} {S0 : FS} {n : Nat} {F : List (Nat × Value)} {L : List HP} {o : Oper} {x y : Operand} {t t' : TypeId} {p q : Bool}
theorem q_neqb [T : BoTy P t] (ho : o.op = .binOp .neq t x y t') (hx : ev F x = some (.bool p)) (hy : ev F y = some (.bool q)) : R1 P w0 S0 n F L o (.bool (decide (p ≠ q))) :=
  q_of_pure fun a hf w => by
    have e := run_equal_bool (P := P) (w := w) t p q T.u
    simp only [execOp, ho, hf.eval hx, hf.eval hy, eqGuard, binOp]
    simp [e]
    cases p <;> cases q <;> rfl
end
end Go.Sl
end
section
set_option linter.unusedVariables false
set_option linter.unusedSimpArgs false
set_option linter.unusedSectionVars false
namespace Go.Sl
open Go Go.RowKit Go.Maps
open Go.ChangeMaps (setBlock)
section
variable {α β : Type} [DecidableEq α]
def getK (ks : List (α × β)) (a : α) : Option β := (ks.find? fun p => p.1 = a).map (·.2)
def putK (ks : List (α × β)) (a : α) (b : β) : List (α × β) := if a ∈ ks.map Prod.fst then ks.map (fun p => if p.1 = a then (a, b) else p) else ks ++ [(a, b)]
theorem getK_none {ks : List (α × β)} {a : α} (h : a ∉ ks.map Prod.fst) : getK ks a = none := by
  rw [getK, List.find?_eq_none.2, Option.map_none]
  intro p hp
  simp only [decide_eq_true_eq]
  exact fun e => h (List.mem_map.2 ⟨p, hp, e⟩)
theorem getK_some {ks : List (α × β)} {a : α} {b : β} (hn : (ks.map Prod.fst).Nodup) (h : (a, b) ∈ ks) : getK ks a = some b := by
  induction ks with
  | nil => simp at h
  | cons p ks ih =>
    rw [List.map_cons, List.nodup_cons] at hn
    rcases List.mem_cons.1 h with rfl | h
    · simp [getK]
    · have hne : p.1 ≠ a := fun e => hn.1 (by rw [e]; exact List.mem_map.2 ⟨(a, b), h, rfl⟩)
      have := ih hn.2 h
      simp only [getK, List.find?_cons, hne, decide_false] at this ⊢
      exact this
theorem putK_new {ks : List (α × β)} {a : α} {b : β} (h : a ∉ ks.map Prod.fst) : putK ks a b = ks ++ [(a, b)] := if_neg h
theorem putK_keys (ks : List (α × β)) (a : α) (b : β) : (putK ks a b).map Prod.fst = if a ∈ ks.map Prod.fst then ks.map Prod.fst else ks.map Prod.fst ++ [a] := by
  unfold putK
  split
  · rw [List.map_map]
    apply List.map_congr_left
    intro p _
    simp only [Function.comp_apply]
    split
    · rename_i h; exact h.symm
    · rfl
  · simp
theorem putK_nodup {ks : List (α × β)} {a : α} {b : β} (hn : (ks.map Prod.fst).Nodup) : ((putK ks a b).map Prod.fst).Nodup := by
  rw [putK_keys]
  split
  · exact hn
  · rename_i h
    exact List.nodup_append.2 ⟨hn, by simp, fun x hx y hy e => by
      obtain rfl : y = a := by simpa using hy
      exact h (e ▸ hx)⟩
theorem putK_ok {ks : List (α × β)} {a : α} {b : β} {ok : α → Prop} (h : ∀ p ∈ ks, ok p.1) (ha : ok a) : ∀ p ∈ putK ks a b, ok p.1 := by
  intro p hp
  have : p.1 ∈ (putK ks a b).map Prod.fst := List.mem_map.2 ⟨p, hp, rfl⟩
  rw [putK_keys] at this
  have hk : p.1 ∈ ks.map Prod.fst ∨ p.1 = a := by
    split at this
    · exact .inl this
    · simpa using this
  rcases hk with h1 | h1
  · obtain ⟨q, hq, e⟩ := List.mem_map.1 h1
    rw [← e]; exact h q hq
  · rw [h1]; exact ha
end
class MapTy (P : Program) (t : TypeId) (α : outParam Type) (β : outParam Type) (ek : outParam (α → Value)) (ev : outParam (β → Value)) (ok : outParam (α → Prop)) (z : outParam β) (k : outParam TypeId) : Prop where
  e : ∃ e, P.underlying t = some (.map k e) ∧ ∀ w, (zeroValue e).run P w = .ok (ev z) w
  keyed : Keyed P k
  key : ∀ a, ok a → ∃ l, keyOf P k (ek a) = some l
  inj : ∀ a b, ek a = ek b → a = b
def Ents {α β : Type} (ek : α → Value) (ev : β → Value) (es : Array MapEntry) (ks : List (α × β)) : Prop := es.toList.map (fun x => (x.key, x.val)) = ks.map fun p => (ek p.1, ev p.2)
section
variable {α β : Type} {ek : α → Value} {ev : β → Value} {ok : α → Prop}
theorem Ents.size {es : Array MapEntry} {ks : List (α × β)} (h : Ents ek ev es ks) : es.size = ks.length := by
  have := congrArg List.length h
  simpa using this
theorem Ents.at {es : Array MapEntry} {ks : List (α × β)} (h : Ents ek ev es ks) {i : Nat} {x : MapEntry} (hx : es.toList[i]? = some x) : ∃ p, ks[i]? = some p ∧ x.key = ek p.1 ∧ x.val = ev p.2 := by
  have e := congrArg (fun l => l[i]?) h
  simp only [List.getElem?_map, hx, Option.map_some] at e
  obtain ⟨p, hp, e⟩ := Option.map_eq_some_iff.1 e.symm
  simp only [Prod.mk.injEq] at e
  exact ⟨p, hp, e.1.symm, e.2.symm⟩
theorem Ents.mem {es : Array MapEntry} {ks : List (α × β)} (h : Ents ek ev es ks) {x : MapEntry} (hx : x ∈ es.toList) : ∃ p ∈ ks, x.key = ek p.1 ∧ x.val = ev p.2 := by
  obtain ⟨i, hi⟩ := List.mem_iff_getElem?.1 hx
  obtain ⟨p, h1, h2⟩ := h.at hi
  exact ⟨p, List.mem_of_getElem? h1, h2⟩
theorem Ents.mem' {es : Array MapEntry} {ks : List (α × β)} (h : Ents ek ev es ks) {p : α × β} (hp : p ∈ ks) : ∃ x ∈ es.toList, x.key = ek p.1 ∧ x.val = ev p.2 := by
  obtain ⟨i, hi⟩ := List.mem_iff_getElem?.1 hp
  have e := congrArg (fun l => l[i]?) h
  simp only [List.getElem?_map, hi, Option.map_some] at e
  obtain ⟨x, hx, e⟩ := Option.map_eq_some_iff.1 e
  simp only [Prod.mk.injEq] at e
  exact ⟨x, List.mem_of_getElem? hx, e.1, e.2⟩
/-- what a map reads as -/
def RdM (ek : α → Value) (ev : β → Value) (ok : α → Prop) (w : World) (v : Value) (ks : List (α × β)) : Prop :=
  (v = .map none ∧ ks = []) ∨ ∃ b es clock, v = .map (some b) ∧ w.heap[b]? = some (.map es clock) ∧ Ents ek ev es ks ∧ (ks.map Prod.fst).Nodup ∧ ∀ p ∈ ks, ok p.1
def RM (ek : α → Value) (ev : β → Value) (ok : α → Prop) (w : World) (S : FS) (v : Value) (ks : List (α × β)) : Prop := ∀ w' S', Mod w S w' S' → RdM ek ev ok w' v ks
def Stamped (es : Array MapEntry) (clock : Nat) : Prop := (es.toList.map (·.born)).Nodup ∧ ∀ x ∈ es.toList, x.born < clock
def mapHP (ek : α → Value) (ev : β → Value) (ok : α → Prop) (v : Value) (ks : List (α × β)) : HP where
  sat S w := (ks.map Prod.fst).Nodup ∧ (∀ p ∈ ks, ok p.1) ∧ ∃ b es clock, v = .map (some b) ∧ S b ∧ w.heap[b]? = some (.map es clock) ∧ Ents ek ev es ks ∧ Stamped es clock
  mono h h' := ⟨h'.1, h'.2.1, h'.2.2.imp fun b ⟨es, c, h1, h2, h3⟩ => ⟨es, c, h1, h _ h2, h3⟩⟩
  move h h' := ⟨h'.1, h'.2.1, h'.2.2.imp fun b ⟨es, c, h1, h2, h3, h4⟩ => ⟨es, c, h1, h2, (h _ h2 (Array.getElem?_eq_some_iff.1 h3).1).trans h3, h4⟩⟩
  bound h' := ⟨h'.1, h'.2.1, h'.2.2.imp fun b ⟨es, c, h1, h2, h3, h4⟩ => ⟨es, c, h1, ⟨h2, (Array.getElem?_eq_some_iff.1 h3).1⟩, h3, h4⟩⟩
theorem mapHP_rd {v : Value} {ks : List (α × β)} {S : FS} {w : World} (h : (mapHP ek ev ok v ks).sat S w) : RdM ek ev ok w v ks := by
  obtain ⟨h1, h2, b, es, c, h3, h4, h5, h6, _⟩ := h
  exact .inr ⟨b, es, c, h3, h5, h6, h1, h2⟩
end
section
variable {P : Program} {w0 : World} {S0 : FS} {n : Nat} {F : List (Nat × Value)} {L : List HP} {o : Oper} {rest : List Oper} {ops : Array Oper} {Q : Exit → Act → World → Prop} {d : Nat} {v : Value} {α β : Type} {ek : α → Value} {ev : β → Value} {ok : α → Prop} {z : β}
theorem RM.of_rd {v : Value} {ks : List (α × β)} (h : RdM ek ev ok w0 v ks) : RM ek ev ok w0 (fun _ => False) v ks := by
  intro w S hm
  rcases h with h | ⟨b, es, c, h1, h2, h3⟩
  · exact .inl h
  · exact .inr ⟨b, es, c, h1, by rw [hm.keep b (Array.getElem?_eq_some_iff.1 h2).1 (fun h => h)]; exact h2, h3⟩
theorem find_ents {w : World} {k : TypeId} {es : Array MapEntry} {ks : List (α × β)} {a : α} (K : Keyed P k) (hk : ∀ a, ok a → ∃ l, keyOf P k (ek a) = some l) (hi : ∀ a b, ek a = ek b → a = b) (he : Ents ek ev es ks) (hok : ∀ p ∈ ks, ok p.1) (ha : ok a) :
    ((Instr.findKey k (ek a) es.toList).run P w = .ok none w ∧ a ∉ ks.map Prod.fst) ∨ ∃ (j : Nat) (x : MapEntry) (b : β), (Instr.findKey k (ek a) es.toList).run P w = .ok (some (j, x.val)) w ∧ es.toList[j]? = some x ∧ ks[j]? = some (a, b) ∧ x.key = ek a ∧ x.val = ev b := by
  obtain ⟨l, hl⟩ := hk a ha
  rcases K.find w hl es.toList (fun x hx => by
    obtain ⟨p, hp, e1, _⟩ := he.mem hx
    rw [e1]; exact hk p.1 (hok p hp)) with ⟨h1, h2⟩ | ⟨j, x, h1, h2, h3⟩
  · refine .inl ⟨h1, fun hm => ?_⟩
    obtain ⟨p, hp, e⟩ := List.mem_map.1 hm
    obtain ⟨x, hx, e1, _⟩ := he.mem' hp
    exact h2 x hx (by rw [e1, e])
  · obtain ⟨p, hp, e1, e2⟩ := he.at h2
    have : p.1 = a := hi _ _ (by rw [← e1, h3])
    refine .inr ⟨j, x, p.2, h1, h2, ?_, h3, e2⟩
    rw [hp, ← this]
variable [DecidableEq α]
theorem run_look {w : World} {t k : TypeId} {v : Value} {ks : List (α × β)} {a : α} (T : MapTy P t α β ek ev ok z k) (hr : RdM ek ev ok w v ks) (ha : ok a) (c : Bool) : (Instr.lookup t v (ek a) c).run P w = .ok (if c then .tuple #[ev ((getK ks a).getD z), .bool (getK ks a).isSome] else ev ((getK ks a).getD z)) w := by
  obtain ⟨e, ht, hz⟩ := T.e
  obtain ⟨l, hl⟩ := T.key a ha
  rcases hr with ⟨rfl, rfl⟩ | ⟨b, es, clock, rfl, hb, he, hn, hok⟩
  · have h1 : (Instr.findKey k (ek a) []).run P w = .ok none w := by
      rcases T.keyed.find w hl [] (by simp) with ⟨h1, _⟩ | ⟨j, x, _, h2, _⟩
      · exact h1
      · simp at h2
    simp [Instr.lookup, run_underlying ht, T.keyed.check w _ hl, h1, hz, Result.andThen, getK]
  · rcases find_ents (w := w) T.keyed T.key T.inj he hok ha with ⟨h1, h2⟩ | ⟨j, x, y, h1, h2, h3, h4, h5⟩
    · simp [Instr.lookup, run_underlying ht, MapKept.run_getObj_map hb, T.keyed.check w _ hl, h1, hz, Result.andThen, getK_none h2]
    · have := getK_some hn (List.mem_of_getElem? h3)
      simp [Instr.lookup, run_underlying ht, MapKept.run_getObj_map hb, T.keyed.check w _ hl, h1, Result.andThen, this, h5]
theorem q_look_of {x y : Operand} {t k : TypeId} {a : α} {s ka : Value} {ks : List (α × β)} [T : MapTy P t α β ek ev ok z k] (hrd : ∀ w, St w0 S0 L w → RdM ek ev ok w s ks) (ho : o.op = .lookup t x y false) (hx : Sl.ev F x = some s) (hy : Sl.ev F y = some ka) (hka : ka = ek a) (ha : ok a) : R1 P w0 S0 n F L o (ev ((getK ks a).getD z)) :=
  q_of_run fun a' hf w hs => by
    have := run_look (P := P) (w := w) T (hrd w hs) ha false
    rw [← hka] at this
    simp [execOp, ho, hf.eval hx, hf.eval hy, this]
theorem q_look {x y : Operand} {t k : TypeId} {a : α} {b : β} {s ka : Value} {ks : List (α × β)} [T : MapTy P t α β ek ev ok z k] (ho : o.op = .lookup t x y false) (hx : Sl.ev F x = some s) (hy : Sl.ev F y = some ka) (hL : mapHP ek ev ok s ks ∈ L) (hka : ka = ek a) (hv : (getK ks a).getD z = b) (ha : ok a) : R1 P w0 S0 n F L o (ev b) :=
  hv ▸ q_look_of (fun w hs => (hs.mem hL).elim fun _ h => mapHP_rd h) ho hx hy hka ha
theorem l_makeMap {R : Act → World → Prop} {t k : TypeId} [T : MapTy P t α β ek ev ok z k] (ho : o.op = .makeMap t none) (hd : o.dst = some d) (hn : Nat.blt d n = true)
    (h : ∀ b, Reach w0 S0 n ((d, .map (some b)) :: F) (mapHP ek ev ok (.map (some b)) [] :: L) R) : Reach w0 S0 n F L (fun a w => o.wp P a w R Q) := by
  refine l_loud fun a hf w hs => ⟨_, _, by simp only [execOp, ho, Option.map_none, run_makeMap, Sem.run_bind, Result.andThen_ok, Sem.run_pure]; rfl, .inl ⟨_, rfl, _, _, by rw [hd]; exact hf.put hn, ?_, h w.heap.size⟩⟩
  refine hs.push (M := [_]) (mod_alloc w _) ⟨fun k => w.heap.size ≤ k, fun _ => False, fun k hk => hk, fun k hk => hk.elim, fun k _ hk => hk, ⟨by simp, by simp, w.heap.size, #[], 0, rfl, Nat.le_refl _, by simpa using heap_alloc_new w (.map #[] 0), rfl, by simp [Stamped]⟩, trivial⟩
theorem mod_setBlock {w : World} {S : FS} {b : Nat} {x : Obj} (hb : S b) : Mod w S (setBlock w b x) S :=
  ⟨rfl, rfl, rfl, Nat.le_refl _, by simp [setBlock], fun k hk hn => by
    have hne : b ≠ k := fun e => hn (e ▸ hb)
    simp [setBlock, Array.getElem?_setIfInBounds_ne hne], fun k h => .inl h⟩
theorem setBlock_at {w : World} {b : Nat} {x y : Obj} (h : w.heap[b]? = some y) : (setBlock w b x).heap[b]? = some x := by
  have hlt := (Array.getElem?_eq_some_iff.1 h).1
  simp [setBlock, hlt]
theorem Ents.put {es : Array MapEntry} {ks : List (α × β)} {j : Nat} {a : α} {b b0 : β} (he : Ents ek ev es ks) (hn : (ks.map Prod.fst).Nodup) (hj : ks[j]? = some (a, b0)) (hx : ∀ x, es.toList[j]? = some x → x.key = ek a) : Ents ek ev (es.modify j fun e => { e with key := ek a, val := ev b }) (putK ks a b) := by
  have hmem : a ∈ ks.map Prod.fst := List.mem_map.2 ⟨(a, b0), List.mem_of_getElem? hj, rfl⟩
  rw [putK, if_pos hmem]
  apply List.ext_getElem?
  intro i
  have e := congrArg (fun l => l[i]?) he
  simp only [List.getElem?_map, Array.toList_modify, List.getElem?_modify] at e ⊢
  cases hk : ks[i]? with
  | none =>
    rw [hk, Option.map_none, Option.map_eq_none_iff] at e
    rw [e]
    simp
  | some p =>
    rw [hk, Option.map_some] at e
    obtain ⟨x, hx1, e⟩ := Option.map_eq_some_iff.1 e
    rw [hx1]
    by_cases hij : j = i
    · subst hij
      rw [hj] at hk
      obtain rfl : (a, b0) = p := by simpa using hk
      simp
    · have hne : p.1 ≠ a := fun e1 => by
        have h1 : (ks.map Prod.fst)[i]? = some a := by simp [hk, e1]
        have h2 : (ks.map Prod.fst)[j]? = some a := by simp [hj]
        obtain ⟨l1, g1⟩ := List.getElem?_eq_some_iff.1 h1
        obtain ⟨l2, g2⟩ := List.getElem?_eq_some_iff.1 h2
        rcases Nat.lt_or_gt_of_ne hij with h | h
        · exact List.pairwise_iff_getElem.1 hn j i l2 l1 h (by rw [g1, g2])
        · exact List.pairwise_iff_getElem.1 hn i j l1 l2 h (by rw [g1, g2])
      simp [hij, hne, e]
theorem run_mapup {w : World} {t k : TypeId} {v : Value} {ks : List (α × β)} {a : α} {b : β} {S : FS} (T : MapTy P t α β ek ev ok z k) (h : (mapHP ek ev ok v ks).sat S w) (ha : ok a) :
    ∃ w', (Instr.mapUpdate t v (ek a) (ev b)).run P w = .ok () w' ∧ Mod w S w' S ∧ (mapHP ek ev ok v (putK ks a b)).sat S w' := by
  obtain ⟨e, ht, hz⟩ := T.e
  obtain ⟨l, hl⟩ := T.key a ha
  obtain ⟨hn, hok, g, es, clock, rfl, hS, hb, he, hst⟩ := h
  rcases find_ents (w := w) T.keyed T.key T.inj he hok ha with ⟨h1, h2⟩ | ⟨j, x, y, h1, h2, h3, h4, h5⟩
  · refine ⟨setBlock w g (.map (es.push ⟨ek a, ev b, clock⟩) (clock + 1)), ?_, mod_setBlock hS, putK_nodup hn, putK_ok hok ha, g, _, _, rfl, hS, setBlock_at hb, ?_, ?_⟩
    · simp [Instr.mapUpdate, run_underlying ht, MapKept.run_getObj_map hb, T.keyed.check w false hl, h1, MapKept.run_setObj_map _ hb, Result.andThen, setBlock]
    · rw [putK_new h2]
      simp only [Ents, Array.toList_push, List.map_append, List.map_cons, List.map_nil]
      rw [he]
    · refine ⟨?_, fun x hx => ?_⟩
      · rw [Array.toList_push, List.map_append]
        refine List.nodup_append.2 ⟨hst.1, by simp, fun p hp q hq e => ?_⟩
        obtain rfl : q = clock := by simpa using hq
        obtain ⟨x, hx, rfl⟩ := List.mem_map.1 hp
        have := hst.2 x hx
        omega
      · rw [Array.toList_push, List.mem_append] at hx
        rcases hx with hx | hx
        · have := hst.2 x hx; omega
        · obtain rfl := List.mem_singleton.1 hx
          exact Nat.lt_succ_self _
  · have hjs : es[j]? = some x := by simpa using h2
    refine ⟨setBlock w g (.map (es.modify j fun e => { e with key := ek a, val := ev b }) clock), ?_, mod_setBlock hS, putK_nodup hn, putK_ok hok ha, g, _, _, rfl, hS, setBlock_at hb, ?_, ?_⟩
    · simp [Instr.mapUpdate, run_underlying ht, MapKept.run_getObj_map hb, T.keyed.check w false hl, h1, hjs, h4, T.keyed.stays w hl, MapKept.run_setObj_map _ hb, Result.andThen, setBlock]
    · exact he.put hn h3 fun x' hx' => by rw [h2] at hx'; obtain rfl : x = x' := (by simpa using hx'); exact h4
    · have hborn : (es.modify j fun e => { e with key := ek a, val := ev b }).toList.map (·.born) = es.toList.map (·.born) := by
        apply List.ext_getElem?
        intro i
        simp only [List.getElem?_map, Array.toList_modify, List.getElem?_modify]
        cases es.toList[i]? with
        | none => rfl
        | some x => by_cases hij : j = i <;> simp [hij]
      refine ⟨by rw [hborn]; exact hst.1, fun x hx => ?_⟩
      have : x.born ∈ es.toList.map (·.born) := by rw [← hborn]; exact List.mem_map.2 ⟨x, hx, rfl⟩
      obtain ⟨y, hy, e⟩ := List.mem_map.1 this
      rw [← e]; exact hst.2 y hy
theorem l_mapup {R : Act → World → Prop} {m x y : Operand} {t k : TypeId} {i : Nat} {s ka va : Value} {a : α} {b : β} {ks : List (α × β)} [T : MapTy P t α β ek ev ok z k] (ho : o.op = .mapUpdate t m x y) (hd : o.dst = none) (hm : Sl.ev F m = some s) (hx : Sl.ev F x = some ka) (hy : Sl.ev F y = some va) (hL : L[i]? = some (mapHP ek ev ok s ks)) (hka : ka = ek a) (hva : va = ev b) (ha : ok a)
    (h : Reach w0 S0 n F (L.set i (mapHP ek ev ok s (putK ks a b))) R) : Reach w0 S0 n F L (fun a w => o.wp P a w R Q) := by
  subst hka hva
  refine l_loud fun a' hf w hs => ?_
  obtain ⟨S, hsat⟩ := hs.mem (List.mem_of_getElem? hL)
  obtain ⟨w', hr, hmd, hsat'⟩ := run_mapup (P := P) (b := b) T hsat ha
  refine ⟨_, _, by simp only [execOp, ho, hf.eval hm, hf.eval hx, hf.eval hy, Sem.run_bind, hr, Result.andThen_ok, Sem.run_pure]; rfl, .inr ⟨rfl, _, hd, ?_, h⟩⟩
  refine hs.step hL fun S2 hsat2 => ?_
  obtain ⟨w2, hr2, hmd2, hsat2'⟩ := run_mapup (P := P) (b := b) T hsat2 ha
  rw [hr] at hr2
  obtain rfl : w' = w2 := by simpa using hr2
  exact ⟨S2, hmd2, hsat2'⟩
section
variable {ty : TypeId} {ps : String} {af : Array Edge}
theorem o_makeMap {t k : TypeId} [T : MapTy P t α β ek ev ok z k] (hn : Nat.blt d n = true) (h : ∀ b, Reach w0 S0 n ((d, .map (some b)) :: F) (mapHP ek ev ok (.map (some b)) [] :: L) (wpList P ops Q rest)) : Reach w0 S0 n F L (wpList P ops Q (⟨some d, .makeMap t none, ty, ps, af, none⟩ :: rest)) := s_of_l rfl fun R hR => l_makeMap (z := z) rfl rfl hn fun b => (h b).imp hR
theorem o_mapup {m x y : Operand} {t k : TypeId} {i : Nat} {s ka va : Value} {ks : List (α × β)} [T : MapTy P t α β ek ev ok z k] (a : α) (b : β) (hm : Sl.ev F m = some s) (hx : Sl.ev F x = some ka) (hy : Sl.ev F y = some va) (hL : L[i]? = some (mapHP ek ev ok s ks)) (hka : ka = ek a) (hva : va = ev b) (ha : ok a)
    (h : Reach w0 S0 n F (L.set i (mapHP ek ev ok s (putK ks a b))) (wpList P ops Q rest)) : Reach w0 S0 n F L (wpList P ops Q (⟨none, .mapUpdate t m x y, ty, ps, af, none⟩ :: rest)) := s_of_l rfl fun R hR => l_mapup (z := z) rfl rfl hm hx hy hL hka hva ha (h.imp hR)
end
end
abbrev okI (i : Int) : Prop := -9223372036854775808 ≤ i ∧ i ≤ 9223372036854775807
abbrev ekI (i : Int) : Value := .int .i64 i
theorem wf_i64 {i : Int} (h : okI i) : (Lit.int .i64 i).wf = true := by
  obtain ⟨h1, h2⟩ := h
  simp only [Lit.wf, IntKind.min, IntKind.max, IntKind.signed, IntKind.bits]
  simp
  omega
def setN (l : List Nat) : List (Int × Bool) := l.map fun u : Nat => ((u : Int), true)
section
variable {P : Program} {w0 : World} {S0 : FS} {n : Nat} {F : List (Nat × Value)} {L : List HP}
/-- what sets are read as -/
structure RMs (w : World) (S : FS) (v : Value) (hs : List Value) (N : Nat) (A : Nat → Option (List Nat)) : Prop where
  shp : Shp v N
  len : hs.length = N
  ro : RO w S v hs
  none : ∀ i : Nat, i < N → A i = none → hs[i]? = some (.map none)
  some : ∀ i : Nat, ∀ l, i < N → A i = some l → ∃ b, hs[i]? = some (.map (some b)) ∧ RM ekI Value.bool okI w S (.map (some b)) (setN l)
end
end Go.Sl
end
section
set_option linter.unusedVariables false
namespace Go.Sl
open Go Go.RowKit
section
variable {P : Program} {w0 : World} {S0 : FS} {n : Nat} {F : List (Nat × Value)} {L Lk : List HP} {rest : List Oper} {ops : Array Oper} {Q : Exit → Act → World → Prop} {Qa : Act → Prop} {d i : Nat} {v : Value} {ty : TypeId} {ps : String} {af : Array Edge} {plan : List PI}
theorem t_neqb {t t' : TypeId} {x y : Operand} {p0 q0 : Bool} [T : BoTy P t] (hn : Nat.blt d n = true) (hx : ev F x = some (.bool p0)) (hy : ev F y = some (.bool q0)) (hkeep : ∀ w, St w0 S0 L w → St w0 S0 Lk w) (h : RP P w0 S0 n ops Q Lk plan ((d, .bool (decide (p0 ≠ q0))) :: F) L) : RPo P w0 S0 n ops Q Lk ⟨some d, .binOp .neq t x y t', ty, ps, af, none⟩ i true plan F L := fun ho => p_q ho rfl rfl hn hkeep (q_neqb rfl hx hy) h
theorem s_look {x y : Operand} {ka : Value} {t k : TypeId} {α β : Type} {ek : α → Value} {ev0 : β → Value} {ok : α → Prop} {z : β} {s : Value} {ks : List (α × β)} {a : α} {b : β} [DecidableEq α] [T : MapTy P t α β ek ev0 ok z k] (hn : Nat.blt d n = true) (hx : ev F x = some s) (hy : ev F y = some ka) (hL : mapHP ek ev0 ok s ks ∈ L) (hka : ka = ek a) (hv : (getK ks a).getD z = b) (ha : ok a) (h : Reach w0 S0 n ((d, ev0 b) :: F) L (wpList P ops Q rest)) : Reach w0 S0 n F L (wpList P ops Q (⟨some d, .lookup t x y false, ty, ps, af, none⟩ :: rest)) := s_q rfl rfl hn (q_look rfl hx hy hL hka hv ha).q h
theorem t_look {x y : Operand} {ka : Value} {t k : TypeId} {α β : Type} {ek : α → Value} {ev0 : β → Value} {ok : α → Prop} {z : β} {s : Value} {ks : List (α × β)} {a : α} {b : β} [DecidableEq α] [T : MapTy P t α β ek ev0 ok z k] (hn : Nat.blt d n = true) (hx : ev F x = some s) (hy : ev F y = some ka) (hL : mapHP ek ev0 ok s ks ∈ Lk) (hka : ka = ek a) (hv : (getK ks a).getD z = b) (ha : ok a) (hkeep : ∀ w, St w0 S0 L w → St w0 S0 Lk w) (h : RP P w0 S0 n ops Q Lk plan ((d, ev0 b) :: F) L) : RPo P w0 S0 n ops Q Lk ⟨some d, .lookup t x y false, ty, ps, af, none⟩ i true plan F L := fun ho => p_q ho rfl rfl hn hkeep (q_look rfl hx hy hL hka hv ha) h
end
end Go.Sl
end
section
namespace Go.Sl
open Go Go.Proofs
instance : BoTy Try.prog 4 := ⟨Try.underlying4⟩
end Go.Sl
end
section
namespace Go.Sl
open Go.RowKit
section
variable {P : Program} {w0 : World} {S0 : FS} {n : Nat} {F : List (Nat × Value)} {L Lk : List HP} {rest : List Oper} {ops : Array Oper} {Q : Exit → Act → World → Prop} {d i : Nat} {ty : TypeId} {ps : String} {af : Array Edge} {plan : List PI}
theorem mod_trans0 {w w1 w2 : World} {S1 S2 : FS} (h : Mod w No w1 S1) (h2 : Mod w1 No w2 S2) : Mod w No w2 (fun k => S1 k ∨ S2 k) :=
  h.trans ⟨h2.os, h2.tape, h2.output, h2.drawn, h2.size, fun k hk _ => h2.keep k hk (fun h => h), fun k hk => hk.imp id (fun h => (h2.new k h).elim (fun h => h.elim) id)⟩
end
end Go.Sl
end
section
namespace Go.Sl
open Go.RowKit
/-- an integer type -/
class InTy (P : Program) (t : TypeId) (k : outParam IntKind) : Prop where
  u : P.underlying t = some (.int k)
section
variable {P : Program} {w0 : World} {S0 : FS} {n : Nat} {F : List (Nat × Value)} {L Lk : List HP} {rest : List Oper} {ops : Array Oper} {Q : Exit → Act → World → Prop} {d i : Nat} {v : Value} {plan : List PI} {ty : TypeId} {ps : String} {af : Array Edge}
variable {o : Oper} {x y : Operand} {t t' : TypeId} {a b r : Int} {k k' : IntKind}
end
end Go.Sl
end
section
set_option linter.unusedVariables false
set_option linter.unusedSimpArgs false
namespace Go.Sl
open Go Go.RowKit
/-- a block that is no cells -/
def objHP (b : Nat) (o : Obj) : HP where
  sat S w := S b ∧ w.heap[b]? = some o
  mono h h' := ⟨h _ h'.1, h'.2⟩
  move h h' := ⟨h'.1, (h _ h'.1 (Array.getElem?_eq_some_iff.1 h'.2).1).trans h'.2⟩
  bound h := ⟨⟨h.1, (Array.getElem?_eq_some_iff.1 h.2).1⟩, h.2⟩
/-- What is asked of a post: no frame has outgrown the stack. -/
class NL (Q : Exit → Act → World → Prop) : Prop where
  no : ¬ LetsOut Q
instance {K : Act → World → Prop} {Q : Exit → Act → World → Prop} [T : NL Q] : NL (Exit.then K Q) := ⟨fun ⟨a, w, h⟩ => T.no ⟨a, w, h⟩⟩
instance {id : Nat} {Q : Exit → Act → World → Prop} [T : NL Q] : NL (Exit.inBlock id Q) := ⟨fun ⟨a, w, h⟩ => T.no ⟨a, w, h⟩⟩
instance {P : Program} {fn : Func} {w : World} {S : FS} {G : Value → List HP → Prop} : NL (bodyPost P fn (Post w S G)) := ⟨fun ⟨_, _, v, L', _, h, _⟩ => by simp at h⟩
/-- the fence that lets all in, in a round's frame or not -/
abbrev RF (ro : Option Nat) : Fence := { Fence.wide with round := ro }
instance {ro : Option Nat} {m : Nat} {P : Program} {fn : Func} {w : World} {S : FS} {G : Value → List HP → Prop} : NL (bodyPostM (RF ro) m P fn (Post w S G)) := ⟨fun ⟨_, _, v, L', _, h, _⟩ => by simp at h⟩
instance {l : Nat} {P : Program} {R : Ending → World → Prop} : NL (roundPost P l R) := ⟨fun ⟨_, _, h⟩ => h⟩
instance : NL (fun _ _ _ => False) := ⟨fun ⟨_, _, h⟩ => h⟩
def noDef (o : Oper) : Bool := match o.op with
  | .defer _ => false
  | _ => true
section
variable {P : Program} {w0 : World} {S0 : FS} {n m : Nat} {F : List (Nat × Value)} {L : List HP} {o : Oper} {rest : List Oper} {ops : Array Oper} {Q Q' : Exit → Act → World → Prop} {d : Nat} {v : Value} {ro : Option Nat}
theorem rows_in {row : String} {args : Array Value} {w : World} {R : Value → World → Prop} (h : Rows P row args w R) : RowsIn (RF ro) m P row args w R :=
  fun c cs _ => let ⟨v, w', r, s⟩ := h c cs; ⟨v, w', r, (stepsIn_wide (P := P)).2 s⟩
theorem calls_in {f : FuncId} {args : Array Value} {w : World} {R : Ending → World → Prop} (h : Calls P f args w R) : CallsIn (RF ro) m P f args w R :=
  (callsIn_wide (n := m)).2 h
theorem calls_out {f : FuncId} {args : Array Value} {w : World} {R : Ending → World → Prop} (h : CallsIn (RF ro) m P f args w R) : Calls P f args w R :=
  (callsIn_wide (n := m)).1 h
theorem up_in {next next' : Act → World → Prop} {a : Act} {w : World} (ho : noDef o = true) (hQ : ¬ LetsOut Q) (hp : ∀ c a w, Q (.panic c) a w → Q' (.panic c) a w) (hn : ∀ a w, next a w → next' a w) (h : o.wp P a w next Q) : o.wpIn (RF ro) m P a w next' Q' := by
  refine ⟨fun _ _ => trivial, ?_⟩
  rw [Oper.semAt_eq ro _ o (fun c e => by rw [noDef, e] at ho; simp at ho)]
  unfold Oper.wp at h
  revert h
  generalize (execOp a.eval o).run P w = r
  intro h
  have key : ∀ f (args : Array Value) w', Calls P f args w' (fun
      | .returned v, w'' => next (a.put o.dst v) w''
      | .panicked chain, w'' => Q (.panic chain) a w''
      | .outgrown, _ => LetsOut Q) → CallsIn (RF ro) (m - 1) P f args w' (fun
      | .returned v, w'' => next' (a.put o.dst v) w''
      | .panicked chain, w'' => Q' (.panic chain) a w''
      | .outgrown, _ => LetsOut Q') := fun f args w' hc => calls_in (hc.mono fun e w'' he => by
    cases e with
    | returned v => exact hn _ _ he
    | panicked c => exact hp _ _ _ he
    | outgrown => exact (hQ he).elim)
  cases r with
  | ok nx w' =>
    cases nx with
    | value v => exact hn _ _ h
    | skip => exact hn _ _ h
    | defer d => exact hn _ _ h
    | enter f args => exact ⟨fun h => by simp [Fence.wide] at h, key f args w' h⟩
    | row row args => exact ⟨fun h => by simp [Fence.wide] at h, (rows_in h : RowsIn (RF ro) (m - 1) P row args w' _).mono fun v w'' h => hn _ _ h⟩
    | _ => exact h.elim
  | halt e w' =>
    cases e with
    | panic v => exact hp _ _ _ h
    | _ => exact h.elim
theorem list_in [T : NL Q] (rest2 : List Oper) : ∀ (pre : List Oper), pre.all noDef = true → ∀ a w, wpList P ops (Exit.then (wpListIn (RF ro) m P ops Q rest2) Q) pre a w → wpListIn (RF ro) m P ops Q (pre ++ rest2) a w
  | [], _, a, w, h => h
  | o :: pre, hd, a, w, h => by
    rw [List.all_cons, Bool.and_eq_true] at hd
    have ih := list_in rest2 pre hd.2
    simp only [List.cons_append, wpListIn]
    simp only [wpList] at h
    split
    · rename_i hw
      rw [if_pos hw] at h
      rcases h with h | ⟨_, h⟩
      · exact up_in hd.1 (fun ⟨a, w, h⟩ => T.no ⟨a, w, h⟩) (fun c a w h => h) ih h
      · exact (T.no (by obtain ⟨a, w, h⟩ := h; exact ⟨a, w, h⟩)).elim
    · rename_i hw
      rw [if_neg hw] at h
      exact ⟨fun _ _ => trivial, ih _ _ h⟩
theorem list_in0 [T : NL Q] {rest : List Oper} (hd : rest.all noDef = true) {a : Act} {w : World} (h : wpList P ops Q rest a w) : wpListIn (RF ro) m P ops Q rest a w := by
  have := list_in (P := P) (ops := ops) (Q := Q) (ro := ro) (m := m) [] rest hd a w
  rw [List.append_nil] at this
  refine this ?_
  have e : Exit.then (wpListIn (RF ro) m P ops Q []) Q = Q := by funext e a w; cases e <;> rfl
  rw [e]; exact h
theorem x_block {id : Nat} {c : Code} (h : Reach w0 S0 n F L (c.wpIn (RF ro) m P (Exit.inBlock id Q))) : Reach w0 S0 n F L ((Code.block id c).wpIn (RF ro) m P Q) := fun a w hf hs => wpIn_block (h a w hf hs)
theorem x_region {id : Nat} {l : List Oper} [NL Q] (hd : l.all noDef = true) (h : Reach w0 S0 n F L (wpList P l.toArray Q l)) : Reach w0 S0 n F L ((Code.region id l.toArray false).wpIn (RF ro) m P Q) := fun a w hf hs => wpIn_region_lit (list_in0 hd (h a w hf hs))
theorem c_region_y {id : Nat} {l : List Oper} (pre rest2 : List Oper) [NL Q] (hl : l = pre ++ rest2) (hd : pre.all noDef = true) (h : Reach w0 S0 n F L (wpList P l.toArray (Exit.then (wpListIn (RF none) 0 P l.toArray Q rest2) Q) pre)) : Reach w0 S0 n F L ((Code.region id l.toArray false).wp P Q) :=
  fun a w hf hs => (wpIn_wide (n := 0)).1 (wpIn_region_lit (F := RF none) (by
    have := list_in (P := P) (ops := l.toArray) (Q := Q) (ro := none) (m := 0) rest2 pre hd a w (h a w hf hs)
    rwa [← hl] at this))
theorem y_rest [NL Q] (hd : rest.all noDef = true) (h : Reach w0 S0 n F L (wpList P ops Q rest)) : Reach w0 S0 n F L (wpListIn (RF ro) m P ops Q rest) := fun a w hf hs => list_in0 hd (h a w hf hs)
/-- what a call of yield comes to -/
def YieldOK (P : Program) (l : Nat) (vs : List Value) (W : World) (R : World → Prop) : Prop :=
  ∃ f tmps assign body, (Instr.yield l vs.toArray).run P W = .ok (.round l f tmps assign body) W ∧ ∀ m, RoundIn (RF none) m P l f tmps assign body W fun e W' => e = .returned (.bool true) ∧ R W'
/-- What an iterator does: it hands on N lists of values, one behind the other; a round turns a list of entries of the kind LL i into one of the kind LL (i + 1). -/
def IterOK (P : Program) (it : FuncId) (caps : List Value) (N : Nat) (vs : Nat → List Value) (w : World) (S : FS) : Prop :=
  ∀ (l : Nat) (LL : Nat → List HP → Prop),
    (∀ i M W' S', i < N → LL i M → Mod w S W' S' → sats M S' W' → YieldOK P l (vs i) W' fun W2 => ∃ M' S2, LL (i + 1) M' ∧ Mod W' S' W2 S2 ∧ sats M' S2 W2) →
    ∀ M, LL 0 M → sats M S w → Calls P it (Value.func (.yield l) #[] #[] :: caps).toArray w (Post w S fun _ L' => LL N L')
/-- the call of yield, in the iterator -/
theorem y_yield {c : Operand} {xs : Array Operand} {ts : Array TypeId} {ty : TypeId} {ps : String} {af : Array Edge} {l : Nat} {vs : List Value} {K : List HP → Prop} (hc : ev F c = some (.func (.yield l) #[] #[])) (hn : Nat.blt d n = true) (hxs : xs.toList.map (ev F) = vs.map some)
    (hy : ∀ W S, Mod w0 S0 W S → sats L S W → YieldOK P l vs W fun W2 => ∃ M' S2, K M' ∧ Mod W S W2 S2 ∧ sats M' S2 W2)
    (h : ∀ M', K M' → Reach w0 S0 n ((d, .bool true) :: F) M' (wpListIn (RF ro) m P ops Q rest)) : Reach w0 S0 n F L (wpListIn (RF ro) m P ops Q (⟨some d, .call { callee := .value c, args := xs, argTypes := ts }, ty, ps, af, none⟩ :: rest)) := by
  intro a w hf hs
  refine wpListIn_plain rfl fun K' hK' => ?_
  obtain ⟨S, hm, hl⟩ := hs
  obtain ⟨f, tmps, assign, body, hyr, hR⟩ := hy w S hm hl
  have hargs : xs.map a.eval = vs.toArray := by
    have : ∀ (l : List Operand) (us : List Value), l.map (ev F) = us.map some → l.map a.eval = us := by
      intro l
      induction l with
      | nil => intro us hu; cases us with | nil => rfl | cons _ _ => simp at hu
      | cons x l ih =>
        intro us hu
        cases us with
        | nil => simp at hu
        | cons u us =>
          simp only [List.map_cons, List.cons.injEq] at hu ⊢
          exact ⟨hf.eval hu.1, ih us hu.2⟩
    obtain ⟨l⟩ := xs
    rw [List.map_toArray, this l vs hxs]
  refine ⟨fun _ _ => trivial, ?_⟩
  rw [Oper.semAt_eq ro _ _ (fun c e => by simp at e)]
  have hr : (execOp a.eval ⟨some d, .call { callee := .value c, args := xs, argTypes := ts }, ty, ps, af, none⟩).run P w = .ok (.round l f tmps assign body) w := by
    have e : a.eval c = .func (.yield l) #[] #[] := hf.eval hc
    simp only [execOp, resolve, hargs, e, Deferred.ofValue, invoke, Sem.run_bind, Sem.run_pure, Result.andThen_ok, Array.append_empty, Array.empty_append, hyr]
  rw [hr, Oper.uponIn_round]
  refine ⟨fun h => by simp [Fence.wide] at h, (hR (m - 1)).mono ?_⟩
  rintro e W' ⟨rfl, M', S2, hk, hm2, hs2⟩
  exact hK' _ _ (h M' hk _ _ (hf.put hn) ⟨S2, hm.trans hm2, hs2⟩)
theorem c_region_k {id : Nat} {l : List Oper} (k : Nat) [NL Q] (hd : (l.take k).all noDef = true) (h : Reach w0 S0 n F L (wpList P l.toArray (Exit.then (wpListIn (RF none) 0 P l.toArray Q (l.drop k)) Q) (l.take k))) : Reach w0 S0 n F L ((Code.region id l.toArray false).wp P Q) :=
  c_region_y (l.take k) (l.drop k) (List.take_append_drop k l).symm hd h
theorem pick_id : ∀ (L : List HP), pick L (List.replicate L.length 0) = some L
  | [] => rfl
  | A :: L => by
    show (match (A :: L)[0]?, pick ((A :: L).eraseIdx 0) (List.replicate L.length 0) with | some A, some M => some (A :: M) | _, _ => none) = _
    rw [List.eraseIdx_zero, List.tail_cons, pick_id L]
    rfl
theorem RO.fwd {w : World} {S Sf : FS} {ys : List Value} (hr : RO w0 S0 v ys) (hm0 : Mod w0 S0 w Sf) (hS : ∀ k, S k → Sf k) : RO w S v ys := fun w' S' hm =>
  hr w' (fun k => Sf k ∨ S' k) (hm0.trans ⟨hm.os, hm.tape, hm.output, hm.drawn, hm.size, fun k hk hn => hm.keep k hk (fun h => hn (hS k h)), fun k hk => hk.elim .inl (fun h => (hm.new k h).imp (hS k) id)⟩)
theorem RB.fwd {w : World} {S Sf : FS} {b : Nat} {t : TypeId} {cs : List Value} (hr : RB w0 S0 b t cs) (hm0 : Mod w0 S0 w Sf) (hS : ∀ k, S k → Sf k) : RB w S b t cs := fun w' S' hm =>
  hr w' (fun k => Sf k ∨ S' k) (hm0.trans ⟨hm.os, hm.tape, hm.output, hm.drawn, hm.size, fun k hk hn => hm.keep k hk (fun h => hn (hS k h)), fun k hk => hk.elim .inl (fun h => (hm.new k h).imp (hS k) id)⟩)
theorem mod_putObj {w : World} {S : FS} {b : Nat} {x : Obj} (hb : S b) : Mod w S (w.putObj b x) S :=
  ⟨rfl, rfl, rfl, Nat.le_refl _, by simp, fun k hk hn => World.putObj_heap_other (fun e => hn (e ▸ hb)), fun k h => .inl h⟩
theorem putObj_at {w : World} {b : Nat} {x y : Obj} (h : w.heap[b]? = some y) : (w.putObj b x).heap[b]? = some x := by
  have hlt := (Array.getElem?_eq_some_iff.1 h).1
  simp [World.putObj, hlt]
theorem St.obj {w : World} {b j : Nat} {x : Obj} (h : St w0 S0 L w) (hj : L[j]? = some (objHP b x)) : w.heap[b]? = some x := by
  obtain ⟨S, hs⟩ := h.mem (List.mem_of_getElem? hj)
  exact hs.2
theorem St.turn {w : World} {b j : Nat} {x : Obj} (y : Obj) (h : St w0 S0 L w) (hj : L[j]? = some (objHP b x)) : St w0 S0 (L.set j (objHP b y)) (w.putObj b y) :=
  h.step hj fun S hs => ⟨S, mod_putObj hs.1, hs.1, putObj_at hs.2⟩
theorem fr_params : ∀ (ps : List Nat) (vs : List Value) {F : List (Nat × Value)} {t : Array Value}, ps.all (fun p => Nat.blt p n) = true → Fr F n { tmps := t, defers := [] } → Fr ((ps.zip vs).reverse ++ F) n { tmps := (ps.zip vs).foldl (fun t (p, v) => t.setIfInBounds p v) t, defers := [] }
  | [], vs, F, t, _, h => by simpa using h
  | p :: ps, [], F, t, _, h => by simpa using h
  | p :: ps, v :: vs, F, t, hp, h => by
    rw [List.all_cons, Bool.and_eq_true] at hp
    have := fr_params ps vs hp.2 (h.put (d := p) (v := v) hp.1)
    simpa [Act.put, List.append_assoc] using this
/-- the round begins -/
theorem r_begin {l j : Nat} {r : Loop} {K : Act → World → Prop} (hj : L[j]? = some (objHP l (.loop r))) (hr : r.state = .ready) (h : Reach w0 S0 n F (L.set j (objHP l (.loop { r with state := .busy }))) K) :
    Reach w0 S0 n F L (fun a w => ∃ w', (Instr.beginRound l).run P w = .ok () w' ∧ K a w') := fun a w hf hs =>
  ⟨_, run_beginRound (hs.obj hj) hr, h a _ hf (hs.turn _ hj)⟩
/-- the round ends -/
theorem r_end {l j : Nat} {r : Loop} {R : Ending → World → Prop} (is : List Nat) {M : List HP} (hj : L[j]? = some (objHP l (.loop r))) (hp : pick (L.set j (objHP l (.loop { r with state := .ready, pending := none }))) is = some M)
    (hR : ∀ W, St w0 S0 M W → R (.returned (.bool true)) W) : Reach w0 S0 n F L (roundPost P l R .normal) := fun a w hf hs =>
  ⟨_, _, run_endRound none (hs.obj hj), hR _ ((hs.turn _ hj).pick is hp)⟩
theorem yield_ok {W : World} {S : FS} {M : List HP} {l j : Nat} {r : Loop} {ps : List Nat} {vs : List Value} {R : World → Prop} (hj : M[j]? = some (objHP l (.loop r))) (hps : r.params = ps.toArray) (hpn : ps.all (fun p => Nat.blt p n) = true) (hlen : vs.length = ps.length) (hs : sats M S W) (hF : Fr F n { tmps := r.tmps, defers := [] })
    (h : ∀ m, Reach W S n ((ps.zip vs).reverse ++ F) M (r.assign.wpIn (RF (some l)) m P (Exit.then (fun a₁ w₁ => ∃ w₂, (Instr.beginRound l).run P w₁ = .ok () w₂ ∧ r.body.wpIn (RF (some l)) m P (roundPost P l fun e W' => e = .returned (.bool true) ∧ R W') a₁ w₂) (fun _ _ _ => False)))) : YieldOK P l vs W R := by
  have hSt : St W S M W := St.start hs
  refine ⟨r.fn, _, r.assign, r.body, run_yield (hSt.obj hj) (by simp [hps, hlen]), fun m => roundIn_of_wpIn trivial ?_⟩
  have hf := fr_params ps vs hpn hF
  refine h m _ W ?_ hSt
  have e : (r.params.zip vs.toArray).foldl (fun tmps (t, a) => tmps.setIfInBounds t a) r.tmps = (ps.zip vs).foldl (fun t (p, v) => t.setIfInBounds p v) r.tmps := by
    rw [hps, ← Array.foldl_toList]
    simp
  rw [e]
  exact hf
def actM (D : Nat) (a : Act) : Act := { a with defers := { target := .collected D, args := #[] } :: a.defers }
/-- operations that stand behind such a statement -/
def tailOp (o : Oper) : Bool := match o.op with
  | .load .. | .assign _ | .move _ | .store .. => true
  | _ => false
theorem tail_run {a : Act} {w : World} (ho : tailOp o = true) : (∃ v w', (execOp a.eval o).run P w = .ok (.value v) w') ∨ (∃ w', (execOp a.eval o).run P w = .ok .skip w') ∨ (∃ e w', (execOp a.eval o).run P w = .halt e w') := by
  unfold tailOp at ho
  split at ho
  · rename_i t x e
    simp only [execOp, e, Sem.run_bind]
    cases (Instr.loadAt t (a.eval x)).run P w with
    | ok v w' => exact .inl ⟨v, w', rfl⟩
    | halt e w' => exact .inr (.inr ⟨e, w', rfl⟩)
  · rename_i x e
    simp only [execOp, e]
    exact .inl ⟨_, _, rfl⟩
  · rename_i x e
    simp only [execOp, e]
    exact .inl ⟨_, _, rfl⟩
  · rename_i t x y e
    simp only [execOp, e, Sem.run_bind]
    cases (Instr.storeAt t (a.eval x) (a.eval y)).run P w with
    | ok v w' => exact .inr (.inl ⟨w', rfl⟩)
    | halt e w' => exact .inr (.inr ⟨e, w', rfl⟩)
  · simp at ho
theorem actM_put (D : Nat) (a : Act) (d : Option Nat) (v : Value) : (actM D a).put d v = actM D (a.put d v) := by cases d <;> rfl
theorem up_M {next next' : Act → World → Prop} {a : Act} {w : World} {D : Nat} (ho : tailOp o = true) (hp : ∀ c a w, Q (.panic c) a w → Q' (.panic c) (actM D a) w) (hn : ∀ a w, next a w → next' (actM D a) w) (h : o.wp P a w next Q) : o.wp P (actM D a) w next' Q' := by
  unfold Oper.wp at h ⊢
  have he : execOp (actM D a).eval o = execOp a.eval o := rfl
  rw [he]
  rcases tail_run (P := P) (a := a) (w := w) ho with ⟨v, w', e⟩ | ⟨w', e⟩ | ⟨e', w', e⟩
  · rw [e] at h ⊢
    show next' ((actM D a).put o.dst v) w'
    rw [actM_put]
    exact hn _ _ h
  · rw [e] at h ⊢
    show next' ((actM D a).put o.dst undef) w'
    rw [actM_put]
    exact hn _ _ h
  · rw [e] at h ⊢
    cases e' with
    | panic v => exact hp _ _ _ h
    | _ => exact h.elim
theorem list_M {D : Nat} [T : NL Q] : ∀ (rest : List Oper), rest.all tailOp = true → ∀ a w, wpList P ops (fun e a w => Q e (actM D a) w) rest a w → wpList P ops Q rest (actM D a) w
  | [], _, a, w, h => h
  | o :: rest, ho, a, w, h => by
    rw [List.all_cons, Bool.and_eq_true] at ho
    have ih := list_M (D := D) rest ho.2
    simp only [wpList] at h ⊢
    have hw' : Region.wanted o (yielded ops (actM D a).tmps) = Region.wanted o (yielded ops a.tmps) := rfl
    rw [hw']
    split
    · rename_i hw
      rw [if_pos hw] at h
      rcases h with h | ⟨_, a', w', h⟩
      · exact .inl (up_M ho.1 (fun c a w h => h) ih h)
      · exact (T.no ⟨_, _, h⟩).elim
    · rename_i hw
      rw [if_neg hw] at h
      have := ih _ _ h
      rwa [← actM_put] at this
theorem m_seq {D : Nat} {x y : Code} (h : Reach w0 S0 n F L (fun a w => x.wp P (Exit.then (y.wp P Q) Q) (actM D a) w)) : Reach w0 S0 n F L (fun a w => (Code.seq x y).wp P Q (actM D a) w) := fun a w hf hs => wp_seq (h a w hf hs)
theorem m_region {D : Nat} {id : Nat} {l : List Oper} [NL Q] (hd : l.all tailOp = true) (h : Reach w0 S0 n F L (wpList P l.toArray (fun e a w => Q e (actM D a) w) l)) : Reach w0 S0 n F L (fun a w => (Code.region id l.toArray false).wp P Q (actM D a) w) := fun a w hf hs => wp_region_lit (list_M l hd _ _ (h a w hf hs))
theorem m_then {D : Nat} {K : Act → World → Prop} (h : Reach w0 S0 n F L (fun a w => K (actM D a) w)) : Reach w0 S0 n F L (fun a w => Exit.then K Q .normal (actM D a) w) := h
theorem m_blk {D : Nat} {id : Nat} (h : Reach w0 S0 n F L (fun a w => Q .normal (actM D a) w)) : Reach w0 S0 n F L (fun a w => Exit.inBlock id Q .normal (actM D a) w) := h
theorem m_ret {D : Nat} (h : Reach w0 S0 n F L (fun a w => Q .ret (actM D a) w)) : Reach w0 S0 n F L (fun a w => Code.ret.wp P Q (actM D a) w) := fun a w hf hs => wp_ret (h a w hf hs)
/-- the return: the mark is come to -/
theorem m_end {D j : Nat} {fn : Func} {R : Ending → World → Prop} (hj : L[j]? = some (objHP D (.deferred (some [])))) (h : Reach w0 S0 n F (L.set j (objHP D (.deferred none))) (bodyPost P fn R .ret)) : Reach w0 S0 n F L (fun a w => bodyPostM (RF none) m P fn R .ret (actM D a) w) := by
  intro a w hf hs
  obtain ⟨hd, v, hr, hR⟩ := h a _ hf (hs.turn (.deferred none) hj)
  refine ⟨by simp, .inl ⟨D, _, rfl, run_takeDeferred (hs.obj hj), ?_⟩⟩
  show LeavesInM (RF none) m P fn a.tmps R a.defers .returning _
  rw [hd]
  exact ⟨v, hr, hR⟩
/-- a function in which such a statement stands -/
theorem enterM0 {f : FuncId} {fn : Func} {c : Code} {vs : List Value} {w : World} {G : Value → List HP → Prop} (hf : P.funcs[f]? = some fn) (hb : fn.body = some c) (hn : fn.ntmps = n) (hl : Nat.ble vs.length n = true)
    (h : Reach w No n (argsF 0 vs) [] (c.wp P (bodyPostM (RF none) 0 P fn (Post w No G)))) : Calls P f vs.toArray w (Post w No G) := by
  refine calls_out (m := 0) (ro := none) (callsIn_of_wp_marks hf hb trivial ((wpIn_wide (n := 0)).2 (h _ _ ⟨rfl, ?_, ?_⟩ (St.start trivial))) rfl)
  · have : vs.length ≤ n := by simpa using hl
    simp [hn]; omega
  · intro t u ht
    obtain ⟨j, rfl, hj⟩ := argsF_get vs 0 t u ht
    have hlt := (List.getElem?_eq_some_iff.1 hj).1
    simp only [Nat.zero_add, Array.getD_eq_getD_getElem?]
    rw [Array.getElem?_append_left (by simpa using hlt)]
    simp [hj]
/-- THE STATEMENT -/
theorem c_range {g : Operand} {ps : List Nat} {assign body : Code} [NL Q] (it : FuncId) (caps : List Value) (M0 Lr : List HP) (N : Nat) (vs : Nat → List Value) (LL : Nat → List HP → Prop) [T : FnTy P it] (hLL : L = M0 ++ Lr) (hg : ev F g = some (.func (.func it) #[] caps.toArray)) (hps : ps.all (fun p => Nat.blt p n) = true) (hlen : ∀ i, (vs i).length = ps.length)
    (hIt : ∀ w S M, Lent w0 S0 M Lr S w → IterOK P it caps N vs w S) (h0 : LL 0 M0)
    (hround : ∀ i M M2 W S l D (r : Loop) m, i < N → LL i M → M2 = objHP l (.loop r) :: objHP D (.deferred (some [])) :: M → Lent w0 S0 M2 Lr S W → r.state = .ready →
      Reach W S n ((ps.zip (vs i)).reverse ++ F) M2 (assign.wpIn (RF (some l)) m P (Exit.then (fun a₁ w₁ => ∃ w₂, (Instr.beginRound l).run P w₁ = .ok () w₂ ∧ body.wpIn (RF (some l)) m P (roundPost P l fun e W2 => e = .returned (.bool true) ∧ ∃ M' S2, (∃ M3, LL (i + 1) M3 ∧ M' = objHP l (.loop { r with state := .ready, pending := none }) :: objHP D (.deferred (some [])) :: M3) ∧ Mod W S W2 S2 ∧ sats M' S2 W2) a₁ w₂) (fun _ _ _ => False))))
    (hdone : ∀ M l D (r : Loop), LL N M → Reach w0 S0 n F (objHP l (.loop r) :: objHP D (.deferred (some [])) :: M ++ Lr) (fun a w => Q .normal (actM D a) w)) :
    Reach w0 S0 n F L ((Code.rangeFunc g ps.toArray assign body).wp P Q) := by
  subst hLL
  intro a w hf hs
  refine (wpIn_wide (n := 0)).1 (wpIn_rangeFunc fun fn _ => ?_)
  let D := w.heap.size
  let r : Loop := { state := .ready, pending := none, fn, tmps := a.tmps, params := ps.toArray, assign, body, defers := w.heap.size }
  let w1 := (w.alloc (.deferred (some []))).alloc (.loop r)
  have hs1 : St w0 S0 (objHP (w.heap.size + 1) (.loop r) :: objHP w.heap.size (.deferred (some [])) :: (M0 ++ Lr)) w1 := by
    have h1 : St w0 S0 ([objHP w.heap.size (.deferred (some []))] ++ (M0 ++ Lr)) (w.alloc (.deferred (some []))) := hs.push (mod_alloc w _) ⟨fun k => w.heap.size ≤ k, fun _ => False, fun k hk => hk, fun k hk => hk.elim, fun k _ hk => hk, ⟨Nat.le_refl _, World.alloc_heap_new w _⟩, trivial⟩
    have h2 := h1.push (M := [objHP (w.heap.size + 1) (.loop r)]) (mod_alloc (w.alloc (.deferred (some []))) (.loop r)) ⟨fun k => w.heap.size + 1 ≤ k, fun _ => False, fun k hk => by simpa using hk, fun k hk => hk.elim, fun k _ hk => hk, ⟨Nat.le_refl _, by have := World.alloc_heap_new (w.alloc (.deferred (some []))) (.loop r); rwa [World.size_alloc] at this⟩, trivial⟩
    exact h2
  obtain ⟨S, Sr, Sf, hm0, hsM, hsr, hSf, hSr, hdis⟩ := St.lend (L0 := objHP (w.heap.size + 1) (.loop r) :: objHP w.heap.size (.deferred (some [])) :: M0) (Lr := Lr) hs1
  have hlent : ∀ M W' S', Mod w1 S W' S' → sats M S' W' → Lent w0 S0 M Lr S' W' := fun M W' S' hm hl => by
    refine ⟨hl, ⟨fun k => Sf k ∨ S' k, ?_, fun k hk => .inr hk⟩, ⟨Sr, sats_move (fun k hk hlt => hm.keep k hlt (fun h => hdis k h hk)) hsr, fun k hk hk2 => ?_⟩⟩
    · exact hm0.trans ⟨hm.os, hm.tape, hm.output, hm.drawn, hm.size, fun k hk hn => hm.keep k hk (fun h => hn (hSf k h)), fun k hk => hk.elim .inl (fun h => (hm.new k h).imp (hSf k) id)⟩
    · rcases hm.new k hk with h | h
      · exact hdis k h hk2
      · have := (hSr k hk2).2; omega
  have hL0 := hlent _ w1 S (Mod.refl _ _) hsM
  have hfr : Fr F n { tmps := r.tmps, defers := [] } := ⟨rfl, hf.sz, hf.look⟩
  have hcall := hIt w1 S _ hL0 (w.heap.size + 1) (fun i M' => ∃ M3, LL i M3 ∧ M' = objHP (w.heap.size + 1) (.loop r) :: objHP w.heap.size (.deferred (some [])) :: M3) (fun i M W' S' hi hM hm hl => by
    obtain ⟨M3, hM3, rfl⟩ := hM
    refine yield_ok (j := 0) (r := r) (ps := ps) rfl rfl hps (hlen i) hl hfr fun m => ?_
    exact hround i M3 _ W' S' (w.heap.size + 1) w.heap.size r m hi hM3 rfl (hlent _ W' S' hm hl) rfl) _ ⟨M0, h0, rfl⟩ hsM
  refine ⟨w.heap.size + 1, [{ target := .collected w.heap.size, args := #[] }], w1, { target := .fn (.func it) caps.toArray, args := #[.func (.yield (w.heap.size + 1)) #[] #[]] }, w1, it, (Value.func (.yield (w.heap.size + 1)) #[] #[] :: caps).toArray, w1, run_enterLoop_outer .., ?_, fun _ _ => trivial, ?_, fun h => by simp [Fence.wide] at h, ?_⟩
  · have e : a.eval g = .func (.func it) #[] caps.toArray := hf.eval hg
    simp only [resolve, rangeCall, e, Deferred.ofValue, Sem.run_pure, List.map_toArray, List.map_cons, List.map_nil, Array.empty_append]
    rfl
  · simp only [invoke]
    have := T.c (#[.func (.yield (w.heap.size + 1)) #[] #[]] ++ caps.toArray) w1
    simpa using this
  · refine (calls_in (ro := none) (m := 0 - 1) hcall).mono ?_
    rintro e w3 ⟨v, L', ⟨M3, hM3, rfl⟩, rfl, S3, hm3, hl3⟩
    have hst : St w0 S0 (objHP (w.heap.size + 1) (.loop r) :: objHP w.heap.size (.deferred (some [])) :: M3 ++ Lr) w3 := by
      have hsr' : sats Lr Sr w3 := sats_move (fun k hk hlt => hm3.keep k hlt (fun h => hdis k h hk)) hsr
      refine ⟨fun k => S3 k ∨ Sr k, hm0.trans ⟨hm3.os, hm3.tape, hm3.output, hm3.drawn, hm3.size, fun k hk hn => hm3.keep k hk (fun h => hn (hSf k h)), ?_⟩, sats_append hl3 hsr' ?_⟩
      · rintro k (hk | hk)
        · exact (hm3.new k hk).imp (hSf k) id
        · exact .inl (hSr k hk).1
      · intro k hk hk2
        rcases hm3.new k hk with h | h
        · exact hdis k h hk2
        · have := (hSr k hk2).2; omega
    refine ⟨none, _, run_endLoop (hst.obj (j := 0) rfl) (by simp [r]), ?_⟩
    exact hdone M3 _ _ _ hM3 a _ hf (hst.turn (j := 0) _ rfl)
end
end Go.Sl
end
section
namespace Fil
abbrev E := Int × Int × Int
def cmpK (a b : Int) : Int := if a < b then -1 else if b < a then 1 else 0
def orderK (a b : E) : Int := if cmpK a.1 b.1 = 0 then cmpK a.2.1 b.2.1 else cmpK a.1 b.1
def sizesK (n m : Int) : Int := if n < 0 then 1 else if 1048576 < n ∨ 4194304 < m then 4 else 0
def aloneK (n u v x : Int) : Int := if min u v < 0 ∨ n ≤ max u v then 5 else if u = v then 6 else if x ≤ -2147483648 ∨ 2147483648 ≤ x then 8 else 0
def belowB (a b : E) : Bool := decide (a.1 < b.1) || (decide (a.1 = b.1) && decide (a.2.1 < b.2.1))
/-- from edge k on -/
def scan (n : Int) : Option E → List E → Int
  | _, [] => 0
  | p, e :: r =>
    if aloneK n e.1 e.2.1 e.2.2 = 0 then
      if e.2.1 < e.1 then 1
      else match p with
        | none => scan n (some e) r
        | some q => if orderK q e = 0 then 7 else if orderK q e = 1 then 1 else scan n (some e) r
    else aloneK n e.1 e.2.1 e.2.2
def rightK (n : Int) (es : List E) : Int := if sizesK n es.length = 0 then scan n none es else sizesK n es.length
theorem scan_at {n : Int} {es : List E} {k : Nat} {e : E} (he : es[k]? = some e) (p : Option E) : scan n p (es.drop k) = (if aloneK n e.1 e.2.1 e.2.2 = 0 then
      if e.2.1 < e.1 then 1
      else match p with
        | none => scan n (some e) (es.drop (k + 1))
        | some q => if orderK q e = 0 then 7 else if orderK q e = 1 then 1 else scan n (some e) (es.drop (k + 1))
    else aloneK n e.1 e.2.1 e.2.2) := by
  obtain ⟨hlt, rfl⟩ := List.getElem?_eq_some_iff.1 he
  rw [List.drop_eq_getElem_cons hlt]
  cases p <;> rfl
theorem orderK_below (a b : E) : (belowB a b = true ↔ orderK a b = -1) ∧ (belowB b a = true ↔ orderK a b = 1) := by
  simp only [belowB, orderK, cmpK, Bool.or_eq_true, Bool.and_eq_true, decide_eq_true_eq]
  constructor <;> (repeat' split) <;> omega
theorem orderK_range (a b : E) : orderK a b = -1 ∨ orderK a b = 0 ∨ orderK a b = 1 := by
  simp only [orderK, cmpK]
  (repeat' split) <;> omega
end Fil
end
section
namespace Go.Proofs.Ytpajjnkmaebhcaa
open Go.RowKit Go.Sl Fil
set_option maxRecDepth 100000
set_option maxHeartbeats 8000000
set_option linter.unusedVariables false
set_option linter.unusedSimpArgs false
attribute [local irreducible] Code.wp wpList bodyPost wpQuiet Exit.then Exit.inBlock Post wpAnyH wpOp
def eV (e : E) : List Value := [.int .i64 e.1, .int .i64 e.2.1, .int .i64 e.2.2]
def esV (es : List E) : List Value := es.flatMap eV
theorem esV_at {es : List E} {k : Nat} {e : E} (h : es[k]? = some e) : ((esV es).drop (k * 3)).take 3 = eV e := by
  induction es generalizing k with
  | nil => simp at h
  | cons x es ih =>
    cases k with
    | zero =>
      obtain rfl : x = e := by simpa using h
      rfl
    | succ k =>
      have := ih (k := k) (by simpa using h)
      rw [show (k + 1) * 3 = 3 + k * 3 from by omega]
      show (((eV x) ++ esV es).drop (3 + k * 3)).take 3 = eV e
      rw [← List.drop_drop, List.drop_append_of_le_length (by simp [eV])]
      simpa [eV] using this
theorem esV_length (es : List E) : (esV es).length = es.length * 3 := by
  induction es with
  | nil => rfl
  | cons x es ih => show ((eV x) ++ esV es).length = _; rw [List.length_append, ih]; simp [eV]; omega
theorem isNaN_ok (a : Int) (w : World) : Calls Try.prog 92 #[.int .i64 a] w (Post w No (Just (.bool false))) := by
  refine enter0 (vs := [_]) Try.func92 rfl Try.ntmps92 rfl ?_
  repeat' first
    | refine k_then ?_
    | refine c_seq ?_
    | refine c_region ?_
    | refine s_nil ?_
    | refine s_move (by exact rfl) (by exact rfl) ?_
    | refine s_assign (by exact rfl) (by exact rfl) ?_
    | refine s_neq (by exact rfl) (by exact rfl) (by exact rfl) ?_
    | refine c_ret ?_
  refine ret1 [] rfl rfl rfl ⟨by simp, rfl⟩
theorem Compare_ok (a b : Int) (w : World) : Calls Try.prog 69 #[.int .i64 a, .int .i64 b] w (Post w No (Just (.int .i64 (cmpK a b)))) := by
  refine enter0 (vs := [_, _]) Try.func69 rfl Try.ntmps69 rfl ?_
  repeat' first
    | refine k_then ?_
    | refine c_seq ?_
    | refine c_region ?_
    | refine s_nil ?_
    | refine s_move (by exact rfl) (by exact rfl) ?_
    | refine s_assign (by exact rfl) (by exact rfl) ?_
  refine s_call (by exact rfl) (by exact rfl) (fun w hs => isNaN_ok _ w) ?_
  repeat' first
    | refine k_then ?_
    | refine c_seq ?_
    | refine c_region ?_
    | refine s_nil ?_
    | refine s_move (by exact rfl) (by exact rfl) ?_
    | refine s_assign (by exact rfl) (by exact rfl) ?_
  refine s_call (by exact rfl) (by exact rfl) (fun w hs => isNaN_ok _ w) ?_
  repeat' first
    | refine k_then ?_
    | refine c_seq ?_
    | refine c_region ?_
    | refine s_nil ?_
    | refine s_move (by exact rfl) (by exact rfl) ?_
    | refine s_assign (by exact rfl) (by exact rfl) ?_
    | refine s_lss (by exact rfl) (by exact rfl) (by exact rfl) ?_
    | refine s_gtr (by exact rfl) (by exact rfl) (by exact rfl) ?_
    | refine c_skip ?_
    | refine c_ret ?_
    | refine k_then_ret ?_
    | (refine c_cond_p (by exact rfl) (fun h => ?_) (fun h => ?_) <;> try (exfalso; omega))
    | refine c_cond_f (by exact rfl) ?_
  all_goals refine ret1 [] rfl rfl rfl ⟨?_, rfl⟩
  all_goals (refine congrArg (Value.int .i64) ?_; simp only [cmpK]; repeat' split)
  all_goals omega
theorem Or_ok (s : Value) (a b : Int) (w : World) (hr : RO w No s [.int .i64 a, .int .i64 b]) (hs : Shp s 2) : Calls Try.prog 68 #[s] w (Post w No (Just (.int .i64 (if a = 0 then b else a)))) := by
  refine enter0 (vs := [_]) Try.func68 rfl Try.ntmps68 rfl ?_
  repeat' first
    | refine k_then ?_
    | refine c_seq ?_
    | refine c_region ?_
    | refine s_nil ?_
    | refine s_move (by exact rfl) (by exact rfl) ?_
    | refine s_assign (by exact rfl) (by exact rfl) ?_
    | refine s_len (by exact rfl) (by exact rfl) (by assumption) ?_
    | refine c_block ?_
  refine c_loop (fun k : Nat => k ≤ 2 ∧ (0 < k → a = 0) ∧ (1 < k → b = 0)) (fun k => [(0, s), (6, s), (7, .int .i64 2), (8, .int .i64 (k : Int)), (3, .int .i64 0)]) (fun _ => []) (fun k => 2 - k) 0 [] ⟨by omega, by omega, by omega⟩ rfl ⟨rfl, rfl, rfl, rfl, rfl, trivial⟩ ?_
  rintro k ⟨hk, ha, hb⟩
  by_cases hlt : k < 2
  · have hc : ([.int .i64 a, .int .i64 b] : List Value)[k * 1]? = some (.int .i64 (if k = 0 then a else b)) := by
      rcases Nat.lt_or_ge k 1 with h | h
      · obtain rfl : k = 0 := by omega
        rfl
      · obtain rfl : k = 1 := by omega
        rfl
    repeat' first
      | refine k_then ?_
      | refine c_seq ?_
      | refine c_region ?_
      | refine s_nil ?_
      | refine s_move (by exact rfl) (by exact rfl) ?_
      | refine s_assign (by exact rfl) (by exact rfl) ?_
      | refine s_lss (by exact rfl) (by exact rfl) (by exact rfl) ?_
      | refine s_neq (by exact rfl) (by exact rfl) (by exact rfl) ?_
      | refine s_add (by exact rfl) (by exact rfl) (by exact rfl) (by omega) ?_
      | refine s_idx (by exact rfl) (by exact rfl) (by exact rfl) (by assumption) (by first | assumption | omega) ?_
      | refine s_ld_ro (by exact rfl) (by exact rfl) (by assumption) (by assumption) ?_
      | refine c_block ?_
      | refine c_skip ?_
      | refine c_ret ?_
      | refine k_then_ret ?_
      | refine k_blk ?_
      | refine k_blk_ret ?_
      | (refine c_cond_p (by exact rfl) (fun h => ?_) (fun h => ?_) <;> try (exfalso; omega))
    · refine ret1 [] rfl rfl rfl ⟨congrArg (Value.int .i64) ?_, rfl⟩
      rcases Nat.lt_or_ge k 1 with h' | h'
      · obtain rfl : k = 0 := by omega
        simp_all
      · obtain rfl : k = 1 := by omega
        simp_all
    · refine c_round (k + 1) [] (by exact rfl) (by exact ⟨rfl, rfl, rfl, rfl, rfl, trivial⟩) ⟨by omega, fun _ => ?_, fun _ => ?_⟩ (by omega)
      · rcases Nat.lt_or_ge k 1 with h' | h'
        · obtain rfl : k = 0 := by omega
          simp_all
        · exact ha (by omega)
      · obtain rfl : k = 1 := by omega
        simp_all
  · repeat' first
      | refine k_then ?_
      | refine c_seq ?_
      | refine c_region ?_
      | refine s_nil ?_
      | refine s_move (by exact rfl) (by exact rfl) ?_
      | refine s_assign (by exact rfl) (by exact rfl) ?_
      | refine s_lss (by exact rfl) (by exact rfl) (by exact rfl) ?_
      | refine c_exit ?_
      | refine c_ret ?_
      | refine k_then_exit ?_
      | refine k_blk_eq ?_
      | (refine c_cond_p (by exact rfl) (fun h => ?_) (fun h => ?_) <;> try (exfalso; omega))
    refine ret1 [] rfl rfl rfl ⟨congrArg (Value.int .i64) ?_, rfl⟩
    simp [ha (by omega), hb (by omega)]
theorem sizes_ok (n m : Int) (w : World) :
    Calls Try.prog 76 #[.int .i64 n, .int .i64 m] w (Post w No (Just (.int .i64 (sizesK n m)))) := by
  refine enter0 (vs := [_, _]) Try.func76 rfl Try.ntmps76 rfl ?_
  repeat' first
    | refine k_then ?_
    | refine c_seq ?_
    | refine c_region ?_
    | refine s_nil ?_
    | refine s_move (by exact rfl) (by exact rfl) ?_
    | refine s_assign (by exact rfl) (by exact rfl) ?_
    | refine s_lss (by exact rfl) (by exact rfl) (by exact rfl) ?_
    | refine s_gtr (by exact rfl) (by exact rfl) (by exact rfl) ?_
    | refine c_block ?_
    | refine c_skip ?_
    | refine c_ret ?_
    | refine k_then_ret ?_
    | refine k_blk ?_
    | refine k_blk_ret ?_
    | (refine c_cond_p (by exact rfl) (fun h => ?_) (fun h => ?_) <;> try (exfalso; omega))
  all_goals refine ret1 [] rfl rfl rfl ⟨?_, rfl⟩
  all_goals (refine congrArg (Value.int .i64) ?_; simp only [sizesK]; repeat' split)
  all_goals omega
theorem alone_ok (n : Int) (e : E) (w : World) :
    Calls Try.prog 77 #[.int .i64 n, .agg (eV e).toArray] w (Post w No (Just (.int .i64 (aloneK n e.1 e.2.1 e.2.2)))) := by
  refine enter0 (vs := [_, _]) Try.func77 rfl Try.ntmps77 rfl ?_
  repeat' first
    | refine k_then ?_
    | refine c_seq ?_
    | refine c_region ?_
    | refine s_nil ?_
    | refine s_move (by exact rfl) (by exact rfl) ?_
    | refine s_assign (by exact rfl) (by exact rfl) ?_
    | refine s_fa (by exact rfl) (by exact rfl) ?_
    | refine s_ld_box (by exact rfl) (by exact rfl) (by exact .head _) (by exact rfl) ?_
    | refine s_lss (by exact rfl) (by exact rfl) (by exact rfl) ?_
    | refine s_leq (by exact rfl) (by exact rfl) (by exact rfl) ?_
    | refine s_eql (by exact rfl) (by exact rfl) (by exact rfl) ?_
    | refine s_min (by exact rfl) (by exact rfl) (by exact rfl) ?_
    | refine s_pick_t (by exact rfl) (by exact rfl) (by exact rfl) ?_
    | refine s_pick_f (by exact rfl) (by exact rfl) (by exact rfl) ?_
    | refine o_box (by exact rfl) (by exact rfl) (fun b => ?_)
    | refine c_block ?_
    | refine c_skip ?_
    | refine c_ret ?_
    | refine k_then_ret ?_
    | refine k_blk ?_
    | refine k_blk_ret ?_
    | (refine c_cond_p (by exact rfl) (fun h => ?_) (fun h => ?_) <;> try (exfalso; omega))
    | refine c_cond_t (by exact rfl) ?_
    | (refine g_case (by exact rfl) (by exact rfl) (fun h => ?_) (fun h => ?_) <;> try (exfalso; omega))
    | refine g_skip (by exact rfl) (by exact rfl) (by exact rfl) (by exact rfl) ?_
    | refine w_move (by exact rfl) (by exact rfl) (by exact rfl) (by exact rfl) ?_
    | refine w_fa (by exact rfl) (by exact rfl) (by exact rfl) (by exact rfl) ?_
    | refine w_ld_box (by exact rfl) (by exact rfl) (by exact rfl) (by exact rfl) (by exact .head _) (by exact rfl) ?_
    | refine w_geq (by exact rfl) (by exact rfl) (by exact rfl) (by exact rfl) (by exact rfl) ?_
    | refine w_max (by exact rfl) (by exact rfl) (by exact rfl) (by exact rfl) (by exact rfl) ?_
  all_goals refine ret1 [] rfl rfl rfl ⟨?_, rfl⟩
  all_goals (refine congrArg (Value.int .i64) ?_; simp only [aloneK]; repeat' split)
  all_goals omega
theorem order_ok (a b : E) (w : World) : Calls Try.prog 78 #[.agg (eV a).toArray, .agg (eV b).toArray] w (Post w No (Just (.int .i64 (orderK a b)))) := by
  refine enter0 (vs := [_, _]) Try.func78 rfl Try.ntmps78 rfl ?_
  repeat' first
    | refine k_then ?_
    | refine c_seq ?_
    | refine c_region ?_
    | refine s_nil ?_
    | refine s_assign (by exact rfl) (by exact rfl) ?_
    | refine o_box (by exact rfl) (by exact rfl) (fun b => ?_)
  refine p_begin0 [(0, true), (1, true), (2, true), (3, true), (5, true), (6, true), (7, true), (8, true), (4, false), (9, false), (10, false), (11, false), (12, true)] (by kernel_rfl) ?_
  repeat' first
    | (refine p_at (by exact rfl) ?_
       first
        | refine t_fa (by exact rfl) (by exact rfl) (by exact fun _ h => h) ?_
        | refine t_ld_box (by exact rfl) (by exact rfl) (by first | exact .head _ | exact .tail _ (.head _)) (by exact rfl) (by exact fun _ h => h) ?_)
  refine p_call (gd := none) (by exact rfl) rfl (by exact rfl) (fun w hs => Compare_ok _ _ w) (by exact fun _ h => h) ?_
  refine p_call (gd := none) (by exact rfl) rfl (by exact rfl) (fun w hs => Compare_ok _ _ w) (by exact fun _ h => h) ?_
  refine p_mk [_, _] (by exact rfl) rfl (by exact rfl) rfl ?_ ?_ (by simp) (fun w A h => h.tl) (fun s hs => ?_)
  · simp [Value.cells]
  · simp
  refine p_call (gd := none) (by exact rfl) rfl (by exact rfl) (fun w h => Or_ok s _ _ w (ro_own h (.head _)) hs) (by exact fun _ h => h.tl) ?_
  repeat' first
    | refine p_nil ?_
    | (refine p_at (by exact rfl) ?_
       first
        | refine t_assign (by exact rfl) (by exact rfl) (by exact fun _ h => h.tl) ?_)
  repeat' first
    | refine k_then ?_
    | refine c_ret ?_
  refine ret1 [] rfl rfl rfl ⟨?_, rfl⟩
  simp [orderK]
def prev (es : List E) (k : Nat) : Option E := if k = 0 then none else es[k - 1]?
theorem Right_ok (n : Int) (v : Value) (es : List E) (w : World) (hs : Shp v es.length) (hr : RO w No v (esV es)) (hm : es.length < 4611686018427387904) :
    Calls Try.prog 53 #[.agg #[.int .i64 n, v]] w (Post w No (Just (.int .i64 (rightK n es)))) := by
  refine enter0 (vs := [_]) Try.func53 rfl Try.ntmps53 rfl ?_
  repeat' first
    | refine k_then ?_
    | refine c_seq ?_
    | refine c_region ?_
    | refine s_nil ?_
    | refine s_assign (by exact rfl) (by exact rfl) ?_
    | refine s_fa (by exact rfl) (by exact rfl) ?_
    | refine s_ld_box (by exact rfl) (by exact rfl) (by exact .head _) (by exact rfl) ?_
    | refine s_len (by exact rfl) (by exact rfl) (by assumption) ?_
    | refine o_box (by exact rfl) (by exact rfl) (fun b => ?_)
  refine s_call (by exact rfl) (by exact rfl) (fun w hs => sizes_ok _ _ w) ?_
  repeat' first
    | refine k_then ?_
    | refine c_seq ?_
    | refine c_region ?_
    | refine s_nil ?_
    | refine s_move (by exact rfl) (by exact rfl) ?_
    | refine s_assign (by exact rfl) (by exact rfl) ?_
    | refine s_fa (by exact rfl) (by exact rfl) ?_
    | refine s_ld_box (by exact rfl) (by exact rfl) (by exact .head _) (by exact rfl) ?_
    | refine s_neq (by exact rfl) (by exact rfl) (by exact rfl) ?_
    | refine s_len (by exact rfl) (by exact rfl) (by assumption) ?_
    | refine c_block ?_
    | refine c_skip ?_
    | refine c_ret ?_
    | refine k_then_ret ?_
    | (refine c_cond_p (by exact rfl) (fun h => ?_) (fun h => ?_) <;> try (exfalso; omega))
  · refine ret1 [] rfl rfl rfl ⟨congrArg (Value.int .i64) ?_, rfl⟩
    rw [rightK, if_neg h]
  · have h0 : sizesK n es.length = 0 := by simpa using h
    refine c_loop (fun k : Nat => k ≤ es.length ∧ scan n (prev es k) (es.drop k) = scan n none es) (fun k => [(1, .pointer (some ⟨b, 0, none⟩)), (17, v), (18, .int .i64 (es.length : Int)), (19, .int .i64 (k : Int))]) (fun _ => [boxHP b 24 [.int .i64 n, v]]) (fun k => es.length - k) 0 [0] ⟨by omega, rfl⟩ rfl ⟨rfl, rfl, rfl, rfl, trivial⟩ ?_
    rintro k ⟨hk, hsc⟩
    by_cases hlt : k < es.length
    · obtain ⟨e, he⟩ : ∃ e, es[k]? = some e := ⟨_, List.getElem?_eq_getElem hlt⟩
      have hE := esV_at he
      rw [scan_at he] at hsc
      repeat' first
        | refine k_then ?_
        | refine c_seq ?_
        | refine c_region ?_
        | refine s_nil ?_
        | refine s_move (by exact rfl) (by exact rfl) ?_
        | refine s_assign (by exact rfl) (by exact rfl) ?_
        | refine s_lss (by exact rfl) (by exact rfl) (by exact rfl) ?_
        | refine s_idx (by exact rfl) (by exact rfl) (by exact rfl) (by assumption) (by first | assumption | omega) ?_
        | refine s_ldk_ro (by exact rfl) (by exact rfl) (by assumption) (by decide) (by assumption) (by exact rfl) ?_
        | refine o_alloc (by exact rfl) (fun b => ?_)
        | refine c_block ?_
        | refine c_skip ?_
        | (refine c_cond_p (by exact rfl) (fun h => ?_) (fun h => ?_) <;> try (exfalso; omega))
      refine o_stk_box (i := 0) (us := eV e) (by exact rfl) (by exact rfl) (by exact rfl) (by exact rfl) (by exact rfl) (by simp [eV, Value.oneCell']) (by simp [Value.cells]) ?_
      repeat' first
        | refine k_then ?_
        | refine c_seq ?_
        | refine c_region ?_
        | refine s_nil ?_
        | refine s_fa (by exact rfl) (by exact rfl) ?_
        | refine s_ld_box (by exact rfl) (by exact rfl) (by exact .tail _ (.head _)) (by exact rfl) ?_
        | refine s_ldk_box (by exact rfl) (by exact rfl) (by exact .head _) (by exact rfl) (by exact rfl) ?_
      refine s_call (by exact rfl) (by exact rfl) (fun w hs => alone_ok n e w) ?_
      repeat' first
        | refine k_then ?_
        | refine c_seq ?_
        | refine c_region ?_
        | refine s_nil ?_
        | refine s_move (by exact rfl) (by exact rfl) ?_
        | refine s_assign (by exact rfl) (by exact rfl) ?_
        | refine s_fa (by exact rfl) (by exact rfl) ?_
        | refine s_ld_box (by exact rfl) (by exact rfl) (by exact .head _) (by exact rfl) ?_
        | refine s_gtr (by exact rfl) (by exact rfl) (by exact rfl) ?_
        | refine s_eql (by exact rfl) (by exact rfl) (by exact rfl) ?_
        | refine s_neq (by exact rfl) (by exact rfl) (by exact rfl) ?_
        | refine s_add (by exact rfl) (by exact rfl) (by exact rfl) (by omega) ?_
        | refine c_block ?_
        | refine c_skip ?_
        | refine c_exit ?_
        | refine c_ret ?_
        | refine k_then_ret ?_
        | refine k_then_exit ?_
        | refine k_blk ?_
        | refine k_blk_ret ?_
        | refine k_blk_eq ?_
        | refine k_blk_ne (by exact rfl) ?_
        | (refine c_cond_p (by exact rfl) (fun h => ?_) (fun h => ?_) <;> try (exfalso; omega))
      · refine ret1 [] rfl rfl rfl ⟨congrArg (Value.int .i64) ?_, rfl⟩
        rw [rightK, if_pos h0, ← hsc, if_neg h]
      · refine ret1 [] rfl rfl rfl ⟨congrArg (Value.int .i64) ?_, rfl⟩
        rw [rightK, if_pos h0, ← hsc, if_pos (by omega), if_pos h]
      · refine c_round (k + 1) [1] (by exact rfl) (by exact ⟨rfl, rfl, rfl, rfl, trivial⟩) ⟨by omega, ?_⟩ (by omega)
        obtain rfl : k = 0 := by omega
        rw [← hsc, if_pos (by omega), if_neg (by omega)]
        simp only [prev, Nat.zero_add, Nat.one_ne_zero, if_false, Nat.sub_self, he, if_true]
      · obtain ⟨q, hq⟩ : ∃ q, es[k - 1]? = some q := ⟨_, List.getElem?_eq_getElem (by omega)⟩
        have hQ : ((esV es).drop (((k : Int) - 1).toNat * 3)).take 3 = eV q := by
          rw [show ((k : Int) - 1).toNat = k - 1 from by omega]
          exact esV_at hq
        have hpr : prev es k = some q := by rw [prev, if_neg (by omega), hq]
        rw [hpr] at hsc
        refine p_begin0 [(0, true), (1, true), (2, true), (3, true), (4, true), (5, true), (6, true), (7, false)] (by kernel_rfl) ?_
        repeat' first
          | (refine p_at (by exact rfl) ?_
             first
              | refine t_move (by exact rfl) (by exact rfl) (by exact fun _ h => h) ?_
              | refine t_fa (by exact rfl) (by exact rfl) (by exact fun _ h => h) ?_
              | refine t_ld_box (by exact rfl) (by exact rfl) (by exact .tail _ (.head _)) (by exact rfl) (by exact fun _ h => h) ?_
              | refine t_sub (by exact rfl) (by exact rfl) (by exact rfl) (by omega) (by exact fun _ h => h) ?_
              | refine t_idxi (by exact rfl) (by exact rfl) (by exact rfl) (by assumption) (by first | assumption | omega) (by exact fun _ h => h) ?_
              | refine t_ldk_box (by exact rfl) (by exact rfl) (by exact .head _) (by exact rfl) (by exact rfl) (by exact fun _ h => h) ?_
              | refine t_ldk_ro (by exact rfl) (by exact rfl) (by assumption) (by decide) (by assumption) (by exact rfl) (by exact fun _ h => h) ?_)
        refine p_call (gd := none) (by exact rfl) rfl (by exact rfl) (fun w hs => order_ok q e w) (by exact fun _ h => h) ?_
        repeat' first
          | refine p_nil ?_
        repeat' first
          | refine k_then ?_
          | refine c_seq ?_
          | refine c_region ?_
          | refine s_nil ?_
          | refine s_move (by exact rfl) (by exact rfl) ?_
          | refine s_assign (by exact rfl) (by exact rfl) ?_
          | refine s_eql (by exact rfl) (by exact rfl) (by exact rfl) ?_
          | refine s_add (by exact rfl) (by exact rfl) (by exact rfl) (by omega) ?_
          | refine c_block ?_
          | refine c_skip ?_
          | refine c_ret ?_
          | refine k_then_ret ?_
          | refine k_blk ?_
          | refine k_blk_ret ?_
          | (refine c_cond_p (by exact rfl) (fun h => ?_) (fun h => ?_) <;> try (exfalso; omega))
        · refine ret1 [] rfl rfl rfl ⟨congrArg (Value.int .i64) ?_, rfl⟩
          rw [rightK, if_pos h0, ← hsc, if_pos (by omega), if_neg (by omega)]
          simp only [if_pos h]
        · refine ret1 [] rfl rfl rfl ⟨congrArg (Value.int .i64) ?_, rfl⟩
          rw [rightK, if_pos h0, ← hsc, if_pos (by omega), if_neg (by omega)]
          simp only [if_pos h]
          split <;> first | omega | rfl
        · refine c_round (k + 1) [1] (by exact rfl) (by exact ⟨rfl, rfl, rfl, rfl, trivial⟩) ⟨by omega, ?_⟩ (by omega)
          rw [← hsc, if_pos (by omega), if_neg (by omega)]
          simp only [prev, Nat.add_sub_cancel, he]
          rw [if_neg (by omega), if_neg (by omega), if_neg (by omega)]
    · repeat' first
        | refine k_then ?_
        | refine c_seq ?_
        | refine c_region ?_
        | refine s_nil ?_
        | refine s_assign (by exact rfl) (by exact rfl) ?_
        | refine s_lss (by exact rfl) (by exact rfl) (by exact rfl) ?_
        | refine c_exit ?_
        | refine c_ret ?_
        | refine k_then_exit ?_
        | refine k_blk_eq ?_
        | (refine c_cond_p (by exact rfl) (fun h => ?_) (fun h => ?_) <;> try (exfalso; omega))
      refine ret1 [] rfl rfl rfl ⟨congrArg (Value.int .i64) ?_, rfl⟩
      rw [rightK, if_pos h0, ← hsc, List.drop_eq_nil_of_le (by omega)]
      simp [scan]
end Go.Proofs.Ytpajjnkmaebhcaa
end
section
namespace Fil
theorem getD_set {α : Type} (l : List α) (u v : Nat) (x d : α) : (l.set u x).getD v d = if u = v ∧ u < l.length then x else l.getD v d := by
  simp only [List.getD_eq_getElem?_getD, List.getElem?_set]
  by_cases h : u = v
  · subst h
    by_cases h2 : u < l.length
    · simp [h2]
    · simp [h2]
  · simp [h]
/-- c is one on both ends of each edge -/
def OnEdges (N : Nat) (A : Nat → List Nat) (c : Nat → Nat) : Prop := ∀ v, v < N → ∀ u ∈ A v, c u = c v
structure Adj (N : Nat) (A : Nat → List Nat) : Prop where
  lt : ∀ v, v < N → ∀ u ∈ A v, u < N
  sym : ∀ v u, v < N → u ∈ A v → v ∈ A u
structure Bfs (N : Nat) (A : Nat → List Nat) (first : Nat) (met : List Bool) (out : List Nat) (lab : Nat → Nat) (line : List Nat) : Prop where
  lm : met.length = N
  lo : out.length = N
  line_lt : ∀ v ∈ line, v < N
  line_met : ∀ v ∈ line, met.getD v false = true
  line_lab : ∀ v ∈ line, lab v = first
  order : line.Pairwise fun a b => out.getD a 0 ≤ out.getD b 0
  head : ∀ a, line.head? = some a → ∀ b ∈ line, out.getD b 0 ≤ out.getD a 0 + 1
  done : ∀ w, w < N → met.getD w false = true → w ∉ line → ∀ u ∈ A w, met.getD u false = true ∧ lab u = lab w ∧ out.getD u 0 ≤ out.getD w 0 + 1
  low : ∀ w, w < N → met.getD w false = true → w ∉ line → lab w = first → ∀ b ∈ line, out.getD w 0 ≤ out.getD b 0
  up : ∀ v k, v < N → met.getD v false = true → out.getD v 0 = k + 1 → ∃ u ∈ A v, met.getD u false = true ∧ out.getD u 0 = k
  root : ∀ v, v < N → met.getD v false = true → (out.getD v 0 = 0 ↔ lab v = v)
  zero : ∀ v, met.getD v false = false → out.getD v 0 = 0
  lab_le : ∀ v, v < N → met.getD v false = true → lab v ≤ v
  lab_met : ∀ v, v < N → met.getD v false = true → met.getD (lab v) false = true ∧ lab (lab v) = lab v
  conn : ∀ v, v < N → met.getD v false = true → ∀ c, OnEdges N A c → c v = c (lab v)
  below : ∀ w, w < first → met.getD w false = true
/-- met, from the current one -/
def Seen (A : Nat → List Nat) (first : Nat) (met : List Bool) (out : List Nat) (lab : Nat → Nat) (v j : Nat) : Prop :=
  ∀ u ∈ (A v).take j, met.getD u false = true ∧ lab u = first ∧ out.getD u 0 ≤ out.getD v 0 + 1
theorem Bfs.old {N : Nat} {A : Nat → List Nat} {first v u j : Nat} {met : List Bool} {out : List Nat} {lab : Nat → Nat} {rest : List Nat} (hA : Adj N A) (h : Bfs N A first met out lab (v :: rest)) (hs : Seen A first met out lab v j) (hu : (A v)[j]? = some u) (hm : met.getD u false = true) : Seen A first met out lab v (j + 1) := by
  have hv : v < N := h.line_lt v (by simp)
  have huA : u ∈ A v := List.mem_of_getElem? hu
  have hun := hA.lt v hv u huA
  intro x hx
  rw [List.take_add_one, hu] at hx
  rcases List.mem_append.1 hx with hx | hx
  · exact hs x hx
  · obtain rfl : x = u := by simpa using hx
    refine ⟨hm, ?_⟩
    by_cases hl : x ∈ v :: rest
    · exact ⟨h.line_lab x hl, h.head v rfl x hl⟩
    · obtain ⟨_, h2, _⟩ := h.done x hun hm hl v (hA.sym v x hv huA)
      have hv1 := h.line_lab v (by simp)
      have hf : lab x = first := by rw [← h2, hv1]
      refine ⟨hf, ?_⟩
      have := h.low x hun hm hl hf v (by simp)
      omega
theorem Bfs.new {N : Nat} {A : Nat → List Nat} {first v u j : Nat} {met : List Bool} {out : List Nat} {lab : Nat → Nat} {rest : List Nat} (hA : Adj N A) (h : Bfs N A first met out lab (v :: rest)) (hs : Seen A first met out lab v j) (hu : (A v)[j]? = some u) (hm : met.getD u false = false) :
    Bfs N A first (met.set u true) (out.set u (out.getD v 0 + 1)) (fun x => if x = u then first else lab x) (v :: rest ++ [u]) ∧ Seen A first (met.set u true) (out.set u (out.getD v 0 + 1)) (fun x => if x = u then first else lab x) v (j + 1) := by
  have hv : v < N := h.line_lt v (by simp)
  have hvm := h.line_met v (by simp)
  have huA : u ∈ A v := List.mem_of_getElem? hu
  have hun := hA.lt v hv u huA
  have hul : u < met.length := by rw [h.lm]; exact hun
  have hulo : u < out.length := by rw [h.lo]; exact hun
  have hne : ∀ x, met.getD x false = true → x ≠ u := fun x hx e => by subst e; rw [hm] at hx; simp at hx
  have hnv := hne v hvm
  have M : ∀ x, (met.set u true).getD x false = if u = x then true else met.getD x false := fun x => by rw [getD_set]; simp [hul]
  have O : ∀ x, (out.set u (out.getD v 0 + 1)).getD x 0 = if u = x then out.getD v 0 + 1 else out.getD x 0 := fun x => by rw [getD_set]; simp [hulo]
  have Om : ∀ x, met.getD x false = true → (out.set u (out.getD v 0 + 1)).getD x 0 = out.getD x 0 := fun x hx => by rw [O, if_neg (Ne.symm (hne x hx))]
  have Mm : ∀ x, met.getD x false = true → (met.set u true).getD x false = true := fun x hx => by rw [M]; split <;> simp_all
  have Mt : ∀ x, (met.set u true).getD x false = true → x = u ∨ met.getD x false = true := fun x hx => by
    rw [M] at hx
    split at hx
    · left; rename_i e; exact e.symm
    · exact .inr hx
  have hlabv := h.line_lab v (by simp)
  have hfirst := h.lab_met v hv hvm
  rw [hlabv] at hfirst
  have hfu : first ≠ u := hne _ hfirst.1
  have hfle : first ≤ u := by
    rcases Nat.lt_or_ge u first with hlt | hge
    · have := h.below u hlt; rw [hm] at this; simp at this
    · exact hge
  refine ⟨⟨by simp [h.lm], by simp [h.lo], ?_, ?_, ?_, ?_, ?_, ?_, ?_, ?_, ?_, ?_, ?_, ?_, ?_, ?_⟩, ?_⟩
  · intro x hx
    rcases List.mem_append.1 hx with hx | hx
    · exact h.line_lt x hx
    · obtain rfl : x = u := by simpa using hx
      exact hun
  · intro x hx
    rcases List.mem_append.1 hx with hx | hx
    · exact Mm x (h.line_met x hx)
    · obtain rfl : x = u := by simpa using hx
      rw [M, if_pos rfl]
  · intro x hx
    rcases List.mem_append.1 hx with hx | hx
    · simp [hne x (h.line_met x hx), h.line_lab x hx]
    · obtain rfl : x = u := by simpa using hx
      simp
  · refine List.pairwise_append.2 ⟨?_, by simp, ?_⟩
    · refine h.order.imp_of_mem fun {a b} ha hb hab => ?_
      rw [Om a (h.line_met a ha), Om b (h.line_met b hb)]
      exact hab
    · intro a ha b hb
      obtain rfl : b = u := by simpa using hb
      rw [Om a (h.line_met a ha), O b, if_pos rfl]
      exact h.head v rfl a ha
  · intro a ha b hb
    obtain rfl : v = a := by simpa using ha
    rw [Om v hvm]
    rcases List.mem_append.1 hb with hb | hb
    · rw [Om b (h.line_met b hb)]
      exact h.head v rfl b hb
    · obtain rfl : b = u := by simpa using hb
      rw [O b, if_pos rfl]
      exact Nat.le_refl _
  · intro w hw hwm hwl x hx
    have hwu : w ≠ u := fun e => hwl (by simp [e])
    have hwm' : met.getD w false = true := (Mt w hwm).resolve_left hwu
    obtain ⟨h1, h2, h3⟩ := h.done w hw hwm' (fun hh => hwl (List.mem_append.2 (.inl hh))) x hx
    refine ⟨Mm x h1, ?_, ?_⟩
    · simp [hne x h1, hwu, h2]
    · rw [Om x h1, Om w hwm']; exact h3
  · intro w hw hwm hwl hwf b hb
    have hwu : w ≠ u := fun e => hwl (by simp [e])
    have hwm' : met.getD w false = true := (Mt w hwm).resolve_left hwu
    have hwl' : w ∉ v :: rest := fun hh => hwl (List.mem_append.2 (.inl hh))
    have hwf' : lab w = first := by simpa [hwu] using hwf
    rw [Om w hwm']
    rcases List.mem_append.1 hb with hb | hb
    · rw [Om b (h.line_met b hb)]
      exact h.low w hw hwm' hwl' hwf' b hb
    · obtain rfl : b = u := by simpa using hb
      rw [O b, if_pos rfl]
      have := h.low w hw hwm' hwl' hwf' v (by simp)
      omega
  · intro x k hx hxm hxk
    rcases Mt x hxm with rfl | hxm'
    · rw [O x, if_pos rfl] at hxk
      exact ⟨v, hA.sym v x hv huA, Mm v hvm, by rw [Om v hvm]; omega⟩
    · rw [Om x hxm'] at hxk
      obtain ⟨y, hy, hym, hyk⟩ := h.up x k hx hxm' hxk
      exact ⟨y, hy, Mm y hym, by rw [Om y hym]; exact hyk⟩
  · intro x hx hxm
    rcases Mt x hxm with rfl | hxm'
    · rw [O x, if_pos rfl, if_pos rfl]
      exact ⟨fun e => by omega, fun e => absurd e hfu⟩
    · rw [Om x hxm', if_neg (hne x hxm')]
      exact h.root x hx hxm'
  · intro x hx
    rw [M] at hx
    rw [O]
    split at hx
    · simp at hx
    · rename_i e
      rw [if_neg e]
      exact h.zero x hx
  · intro x hx hxm
    rcases Mt x hxm with rfl | hxm'
    · simpa using hfle
    · simpa [hne x hxm'] using h.lab_le x hx hxm'
  · intro x hx hxm
    rcases Mt x hxm with rfl | hxm'
    · simp only [if_true]
      refine ⟨Mm _ hfirst.1, ?_⟩
      rw [if_neg hfu]
      exact hfirst.2
    · obtain ⟨h1, h2⟩ := h.lab_met x hx hxm'
      rw [if_neg (hne x hxm')]
      refine ⟨Mm _ h1, ?_⟩
      rw [if_neg (hne _ h1)]
      exact h2
  · intro x hx hxm c hc
    rcases Mt x hxm with rfl | hxm'
    · rw [if_pos rfl, hc v hv x huA, ← hlabv]
      exact h.conn v hv hvm c hc
    · rw [if_neg (hne x hxm')]
      exact h.conn x hx hxm' c hc
  · intro w hw
    exact Mm w (h.below w hw)
  · intro x hx
    rw [List.take_add_one, hu] at hx
    rcases List.mem_append.1 hx with hx | hx
    · obtain ⟨h1, h2, h3⟩ := hs x hx
      refine ⟨Mm x h1, by simp [hne x h1, h2], ?_⟩
      rw [Om x h1, Om v hvm]; exact h3
    · obtain rfl : x = u := by simpa using hx
      refine ⟨by rw [M, if_pos rfl], by simp, ?_⟩
      rw [O x, if_pos rfl, Om v hvm]
      exact Nat.le_refl _
/-- the current one is done -/
theorem Bfs.pop {N : Nat} {A : Nat → List Nat} {first v : Nat} {met : List Bool} {out : List Nat} {lab : Nat → Nat} {rest : List Nat} (h : Bfs N A first met out lab (v :: rest)) (hs : Seen A first met out lab v (A v).length) : Bfs N A first met out lab rest := by
  rw [Seen, List.take_length] at hs
  have hv := h.line_lt v (by simp)
  have hvl := h.line_lab v (by simp)
  obtain ⟨ho1, ho2⟩ := List.pairwise_cons.1 h.order
  refine { h with line_lt := fun x hx => h.line_lt x (by simp [hx]), line_met := fun x hx => h.line_met x (by simp [hx]), line_lab := fun x hx => h.line_lab x (by simp [hx]), order := ho2, head := ?_, done := ?_, low := ?_ }
  · intro a ha b hb
    have h1 := h.head v rfl b (by simp [hb])
    have h2 := ho1 a (List.mem_of_mem_head? ha)
    omega
  · intro w hw hwm hwl u hu
    by_cases hwv : w = v
    · subst hwv
      obtain ⟨h1, h2, h3⟩ := hs u hu
      exact ⟨h1, by rw [h2, hvl], h3⟩
    · exact h.done w hw hwm (by simp [hwv, hwl]) u hu
  · intro w hw hwm hwl hwf b hb
    by_cases hwv : w = v
    · subst hwv; exact ho1 b hb
    · exact h.low w hw hwm (by simp [hwv, hwl]) hwf b (by simp [hb])
/-- the next one was met already -/
theorem Bfs.next {N : Nat} {A : Nat → List Nat} {first : Nat} {met : List Bool} {out : List Nat} {lab : Nat → Nat} (h : Bfs N A first met out lab []) (hm : met.getD first false = true) : Bfs N A (first + 1) met out lab [] :=
  { h with
    line_lab := fun v hv => by simp at hv
    low := fun w hw hwm hwl hwf b hb => by simp at hb
    below := fun w hw => by
      rcases Nat.lt_or_ge w first with hlt | hge
      · exact h.below w hlt
      · obtain rfl : w = first := by omega
        exact hm }
/-- .. or was not -/
theorem Bfs.start {N : Nat} {A : Nat → List Nat} {first : Nat} {met : List Bool} {out : List Nat} {lab : Nat → Nat} (h : Bfs N A first met out lab []) (hf : first < N) (hm : met.getD first false = false) : Bfs N A first (met.set first true) out (fun x => if x = first then first else lab x) [first] := by
  have hul : first < met.length := by rw [h.lm]; exact hf
  have hne : ∀ x, met.getD x false = true → x ≠ first := fun x hx e => by subst e; rw [hm] at hx; simp at hx
  have M : ∀ x, (met.set first true).getD x false = if first = x then true else met.getD x false := fun x => by rw [getD_set]; simp [hul]
  have Mm : ∀ x, met.getD x false = true → (met.set first true).getD x false = true := fun x hx => by rw [M]; split <;> simp_all
  have Mt : ∀ x, (met.set first true).getD x false = true → x = first ∨ met.getD x false = true := fun x hx => by
    rw [M] at hx
    split at hx
    · left; rename_i e; exact e.symm
    · exact .inr hx
  refine ⟨by simp [h.lm], h.lo, ?_, ?_, ?_, by simp, ?_, ?_, ?_, ?_, ?_, ?_, ?_, ?_, ?_, ?_⟩
  · intro x hx
    obtain rfl : x = first := by simpa using hx
    exact hf
  · intro x hx
    obtain rfl : x = first := by simpa using hx
    rw [M, if_pos rfl]
  · intro x hx
    obtain rfl : x = first := by simpa using hx
    simp
  · intro a ha b hb
    obtain rfl : first = a := by simpa using ha
    obtain rfl : b = first := by simpa using hb
    omega
  · intro w hw hwm hwl x hx
    have hwu : w ≠ first := fun e => hwl (by simp [e])
    have hwm' : met.getD w false = true := (Mt w hwm).resolve_left hwu
    obtain ⟨h1, h2, h3⟩ := h.done w hw hwm' (by simp) x hx
    exact ⟨Mm x h1, by simp [hne x h1, hwu, h2], h3⟩
  · intro w hw hwm hwl hwf b hb
    have hwu : w ≠ first := fun e => hwl (by simp [e])
    have hwm' : met.getD w false = true := (Mt w hwm).resolve_left hwu
    have hwf' : lab w = first := by simpa [hwu] using hwf
    have := (h.lab_met w hw hwm').1
    rw [hwf', hm] at this
    simp at this
  · intro x k hx hxm hxk
    rcases Mt x hxm with rfl | hxm'
    · rw [h.zero x hm] at hxk; omega
    · obtain ⟨y, hy, hym, hyk⟩ := h.up x k hx hxm' hxk
      exact ⟨y, hy, Mm y hym, hyk⟩
  · intro x hx hxm
    rcases Mt x hxm with rfl | hxm'
    · simp [-List.getD_eq_getElem?_getD, h.zero x hm]
    · rw [if_neg (hne x hxm')]
      exact h.root x hx hxm'
  · intro x hx
    rw [M] at hx
    split at hx
    · simp at hx
    · exact h.zero x hx
  · intro x hx hxm
    rcases Mt x hxm with rfl | hxm'
    · simp
    · simpa [hne x hxm'] using h.lab_le x hx hxm'
  · intro x hx hxm
    rcases Mt x hxm with rfl | hxm'
    · simp [-List.getD_eq_getElem?_getD, M]
    · obtain ⟨h1, h2⟩ := h.lab_met x hx hxm'
      rw [if_neg (hne x hxm')]
      refine ⟨Mm _ h1, ?_⟩
      rw [if_neg (hne _ h1)]
      exact h2
  · intro x hx hxm c hc
    rcases Mt x hxm with rfl | hxm'
    · rw [if_pos rfl]
    · rw [if_neg (hne x hxm')]
      exact h.conn x hx hxm' c hc
  · intro w hw
    exact Mm w (h.below w hw)
theorem Bfs.init (N : Nat) (A : Nat → List Nat) : Bfs N A 0 (List.replicate N false) (List.replicate N 0) (fun _ => 0) [] := by
  have hf : ∀ x, (List.replicate N false).getD x false = false := fun x => by
    simp only [List.getD_eq_getElem?_getD, List.getElem?_replicate]; split <;> rfl
  refine ⟨by simp, by simp, by simp, by simp, by simp, by simp, by simp, ?_, by simp, ?_, ?_, ?_, ?_, ?_, ?_, fun w hw => by omega⟩
  · intro w hw hm; rw [hf] at hm; simp at hm
  · intro w k hw hm; rw [hf] at hm; simp at hm
  · intro w hw hm; rw [hf] at hm; simp at hm
  · intro v _
    simp only [List.getD_eq_getElem?_getD, List.getElem?_replicate]; split <;> rfl
  · intro w hw hm; rw [hf] at hm; simp at hm
  · intro w hw hm; rw [hf] at hm; simp at hm
  · intro w hw hm; rw [hf] at hm; simp at hm
/-- levels, and the least one that each hangs together with -/
structure Lev (N : Nat) (A : Nat → List Nat) (o : Nat → Nat) (lab : Nat → Nat) : Prop where
  edge : ∀ w, w < N → ∀ u ∈ A w, lab u = lab w ∧ o u ≤ o w + 1
  up : ∀ v k, v < N → o v = k + 1 → ∃ u ∈ A v, o u = k
  root : ∀ v, v < N → (o v = 0 ↔ lab v = v)
  le : ∀ v, v < N → lab v ≤ v
  idem : ∀ v, v < N → lab (lab v) = lab v
  conn : ∀ v, v < N → ∀ c, OnEdges N A c → c v = c (lab v)
theorem Bfs.lev {N : Nat} {A : Nat → List Nat} {met : List Bool} {out : List Nat} {lab : Nat → Nat} (h : Bfs N A N met out lab []) : Lev N A (fun v => out.getD v 0) lab where
  edge w hw u hu := (h.done w hw (h.below w hw) (by simp) u hu).2
  up v k hv hk := (h.up v k hv (h.below v hv) hk).imp fun u hu => ⟨hu.1, hu.2.2⟩
  root v hv := h.root v hv (h.below v hv)
  le v hv := h.lab_le v hv (h.below v hv)
  idem v hv := (h.lab_met v hv (h.below v hv)).2
  conn v hv := h.conn v hv (h.below v hv)
/-- how many were not met -/
def unmet (met : List Bool) : Nat := met.countP (fun b => !b)
theorem unmet_set {met : List Bool} {u : Nat} (hu : u < met.length) (h : met.getD u false = false) : unmet (met.set u true) + 1 = unmet met := by
  induction met generalizing u with
  | nil => simp at hu
  | cons b l ih =>
    cases u with
    | zero =>
      obtain rfl : b = false := by simpa using h
      simp [unmet]
    | succ u =>
      have := ih (u := u) (by simpa using hu) (by simpa using h)
      simp only [unmet, List.set_cons_succ, List.countP_cons] at *
      omega
end Fil
end
section
namespace Fil
def okE (n : Int) (e : E) : Prop := 0 ≤ e.1 ∧ e.1 < e.2.1 ∧ e.2.1 < n ∧ -2147483648 < e.2.2 ∧ e.2.2 < 2147483648
def ltE (a b : E) : Prop := a.1 < b.1 ∨ a.1 = b.1 ∧ a.2.1 < b.2.1
structure RightG (n : Int) (es : List E) : Prop where
  lo : 0 ≤ n
  hi : n ≤ 1048576
  many : es.length ≤ 4194304
  ok : ∀ e ∈ es, okE n e
  sorted : es.Pairwise ltE
theorem ltE_trans {a b c : E} (h : ltE a b) (h' : ltE b c) : ltE a c := by
  simp only [ltE] at *; omega
theorem orderK_lt {a b : E} : orderK a b ≠ 0 ∧ orderK a b ≠ 1 ↔ ltE a b := by
  simp only [orderK, cmpK, ltE]
  (repeat' split) <;> omega
theorem aloneK_ok {n : Int} {e : E} : aloneK n e.1 e.2.1 e.2.2 = 0 ∧ ¬ e.2.1 < e.1 ↔ okE n e := by
  simp only [aloneK, okE]
  (repeat' split) <;> omega
theorem scan_iff {n : Int} : ∀ (es : List E) (p : Option E), scan n p es = 0 ↔ (∀ e ∈ es, okE n e) ∧ es.Pairwise ltE ∧ ∀ q, p = some q → ∀ e, es.head? = some e → ltE q e
  | [], p => by simp [scan]
  | e :: r, p => by
    have ih := scan_iff (n := n) r (some e)
    have key : scan n p (e :: r) = 0 ↔ okE n e ∧ (∀ q, p = some q → ltE q e) ∧ scan n (some e) r = 0 := by
      rw [← aloneK_ok]
      cases p with
      | none =>
        simp only [scan]
        (repeat' split) <;> simp_all
      | some q =>
        simp only [scan, Option.some.injEq, forall_eq', ← orderK_lt]
        (repeat' split) <;> simp_all
    rw [key, ih]
    constructor
    · rintro ⟨h1, h2, h3, h4, h5⟩
      refine ⟨fun x hx => (List.mem_cons.1 hx).elim (fun h => h ▸ h1) (h3 x), List.pairwise_cons.2 ⟨?_, h4⟩, fun q hq e' he' => ?_⟩
      · cases r with
        | nil => simp
        | cons x r =>
          have hx := h5 e rfl x rfl
          intro y hy
          rcases List.mem_cons.1 hy with rfl | hy
          · exact hx
          · exact ltE_trans hx ((List.pairwise_cons.1 h4).1 y hy)
      · obtain rfl : e = e' := by simpa using he'
        exact h2 q hq
    · rintro ⟨h1, h2, h3⟩
      obtain ⟨h4, h5⟩ := List.pairwise_cons.1 h2
      refine ⟨h1 e (by simp), fun q hq => h3 q hq e rfl, fun x hx => h1 x (by simp [hx]), h5, fun q hq y hy => ?_⟩
      obtain rfl : e = q := by simpa using hq
      exact h4 y (List.mem_of_mem_head? hy)
theorem right_iff {n : Int} {es : List E} : rightK n es = 0 ↔ RightG n es := by
  have hs : sizesK n es.length = 0 ↔ 0 ≤ n ∧ n ≤ 1048576 ∧ es.length ≤ 4194304 := by
    simp only [sizesK]
    (repeat' split) <;> omega
  rw [rightK]
  split
  · rename_i h
    obtain ⟨h1, h2, h3⟩ := hs.1 h
    rw [scan_iff]
    exact ⟨fun ⟨a, b, _⟩ => ⟨h1, h2, h3, a, b⟩, fun h => ⟨h.ok, h.sorted, fun q hq => by simp at hq⟩⟩
  · rename_i h
    exact ⟨fun h' => absurd h' h, fun h' => absurd (hs.2 ⟨h'.lo, h'.hi, h'.many⟩) h⟩
/-- edges, by numbers of vertices -/
def tn (es : List E) : List (Nat × Nat) := es.map fun e => (e.1.toNat, e.2.1.toNat)
/-- next to u, as the edges come -/
def nb (l : List (Nat × Nat)) (u : Nat) : List Nat := l.filterMap fun e => if e.1 = u then some e.2 else if e.2 = u then some e.1 else none
def nears (N : Nat) (l : List (Nat × Nat)) : List (List Nat) := (List.range N).map (nb l)
def nearS (l : List (Nat × Nat)) (u : Nat) : List Nat := (nb l u).mergeSort fun x y => decide (x ≤ y)
theorem nb_snoc (l : List (Nat × Nat)) (e : Nat × Nat) (u : Nat) : nb (l ++ [e]) u = nb l u ++ (if e.1 = u then [e.2] else if e.2 = u then [e.1] else []) := by
  simp only [nb, List.filterMap_append, List.filterMap_cons, List.filterMap_nil]
  split <;> (try split) <;> simp_all <;> split <;> simp_all
/-- one edge more -/
theorem nears_snoc {N : Nat} {l : List (Nat × Nat)} {u v : Nat} (hu : u < N) (hv : v < N) (hne : u ≠ v) : nears N (l ++ [(u, v)]) = ((nears N l).set u (nb l u ++ [v])).set v (nb l v ++ [u]) := by
  apply List.ext_getElem?
  intro k
  simp only [nears, List.getElem?_set, List.getElem?_map, List.length_set, List.length_map, List.length_range]
  by_cases hk : k < N
  · rw [List.getElem?_eq_getElem (by simpa using hk)]
    simp only [List.getElem_range, Option.map_some, nb_snoc]
    by_cases h1 : u = k
    · subst h1
      simp [Ne.symm hne, hu]
    · by_cases h2 : v = k
      · subst h2
        simp [hv, h1]
      · simp [h1, h2]
  · rw [List.getElem?_eq_none (by simpa using hk)]
    have h1 : u ≠ k := by omega
    have h2 : v ≠ k := by omega
    simp [h1, h2]
theorem nb_length (l : List (Nat × Nat)) (u : Nat) : (nb l u).length ≤ l.length := List.length_filterMap_le _ _
theorem nears_get {N : Nat} {l : List (Nat × Nat)} {u : Nat} (hu : u < N) : (nears N l)[u]? = some (nb l u) := by simp [nears, hu]
theorem nears_zero (N : Nat) : nears N [] = List.replicate N [] := by
  have : nb [] = fun _ => [] := rfl
  rw [nears, this, List.map_const', List.length_range]
theorem tn_take {es : List E} {k : Nat} {e : E} (he : es[k]? = some e) : tn (es.take (k + 1)) = tn (es.take k) ++ [(e.1.toNat, e.2.1.toNat)] := by
  rw [List.take_add_one, he]; simp [tn]
/-- sorted up to i -/
def sorted (N : Nat) (l : List (Nat × Nat)) (i : Nat) : List (List Nat) := (List.range N).map fun u => if u < i then nearS l u else nb l u
theorem sorted_zero (N : Nat) (l : List (Nat × Nat)) : sorted N l 0 = nears N l := by simp [sorted, nears]
theorem sorted_all (N : Nat) (l : List (Nat × Nat)) : sorted N l N = (List.range N).map (nearS l) := by
  apply List.map_congr_left
  intro u hu
  rw [if_pos (by simpa using hu)]
theorem sorted_get {N i : Nat} {l : List (Nat × Nat)} (hi : i < N) : (sorted N l i)[i]? = some (nb l i) := by simp [sorted, hi]
theorem sorted_succ {N i : Nat} {l : List (Nat × Nat)} (hi : i < N) : sorted N l (i + 1) = (sorted N l i).set i (nearS l i) := by
  apply List.ext_getElem?
  intro k
  simp only [sorted, List.getElem?_set, List.getElem?_map, List.length_map, List.length_range]
  by_cases hk : k < N
  · rw [List.getElem?_eq_getElem (by simpa using hk)]
    simp only [List.getElem_range, Option.map_some]
    by_cases h1 : i = k
    · subst h1; simp [hi]
    · rw [if_neg h1]
      by_cases h2 : k < i
      · rw [if_pos (by omega), if_pos h2]
      · rw [if_neg (by omega), if_neg h2]
  · rw [List.getElem?_eq_none (by simpa using hk)]
    have : i ≠ k := by omega
    simp [this]
theorem mem_nb {l : List (Nat × Nat)} {u v : Nat} (hl : ∀ e ∈ l, e.1 ≠ e.2) : u ∈ nb l v ↔ (v, u) ∈ l ∨ (u, v) ∈ l := by
  simp only [nb, List.mem_filterMap]
  constructor
  · rintro ⟨⟨a, b⟩, he, h⟩
    dsimp only at h
    split at h
    · rename_i h1; subst h1
      obtain rfl : b = u := by simpa using h
      exact .inl he
    · split at h
      · rename_i h2; subst h2
        obtain rfl : a = u := by simpa using h
        exact .inr he
      · simp at h
  · rintro (h | h)
    · exact ⟨(v, u), h, by simp⟩
    · refine ⟨(u, v), h, ?_⟩
      have := hl _ h
      dsimp only at this ⊢
      rw [if_neg this, if_pos rfl]
theorem mem_nearS {l : List (Nat × Nat)} {u v : Nat} : u ∈ nearS l v ↔ u ∈ nb l v := by simp [nearS, List.mem_mergeSort]
structure Good (N : Nat) (l : List (Nat × Nat)) : Prop where
  lt : ∀ e ∈ l, e.1 < e.2 ∧ e.2 < N
theorem RightG.good {n : Int} {es : List E} (h : RightG n es) : Good n.toNat (tn es) where
  lt e he := by
    obtain ⟨x, hx, rfl⟩ := List.mem_map.1 he
    obtain ⟨h1, h2, h3, -, -⟩ := h.ok x hx
    have := h.lo
    dsimp only
    omega
theorem Good.adj {N : Nat} {l : List (Nat × Nat)} (h : Good N l) : Adj N (nb l) where
  lt v hv u hu := by
    rcases (mem_nb (fun e he => by have := h.lt e he; omega)).1 hu with hu | hu
    · exact (h.lt _ hu).2
    · have := h.lt _ hu; dsimp only at this; omega
  sym v u hv hu := by
    rw [mem_nb (fun e he => by have := h.lt e he; omega)] at hu ⊢
    exact hu.symm
end Fil
end
section
namespace Go.Proofs
open Go.Shelf
def Try.sortInts_ren : Go.Shelf.Ren := ⟨fun | 5 => 74 | 8 => 67 | 7 => 93 | 19 => 90 | 20 => 91 | 10 => 100 | 11 => 101 | 12 => 102 | 13 => 103 | 14 => 104 | 15 => 105 | 16 => 106 | 17 => 107 | 18 => 108 | 30 => 110 | 31 => 96 | 32 => 97 | 33 => 111 | 34 => 112 | 35 => 92 | 40 => 113 | n => n, fun | 23 => 36 | 25 => 3 | 3 => 3 | 32 => 89 | 22 => 36 | 0 => 0 | 44 => 113 | 46 => 115 | 4 => 4 | 36 => 106 | 35 => 105 | 41 => 110 | 5 => 5 | 9 => 9 | 53 => 118 | 57 => 122 | 63 => 130 | 64 => 131 | n => n, fun | n => n⟩
theorem Try.sortInts : Go.Proofs.SlLaysM.n5 Try.prog Try.sortInts_ren := {
  mixed := by kernel_rfl
  f5 := ⟨Try.f74.name, by decide, Try.func74.trans (congrArg some (by kernel_rfl))⟩
  f7 := ⟨Try.f93.name, by decide, Try.func93.trans (congrArg some (by kernel_rfl))⟩
  f8 := Try.func67.trans (congrArg some (by kernel_rfl))
  f10 := ⟨Try.f100.name, by decide, Try.func100.trans (congrArg some (by kernel_rfl))⟩
  f11 := ⟨Try.f101.name, by decide, Try.func101.trans (congrArg some (by kernel_rfl))⟩
  f12 := ⟨Try.f102.name, by decide, Try.func102.trans (congrArg some (by kernel_rfl))⟩
  f13 := ⟨Try.f103.name, by decide, Try.func103.trans (congrArg some (by kernel_rfl))⟩
  f14 := ⟨Try.f104.name, by decide, Try.func104.trans (congrArg some (by kernel_rfl))⟩
  f15 := ⟨Try.f105.name, by decide, Try.func105.trans (congrArg some (by kernel_rfl))⟩
  f16 := ⟨Try.f106.name, by decide, Try.func106.trans (congrArg some (by kernel_rfl))⟩
  f17 := ⟨Try.f107.name, by decide, Try.func107.trans (congrArg some (by kernel_rfl))⟩
  f18 := ⟨Try.f108.name, by decide, Try.func108.trans (congrArg some (by kernel_rfl))⟩
  f19 := Try.func90.trans (congrArg some (by kernel_rfl))
  f20 := Try.func91.trans (congrArg some (by kernel_rfl))
  f30 := ⟨Try.f110.name, by decide, Try.func110.trans (congrArg some (by kernel_rfl))⟩
  f31 := Try.func96.trans (congrArg some (by kernel_rfl))
  f32 := Try.func97.trans (congrArg some (by kernel_rfl))
  f33 := ⟨Try.f111.name, by decide, Try.func111.trans (congrArg some (by kernel_rfl))⟩
  f34 := ⟨Try.f112.name, by decide, Try.func112.trans (congrArg some (by kernel_rfl))⟩
  f35 := ⟨Try.f92.name, by decide, Try.func92.trans (congrArg some (by kernel_rfl))⟩
  f40 := ⟨Try.f113.name, by decide, Try.func113.trans (congrArg some (by kernel_rfl))⟩
  t0 := Try.underlying0
  a0 := Try.isAgg0
  z0 := Try.sizeOf0
  v0 := Try.zeroValue0
  t3 := Try.underlying3
  a3 := Try.isAgg3
  z3 := Try.sizeOf3
  v3 := Try.zeroValue3
  t4 := Try.underlying4
  a4 := Try.isAgg4
  z4 := Try.sizeOf4
  v4 := Try.zeroValue4
  t5 := Try.underlying5
  a5 := Try.isAgg5
  z5 := Try.sizeOf5
  v5 := Try.zeroValue5
  t9 := Try.underlying9
  a9 := Try.isAgg9
  z9 := Try.sizeOf9
  v9 := Try.zeroValue9
  t22 := Try.underlying36
  a22 := Try.isAgg36
  z22 := Try.sizeOf36
  v22 := Try.zeroValue36
  t23 := Try.underlying36
  a23 := Try.isAgg36
  z23 := Try.sizeOf36
  v23 := Try.zeroValue36
  t25 := Try.underlying3
  a25 := Try.isAgg3
  z25 := Try.sizeOf3
  v25 := Try.zeroValue3
  t32 := Try.underlying89
  a32 := Try.isAgg89
  z32 := Try.sizeOf89
  v32 := Try.zeroValue89
  t35 := Try.underlying105
  a35 := Try.isAgg105
  z35 := Try.sizeOf105
  v35 := Try.zeroValue105
  t36 := Try.underlying106
  a36 := Try.isAgg106
  z36 := Try.sizeOf106
  v36 := Try.zeroValue106
  t41 := Try.underlying110
  a41 := Try.isAgg110
  z41 := Try.sizeOf110
  v41 := Try.zeroValue110
  t44 := Try.underlying113
  a44 := Try.isAgg113
  z44 := Try.sizeOf113
  v44 := Try.zeroValue113
  t46 := Try.underlying115
  a46 := Try.isAgg115
  z46 := Try.sizeOf115
  v46 := Try.zeroValue115
  t53 := Try.underlying118
  a53 := Try.isAgg118
  z53 := Try.sizeOf118
  v53 := Try.zeroValue118
  t57 := Try.underlying122
  a57 := Try.isAgg122
  z57 := Try.sizeOf122
  v57 := Try.zeroValue122
  t63 := Try.underlying130
  a63 := Try.isAgg130
  z63 := Try.sizeOf130
  v63 := Try.zeroValue130
  t64 := Try.underlying131
  a64 := Try.isAgg131
  z64 := Try.sizeOf131
  v64 := Try.zeroValue131 }
end Go.Proofs
namespace Go.Sl
open Go Go.RowKit Go.Sort Go.Proofs
def iV (l : List Int) : List Value := l.map (Value.int .i64)
def nV (l : List Nat) : List Value := l.map fun (k : Nat) => .int .i64 (k : Int)
theorem putCells_take (cur : Array Value) (off : Nat) (ts : List Int) (h : off + ts.length ≤ cur.size) : ((putCells (Value.int .i64) off ts.toArray cur).toList.drop off).take ts.length = ts.map (Value.int .i64) := by
  apply List.ext_getElem?
  intro j
  by_cases hj : j < ts.length
  · rw [List.getElem?_take_of_lt hj, List.getElem?_drop, Array.getElem?_toList]
    simp [putCells, hj, show off + j < cur.size by omega]
  · rw [List.getElem?_take_eq_none (by omega), List.getElem?_eq_none (by simp; omega)]
theorem sort_row {w : World} {v : Value} {e : TypeId} {l : List Int} {S : FS} (h : (rowHP v e 1 l.length (iV l)).sat S w) (hlen : l.length < 4611686018427387904) :
    Calls Try.prog 74 #[v] w (Post w S fun r L' => r = .tuple #[] ∧ L' = [rowHP v e 1 l.length (iV (l.mergeSort fun x y => decide (x ≤ y)))]) := by
  rcases h.2 with ⟨rfl, h0⟩ | ⟨g, off, cap, cur, rfl, h2, h3, h4, h5, h6, h7⟩ | ⟨⟨a0, rfl⟩, h0⟩
  · have hl : l = [] := List.eq_nil_of_length_eq_zero h0
    subst hl
    have c := AnyM.slices_Sort_int_none Try.sortInts none 0 w
    change Calls Try.prog 74 _ _ _ at c
    refine Calls.mono c ?_
    rintro e' w' ⟨rfl, hw⟩
    subst hw
    refine ⟨_, _, ⟨rfl, rfl⟩, rfl, S, Mod.refl _ _, S, fun _ => False, fun _ h => h, fun _ h => h.elim, fun _ _ h => h, ?_, trivial⟩
    simpa [iV] using h
  · have hg := (Array.getElem?_eq_some_iff.1 h3).1
    have hH : Holds (Value.int .i64) w g off l.toArray := by
      intro j hj
      have hj' : j < l.length := by simpa using hj
      refine ⟨?_, by simp [World.frozen?, h3]⟩
      have h1 : ((cur.toList.drop off).take (l.length * 1))[j]? = (iV l)[j]? := by rw [h7]
      rw [List.getElem?_take_of_lt (by omega), List.getElem?_drop] at h1
      simp only [World.cell?, h3]
      simp only [Option.isSome_none, Bool.false_eq_true, if_false]
      rw [← Array.getElem?_toList, h1]
      simp [iV, hj']
    have c := AnyM.slices_Sort_int Try.sortInts g off cap l w hH hg hlen
    change Calls Try.prog 74 _ _ _ at c
    refine Calls.mono c ?_
    rintro e' w' ⟨rfl, n, os, rfl⟩
    refine ⟨_, _, ⟨rfl, rfl⟩, rfl, S, ⟨rfl, rfl, rfl, Nat.le_add_right _ _, by simp, fun k hk hS => ?_, fun k h => .inl h⟩, S, fun _ => False, fun _ h => h, fun _ h => h.elim, fun _ _ h => h, ?_, trivial⟩
    · rw [heap_grow_old _ _ (by simpa using hk)]
      have : g ≠ k := fun e => hS (by rw [← e]; exact h2)
      simp [putRow, mapBlock, Sort.ahead, Array.getElem?_modify, this]
    · have hlen' : (l.mergeSort fun x y => decide (x ≤ y)).length = l.length := List.length_mergeSort _
      refine ⟨by simp [iV], .inr (.inl ⟨g, off, cap, putCells (Value.int .i64) off (l.mergeSort fun x y => decide (x ≤ y)).toArray cur, rfl, h2, ?_, h4, h5, by simp [putCells, h6], ?_⟩)⟩
      · rw [heap_grow_old _ _ (by simpa using hg)]
        simp [putRow, mapBlock, Sort.ahead, Array.getElem?_modify, h3, onCells]
      · have := putCells_take cur off (l.mergeSort fun x y => decide (x ≤ y)) (by rw [hlen', h6]; omega)
        rw [hlen'] at this
        rw [Nat.mul_one]
        exact this
  · have hl : l = [] := List.eq_nil_of_length_eq_zero h0
    subst hl
    have c := AnyM.slices_Sort_int_none Try.sortInts (some a0) 0 w
    change Calls Try.prog 74 _ _ _ at c
    refine Calls.mono c ?_
    rintro e' w' ⟨rfl, hw⟩
    subst hw
    refine ⟨_, _, ⟨rfl, rfl⟩, rfl, S, Mod.refl _ _, S, fun _ => False, fun _ h => h, fun _ h => h.elim, fun _ _ h => h, ?_, trivial⟩
    simpa [iV] using h
theorem nat_sort (l : List Nat) : (l.map fun (k : Nat) => (k : Int)).mergeSort (fun x y => decide (x ≤ y)) = (l.mergeSort fun x y => decide (x ≤ y)).map fun (k : Nat) => (k : Int) := by
  exact (List.map_mergeSort (r := fun (x y : Nat) => decide (x ≤ y)) (s := fun (x y : Int) => decide (x ≤ y)) (f := fun (k : Nat) => (k : Int)) (fun a _ b _ => by simp)).symm
theorem nsort_row {w : World} {v : Value} {e : TypeId} {l : List Nat} {S : FS} (h : (rowHP v e 1 l.length (nV l)).sat S w) (hlen : l.length < 4611686018427387904) :
    Calls Try.prog 74 #[v] w (Post w S fun r L' => r = .tuple #[] ∧ L' = [rowHP v e 1 l.length (nV (l.mergeSort fun x y => decide (x ≤ y)))]) := by
  have e1 : ∀ l : List Nat, nV l = iV (l.map fun (k : Nat) => (k : Int)) := fun l => by simp [nV, iV]
  rw [e1] at h
  have := sort_row (l := l.map fun (k : Nat) => (k : Int)) (by simpa using h) (by simpa using hlen)
  rw [nat_sort, List.length_map] at this
  simpa only [e1] using this
end Go.Sl
end
section
namespace Go.Sl
open Go Go.RowKit
theorem made1 {z : Value} {z0 : Value} (hz : z.cells = #[z0]) (m : Nat) : (madeCells z.cells (m * 1)).toList = List.replicate m z0 := by
  rw [hz]
  apply List.ext_getElem?
  intro k
  simp only [madeCells, Nat.mul_one, Array.toList_map, Array.toList_range, List.getElem?_map, List.getElem?_replicate]
  by_cases hk : k < m
  · simp [hk, Nat.mod_one]
  · simp [hk]
def rowN (h : Value) (l : List Nat) : HP := rowHP h 3 1 l.length (nV l)
theorem rowN_snoc (h : Value) (l : List Nat) (x : Nat) : rowHP h 3 1 (l.length + 1) (nV l ++ [.int .i64 (x : Int)]) = rowN h (l ++ [x]) := by simp [rowN, nV]
end Go.Sl
namespace Go.Proofs.Ytpajjnkmaebhcaa
open Go.RowKit Go.Sl Fil
set_option maxRecDepth 100000
set_option maxHeartbeats 8000000
set_option linter.unusedVariables false
set_option linter.unusedSimpArgs false
attribute [local irreducible] Code.wp wpList bodyPost wpQuiet Exit.then Exit.inBlock Post wpAnyH wpOp
theorem Near_ok (n : Int) (v : Value) (es : List E) (w : World) (hs : Shp v es.length) (hr : RO w No v (esV es)) (hR : RightG n es) :
    Calls Try.prog 54 #[.agg #[.int .i64 n, v]] w (Post w No fun r L' => ∃ hs : List Value, hs.length = n.toNat ∧ L' = [rowHP r 36 1 n.toNat hs, starHP (kids rowN hs ((List.range n.toNat).map (nearS (tn es))))]) := by
  have hR0 := right_iff.2 hR
  have hm : es.length < 4611686018427387904 := by have := hR.many; omega
  refine enter0 (vs := [_]) Try.func54 rfl Try.ntmps54 rfl ?_
  repeat' first
    | refine k_then ?_
    | refine c_seq ?_
    | refine c_region ?_
    | refine s_nil ?_
    | refine s_assign (by exact rfl) (by exact rfl) ?_
    | refine s_ldk_box (by exact rfl) (by exact rfl) (by exact .head _) (by exact rfl) (by exact rfl) ?_
    | refine o_box (by exact rfl) (by exact rfl) (fun b => ?_)
  refine s_call (by exact rfl) (by exact rfl) (fun w h => Right_ok n v es w hs (ro_old h hr) hm) ?_
  repeat' first
    | refine k_then ?_
    | refine c_seq ?_
    | refine c_region ?_
    | refine s_nil ?_
    | refine s_fa (by exact rfl) (by exact rfl) ?_
    | refine s_ld_box (by exact rfl) (by exact rfl) (by exact .head _) (by exact rfl) ?_
    | refine s_neq (by exact rfl) (by exact rfl) (by exact rfl) ?_
    | refine c_skip ?_
    | (refine c_cond_p (by exact rfl) (fun h => ?_) (fun h => ?_) <;> try (exfalso; omega))
  have hlo := hR.lo
  have hhi := hR.hi
  refine o_make (by exact rfl) (by exact rfl) (by exact rfl) (by omega) (by omega) fun vo hvo => ?_
  rw [made1 rfl]
  repeat' first
    | refine k_then ?_
    | refine c_seq ?_
    | refine c_region ?_
    | refine s_nil ?_
    | refine s_move (by exact rfl) (by exact rfl) ?_
    | refine s_assign (by exact rfl) (by exact rfl) ?_
    | refine s_fa (by exact rfl) (by exact rfl) ?_
    | refine s_ld_box (by exact rfl) (by exact rfl) (by exact .tail _ (.head _)) (by exact rfl) ?_
    | refine s_len (by exact rfl) (by exact rfl) (by assumption) ?_
    | refine c_block ?_
  refine c_nils 3 1 n.toNat ?_
  refine c_loop (fun x : Nat × List Value => x.1 ≤ es.length ∧ x.2.length = n.toNat) (fun x => [(3, vo), (15, v), (16, .int .i64 (es.length : Int)), (17, .int .i64 (x.1 : Int))]) (fun x => [rowHP vo 36 1 n.toNat x.2, starHP (kids rowN x.2 (nears n.toNat (tn (es.take x.1))))]) (fun x => es.length - x.1) (0, List.replicate n.toNat (.slice none 0 0)) [1, 0] ⟨by omega, by simp⟩ ?_ ⟨rfl, rfl, rfl, rfl, trivial⟩ ?_
  · show _ = some [_, starHP (kids rowN _ (nears n.toNat []))]
    rw [nears_zero, kids_nils]
    rfl
  rintro ⟨k, hs0⟩ ⟨hk, hl0⟩
  dsimp only at hk hl0 ⊢
  by_cases hlt : k < es.length
  · obtain ⟨e, he⟩ : ∃ e, es[k]? = some e := ⟨_, List.getElem?_eq_getElem hlt⟩
    have hE := esV_at he
    obtain ⟨q1, q2, q3, -, -⟩ := hR.ok e (List.mem_of_getElem? he)
    have hsn := nears_snoc (N := n.toNat) (l := tn (es.take k)) (u := e.1.toNat) (v := e.2.1.toNat) (by omega) (by omega) (by omega)
    rw [← tn_take he] at hsn
    generalize hls : nears n.toNat (tn (es.take k)) = ls at *
    have hb : ∀ u, (nb (tn (es.take k)) u).length ≤ 4194304 := fun u => by
      have := nb_length (tn (es.take k)) u
      have h2 := hR.many
      simp only [tn, List.length_map, List.length_take] at this
      simp only [tn] at this ⊢
      omega
    repeat' first
      | refine k_then ?_
      | refine c_seq ?_
      | refine c_region ?_
      | refine s_nil ?_
      | refine s_lss (by exact rfl) (by exact rfl) (by exact rfl) ?_
      | refine s_idx (by exact rfl) (by exact rfl) (by exact rfl) (by assumption) (by first | assumption | omega) ?_
      | refine s_ldk_ro (by exact rfl) (by exact rfl) (by assumption) (by decide) (by assumption) (by exact rfl) ?_
      | refine o_alloc (by exact rfl) (fun b => ?_)
      | refine c_block ?_
      | refine c_skip ?_
      | (refine c_cond_p (by exact rfl) (fun h => ?_) (fun h => ?_) <;> try (exfalso; omega))
    refine o_stk_box (i := 0) (us := eV e) (by exact rfl) (by exact rfl) (by exact rfl) (by exact rfl) (by exact rfl) (by simp [eV, Value.oneCell']) (by simp [Value.cells]) ?_
    repeat' first
      | refine k_then ?_
      | refine c_seq ?_
      | refine s_nil ?_
    refine c_cut (fun hs1 : List Value => hs1.length = n.toNat) (fun _ => [(5, .pointer (some ⟨b, 0, none⟩)), (3, vo), (15, v), (16, .int .i64 (es.length : Int)), (17, .int .i64 (k : Int))]) (fun hs1 => [boxHP b 60 (eV e), rowHP vo 36 1 n.toNat hs1, starHP (kids rowN hs1 (ls.set e.1.toNat ((nb (tn (es.take k)) e.1.toNat) ++ [e.2.1.toNat])))]) ?_ fun hs1 hl1 => ?_
    · obtain ⟨hd, hhd⟩ : ∃ hd, hs0[e.1.toNat * 1]? = some hd := ⟨_, List.getElem?_eq_getElem (by omega)⟩
      have hkid : (ls)[e.1.toNat]? = some (nb (tn (es.take k)) e.1.toNat) := by rw [← hls]; exact nears_get (by omega)
      refine c_take 2 e.1.toNat (by exact rfl) (kids_get (by simpa using hhd) hkid) ?_
      refine p_begin [(0, true), (1, true), (2, true), (3, true), (4, true), (5, true), (6, true), (8, true), (9, true), .rd 7 10, (11, false), (12, true), (13, false)] [boxHP b 60 (eV e)] (by kernel_rfl) ?_
      repeat' first
        | (refine p_at (by exact rfl) ?_
           first
            | refine t_move (by exact rfl) (by exact rfl) (by exact fun _ h => h.pick [1] (by exact rfl)) ?_
            | refine t_fa (by exact rfl) (by exact rfl) (by exact fun _ h => h.pick [1] (by exact rfl)) ?_
            | refine t_ld_box (by exact rfl) (by exact rfl) (by exact .head _) (by exact rfl) (by exact fun _ h => h.pick [1] (by exact rfl)) ?_
            | refine t_idxi (by exact rfl) (by exact rfl) (by exact rfl) (by assumption) (by first | assumption | omega) (by exact fun _ h => h.pick [1] (by exact rfl)) ?_)
      refine p_rd ?_ ?_
      all_goals
        repeat' first
          | (refine p_at (by exact rfl) ?_
             first
              | refine r_ld_row (by exact rfl) (by exact rfl) (by exact .tail _ (.tail _ (.head _))) (by assumption) (by exact fun _ h => h.pick [1] (by exact rfl)) ?_)
        refine p_mk [_] (by exact rfl) rfl (by exact rfl) rfl ?_ ?_ (by simp) (fun w A h => h.pick [2] (by exact rfl)) (fun sx hsx => ?_)
        · simp [Value.cells]
        · simp
        repeat' first
          | (refine p_at (by exact rfl) ?_
             first
              | refine r_ld_row (by exact rfl) (by exact rfl) (by exact .tail _ (.tail _ (.tail _ (.head _)))) (by assumption) (by exact fun _ h => h.pick [2] (by exact rfl)) ?_)
        refine p_append_row (j := 1) (by exact rfl) rfl (by exact rfl) (by exact rfl) (by exact rfl) (by exact .head _) (by exact rfl) (by simp [Value.cells, Value.oneCell']) ?_ (fun w v h => h.pick [2] (by exact rfl)) (fun vk hvk => ?_)
        · have := hb e.1.toNat
          simp only [List.length_cons, List.length_nil]
          omega
        repeat' first
          | (refine p_at (by exact rfl) ?_
             first
              | refine t_idxi (by exact rfl) (by exact rfl) (by exact rfl) (by assumption) (by first | assumption | omega) (by exact fun _ h => h.pick [2] (by exact rfl)) ?_)
        refine p_st_row (j := 3) (by exact rfl) (by exact rfl) (by exact rfl) (by exact rfl) hvk.one (by omega) (fun w h => h.pick [2] (by exact rfl)) ?_
        repeat' first
          | refine p_nil ?_
        refine c_pick [1, 1, 1, 1] (by exact rfl) ?_
        have e1 : rowHP vk 3 1 ((nb (tn (es.take k)) e.1.toNat).length + 1) (nV (nb (tn (es.take k)) e.1.toNat) ++ [Value.int .i64 e.2.1]) = rowN vk ((nb (tn (es.take k)) e.1.toNat) ++ [e.2.1.toNat]) := by
          rw [show (e.2.1 : Int) = ((e.2.1.toNat : Nat) : Int) from by omega]
          exact rowN_snoc _ _ _
        refine c_give 2 e.1.toNat (by exact rfl) (by simp [kids, hl0, ← hls, nears]; omega) ?_
        refine cut_end (hs0.set e.1.toNat vk) [0, 0, 0] ?_ ⟨rfl, rfl, rfl, rfl, rfl, trivial⟩ (by simpa using hl0)
        rw [← kids_set (x := empHP), ← e1, Nat.mul_one]
        rfl
    repeat' first
      | refine k_then ?_
    refine c_cut (fun hs1 : List Value => hs1.length = n.toNat) (fun _ => [(5, .pointer (some ⟨b, 0, none⟩)), (3, vo), (15, v), (16, .int .i64 (es.length : Int)), (17, .int .i64 (k : Int))]) (fun hs1 => [boxHP b 60 (eV e), rowHP vo 36 1 n.toNat hs1, starHP (kids rowN hs1 ((ls.set e.1.toNat ((nb (tn (es.take k)) e.1.toNat) ++ [e.2.1.toNat])).set e.2.1.toNat ((nb (tn (es.take k)) e.2.1.toNat) ++ [e.1.toNat])))]) ?_ fun hs2 hl2 => ?_
    · obtain ⟨hd, hhd⟩ : ∃ hd, hs1[e.2.1.toNat * 1]? = some hd := ⟨_, List.getElem?_eq_getElem (by omega)⟩
      have hkid : (ls.set e.1.toNat ((nb (tn (es.take k)) e.1.toNat) ++ [e.2.1.toNat]))[e.2.1.toNat]? = some (nb (tn (es.take k)) e.2.1.toNat) := by rw [List.getElem?_set_ne (by omega), ← hls]; exact nears_get (by omega)
      refine c_take 2 e.2.1.toNat (by exact rfl) (kids_get (by simpa using hhd) hkid) ?_
      refine p_begin [(0, true), (1, true), (2, true), (3, true), (4, true), (5, true), (6, true), (8, true), (9, true), .rd 7 10, (11, false), (12, true), (13, false)] [boxHP b 60 (eV e)] (by kernel_rfl) ?_
      repeat' first
        | (refine p_at (by exact rfl) ?_
           first
            | refine t_move (by exact rfl) (by exact rfl) (by exact fun _ h => h.pick [1] (by exact rfl)) ?_
            | refine t_fa (by exact rfl) (by exact rfl) (by exact fun _ h => h.pick [1] (by exact rfl)) ?_
            | refine t_ld_box (by exact rfl) (by exact rfl) (by exact .head _) (by exact rfl) (by exact fun _ h => h.pick [1] (by exact rfl)) ?_
            | refine t_idxi (by exact rfl) (by exact rfl) (by exact rfl) (by assumption) (by first | assumption | omega) (by exact fun _ h => h.pick [1] (by exact rfl)) ?_)
      refine p_rd ?_ ?_
      all_goals
        repeat' first
          | (refine p_at (by exact rfl) ?_
             first
              | refine r_ld_row (by exact rfl) (by exact rfl) (by exact .tail _ (.tail _ (.head _))) (by assumption) (by exact fun _ h => h.pick [1] (by exact rfl)) ?_)
        refine p_mk [_] (by exact rfl) rfl (by exact rfl) rfl ?_ ?_ (by simp) (fun w A h => h.pick [2] (by exact rfl)) (fun sx hsx => ?_)
        · simp [Value.cells]
        · simp
        repeat' first
          | (refine p_at (by exact rfl) ?_
             first
              | refine r_ld_row (by exact rfl) (by exact rfl) (by exact .tail _ (.tail _ (.tail _ (.head _)))) (by assumption) (by exact fun _ h => h.pick [2] (by exact rfl)) ?_)
        refine p_append_row (j := 1) (by exact rfl) rfl (by exact rfl) (by exact rfl) (by exact rfl) (by exact .head _) (by exact rfl) (by simp [Value.cells, Value.oneCell']) ?_ (fun w v h => h.pick [2] (by exact rfl)) (fun vk hvk => ?_)
        · have := hb e.2.1.toNat
          simp only [List.length_cons, List.length_nil]
          omega
        repeat' first
          | (refine p_at (by exact rfl) ?_
             first
              | refine t_idxi (by exact rfl) (by exact rfl) (by exact rfl) (by assumption) (by first | assumption | omega) (by exact fun _ h => h.pick [2] (by exact rfl)) ?_)
        refine p_st_row (j := 3) (by exact rfl) (by exact rfl) (by exact rfl) (by exact rfl) hvk.one (by omega) (fun w h => h.pick [2] (by exact rfl)) ?_
        repeat' first
          | refine p_nil ?_
        refine c_pick [1, 1, 1, 1] (by exact rfl) ?_
        have e1 : rowHP vk 3 1 ((nb (tn (es.take k)) e.2.1.toNat).length + 1) (nV (nb (tn (es.take k)) e.2.1.toNat) ++ [Value.int .i64 e.1]) = rowN vk ((nb (tn (es.take k)) e.2.1.toNat) ++ [e.1.toNat]) := by
          rw [show (e.1 : Int) = ((e.1.toNat : Nat) : Int) from by omega]
          exact rowN_snoc _ _ _
        refine c_give 2 e.2.1.toNat (by exact rfl) (by simp [kids, hl1, ← hls, nears]; omega) ?_
        refine cut_end (hs1.set e.2.1.toNat vk) [0, 0, 0] ?_ ⟨rfl, rfl, rfl, rfl, rfl, trivial⟩ (by simpa using hl1)
        rw [← kids_set (x := empHP), ← e1, Nat.mul_one]
        rfl
    repeat' first
      | refine k_then ?_
      | refine c_region ?_
      | refine s_nil ?_
      | refine s_move (by exact rfl) (by exact rfl) ?_
      | refine s_add (by exact rfl) (by exact rfl) (by exact rfl) (by omega) ?_
      | refine k_blk ?_
    refine c_round (k + 1, hs2) [1, 1] (by rw [hsn]; rfl) (by exact ⟨rfl, rfl, rfl, rfl, trivial⟩) ⟨by omega, hl2⟩ (by dsimp only; omega)
  · repeat' first
      | refine k_then ?_
      | refine c_seq ?_
      | refine c_region ?_
      | refine s_nil ?_
      | refine s_move (by exact rfl) (by exact rfl) ?_
      | refine s_lss (by exact rfl) (by exact rfl) (by exact rfl) ?_
      | refine s_len (by exact rfl) (by exact rfl) (by assumption) ?_
      | refine c_block ?_
      | refine c_exit ?_
      | refine k_then_exit ?_
      | refine k_blk_eq ?_
      | (refine c_cond_p (by exact rfl) (fun h => ?_) (fun h => ?_) <;> try (exfalso; omega))
    have hkl : k = es.length := by omega
    subst hkl
    rw [List.take_length]
    refine c_loop (fun i : Nat => i ≤ n.toNat) (fun i => [(3, vo), (48, vo), (49, .int .i64 (n.toNat : Int)), (50, .int .i64 (i : Int))]) (fun i => [rowHP vo 36 1 n.toNat hs0, starHP (kids rowN hs0 (sorted n.toNat (tn es) i))]) (fun i => n.toNat - i) 0 [0, 0] (Nat.zero_le _) (by rw [sorted_zero]; rfl) ⟨rfl, rfl, rfl, rfl, trivial⟩ ?_
    intro i hi
    by_cases hlt2 : i < n.toNat
    · obtain ⟨hd, hhd⟩ : ∃ hd, hs0[i * 1]? = some hd := ⟨_, List.getElem?_eq_getElem (by omega)⟩
      have hk1 : (kids rowN hs0 (sorted n.toNat (tn es) i))[i]? = some (rowN hd (nb (tn es) i)) := kids_get (by simpa using hhd) (sorted_get hlt2)
      repeat' first
        | refine k_then ?_
        | refine c_seq ?_
        | refine c_region ?_
        | refine s_nil ?_
        | refine s_move (by exact rfl) (by exact rfl) ?_
        | refine s_assign (by exact rfl) (by exact rfl) ?_
        | refine s_lss (by exact rfl) (by exact rfl) (by exact rfl) ?_
        | refine s_idx (by exact rfl) (by exact rfl) (by exact rfl) (by assumption) (by first | assumption | omega) ?_
        | refine s_ld_row (by exact rfl) (by exact rfl) (by exact .head _) (by assumption) ?_
        | refine c_block ?_
        | refine c_skip ?_
        | (refine c_cond_p (by exact rfl) (fun h => ?_) (fun h => ?_) <;> try (exfalso; omega))
      refine c_take 1 i (by exact rfl) hk1 ?_
      refine s_lend [rowN hd (nb (tn es) i)] _ (by exact rfl) (by exact rfl) (by exact rfl) (fun w S h => nsort_row (sats_mem h.own (.head _)) (by have := nb_length (tn es) i; have h2 := hR.many; simp only [tn, List.length_map] at this; simp only [tn]; omega)) ?_
      rintro _ _ ⟨rfl, rfl⟩
      repeat' first
        | refine k_then ?_
        | refine c_region ?_
        | refine s_nil ?_
        | refine s_move (by exact rfl) (by exact rfl) ?_
        | refine s_add (by exact rfl) (by exact rfl) (by exact rfl) (by omega) ?_
        | refine k_blk ?_
      have e1 : rowHP hd 3 1 (nb (tn es) i).length (nV ((nb (tn es) i).mergeSort fun x y => decide (x ≤ y))) = rowN hd (nearS (tn es) i) := by
        simp [rowN, nearS]
      refine c_give (L := [_, _]) 1 i (by exact rfl) (by rw [List.length_set, kids_length (by simp [sorted, hl0])]; simpa [sorted] using hlt2) ?_
      refine c_round (i + 1) [0, 0] ?_ (by exact ⟨rfl, rfl, rfl, rfl, trivial⟩) (by omega) (by omega)
      rw [sorted_succ hlt2, ← kids_set2 (x := empHP) (by simpa using hhd), ← e1]
      rfl
    · repeat' first
        | refine k_then ?_
        | refine c_seq ?_
        | refine c_region ?_
        | refine s_nil ?_
        | refine s_move (by exact rfl) (by exact rfl) ?_
        | refine s_assign (by exact rfl) (by exact rfl) ?_
        | refine s_lss (by exact rfl) (by exact rfl) (by exact rfl) ?_
        | refine c_exit ?_
        | refine c_ret ?_
        | refine k_then_exit ?_
        | refine k_blk_eq ?_
        | (refine c_cond_p (by exact rfl) (fun h => ?_) (fun h => ?_) <;> try (exfalso; omega))
      obtain rfl : i = n.toNat := by omega
      refine ret1 [0, 0] rfl rfl rfl ⟨hs0, hl0, ?_⟩
      rw [sorted_all]
end Go.Proofs.Ytpajjnkmaebhcaa
end
section
namespace Go.Sl
open Go Go.RowKit
def bV (l : List Bool) : List Value := l.map Value.bool
theorem bV_get {l : List Bool} {k : Nat} (h : k < l.length) : (bV l)[k * 1]? = some (.bool (l.getD k false)) := by
  simp [bV, h]
theorem nV_get {l : List Nat} {k : Nat} (h : k < l.length) : (nV l)[k * 1]? = some (.int .i64 ((l.getD k 0 : Nat) : Int)) := by
  simp [nV, h]
theorem bV_set (l : List Bool) (k : Nat) (b : Bool) : (bV l).set (k * 1) (.bool b) = bV (l.set k b) := by simp [bV, List.map_set]
theorem nV_set (l : List Nat) (k x : Nat) : (nV l).set (k * 1) (.int .i64 (x : Int)) = nV (l.set k x) := by simp [nV, List.map_set]
theorem iV_get {l : List Int} {k : Nat} (h : k < l.length) : (iV l)[k * 1]? = some (.int .i64 (l.getD k 0)) := by
  simp [iV, h]
theorem nV_iV (l : List Nat) : nV l = iV (l.map fun (k : Nat) => (k : Int)) := by simp [nV, iV]
end Go.Sl
namespace Go.Proofs.Ytpajjnkmaebhcaa
open Go.RowKit Go.Sl Fil
theorem esV_snoc (l : List E) (e : E) : esV (l ++ [e]) = esV l ++ eV e := by simp [esV, List.flatMap_append]
end Go.Proofs.Ytpajjnkmaebhcaa
end
section
namespace Go.Sl
open Go.RowKit
section
variable {P : Program} {w0 : World} {S0 : FS} {n : Nat} {F : List (Nat × Value)} {L : List HP} {rest : List Oper} {ops : Array Oper} {Q : Exit → Act → World → Prop} {d i : Nat} {v : Value} {ty : TypeId} {ps : String} {af : Array Edge} {o : Oper} {x : Operand} {t t' e : TypeId} {z : Value} {sz bytes : Nat}
end
end Go.Sl
namespace Go.Proofs.Ytpajjnkmaebhcaa
open Go.RowKit Go.Sl Fil
set_option maxRecDepth 100000
set_option maxHeartbeats 8000000
set_option linter.unusedVariables false
set_option linter.unusedSimpArgs false
attribute [local irreducible] Code.wp wpList bodyPost wpQuiet Exit.then Exit.inBlock Post wpAnyH wpOp
end Go.Proofs.Ytpajjnkmaebhcaa
end
section
namespace Fil
def fillL {α : Type} (g : Nat → α) (d : α) (N i : Nat) : List α := (List.range N).map fun j => if j < i then g j else d
theorem fill_zero {α : Type} (g : Nat → α) (d : α) (N : Nat) : fillL g d N 0 = List.replicate N d := by
  simp [fillL, List.map_const']
theorem fillL_all {α : Type} (g : Nat → α) (d : α) (N : Nat) : fillL g d N N = (List.range N).map g := by
  apply List.map_congr_left
  intro u hu
  rw [if_pos (by simpa using hu)]
theorem fill_set {α : Type} (g : Nat → α) (d : α) {N i : Nat} (hi : i < N) : (fillL g d N i).set i (g i) = fillL g d N (i + 1) := by
  apply List.ext_getElem?
  intro k
  simp only [fillL, List.getElem?_set, List.getElem?_map, List.length_map, List.length_range]
  by_cases hk : k < N
  · rw [List.getElem?_eq_getElem (by simpa using hk)]
    simp only [List.getElem_range, Option.map_some]
    by_cases h1 : i = k
    · subst h1; simp [hi]
    · rw [if_neg h1]
      by_cases h2 : k < i
      · rw [if_pos h2, if_pos (by omega)]
      · rw [if_neg h2, if_neg (by omega)]
  · rw [List.getElem?_eq_none (by simpa using hk)]
    have : i ≠ k := by omega
    simp [this]
theorem countP_lt {α : Type} {p q : α → Bool} (hpq : ∀ x, p x = true → q x = true) : ∀ {l : List α} {x : α}, x ∈ l → p x = false → q x = true → l.countP p + 1 ≤ l.countP q
  | y :: l, x, hx, h1, h2 => by
    have mono : l.countP p ≤ l.countP q := List.countP_mono_left fun x _ h => hpq x h
    simp only [List.countP_cons]
    rcases List.mem_cons.1 hx with rfl | hx
    · rw [h1, h2]; simp; omega
    · have ih := countP_lt hpq hx h1 h2
      have : (if p y = true then 1 else 0) ≤ (if q y = true then 1 else 0) := by
        split
        · rename_i h; rw [if_pos (hpq y h)]; exact Nat.le_refl _
        · exact Nat.zero_le _
      omega
theorem Lev.lt {N : Nat} {A : Nat → List Nat} {o lab : Nat → Nat} (hA : Adj N A) (h : Lev N A o lab) : ∀ v, v < N → o v < N := by
  have down : ∀ k v, v < N → o v = k → ∀ j, j ≤ k → ∃ u, u < N ∧ o u = j := by
    intro k
    induction k with
    | zero => intro v hv hk j hj; exact ⟨v, hv, by omega⟩
    | succ k ih =>
      intro v hv hk j hj
      by_cases e : j = k + 1
      · exact ⟨v, hv, by omega⟩
      · obtain ⟨u, hu, hk'⟩ := h.up v k hv hk
        exact ih u (hA.lt v hv u hu) hk' j (by omega)
  intro v hv
  have cnt : ∀ j, j ≤ o v + 1 → j ≤ (List.range N).countP fun u => decide (o u < j) := by
    intro j
    induction j with
    | zero => intro _; exact Nat.zero_le _
    | succ j ih =>
      intro hj
      obtain ⟨u, hu, hoj⟩ := down (o v) v hv rfl j (by omega)
      have := countP_lt (p := fun u => decide (o u < j)) (q := fun u => decide (o u < j + 1)) (fun x hx => by simp at hx ⊢; omega) (List.mem_range.2 hu) (by simp [hoj]) (by simp [hoj])
      have := ih (by omega)
      omega
  have h1 := cnt (o v + 1) (Nat.le_refl _)
  have h2 := List.countP_le_length (l := List.range N) (p := fun u => decide (o u < o v + 1))
  rw [List.length_range] at h2
  omega
end Fil
end
section
set_option linter.unusedVariables false
namespace Fil
end Fil
end
section
namespace Go.Proofs.Ytpajjnkmaebhcaa
open Go.RowKit Go.Sl Fil
set_option maxRecDepth 100000
set_option maxHeartbeats 8000000
set_option linter.unusedVariables false
set_option linter.unusedSimpArgs false
attribute [local irreducible] Code.wp wpList bodyPost wpQuiet Exit.then Exit.inBlock Post wpAnyH wpOp
theorem values1I_ok (b : Nat) (v : Value) (xs : List Int) (w : World) (S : FS) (hb : RB w S b 36 [v]) (hs : Shp v xs.length) (hr : RO w S v (iV xs)) :
    IterOK Try.prog 80 [.pointer (some ⟨b, 0, none⟩)] xs.length (fun i => [.int .i64 (xs.getD i 0)]) w S := by
  intro l LL hy M hM hsat
  have hm := hs.1
  simp only [maxLen] at hm
  refine enter (vs := [_, _]) Try.func80 rfl Try.ntmps80 rfl hsat ?_
  repeat' first
    | refine k_then ?_
    | refine c_seq ?_
    | refine c_region ?_
    | refine s_nil ?_
    | refine s_move (by exact rfl) (by exact rfl) ?_
    | refine s_len (by exact rfl) (by exact rfl) (by assumption) ?_
    | refine s_ld_rb (by exact rfl) (by exact rfl) (by assumption) (by exact rfl) ?_
    | refine c_block ?_
  refine c_loop (fun x : Nat × List HP => x.1 ≤ xs.length ∧ LL x.1 x.2) (fun x => [(0, .func (.yield l) #[] #[]), (5, v), (6, .int .i64 (xs.length : Int)), (7, .int .i64 (x.1 : Int))]) (fun x => x.2) (fun x => xs.length - x.1) (0, M) (List.replicate M.length 0) ⟨by simp, hM⟩ (pick_id M) ⟨rfl, rfl, rfl, rfl, trivial⟩ ?_
  clear hM hsat
  rintro ⟨i, M⟩ ⟨hi, hM⟩
  dsimp only at hi hM ⊢
  by_cases hil : i < xs.length
  · have hci := iV_get hil
    generalize hreg : Code.region 3 _ _ = creg
    repeat' first
      | refine k_then ?_
      | refine c_seq ?_
      | refine c_region ?_
      | refine s_nil ?_
      | refine s_assign (by exact rfl) (by exact rfl) ?_
      | refine s_lss (by exact rfl) (by exact rfl) (by exact rfl) ?_
      | refine s_idx (by exact rfl) (by exact rfl) (by exact rfl) (by assumption) (by first | assumption | omega) ?_
      | refine s_ld_ro (by exact rfl) (by exact rfl) (by assumption) (by assumption) ?_
      | refine c_block ?_
      | refine c_skip ?_
      | (refine c_cond_p (by exact rfl) (fun h => ?_) (fun h => ?_) <;> try (exfalso; omega))
    subst hreg
    refine c_region_k 2 (by exact rfl) ?_
    simp only [List.take_succ_cons, List.take_zero, List.drop_succ_cons, List.drop_zero]
    repeat' first
      | refine k_then ?_
      | refine s_nil ?_
      | refine s_move (by exact rfl) (by exact rfl) ?_
    refine y_yield (K := LL (i + 1)) (by exact rfl) rfl (vs := [.int .i64 (xs.getD i 0)]) (by exact rfl) (fun W S' hm hs => hy i M W S' hil hM hm hs) fun M' hM' => ?_
    refine y_rest (by exact rfl) ?_
    repeat' first
      | refine k_then ?_
      | refine c_region ?_
      | refine s_nil ?_
      | refine s_move (by exact rfl) (by exact rfl) ?_
      | refine s_add (by exact rfl) (by exact rfl) (by exact rfl) (by omega) ?_
      | refine s_not (by exact rfl) (by exact rfl) ?_
      | refine c_skip ?_
      | refine k_blk ?_
      | refine c_cond_f (by exact rfl) ?_
    refine c_round (i + 1, M') (List.replicate M'.length 0) (pick_id M') ⟨rfl, rfl, rfl, rfl, trivial⟩ ⟨by dsimp only; omega, hM'⟩ (by dsimp only; omega)
  · repeat' first
      | refine k_then ?_
      | refine c_seq ?_
      | refine c_region ?_
      | refine s_nil ?_
      | refine s_lss (by exact rfl) (by exact rfl) (by exact rfl) ?_
      | refine c_exit ?_
      | refine k_then_exit ?_
      | refine k_blk_eq ?_
      | (refine c_cond_p (by exact rfl) (fun h => ?_) (fun h => ?_) <;> try (exfalso; omega))
    obtain rfl : i = xs.length := by omega
    refine ret0 (List.replicate M.length 0) rfl (pick_id M) hM
theorem appendSeqI_ok (it : FuncId) (caps : List Value) (xs : List Int) (w : World) [FnTy Try.prog it] (hN : xs.length ≤ 1048576)
    (hit : ∀ w' S' Sf, Mod w No w' Sf → (∀ k, S' k → Sf k) → IterOK Try.prog it caps xs.length (fun i => [.int .i64 (xs.getD i 0)]) w' S') :
    Calls Try.prog 94 #[.slice none 0 0, .func (.func it) #[] caps.toArray] w (Post w No fun r L' => L' = [rowHP r 3 1 xs.length (iV xs)]) := by
  refine enterM0 (vs := [_, _]) Try.func94 rfl Try.ntmps94 rfl ?_
  generalize hrest : Code.rangeFunc _ _ _ _ = crange
  repeat' first
    | refine k_then ?_
    | refine c_seq ?_
    | refine c_region ?_
    | refine s_nil ?_
    | refine s_move (by exact rfl) (by exact rfl) ?_
    | refine s_assign (by exact rfl) (by exact rfl) ?_
    | refine o_box (by exact rfl) (by exact rfl) (fun b => ?_)
    | refine c_block ?_
  subst hrest
  refine c_nil 3 1 ?_
  refine c_range (ps := [7]) it caps _ [] xs.length (fun i => [.int .i64 (xs.getD i 0)]) (fun i M => i ≤ xs.length ∧ ∃ vi, M = [rowHP vi 3 1 i (iV (xs.take i)), boxHP b 36 [vi]]) (List.append_nil _).symm (by exact rfl) (by exact rfl) (fun _ => rfl) (fun w' S' M h => by
    obtain ⟨Sf, hm, hS⟩ := h.old
    exact hit w' S' Sf hm hS) ⟨Nat.zero_le _, .slice none 0 0, rfl⟩ ?_ ?_
  · rintro i _ _ W S' l D r m hi ⟨_, vi, rfl⟩ rfl hlent hst
    obtain ⟨x, hx⟩ : ∃ x, xs[i]? = some x := ⟨_, List.getElem?_eq_getElem hi⟩
    have hg : xs.getD i 0 = x := by rw [List.getD_eq_getElem?_getD, hx]; rfl
    have htk : xs.take (i + 1) = xs.take i ++ [x] := by rw [List.take_add_one, hx]; rfl
    rw [hg]
    simp only [List.zip_cons_cons, List.zip_nil_left, List.reverse_cons, List.reverse_nil, List.nil_append, List.cons_append]
    refine x_region (by exact rfl) ?_
    repeat' first
      | refine k_then ?_
      | refine s_nil ?_
      | refine s_assign (by exact rfl) (by exact rfl) ?_
    refine r_begin (j := 0) rfl hst ?_
    refine x_block ?_
    refine x_region (by exact rfl) ?_
    repeat' first
      | refine s_move (by exact rfl) (by exact rfl) ?_
      | refine s_ld_box (by exact rfl) (by exact rfl) (by exact .tail _ (.tail _ (.tail _ (.head _)))) (by exact rfl) ?_
    refine o_mk [.int .i64 x] (by exact rfl) (by exact rfl) rfl (by simp [Value.cells]) (by simp) (by simp) fun vt hvt => ?_
    skip
    refine o_append_row (bytes := 8) (i := 3) (by exact rfl) (by exact rfl) (by exact rfl) (by exact rfl) (by exact .head _) (by exact rfl) (by simp [Value.cells, Value.oneCell']) (by omega) fun v3 hv3 => ?_
    skip
    refine o_st_box (i := 4) (by exact rfl) (by exact rfl) (by exact rfl) hv3.one (by simp) ?_
    repeat' first
      | refine s_nil ?_
      | refine k_blk ?_
    refine r_end (j := 1) [1, 1, 1, 1] rfl rfl fun W2 h2 => ⟨rfl, ?_⟩
    obtain ⟨S2, hm2, hl2⟩ := h2
    refine ⟨_, S2, ⟨_, ⟨by omega, v3, rfl⟩, rfl⟩, hm2, ?_⟩
    rw [htk, show iV (xs.take i ++ [x]) = iV (xs.take i) ++ [.int .i64 x] by simp [iV]]
    exact hl2
  · rintro _ l D r ⟨_, vi, rfl⟩
    refine know_row (v := vi) (.tail _ (.tail _ (.head _))) fun hvi _ => ?_
    refine m_blk ?_
    refine m_then ?_
    refine m_seq ?_
    refine m_region (by exact rfl) ?_
    repeat' first
      | refine s_nil ?_
      | refine s_assign (by exact rfl) (by exact rfl) ?_
      | refine s_ld_box (by exact rfl) (by exact rfl) (by exact .tail _ (.tail _ (.tail _ (.head _)))) (by exact rfl) ?_
    refine m_then ?_
    refine m_ret ?_
    refine m_end (j := 1) rfl ?_
    refine ret1 [2] rfl rfl rfl ?_
    rw [List.take_length]
theorem Values_ok (v : Value) (w : World) (hv : v.oneCell' = true) : Calls Try.prog 57 #[v] w (Post w No fun r L' => ∃ b, r = .func (.func 80) #[] #[.pointer (some ⟨b, 0, none⟩)] ∧ L' = [boxHP b 36 [v]]) := by
  refine enter0 (vs := [_]) Try.func57 rfl Try.ntmps57 rfl ?_
  repeat' first
    | refine k_then ?_
    | refine c_seq ?_
    | refine c_region ?_
    | refine s_nil ?_
    | refine s_assign (by exact rfl) (by exact rfl) ?_
    | refine o_box (by exact rfl) (by exact rfl) (fun b => ?_)
  refine o_mkf [] [.pointer (some ⟨b, 0, none⟩)] (by exact rfl) (by exact rfl) (by exact rfl) ?_
  repeat' first
    | refine k_then ?_
    | refine s_nil ?_
    | refine s_assign (by exact rfl) (by exact rfl) ?_
    | refine c_ret ?_
  rw [one_cells hv]
  refine ret1 [0] rfl rfl rfl ⟨b, rfl, rfl⟩
theorem CollectI_ok (it : FuncId) (caps : List Value) (xs : List Int) (w : World) [FnTy Try.prog it] (hN : xs.length ≤ 1048576)
    (hit : ∀ w' S' Sf, Mod w No w' Sf → (∀ k, S' k → Sf k) → IterOK Try.prog it caps xs.length (fun i => [.int .i64 (xs.getD i 0)]) w' S') :
    Calls Try.prog 79 #[.func (.func it) #[] caps.toArray] w (Post w No fun r L' => L' = [rowHP r 3 1 xs.length (iV xs)]) := by
  refine enter0 (vs := [_]) Try.func79 rfl Try.ntmps79 rfl ?_
  repeat' first
    | refine k_then ?_
    | refine c_seq ?_
    | refine c_region ?_
    | refine s_nil ?_
    | refine s_move (by exact rfl) (by exact rfl) ?_
    | refine s_assign (by exact rfl) (by exact rfl) ?_
  refine o_call (by exact rfl) (by exact rfl) (fun w1 h => appendSeqI_ok it caps xs w1 hN fun w' S' Sf hm hS => h.mod0.elim fun S1 hm1 => hit w' S' _ (mod_trans0 hm1 hm) fun k hk => .inr (hS k hk)) ?_
  rintro vo _ rfl
  repeat' first
    | refine k_then ?_
    | refine s_nil ?_
    | refine s_assign (by exact rfl) (by exact rfl) ?_
    | refine c_ret ?_
  refine ret1 [0] rfl rfl rfl rfl
theorem SortedI_ok (it : FuncId) (caps : List Value) (xs : List Int) (w : World) [FnTy Try.prog it] (hN : xs.length ≤ 1048576)
    (hit : ∀ w' S' Sf, Mod w No w' Sf → (∀ k, S' k → Sf k) → IterOK Try.prog it caps xs.length (fun i => [.int .i64 (xs.getD i 0)]) w' S') :
    Calls Try.prog 56 #[.func (.func it) #[] caps.toArray] w (Post w No fun r L' => L' = [rowHP r 3 1 xs.length (iV (xs.mergeSort fun x y => decide (x ≤ y)))]) := by
  refine enter0 (vs := [_]) Try.func56 rfl Try.ntmps56 rfl ?_
  repeat' first
    | refine k_then ?_
    | refine c_seq ?_
    | refine c_region ?_
    | refine s_nil ?_
    | refine s_move (by exact rfl) (by exact rfl) ?_
    | refine s_assign (by exact rfl) (by exact rfl) ?_
  refine o_call (by exact rfl) (by exact rfl) (fun w1 h => CollectI_ok it caps xs w1 hN fun w' S' Sf hm hS => h.mod0.elim fun S1 hm1 => hit w' S' _ (mod_trans0 hm1 hm) fun k hk => .inr (hS k hk)) ?_
  rintro vo _ rfl
  repeat' first
    | refine k_then ?_
    | refine c_seq ?_
    | refine c_region ?_
    | refine s_nil ?_
    | refine s_move (by exact rfl) (by exact rfl) ?_
    | refine s_assign (by exact rfl) (by exact rfl) ?_
  refine s_lend [rowHP vo 3 1 xs.length (iV xs)] _ (by exact rfl) (by exact rfl) (by exact rfl) (fun w S h => sort_row (sats_mem h.own (.head _)) (by omega)) ?_
  rintro _ _ ⟨rfl, rfl⟩
  repeat' first
    | refine k_then ?_
    | refine c_seq ?_
    | refine c_region ?_
    | refine s_nil ?_
    | refine s_move (by exact rfl) (by exact rfl) ?_
    | refine s_assign (by exact rfl) (by exact rfl) ?_
    | refine c_ret ?_
  refine ret1 [0] rfl rfl rfl rfl
end Go.Proofs.Ytpajjnkmaebhcaa
end
section
namespace Go.Proofs.Ytpajjnkmaebhcaa
open Go.RowKit Go.Sl Fil
set_option maxRecDepth 100000
set_option maxHeartbeats 8000000
set_option linter.unusedVariables false
set_option linter.unusedSimpArgs false
attribute [local irreducible] Code.wp wpList bodyPost wpQuiet Exit.then Exit.inBlock Post wpAnyH wpOp
theorem esV_get {es : List E} {k : Nat} {e : E} (h : es[k]? = some e) : (esV es)[k * 3 + 0]? = some (.int .i64 e.1) ∧ (esV es)[k * 3 + 1]? = some (.int .i64 e.2.1) ∧ (esV es)[k * 3 + 2]? = some (.int .i64 e.2.2) := by
  have h1 := esV_at h
  have key : ∀ j, j < 3 → (esV es)[k * 3 + j]? = (eV e)[j]? := fun j hj => by
    rw [← h1, List.getElem?_take, if_pos hj, List.getElem?_drop]
  exact ⟨key 0 (by omega), key 1 (by omega), key 2 (by omega)⟩
theorem many_ok (n m : Int) (w : World) : Calls Try.prog 70 #[.int .i64 n, .int .i64 m] w (Post w No (Just (.int .i64 (sizesK n m)))) := by
  refine enter0 (vs := [_, _]) Try.func70 rfl Try.ntmps70 rfl ?_
  repeat' first
    | refine k_then ?_
    | refine c_seq ?_
    | refine c_region ?_
    | refine s_nil ?_
    | refine s_move (by exact rfl) (by exact rfl) ?_
    | refine s_assign (by exact rfl) (by exact rfl) ?_
    | refine s_lss (by exact rfl) (by exact rfl) (by exact rfl) ?_
    | refine s_gtr (by exact rfl) (by exact rfl) (by exact rfl) ?_
    | refine s_pick_t (by exact rfl) (by exact rfl) (by exact rfl) ?_
    | refine s_pick_f (by exact rfl) (by exact rfl) (by exact rfl) ?_
    | refine c_skip ?_
    | refine c_ret ?_
    | refine k_then_ret ?_
    | (refine c_cond_p (by exact rfl) (fun h => ?_) (fun h => ?_) <;> try (exfalso; omega))
    | refine c_cond_t (by exact rfl) ?_
    | (refine g_case (by exact rfl) (by exact rfl) (fun h => ?_) (fun h => ?_) <;> try (exfalso; omega))
    | refine g_skip (by exact rfl) (by exact rfl) (by exact rfl) (by exact rfl) ?_
    | refine w_move (by exact rfl) (by exact rfl) (by exact rfl) (by exact rfl) ?_
    | refine w_gtr (by exact rfl) (by exact rfl) (by exact rfl) (by exact rfl) (by exact rfl) ?_
  all_goals refine ret1 [] rfl rfl rfl ⟨?_, rfl⟩
  all_goals (refine congrArg (Value.int .i64) ?_; simp only [sizesK]; repeat' split)
  all_goals omega
theorem edge_ok (n : Int) (e : E) (w : World) : Calls Try.prog 71 #[.int .i64 n, .agg (eV e).toArray] w (Post w No (Just (.int .i64 (aloneK n e.1 e.2.1 e.2.2)))) := by
  refine enter0 (vs := [_, _]) Try.func71 rfl Try.ntmps71 rfl ?_
  repeat' first
    | refine k_then ?_
    | refine c_seq ?_
    | refine c_region ?_
    | refine s_nil ?_
    | refine s_move (by exact rfl) (by exact rfl) ?_
    | refine s_assign (by exact rfl) (by exact rfl) ?_
    | refine s_fa (by exact rfl) (by exact rfl) ?_
    | refine s_ld_box (by exact rfl) (by exact rfl) (by exact .head _) (by exact rfl) ?_
    | refine s_lss (by exact rfl) (by exact rfl) (by exact rfl) ?_
    | refine s_leq (by exact rfl) (by exact rfl) (by exact rfl) ?_
    | refine s_eql (by exact rfl) (by exact rfl) (by exact rfl) ?_
    | refine s_pick_t (by exact rfl) (by exact rfl) (by exact rfl) ?_
    | refine s_pick_f (by exact rfl) (by exact rfl) (by exact rfl) ?_
    | refine o_box (by exact rfl) (by exact rfl) (fun b => ?_)
    | refine c_skip ?_
    | refine c_ret ?_
    | refine k_then_ret ?_
    | (refine c_cond_p (by exact rfl) (fun h => ?_) (fun h => ?_) <;> try (exfalso; omega))
    | refine c_cond_t (by exact rfl) ?_
    | (refine g_case (by exact rfl) (by exact rfl) (fun h => ?_) (fun h => ?_) <;> try (exfalso; omega))
    | refine g_skip (by exact rfl) (by exact rfl) (by exact rfl) (by exact rfl) ?_
    | refine w_move (by exact rfl) (by exact rfl) (by exact rfl) (by exact rfl) ?_
    | refine w_fa (by exact rfl) (by exact rfl) (by exact rfl) (by exact rfl) ?_
    | refine w_ld_box (by exact rfl) (by exact rfl) (by exact rfl) (by exact rfl) (by exact .head _) (by exact rfl) ?_
    | refine w_lss (by exact rfl) (by exact rfl) (by exact rfl) (by exact rfl) (by exact rfl) ?_
    | refine w_geq (by exact rfl) (by exact rfl) (by exact rfl) (by exact rfl) (by exact rfl) ?_
  all_goals refine ret1 [] rfl rfl rfl ⟨?_, rfl⟩
  all_goals (refine congrArg (Value.int .i64) ?_; simp only [aloneK]; repeat' split)
  all_goals omega
theorem below_ok (a b : E) (w : World) : Calls Try.prog 72 #[.agg (eV a).toArray, .agg (eV b).toArray] w (Post w No (Just (.bool (belowB a b)))) := by
  refine enter0 (vs := [_, _]) Try.func72 rfl Try.ntmps72 rfl ?_
  repeat' first
    | refine k_then ?_
    | refine c_seq ?_
    | refine c_region ?_
    | refine s_nil ?_
    | refine s_move (by exact rfl) (by exact rfl) ?_
    | refine s_assign (by exact rfl) (by exact rfl) ?_
    | refine s_fa (by exact rfl) (by exact rfl) ?_
    | refine s_ld_box (by exact rfl) (by exact rfl) (by first | exact .head _ | exact .tail _ (.head _)) (by exact rfl) ?_
    | refine s_lss (by exact rfl) (by exact rfl) (by exact rfl) ?_
    | refine s_pick_t (by exact rfl) (by exact rfl) (by exact rfl) ?_
    | refine s_pick_f (by exact rfl) (by exact rfl) (by exact rfl) ?_
    | refine o_box (by exact rfl) (by exact rfl) (fun b => ?_)
    | refine c_ret ?_
    | (refine g_case (by exact rfl) (by exact rfl) (fun h => ?_) (fun h => ?_) <;> try (exfalso; omega))
    | refine g_skip (by exact rfl) (by exact rfl) (by exact rfl) (by exact rfl) ?_
    | refine w_move (by exact rfl) (by exact rfl) (by exact rfl) (by exact rfl) ?_
    | refine w_fa (by exact rfl) (by exact rfl) (by exact rfl) (by exact rfl) ?_
    | refine w_ld_box (by exact rfl) (by exact rfl) (by exact rfl) (by exact rfl) (by first | exact .head _ | exact .tail _ (.head _)) (by exact rfl) ?_
    | refine w_lss (by exact rfl) (by exact rfl) (by exact rfl) (by exact rfl) (by exact rfl) ?_
    | refine w_eql (by exact rfl) (by exact rfl) (by exact rfl) (by exact rfl) (by exact rfl) ?_
    | refine w_pick_t (by exact rfl) (by exact rfl) (by exact rfl) (by exact rfl) (by exact rfl) ?_
    | refine w_pick_f (by exact rfl) (by exact rfl) (by exact rfl) (by exact rfl) (by exact rfl) ?_
  all_goals refine ret1 [] rfl rfl rfl ⟨?_, rfl⟩
  all_goals (refine congrArg Value.bool ?_; simp only [belowB])
  all_goals simp_all
theorem refRight_ok (n : Int) (v : Value) (es : List E) (w : World) (hs : Shp v es.length) (hr : RO w No v (esV es)) (hm : es.length < 4611686018427387904) :
    Calls Try.prog 46 #[.agg #[.int .i64 n, v]] w (Post w No (Just (.int .i64 (rightK n es)))) := by
  refine enter0 (vs := [_]) Try.func46 rfl Try.ntmps46 rfl ?_
  repeat' first
    | refine k_then ?_
    | refine c_seq ?_
    | refine c_region ?_
    | refine s_nil ?_
    | refine s_assign (by exact rfl) (by exact rfl) ?_
    | refine s_fa (by exact rfl) (by exact rfl) ?_
    | refine s_ld_box (by exact rfl) (by exact rfl) (by exact .head _) (by exact rfl) ?_
    | refine s_len (by exact rfl) (by exact rfl) (by assumption) ?_
    | refine o_box (by exact rfl) (by exact rfl) (fun b => ?_)
  refine s_call (by exact rfl) (by exact rfl) (fun w hs => many_ok _ _ w) ?_
  repeat' first
    | refine k_then ?_
    | refine c_seq ?_
    | refine c_region ?_
    | refine s_nil ?_
    | refine s_move (by exact rfl) (by exact rfl) ?_
    | refine s_assign (by exact rfl) (by exact rfl) ?_
    | refine s_neq (by exact rfl) (by exact rfl) (by exact rfl) ?_
    | refine c_block ?_
    | refine c_skip ?_
    | refine c_ret ?_
    | refine k_then_ret ?_
    | (refine c_cond_p (by exact rfl) (fun h => ?_) (fun h => ?_) <;> try (exfalso; omega))
  · refine ret1 [] rfl rfl rfl ⟨congrArg (Value.int .i64) ?_, rfl⟩
    rw [rightK, if_neg h]
  · have h0 : sizesK n es.length = 0 := by simpa using h
    refine c_loop (fun k : Nat => k ≤ es.length ∧ scan n (prev es k) (es.drop k) = scan n none es) (fun k => [(1, .pointer (some ⟨b, 0, none⟩)), (4, .int .i64 (k : Int))]) (fun _ => [boxHP b 24 [.int .i64 n, v]]) (fun k => es.length - k) 0 [0] ⟨by omega, rfl⟩ rfl ⟨rfl, rfl, trivial⟩ ?_
    rintro k ⟨hk, hsc⟩
    by_cases hlt : k < es.length
    · obtain ⟨e, he⟩ : ∃ e, es[k]? = some e := ⟨_, List.getElem?_eq_getElem hlt⟩
      have hE := esV_at he
      obtain ⟨hE0, hE1, hE2⟩ := esV_get he
      rw [scan_at he] at hsc
      repeat' first
        | refine k_then ?_
        | refine c_seq ?_
        | refine c_region ?_
        | refine s_nil ?_
        | refine s_move (by exact rfl) (by exact rfl) ?_
        | refine s_fa (by exact rfl) (by exact rfl) ?_
        | refine s_ld_box (by exact rfl) (by exact rfl) (by exact .head _) (by exact rfl) ?_
        | refine s_lss (by exact rfl) (by exact rfl) (by exact rfl) ?_
        | refine s_len (by exact rfl) (by exact rfl) (by assumption) ?_
        | refine c_block ?_
        | refine c_skip ?_
        | (refine c_cond_p (by exact rfl) (fun h => ?_) (fun h => ?_) <;> try (exfalso; omega))
      refine p_begin0 [(0, true), (1, true), (2, true), (3, true), (4, true), (5, true), (6, true), (7, false), (8, true)] (by kernel_rfl) ?_
      repeat' first
        | (refine p_at (by exact rfl) ?_
           first
            | refine t_move (by exact rfl) (by exact rfl) (by exact fun _ h => h) ?_
            | refine t_fa (by exact rfl) (by exact rfl) (by exact fun _ h => h) ?_
            | refine t_ld_box (by exact rfl) (by exact rfl) (by exact .head _) (by exact rfl) (by exact fun _ h => h) ?_
            | refine t_idx (by exact rfl) (by exact rfl) (by exact rfl) (by assumption) (by first | assumption | omega) (by exact fun _ h => h) ?_
            | refine t_ldk_ro (by exact rfl) (by exact rfl) (by assumption) (by decide) (by assumption) (by exact rfl) (by exact fun _ h => h) ?_)
      refine p_call (gd := none) (by exact rfl) rfl (by exact rfl) (fun w hs => edge_ok n e w) (by exact fun _ h => h) ?_
      repeat' first
        | refine p_nil ?_
        | (refine p_at (by exact rfl) ?_
           first
            | refine t_assign (by exact rfl) (by exact rfl) (by exact fun _ h => h) ?_)
      repeat' first
        | refine k_then ?_
        | refine c_seq ?_
        | refine c_region ?_
        | refine s_nil ?_
        | refine s_move (by exact rfl) (by exact rfl) ?_
        | refine s_assign (by exact rfl) (by exact rfl) ?_
        | refine s_neq (by exact rfl) (by exact rfl) (by exact rfl) ?_
        | refine c_skip ?_
        | refine c_ret ?_
        | refine k_then_ret ?_
        | refine k_blk_ret ?_
        | (refine c_cond_p (by exact rfl) (fun h => ?_) (fun h => ?_) <;> try (exfalso; omega))
      · refine ret1 [] rfl rfl rfl ⟨congrArg (Value.int .i64) ?_, rfl⟩
        rw [rightK, if_pos h0, ← hsc, if_neg h]
      · refine p_begin0 [(0, true), (1, true), (2, true), (3, true), (4, true), (5, true), (6, true), (7, true), (8, true), (9, true), (10, true), (11, true), (12, true)] (by kernel_rfl) ?_
        repeat' first
          | refine p_nil ?_
          | (refine p_at (by exact rfl) ?_
             first
              | refine t_move (by exact rfl) (by exact rfl) (by exact fun _ h => h) ?_
              | refine t_fa (by exact rfl) (by exact rfl) (by exact fun _ h => h) ?_
              | refine t_ld_box (by exact rfl) (by exact rfl) (by exact .head _) (by exact rfl) (by exact fun _ h => h) ?_
              | refine t_gtr (by exact rfl) (by exact rfl) (by exact rfl) (by exact fun _ h => h) ?_
              | refine t_idx (by exact rfl) (by exact rfl) (by exact rfl) (by assumption) (by first | assumption | omega) (by exact fun _ h => h) ?_
              | refine t_fap (by exact rfl) (by exact rfl) (by assumption) (by omega) (by exact fun _ h => h) ?_
              | refine t_ld_ro (by exact rfl) (by exact rfl) (by assumption) (by assumption) (by exact fun _ h => h) ?_)
        repeat' first
          | refine k_then ?_
          | refine c_seq ?_
          | refine c_region ?_
          | refine s_nil ?_
          | refine s_assign (by exact rfl) (by exact rfl) ?_
          | refine c_skip ?_
          | refine c_ret ?_
          | refine k_then_ret ?_
          | refine k_blk_ret ?_
          | (refine c_cond_p (by exact rfl) (fun h => ?_) (fun h => ?_) <;> try (exfalso; omega))
        · refine ret1 [] rfl rfl rfl ⟨congrArg (Value.int .i64) ?_, rfl⟩
          rw [rightK, if_pos h0, ← hsc, if_pos (by omega), if_pos h]
        · refine p_begin0 [(0, true), (1, true), (2, true), (3, true), (4, true), (5, true), (6, true), (7, true), (8, true), (9, true), (10, true), (11, true), (12, true), (13, true), (14, false), (15, true), (16, true)] (by kernel_rfl) ?_
          by_cases hk0 : k = 0
          · subst hk0
            repeat' first
              | refine p_nil ?_
              | (refine p_at (by exact rfl) ?_
                 first
                  | refine t_move (by exact rfl) (by exact rfl) (by exact fun _ h => h) ?_
                  | refine t_gtr (by exact rfl) (by exact rfl) (by exact rfl) (by exact fun _ h => h) ?_
                  | refine t_pick_f (by exact rfl) (by exact rfl) (by exact rfl) (by exact fun _ h => h) ?_
                  | (refine t_case (by exact rfl) (by exact rfl) (fun h => ?_) (fun h => ?_) <;> try (exfalso; omega))
                  | refine t_skip (by exact rfl) (by exact rfl) (by exact rfl) (by exact rfl) (by exact fun _ h => h) ?_
                  | refine t_skipl (by exact rfl) (by exact rfl) (by exact rfl) (by exact rfl) (by exact fun _ h => h) ?_)
            repeat' first
              | refine k_then ?_
              | refine c_region ?_
              | refine s_nil ?_
              | refine s_move (by exact rfl) (by exact rfl) ?_
              | refine s_assign (by exact rfl) (by exact rfl) ?_
              | refine s_add (by exact rfl) (by exact rfl) (by exact rfl) (by omega) ?_
              | refine c_skip ?_
              | refine k_blk ?_
              | refine c_cond_f (by exact rfl) ?_
            refine c_round 1 [0] (by exact rfl) (by exact ⟨rfl, rfl, trivial⟩) ⟨by omega, ?_⟩ (by omega)
            rw [← hsc, if_pos (by omega), if_neg (by omega)]
            simp only [prev, Nat.one_ne_zero, if_false, Nat.sub_self, he, if_true, Nat.zero_add]
          · obtain ⟨q, hq⟩ : ∃ q, es[k - 1]? = some q := ⟨_, List.getElem?_eq_getElem (by omega)⟩
            have hQ : ((esV es).drop (((k : Int) - 1).toNat * 3)).take 3 = eV q := by
              rw [show ((k : Int) - 1).toNat = k - 1 from by omega]
              exact esV_at hq
            have hpr : prev es k = some q := by rw [prev, if_neg hk0, hq]
            rw [hpr] at hsc
            repeat' first
              | (refine p_at (by exact rfl) ?_
                 first
                  | refine t_move (by exact rfl) (by exact rfl) (by exact fun _ h => h) ?_
                  | refine t_gtr (by exact rfl) (by exact rfl) (by exact rfl) (by exact fun _ h => h) ?_
                  | refine tw_move (by exact rfl) (by exact rfl) (by exact rfl) (by exact rfl) (by exact fun _ h => h) ?_
                  | refine tw_fa (by exact rfl) (by exact rfl) (by exact rfl) (by exact rfl) (by exact fun _ h => h) ?_
                  | refine tw_ld_box (by exact rfl) (by exact rfl) (by exact rfl) (by exact rfl) (by exact .head _) (by exact rfl) (by exact fun _ h => h) ?_
                  | refine tw_sub (by exact rfl) (by exact rfl) (by exact rfl) (by exact rfl) (by exact rfl) (by omega) (by exact fun _ h => h) ?_
                  | refine tw_idx (by exact rfl) (by exact rfl) (by exact rfl) (by exact rfl) (by exact rfl) (by assumption) (by first | assumption | omega) (by exact fun _ h => h) ?_
                  | refine tw_idxi (by exact rfl) (by exact rfl) (by exact rfl) (by exact rfl) (by exact rfl) (by assumption) (by first | assumption | omega) (by exact fun _ h => h) ?_
                  | refine tw_ldk_ro (by exact rfl) (by exact rfl) (by exact rfl) (by exact rfl) (by assumption) (by decide) (by assumption) (by exact rfl) (by exact fun _ h => h) ?_
                  | (refine t_case (by exact rfl) (by exact rfl) (fun h => ?_) (fun h => ?_) <;> try (exfalso; omega)))
            refine p_callw (by exact rfl) (by exact rfl) (by exact rfl) rfl (by exact rfl) (fun w hs => below_ok q e w) (by exact fun _ h => h) ?_
            have hb1 := orderK_below q e
            have hrg := orderK_range q e
            cases hbl : belowB q e
            · have ho : orderK q e ≠ -1 := fun hh => by rw [hb1.1.2 hh] at hbl; simp at hbl
              repeat' first
                | refine p_nil ?_
                | (refine p_at (by exact rfl) ?_
                   first
                    | refine t_pick_t (by exact rfl) (by exact rfl) (by exact rfl) (by exact fun _ h => h) ?_
                    | refine tw_not (by exact rfl) (by exact rfl) (by exact rfl) (by exact rfl) (by exact fun _ h => h) ?_)
              repeat' first
                | refine k_then ?_
                | refine c_seq ?_
                | refine c_cond_t (by exact rfl) ?_
              refine p_begin0 [(0, true), (1, true), (2, true), (3, true), (4, true), (5, true), (6, true), (7, true), (8, true), (9, true), (10, true), (11, false)] (by kernel_rfl) ?_
              repeat' first
                | (refine p_at (by exact rfl) ?_
                   first
                    | refine t_move (by exact rfl) (by exact rfl) (by exact fun _ h => h) ?_
                    | refine t_fa (by exact rfl) (by exact rfl) (by exact fun _ h => h) ?_
                    | refine t_ld_box (by exact rfl) (by exact rfl) (by exact .head _) (by exact rfl) (by exact fun _ h => h) ?_
                    | refine t_sub (by exact rfl) (by exact rfl) (by exact rfl) (by omega) (by exact fun _ h => h) ?_
                    | refine t_idx (by exact rfl) (by exact rfl) (by exact rfl) (by assumption) (by first | assumption | omega) (by exact fun _ h => h) ?_
                    | refine t_idxi (by exact rfl) (by exact rfl) (by exact rfl) (by assumption) (by first | assumption | omega) (by exact fun _ h => h) ?_
                    | refine t_ldk_ro (by exact rfl) (by exact rfl) (by assumption) (by decide) (by assumption) (by exact rfl) (by exact fun _ h => h) ?_)
              refine p_call (gd := none) (by exact rfl) rfl (by exact rfl) (fun w hs => below_ok e q w) (by exact fun _ h => h) ?_
              cases hbl2 : belowB e q
              · have ho2 : orderK q e ≠ 1 := fun hh => by rw [hb1.2.2 hh] at hbl2; simp at hbl2
                repeat' first
                  | refine p_nil ?_
                repeat' first
                  | refine k_then ?_
                  | refine c_seq ?_
                  | refine c_region ?_
                  | refine s_nil ?_
                  | refine s_assign (by exact rfl) (by exact rfl) ?_
                  | refine c_skip ?_
                  | refine c_ret ?_
                  | refine k_then_ret ?_
                  | refine k_blk_ret ?_
                  | refine c_cond_f (by exact rfl) ?_
                refine ret1 [] rfl rfl rfl ⟨congrArg (Value.int .i64) ?_, rfl⟩
                rw [rightK, if_pos h0, ← hsc, if_pos (by omega), if_neg (by omega)]
                dsimp only
                rw [if_pos (by omega)]
              · have ho2 := hb1.2.1 hbl2
                repeat' first
                  | refine p_nil ?_
                repeat' first
                  | refine k_then ?_
                  | refine c_seq ?_
                  | refine c_region ?_
                  | refine s_nil ?_
                  | refine s_assign (by exact rfl) (by exact rfl) ?_
                  | refine c_ret ?_
                  | refine k_then_ret ?_
                  | refine k_blk_ret ?_
                  | refine c_cond_t (by exact rfl) ?_
                refine ret1 [] rfl rfl rfl ⟨congrArg (Value.int .i64) ?_, rfl⟩
                rw [rightK, if_pos h0, ← hsc, if_pos (by omega), if_neg (by omega)]
                dsimp only
                rw [if_neg (by omega), if_pos (by omega)]
            · have ho := hb1.1.1 hbl
              repeat' first
                | refine p_nil ?_
                | (refine p_at (by exact rfl) ?_
                   first
                    | refine t_pick_t (by exact rfl) (by exact rfl) (by exact rfl) (by exact fun _ h => h) ?_
                    | refine tw_not (by exact rfl) (by exact rfl) (by exact rfl) (by exact rfl) (by exact fun _ h => h) ?_)
              repeat' first
                | refine k_then ?_
                | refine c_region ?_
                | refine s_nil ?_
                | refine s_move (by exact rfl) (by exact rfl) ?_
                | refine s_assign (by exact rfl) (by exact rfl) ?_
                | refine s_add (by exact rfl) (by exact rfl) (by exact rfl) (by omega) ?_
                | refine c_skip ?_
                | refine k_blk ?_
                | refine c_cond_f (by exact rfl) ?_
              refine c_round (k + 1) [0] (by exact rfl) (by exact ⟨rfl, rfl, trivial⟩) ⟨by omega, ?_⟩ (by omega)
              rw [← hsc, if_pos (by omega), if_neg (by omega)]
              simp only [prev, Nat.add_sub_cancel, he]
              rw [if_neg (by omega), if_neg (by omega), if_neg (by omega)]
    · repeat' first
        | refine k_then ?_
        | refine c_seq ?_
        | refine c_region ?_
        | refine s_nil ?_
        | refine s_move (by exact rfl) (by exact rfl) ?_
        | refine s_assign (by exact rfl) (by exact rfl) ?_
        | refine s_fa (by exact rfl) (by exact rfl) ?_
        | refine s_ld_box (by exact rfl) (by exact rfl) (by exact .head _) (by exact rfl) ?_
        | refine s_lss (by exact rfl) (by exact rfl) (by exact rfl) ?_
        | refine s_len (by exact rfl) (by exact rfl) (by assumption) ?_
        | refine c_exit ?_
        | refine c_ret ?_
        | refine k_then_exit ?_
        | refine k_blk_eq ?_
        | (refine c_cond_p (by exact rfl) (fun h => ?_) (fun h => ?_) <;> try (exfalso; omega))
      refine ret1 [] rfl rfl rfl ⟨congrArg (Value.int .i64) ?_, rfl⟩
      rw [rightK, if_pos h0, ← hsc, List.drop_eq_nil_of_le (by omega)]
      simp [scan]
theorem Ints_ok (a b : Value) (x y : List Int) (w : World) (ha : Shp a x.length) (hb : Shp b y.length) (hra : RO w No a (iV x)) (hrb : RO w No b (iV y)) :
    Calls Try.prog 21 #[a, b] w (Post w No (Just (.bool (decide (x = y))))) := by
  have hm := ha.1
  simp only [maxLen] at hm
  refine enter0 (vs := [_, _]) Try.func21 rfl Try.ntmps21 rfl ?_
  repeat' first
    | refine k_then ?_
    | refine c_seq ?_
    | refine c_region ?_
    | refine s_nil ?_
    | refine s_move (by exact rfl) (by exact rfl) ?_
    | refine s_assign (by exact rfl) (by exact rfl) ?_
    | refine s_neq (by exact rfl) (by exact rfl) (by exact rfl) ?_
    | refine s_len (by exact rfl) (by exact rfl) (by assumption) ?_
    | refine c_block ?_
    | refine c_skip ?_
    | refine c_ret ?_
    | refine k_then_ret ?_
    | (refine c_cond_p (by exact rfl) (fun h => ?_) (fun h => ?_) <;> try (exfalso; omega))
  · refine ret1 [] rfl rfl rfl ⟨congrArg Value.bool ?_, rfl⟩
    exact (decide_eq_false fun e => h (by rw [e])).symm
  · refine c_loop (fun k : Nat => k ≤ x.length ∧ x.take k = y.take k) (fun k => [(0, a), (1, b), (5, .int .i64 (k : Int))]) (fun _ => []) (fun k => x.length - k) 0 [] ⟨by omega, rfl⟩ rfl ⟨rfl, rfl, rfl, trivial⟩ ?_
    rintro k ⟨hk, hq⟩
    by_cases hlt : k < x.length
    · obtain ⟨c, hc⟩ : ∃ c, x[k]? = some c := ⟨_, List.getElem?_eq_getElem hlt⟩
      obtain ⟨d, hd⟩ : ∃ d, y[k]? = some d := ⟨_, List.getElem?_eq_getElem (by omega)⟩
      have h1 : (iV x)[k * 1]? = some (.int .i64 c) := by simp [iV, hc]
      have h2 : (iV y)[k * 1]? = some (.int .i64 d) := by simp [iV, hd]
      repeat' first
        | refine k_then ?_
        | refine c_seq ?_
        | refine c_region ?_
        | refine s_nil ?_
        | refine s_move (by exact rfl) (by exact rfl) ?_
        | refine s_lss (by exact rfl) (by exact rfl) (by exact rfl) ?_
        | refine s_len (by exact rfl) (by exact rfl) (by assumption) ?_
        | refine c_block ?_
        | refine c_skip ?_
        | (refine c_cond_p (by exact rfl) (fun h => ?_) (fun h => ?_) <;> try (exfalso; omega))
      refine p_begin0 [(0, true), (1, true), (2, true), (3, true), (4, true), (5, true), (6, true), (7, true), (8, true)] (by kernel_rfl) ?_
      repeat' first
        | refine p_nil ?_
        | (refine p_at (by exact rfl) ?_
           first
            | refine t_move (by exact rfl) (by exact rfl) (by exact fun _ h => h) ?_
            | refine t_neq (by exact rfl) (by exact rfl) (by exact rfl) (by exact fun _ h => h) ?_
            | refine t_idx (by exact rfl) (by exact rfl) (by exact rfl) (by assumption) (by first | assumption | omega) (by exact fun _ h => h) ?_
            | refine t_ld_ro (by exact rfl) (by exact rfl) (by assumption) (by assumption) (by exact fun _ h => h) ?_)
      repeat' first
        | refine k_then ?_
        | refine c_seq ?_
        | refine c_region ?_
        | refine s_nil ?_
        | refine s_move (by exact rfl) (by exact rfl) ?_
        | refine s_assign (by exact rfl) (by exact rfl) ?_
        | refine s_add (by exact rfl) (by exact rfl) (by exact rfl) (by omega) ?_
        | refine c_skip ?_
        | refine c_ret ?_
        | refine k_then_ret ?_
        | refine k_blk ?_
        | refine k_blk_ret ?_
        | (refine c_cond_p (by exact rfl) (fun h => ?_) (fun h => ?_) <;> try (exfalso; omega))
      · refine ret1 [] rfl rfl rfl ⟨congrArg Value.bool ?_, rfl⟩
        refine (decide_eq_false fun e => ?_).symm
        subst e
        rw [hc] at hd
        simp at hd
        omega
      · refine c_round (k + 1) [] (by exact rfl) (by exact ⟨rfl, rfl, rfl, trivial⟩) ⟨by omega, ?_⟩ (by omega)
        have : c = d := by omega
        subst this
        rw [List.take_add_one, List.take_add_one, hq, hc, hd]
    · repeat' first
        | refine k_then ?_
        | refine c_seq ?_
        | refine c_region ?_
        | refine s_nil ?_
        | refine s_move (by exact rfl) (by exact rfl) ?_
        | refine s_assign (by exact rfl) (by exact rfl) ?_
        | refine s_lss (by exact rfl) (by exact rfl) (by exact rfl) ?_
        | refine s_len (by exact rfl) (by exact rfl) (by assumption) ?_
        | refine c_exit ?_
        | refine c_ret ?_
        | refine k_then_exit ?_
        | refine k_blk_eq ?_
        | (refine c_cond_p (by exact rfl) (fun h => ?_) (fun h => ?_) <;> try (exfalso; omega))
      refine ret1 [] rfl rfl rfl ⟨congrArg Value.bool ?_, rfl⟩
      refine (decide_eq_true ?_).symm
      rw [List.take_of_length_le (by omega), List.take_of_length_le (by omega)] at hq
      exact hq
theorem Light_ok (n : Int) (v : Value) (m : Nat) (k : Int) (w : World) (hs : Shp v m) (hk : 0 ≤ k ∧ k < 1000000) :
    Calls Try.prog 42 #[.agg #[.int .i64 n, v], .int .i64 k] w (Post w No (Just (.bool (decide (n ≤ k) && decide ((m : Int) ≤ 4 * k))))) := by
  refine enter0 (vs := [_, _]) Try.func42 rfl Try.ntmps42 rfl ?_
  repeat' first
    | refine k_then ?_
    | refine c_seq ?_
    | refine c_region ?_
    | refine s_nil ?_
    | refine s_move (by exact rfl) (by exact rfl) ?_
    | refine s_assign (by exact rfl) (by exact rfl) ?_
    | refine s_fa (by exact rfl) (by exact rfl) ?_
    | refine s_ld_box (by exact rfl) (by exact rfl) (by exact .head _) (by exact rfl) ?_
    | refine s_leq (by exact rfl) (by exact rfl) (by exact rfl) ?_
    | refine s_pick_t (by exact rfl) (by exact rfl) (by exact rfl) ?_
    | refine s_pick_f (by exact rfl) (by exact rfl) (by exact rfl) ?_
    | refine o_box (by exact rfl) (by exact rfl) (fun b => ?_)
    | refine c_ret ?_
    | (refine g_case (by exact rfl) (by exact rfl) (fun h => ?_) (fun h => ?_) <;> try (exfalso; omega))
    | refine g_skip (by exact rfl) (by exact rfl) (by exact rfl) (by exact rfl) ?_
    | refine w_move (by exact rfl) (by exact rfl) (by exact rfl) (by exact rfl) ?_
    | refine w_fa (by exact rfl) (by exact rfl) (by exact rfl) (by exact rfl) ?_
    | refine w_ld_box (by exact rfl) (by exact rfl) (by exact rfl) (by exact rfl) (by exact .head _) (by exact rfl) ?_
    | refine w_leq (by exact rfl) (by exact rfl) (by exact rfl) (by exact rfl) (by exact rfl) ?_
    | refine w_mul (by exact rfl) (by exact rfl) (by exact rfl) (by exact rfl) (by exact rfl) (by omega) ?_
    | refine w_len (by exact rfl) (by exact rfl) (by exact rfl) (by exact rfl) (by assumption) ?_
  all_goals refine ret1 [] rfl rfl rfl ⟨?_, rfl⟩
  all_goals refine congrArg Value.bool ?_
  · rw [decide_eq_true h, Bool.true_and]
  · rw [decide_eq_false h, Bool.false_and]
end Go.Proofs.Ytpajjnkmaebhcaa
end
section
namespace Go.Sl
open Go Go.RowKit
/-- rows that are read, by rows of numbers -/
structure ROs (w : World) (S : FS) (v : Value) (hs : List Value) (ls : List (List Nat)) : Prop where
  shp : Shp v ls.length
  len : hs.length = ls.length
  ro : RO w S v hs
  kid : ∀ (i : Nat) h l, hs[i]? = some h → ls[i]? = some l → Shp h l.length ∧ RO w S h (nV l)
theorem ros_own {w0 w : World} {S0 : FS} {L : List HP} {v : Value} {e : TypeId} {m : Nat} {hs : List Value} {ls : List (List Nat)} (h : St w0 S0 L w) (hL : rowHP v e 1 m hs ∈ L) (hm : m = ls.length) (hK : starHP (kids rowN hs ls) ∈ L) : ROs w No v hs ls := by
  obtain ⟨S, hsat⟩ := h.mem hL
  have hl : hs.length = m := by have := hsat.1; omega
  refine ⟨hm ▸ rowHP_shp hsat, by omega, RO.of_rd (rowHP_rd hsat), fun i x l h1 h2 => ?_⟩
  have hk : rowHP x 3 1 l.length (nV l) ∈ kids rowN hs ls := kids_mem (f := rowN) h1 h2
  obtain ⟨S, hsat⟩ := h.kid hK hk
  exact ⟨rowHP_shp hsat, RO.of_rd (rowHP_rd hsat)⟩
theorem ros_old {w0 w : World} {S0 : FS} {L : List HP} {v : Value} {hs : List Value} {ls : List (List Nat)} (h : St w0 S0 L w) (hr : ROs w0 S0 v hs ls) : ROs w No v hs ls :=
  ⟨hr.shp, hr.len, ro_old h hr.ro, fun i x l h1 h2 => ⟨(hr.kid i x l h1 h2).1, ro_old h (hr.kid i x l h1 h2).2⟩⟩
end Go.Sl
namespace Go.Proofs.Ytpajjnkmaebhcaa
open Go.RowKit Go.Sl Fil
set_option maxRecDepth 100000
set_option maxHeartbeats 8000000
set_option linter.unusedVariables false
set_option linter.unusedSimpArgs false
attribute [local irreducible] Code.wp wpList bodyPost wpQuiet Exit.then Exit.inBlock Post wpAnyH wpOp
theorem IntsN_ok (a b : Value) (x y : List Nat) (w : World) (ha : Shp a x.length) (hb : Shp b y.length) (hra : RO w No a (nV x)) (hrb : RO w No b (nV y)) :
    Calls Try.prog 21 #[a, b] w (Post w No (Just (.bool (decide (x = y))))) := by
  have h := Ints_ok a b (x.map fun z : Nat => (z : Int)) (y.map fun z : Nat => (z : Int)) w (by simpa using ha) (by simpa using hb) (by rw [← nV_iV]; exact hra) (by rw [← nV_iV]; exact hrb)
  have e : (x.map (fun z : Nat => (z : Int)) = y.map fun z : Nat => (z : Int)) ↔ x = y := ⟨fun h => (List.map_inj_right (fun a b h => by omega)).1 h, fun h => by rw [h]⟩
  rwa [show decide (x.map (fun z : Nat => (z : Int)) = y.map fun z : Nat => (z : Int)) = decide (x = y) from decide_eq_decide.2 e] at h
end Go.Proofs.Ytpajjnkmaebhcaa
end
