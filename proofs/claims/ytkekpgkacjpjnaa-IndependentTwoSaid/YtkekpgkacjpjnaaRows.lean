/-
  No cell of these rows narrows 'for every input' (looked for: loops, veiled, ifaces, maps, wideKeys, modest, calm, conditions, laid).
  DERIVED. THE GIVEN ROWS OF THIS SEAT. 10 by the template 'for every input the law returns true; each argument reads behind the call as it read before'; 0 by the template 'total and deterministic' (their statements: YtkekpgkacjpjnaaTotals.lean).
  GIVEN WITH THE SEED: the statements are not yours to turn. If you find one false, say at which input.
  Laid BY PROGRAM, IN A SANDBOX (cutbox-rows.mjs): the forced cells as the released guide's own fill.sh prints them over the translation beccdb3fdfed250d… (all of the seat's roots in one cut). By AI agents, Wed Nov 11 2026. No macro, syntax, notation, axiom, sorry.
-/
import Derived.Test.YtkekpgkacjpjnaaChecked
import GoSem.Claim
import GoSem.ClaimJoined
import GoSem.ClaimMapViews
import Derived.JoinedTies
import Derived.KernelRfl
namespace Go.Proofs.Ytkekpgkacjpjnaa
/- THE CELL 'sum', in the pinned program and in every row, IS THE sha256 OF THE DUMP (.gsa) THAT YtkekpgkacjpjnaaProg.lean LOADS. Nothing in Lean hashes anything: it is a label: what it is worth is what the hold of that sum in a sandbox is worth. -/
noncomputable def Try.pinned : Pinned := { name := "ytkekpgkacjpjnaa", sum := "beccdb3fdfed250d9aaa72f1919d9d8751f2fb8cb0e1acc872d0bdec2a20a743", checked := Try.checked }
namespace Rows
def none {H : Type} : Left H := { results := [], args := [] }

/-- 'filigreelaw18.LevelsOf': WHATEVER THE INPUT: true; the input reads as it did. -/
def levelsOfSpec : ChangeSpec := { name := "levelsOf", fn := fun _ => fun
  | [d] => { results := [.lit (.bool true)], args := [d] }
  | _ => none }
def levelsOfRow : OpenClaim := { program := "ytkekpgkacjpjnaa", sum := "beccdb3fdfed250d9aaa72f1919d9d8751f2fb8cb0e1acc872d0bdec2a20a743", func := "filigree/filigreelaw18.LevelsOf", spec := "levelsOf", unfollowed := true, recurses := true, apart := false }
def LevelsOfSaid : Prop := levelsOfRow.holds Try.pinned (OpenSpec.ofChange levelsOfSpec)

/-- ITS FALSE NEIGHBOUR: 'it returns false'. Refute it at one input. -/
def levelsOfWrong : ChangeSpec := { name := "levelsOf", fn := fun _ => fun
  | [d] => { results := [.lit (.bool false)], args := [d] }
  | _ => none }
def LevelsOfWrongFalsely : Prop := levelsOfRow.holds Try.pinned (OpenSpec.ofChange levelsOfWrong)

/-- 'filigreelaw18.LevelsPieces': WHATEVER THE INPUT: true; the input reads as it did. -/
def levelsPiecesSpec : ChangeSpec := { name := "levelsPieces", fn := fun _ => fun
  | [d1, d2, d3] => { results := [.lit (.bool true)], args := [d1, d2, d3] }
  | _ => none }
def levelsPiecesRow : OpenClaim := { program := "ytkekpgkacjpjnaa", sum := "beccdb3fdfed250d9aaa72f1919d9d8751f2fb8cb0e1acc872d0bdec2a20a743", func := "filigree/filigreelaw18.LevelsPieces", spec := "levelsPieces", unfollowed := true, recurses := true, apart := false }
def LevelsPiecesSaid : Prop := levelsPiecesRow.holds Try.pinned (OpenSpec.ofChange levelsPiecesSpec)

/-- ITS FALSE NEIGHBOUR: 'it returns false'. Refute it at one input. -/
def levelsPiecesWrong : ChangeSpec := { name := "levelsPieces", fn := fun _ => fun
  | [d1, d2, d3] => { results := [.lit (.bool false)], args := [d1, d2, d3] }
  | _ => none }
def LevelsPiecesWrongFalsely : Prop := levelsPiecesRow.holds Try.pinned (OpenSpec.ofChange levelsPiecesWrong)

/-- 'filigreelaw18.LevelsOnce': WHATEVER THE INPUT: true; the input reads as it did. -/
def levelsOnceSpec : ChangeSpec := { name := "levelsOnce", fn := fun _ => fun
  | [d1, d2] => { results := [.lit (.bool true)], args := [d1, d2] }
  | _ => none }
def levelsOnceRow : OpenClaim := { program := "ytkekpgkacjpjnaa", sum := "beccdb3fdfed250d9aaa72f1919d9d8751f2fb8cb0e1acc872d0bdec2a20a743", func := "filigree/filigreelaw18.LevelsOnce", spec := "levelsOnce", unfollowed := true, recurses := true, apart := false }
def LevelsOnceSaid : Prop := levelsOnceRow.holds Try.pinned (OpenSpec.ofChange levelsOnceSpec)

/-- ITS FALSE NEIGHBOUR: 'it returns false'. Refute it at one input. -/
def levelsOnceWrong : ChangeSpec := { name := "levelsOnce", fn := fun _ => fun
  | [d1, d2] => { results := [.lit (.bool false)], args := [d1, d2] }
  | _ => none }
def LevelsOnceWrongFalsely : Prop := levelsOnceRow.holds Try.pinned (OpenSpec.ofChange levelsOnceWrong)

/-- 'filigreelaw18.LevelsThin': WHATEVER THE INPUT: true; the input reads as it did. -/
def levelsThinSpec : ChangeSpec := { name := "levelsThin", fn := fun _ => fun
  | [d1, d2, d3] => { results := [.lit (.bool true)], args := [d1, d2, d3] }
  | _ => none }
def levelsThinRow : OpenClaim := { program := "ytkekpgkacjpjnaa", sum := "beccdb3fdfed250d9aaa72f1919d9d8751f2fb8cb0e1acc872d0bdec2a20a743", func := "filigree/filigreelaw18.LevelsThin", spec := "levelsThin", unfollowed := true, recurses := true, apart := false }
def LevelsThinSaid : Prop := levelsThinRow.holds Try.pinned (OpenSpec.ofChange levelsThinSpec)

/-- ITS FALSE NEIGHBOUR: 'it returns false'. Refute it at one input. -/
def levelsThinWrong : ChangeSpec := { name := "levelsThin", fn := fun _ => fun
  | [d1, d2, d3] => { results := [.lit (.bool false)], args := [d1, d2, d3] }
  | _ => none }
def LevelsThinWrongFalsely : Prop := levelsThinRow.holds Try.pinned (OpenSpec.ofChange levelsThinWrong)

/-- 'filigreelaw19.IndependentChecks': WHATEVER THE INPUT: true; the input reads as it did. -/
def independentChecksSpec : ChangeSpec := { name := "independentChecks", fn := fun _ => fun
  | [d1, d2] => { results := [.lit (.bool true)], args := [d1, d2] }
  | _ => none }
def independentChecksRow : OpenClaim := { program := "ytkekpgkacjpjnaa", sum := "beccdb3fdfed250d9aaa72f1919d9d8751f2fb8cb0e1acc872d0bdec2a20a743", func := "filigree/filigreelaw19.IndependentChecks", spec := "independentChecks", unfollowed := true, recurses := true, apart := false }
def IndependentChecksSaid : Prop := independentChecksRow.holds Try.pinned (OpenSpec.ofChange independentChecksSpec)

/-- ITS FALSE NEIGHBOUR: 'it returns false'. Refute it at one input. -/
def independentChecksWrong : ChangeSpec := { name := "independentChecks", fn := fun _ => fun
  | [d1, d2] => { results := [.lit (.bool false)], args := [d1, d2] }
  | _ => none }
def IndependentChecksWrongFalsely : Prop := independentChecksRow.holds Try.pinned (OpenSpec.ofChange independentChecksWrong)

/-- 'filigreelaw19.IndependentMax': WHATEVER THE INPUT: true; the input reads as it did. -/
def independentMaxSpec : ChangeSpec := { name := "independentMax", fn := fun _ => fun
  | [d] => { results := [.lit (.bool true)], args := [d] }
  | _ => none }
def independentMaxRow : OpenClaim := { program := "ytkekpgkacjpjnaa", sum := "beccdb3fdfed250d9aaa72f1919d9d8751f2fb8cb0e1acc872d0bdec2a20a743", func := "filigree/filigreelaw19.IndependentMax", spec := "independentMax", unfollowed := true, recurses := true, apart := false }
def IndependentMaxSaid : Prop := independentMaxRow.holds Try.pinned (OpenSpec.ofChange independentMaxSpec)

/-- ITS FALSE NEIGHBOUR: 'it returns false'. Refute it at one input. -/
def independentMaxWrong : ChangeSpec := { name := "independentMax", fn := fun _ => fun
  | [d] => { results := [.lit (.bool false)], args := [d] }
  | _ => none }
def IndependentMaxWrongFalsely : Prop := independentMaxRow.holds Try.pinned (OpenSpec.ofChange independentMaxWrong)

/-- 'filigreelaw19.IndependentWidth': WHATEVER THE INPUT: true; the input reads as it did. -/
def independentWidthSpec : ChangeSpec := { name := "independentWidth", fn := fun _ => fun
  | [d] => { results := [.lit (.bool true)], args := [d] }
  | _ => none }
def independentWidthRow : OpenClaim := { program := "ytkekpgkacjpjnaa", sum := "beccdb3fdfed250d9aaa72f1919d9d8751f2fb8cb0e1acc872d0bdec2a20a743", func := "filigree/filigreelaw19.IndependentWidth", spec := "independentWidth", unfollowed := true, recurses := true, apart := false }
def IndependentWidthSaid : Prop := independentWidthRow.holds Try.pinned (OpenSpec.ofChange independentWidthSpec)

/-- ITS FALSE NEIGHBOUR: 'it returns false'. Refute it at one input. -/
def independentWidthWrong : ChangeSpec := { name := "independentWidth", fn := fun _ => fun
  | [d] => { results := [.lit (.bool false)], args := [d] }
  | _ => none }
def IndependentWidthWrongFalsely : Prop := independentWidthRow.holds Try.pinned (OpenSpec.ofChange independentWidthWrong)

/-- 'filigreelaw19.IndependentTwo': WHATEVER THE INPUT: true; the input reads as it did. -/
def independentTwoSpec : ChangeSpec := { name := "independentTwo", fn := fun _ => fun
  | [d] => { results := [.lit (.bool true)], args := [d] }
  | _ => none }
def independentTwoRow : OpenClaim := { program := "ytkekpgkacjpjnaa", sum := "beccdb3fdfed250d9aaa72f1919d9d8751f2fb8cb0e1acc872d0bdec2a20a743", func := "filigree/filigreelaw19.IndependentTwo", spec := "independentTwo", unfollowed := true, recurses := true, apart := false }
def IndependentTwoSaid : Prop := independentTwoRow.holds Try.pinned (OpenSpec.ofChange independentTwoSpec)

/-- ITS FALSE NEIGHBOUR: 'it returns false'. Refute it at one input. -/
def independentTwoWrong : ChangeSpec := { name := "independentTwo", fn := fun _ => fun
  | [d] => { results := [.lit (.bool false)], args := [d] }
  | _ => none }
def IndependentTwoWrongFalsely : Prop := independentTwoRow.holds Try.pinned (OpenSpec.ofChange independentTwoWrong)

/-- 'filigreelaw19.IndependentGreedy': WHATEVER THE INPUT: true; the input reads as it did. -/
def independentGreedySpec : ChangeSpec := { name := "independentGreedy", fn := fun _ => fun
  | [d] => { results := [.lit (.bool true)], args := [d] }
  | _ => none }
def independentGreedyRow : OpenClaim := { program := "ytkekpgkacjpjnaa", sum := "beccdb3fdfed250d9aaa72f1919d9d8751f2fb8cb0e1acc872d0bdec2a20a743", func := "filigree/filigreelaw19.IndependentGreedy", spec := "independentGreedy", unfollowed := true, recurses := true, apart := false }
def IndependentGreedySaid : Prop := independentGreedyRow.holds Try.pinned (OpenSpec.ofChange independentGreedySpec)

/-- ITS FALSE NEIGHBOUR: 'it returns false'. Refute it at one input. -/
def independentGreedyWrong : ChangeSpec := { name := "independentGreedy", fn := fun _ => fun
  | [d] => { results := [.lit (.bool false)], args := [d] }
  | _ => none }
def IndependentGreedyWrongFalsely : Prop := independentGreedyRow.holds Try.pinned (OpenSpec.ofChange independentGreedyWrong)

/-- 'filigreelaw19.IndependentFull': WHATEVER THE INPUT: true; the input reads as it did. -/
def independentFullSpec : ChangeSpec := { name := "independentFull", fn := fun _ => fun
  | [d1, d2] => { results := [.lit (.bool true)], args := [d1, d2] }
  | _ => none }
def independentFullRow : OpenClaim := { program := "ytkekpgkacjpjnaa", sum := "beccdb3fdfed250d9aaa72f1919d9d8751f2fb8cb0e1acc872d0bdec2a20a743", func := "filigree/filigreelaw19.IndependentFull", spec := "independentFull", unfollowed := true, recurses := true, apart := false }
def IndependentFullSaid : Prop := independentFullRow.holds Try.pinned (OpenSpec.ofChange independentFullSpec)

/-- ITS FALSE NEIGHBOUR: 'it returns false'. Refute it at one input. -/
def independentFullWrong : ChangeSpec := { name := "independentFull", fn := fun _ => fun
  | [d1, d2] => { results := [.lit (.bool false)], args := [d1, d2] }
  | _ => none }
def IndependentFullWrongFalsely : Prop := independentFullRow.holds Try.pinned (OpenSpec.ofChange independentFullWrong)

/- THE SECOND FORM. 'bulk': how many values and letters a reading holds, each counted each time it is reached (what is shared counts as often as it is met; a slice's spare places count too). A statement '..UptoSaid' is the law's where the arguments, and the package variables that the reading takes, are together of bulk at most 1048576: NARROWER than '..Said'. Prove '..Said' where nothing that the law and all that it calls make is longer than what came in: it says more and counts as full. Else prove '..UptoSaid'. A law counts once. -/
mutual
def uptoBulk {H : Type} : DataW H → Nat
  | .lit (.string bytes) => bytes.length + 1
  | .lit _ => 1
  | .nil => 1
  | .ptr d => uptoBulk d + 1
  | .slice elems spare => uptoBulkAll elems + uptoBulkAll spare + 1
  | .agg parts => uptoBulkAll parts + 1
  | .iface _ d => uptoBulk d + 1
  | .map entries => uptoBulkEntries entries + 1
  | .held _ => 1
def uptoBulkAll {H : Type} : List (DataW H) → Nat
  | [] => 0
  | d :: r => uptoBulk d + uptoBulkAll r
def uptoBulkEntries {H : Type} : List (Lit × DataW H) → Nat
  | [] => 0
  | x :: r => uptoBulkEntry x + uptoBulkEntries r
def uptoBulkEntry {H : Type} : Lit × DataW H → Nat
  | (.string bytes, d) => bytes.length + uptoBulk d + 1
  | (_, d) => uptoBulk d + 1
 end
def uptoSmall : (H : Type) → List (DataW H) → Bool := fun _ ds => decide (uptoBulkAll ds ≤ 1048576)
def OpenSpec.upto (s : _root_.Go.ChangeSpec) : _root_.Go.OpenSpec := { _root_.Go.OpenSpec.ofChange s with cond := some uptoSmall }

/-- 'filigreelaw18.LevelsOf', WHERE WHAT IT READS IS OF BULK AT MOST 1048576: true; the input reads as it did. -/
def levelsOfUptoRow : OpenClaim := { program := "ytkekpgkacjpjnaa", sum := "beccdb3fdfed250d9aaa72f1919d9d8751f2fb8cb0e1acc872d0bdec2a20a743", func := "filigree/filigreelaw18.LevelsOf", spec := "levelsOf", unfollowed := true, recurses := true, apart := false, narrowed := true }
def LevelsOfUptoSaid : Prop := levelsOfUptoRow.holds Try.pinned (OpenSpec.upto levelsOfSpec)

/-- 'filigreelaw18.LevelsPieces', WHERE WHAT IT READS IS OF BULK AT MOST 1048576: true; the input reads as it did. -/
def levelsPiecesUptoRow : OpenClaim := { program := "ytkekpgkacjpjnaa", sum := "beccdb3fdfed250d9aaa72f1919d9d8751f2fb8cb0e1acc872d0bdec2a20a743", func := "filigree/filigreelaw18.LevelsPieces", spec := "levelsPieces", unfollowed := true, recurses := true, apart := false, narrowed := true }
def LevelsPiecesUptoSaid : Prop := levelsPiecesUptoRow.holds Try.pinned (OpenSpec.upto levelsPiecesSpec)

/-- 'filigreelaw18.LevelsOnce', WHERE WHAT IT READS IS OF BULK AT MOST 1048576: true; the input reads as it did. -/
def levelsOnceUptoRow : OpenClaim := { program := "ytkekpgkacjpjnaa", sum := "beccdb3fdfed250d9aaa72f1919d9d8751f2fb8cb0e1acc872d0bdec2a20a743", func := "filigree/filigreelaw18.LevelsOnce", spec := "levelsOnce", unfollowed := true, recurses := true, apart := false, narrowed := true }
def LevelsOnceUptoSaid : Prop := levelsOnceUptoRow.holds Try.pinned (OpenSpec.upto levelsOnceSpec)

/-- 'filigreelaw18.LevelsThin', WHERE WHAT IT READS IS OF BULK AT MOST 1048576: true; the input reads as it did. -/
def levelsThinUptoRow : OpenClaim := { program := "ytkekpgkacjpjnaa", sum := "beccdb3fdfed250d9aaa72f1919d9d8751f2fb8cb0e1acc872d0bdec2a20a743", func := "filigree/filigreelaw18.LevelsThin", spec := "levelsThin", unfollowed := true, recurses := true, apart := false, narrowed := true }
def LevelsThinUptoSaid : Prop := levelsThinUptoRow.holds Try.pinned (OpenSpec.upto levelsThinSpec)

/-- 'filigreelaw19.IndependentChecks', WHERE WHAT IT READS IS OF BULK AT MOST 1048576: true; the input reads as it did. -/
def independentChecksUptoRow : OpenClaim := { program := "ytkekpgkacjpjnaa", sum := "beccdb3fdfed250d9aaa72f1919d9d8751f2fb8cb0e1acc872d0bdec2a20a743", func := "filigree/filigreelaw19.IndependentChecks", spec := "independentChecks", unfollowed := true, recurses := true, apart := false, narrowed := true }
def IndependentChecksUptoSaid : Prop := independentChecksUptoRow.holds Try.pinned (OpenSpec.upto independentChecksSpec)

/-- 'filigreelaw19.IndependentMax', WHERE WHAT IT READS IS OF BULK AT MOST 1048576: true; the input reads as it did. -/
def independentMaxUptoRow : OpenClaim := { program := "ytkekpgkacjpjnaa", sum := "beccdb3fdfed250d9aaa72f1919d9d8751f2fb8cb0e1acc872d0bdec2a20a743", func := "filigree/filigreelaw19.IndependentMax", spec := "independentMax", unfollowed := true, recurses := true, apart := false, narrowed := true }
def IndependentMaxUptoSaid : Prop := independentMaxUptoRow.holds Try.pinned (OpenSpec.upto independentMaxSpec)

/-- 'filigreelaw19.IndependentWidth', WHERE WHAT IT READS IS OF BULK AT MOST 1048576: true; the input reads as it did. -/
def independentWidthUptoRow : OpenClaim := { program := "ytkekpgkacjpjnaa", sum := "beccdb3fdfed250d9aaa72f1919d9d8751f2fb8cb0e1acc872d0bdec2a20a743", func := "filigree/filigreelaw19.IndependentWidth", spec := "independentWidth", unfollowed := true, recurses := true, apart := false, narrowed := true }
def IndependentWidthUptoSaid : Prop := independentWidthUptoRow.holds Try.pinned (OpenSpec.upto independentWidthSpec)

/-- 'filigreelaw19.IndependentTwo', WHERE WHAT IT READS IS OF BULK AT MOST 1048576: true; the input reads as it did. -/
def independentTwoUptoRow : OpenClaim := { program := "ytkekpgkacjpjnaa", sum := "beccdb3fdfed250d9aaa72f1919d9d8751f2fb8cb0e1acc872d0bdec2a20a743", func := "filigree/filigreelaw19.IndependentTwo", spec := "independentTwo", unfollowed := true, recurses := true, apart := false, narrowed := true }
def IndependentTwoUptoSaid : Prop := independentTwoUptoRow.holds Try.pinned (OpenSpec.upto independentTwoSpec)

/-- 'filigreelaw19.IndependentGreedy', WHERE WHAT IT READS IS OF BULK AT MOST 1048576: true; the input reads as it did. -/
def independentGreedyUptoRow : OpenClaim := { program := "ytkekpgkacjpjnaa", sum := "beccdb3fdfed250d9aaa72f1919d9d8751f2fb8cb0e1acc872d0bdec2a20a743", func := "filigree/filigreelaw19.IndependentGreedy", spec := "independentGreedy", unfollowed := true, recurses := true, apart := false, narrowed := true }
def IndependentGreedyUptoSaid : Prop := independentGreedyUptoRow.holds Try.pinned (OpenSpec.upto independentGreedySpec)

/-- 'filigreelaw19.IndependentFull', WHERE WHAT IT READS IS OF BULK AT MOST 1048576: true; the input reads as it did. -/
def independentFullUptoRow : OpenClaim := { program := "ytkekpgkacjpjnaa", sum := "beccdb3fdfed250d9aaa72f1919d9d8751f2fb8cb0e1acc872d0bdec2a20a743", func := "filigree/filigreelaw19.IndependentFull", spec := "independentFull", unfollowed := true, recurses := true, apart := false, narrowed := true }
def IndependentFullUptoSaid : Prop := independentFullUptoRow.holds Try.pinned (OpenSpec.upto independentFullSpec)

end Rows
end Go.Proofs.Ytkekpgkacjpjnaa
