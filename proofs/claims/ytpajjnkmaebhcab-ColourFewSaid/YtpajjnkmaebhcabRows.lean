/-
  No cell of these rows narrows 'for every input' (looked for: loops, veiled, ifaces, maps, wideKeys, modest, calm, conditions, laid).
  DERIVED. THE GIVEN ROWS OF THIS SEAT. 3 by the template 'for every input the law returns true; each argument reads behind the call as it read before'; 0 by the template 'total and deterministic' (their statements: YtpajjnkmaebhcabTotals.lean).
  GIVEN WITH THE SEED: the statements are not yours to turn. If you find one false, say at which input.
  Laid BY PROGRAM, IN A SANDBOX (cutbox-rows.mjs): the forced cells as the released guide's own fill.sh prints them over the translation 0652a231c1a9190f… (all of the seat's roots in one cut). By AI agents, Wed Nov 11 2026. No macro, syntax, notation, axiom, sorry.
-/
import Derived.Test.YtpajjnkmaebhcabChecked
import GoSem.Claim
import GoSem.ClaimJoined
import GoSem.ClaimMapViews
import Derived.JoinedTies
import Derived.KernelRfl
namespace Go.Proofs.Ytpajjnkmaebhcab
/- THE CELL 'sum', in the pinned program and in every row, IS THE sha256 OF THE DUMP (.gsa) THAT YtpajjnkmaebhcabProg.lean LOADS. Nothing in Lean hashes anything: it is a label: what it is worth is what the hold of that sum in a sandbox is worth. -/
noncomputable def Try.pinned : Pinned := { name := "ytpajjnkmaebhcab", sum := "0652a231c1a9190f6adc58560ba5c2177906b9428329ea1bcd2b7afcbf96fbc5", checked := Try.checked }
namespace Rows
def none {H : Type} : Left H := { results := [], args := [] }

/-- 'filigreelaw11.ColourChecks': WHATEVER THE INPUT: true; the input reads as it did. -/
def colourChecksSpec : ChangeSpec := { name := "colourChecks", fn := fun _ => fun
  | [d1, d2, d3] => { results := [.lit (.bool true)], args := [d1, d2, d3] }
  | _ => none }
def colourChecksRow : OpenClaim := { program := "ytpajjnkmaebhcab", sum := "0652a231c1a9190f6adc58560ba5c2177906b9428329ea1bcd2b7afcbf96fbc5", func := "filigree/filigreelaw11.ColourChecks", spec := "colourChecks", unfollowed := true, recurses := true, plainKeys := false, apart := false }
def ColourChecksSaid : Prop := colourChecksRow.holds Try.pinned (OpenSpec.ofChange colourChecksSpec)

/-- ITS FALSE NEIGHBOUR: 'it returns false'. Refute it at one input. -/
def colourChecksWrong : ChangeSpec := { name := "colourChecks", fn := fun _ => fun
  | [d1, d2, d3] => { results := [.lit (.bool false)], args := [d1, d2, d3] }
  | _ => none }
def ColourChecksWrongFalsely : Prop := colourChecksRow.holds Try.pinned (OpenSpec.ofChange colourChecksWrong)

/-- 'filigreelaw11.ColourGreedy': WHATEVER THE INPUT: true; the input reads as it did. -/
def colourGreedySpec : ChangeSpec := { name := "colourGreedy", fn := fun _ => fun
  | [d1, d2, d3] => { results := [.lit (.bool true)], args := [d1, d2, d3] }
  | _ => none }
def colourGreedyRow : OpenClaim := { program := "ytpajjnkmaebhcab", sum := "0652a231c1a9190f6adc58560ba5c2177906b9428329ea1bcd2b7afcbf96fbc5", func := "filigree/filigreelaw11.ColourGreedy", spec := "colourGreedy", unfollowed := true, recurses := true, plainKeys := false, apart := false }
def ColourGreedySaid : Prop := colourGreedyRow.holds Try.pinned (OpenSpec.ofChange colourGreedySpec)

/-- ITS FALSE NEIGHBOUR: 'it returns false'. Refute it at one input. -/
def colourGreedyWrong : ChangeSpec := { name := "colourGreedy", fn := fun _ => fun
  | [d1, d2, d3] => { results := [.lit (.bool false)], args := [d1, d2, d3] }
  | _ => none }
def ColourGreedyWrongFalsely : Prop := colourGreedyRow.holds Try.pinned (OpenSpec.ofChange colourGreedyWrong)

/-- 'filigreelaw11.ColourFew': WHATEVER THE INPUT: true; the input reads as it did. -/
def colourFewSpec : ChangeSpec := { name := "colourFew", fn := fun _ => fun
  | [d1, d2, d3] => { results := [.lit (.bool true)], args := [d1, d2, d3] }
  | _ => none }
def colourFewRow : OpenClaim := { program := "ytpajjnkmaebhcab", sum := "0652a231c1a9190f6adc58560ba5c2177906b9428329ea1bcd2b7afcbf96fbc5", func := "filigree/filigreelaw11.ColourFew", spec := "colourFew", unfollowed := true, recurses := true, plainKeys := false, apart := false }
def ColourFewSaid : Prop := colourFewRow.holds Try.pinned (OpenSpec.ofChange colourFewSpec)

/-- ITS FALSE NEIGHBOUR: 'it returns false'. Refute it at one input. -/
def colourFewWrong : ChangeSpec := { name := "colourFew", fn := fun _ => fun
  | [d1, d2, d3] => { results := [.lit (.bool false)], args := [d1, d2, d3] }
  | _ => none }
def ColourFewWrongFalsely : Prop := colourFewRow.holds Try.pinned (OpenSpec.ofChange colourFewWrong)

/- THE SECOND FORM. 'bulk': how many values and letters a reading holds, each counted each time it is reached (what is shared counts as often as it is met; a slice's spare places count too). A statement '..UptoSaid' is the law's where the arguments, and the package variables that the reading takes, are together of bulk at most 1048576: NARROWER than '..Said'. Prove '..Said' where nothing that the law and all that it calls make is longer than what came in: it says more and counts as full. Else prove '..UptoSaid'. A law counts once. -/
mutual
def uptoBulk {H : Type} : DataW H → Nat
  | .lit (.string bytes) => bytes.length + 1
  | .lit _ => 1
  | .nil => 1
  | .ptr d => uptoBulk d + 1
  | .slice elems spare => uptoBulkAll elems + uptoBulkAll spare + 1
  | .agg parts => uptoBulkAll parts + 1
  | .iface _ d => uptoBulk d + 1
  | .map entries => uptoBulkEntries entries + 1
  | .held _ => 1
def uptoBulkAll {H : Type} : List (DataW H) → Nat
  | [] => 0
  | d :: r => uptoBulk d + uptoBulkAll r
def uptoBulkEntries {H : Type} : List (Lit × DataW H) → Nat
  | [] => 0
  | x :: r => uptoBulkEntry x + uptoBulkEntries r
def uptoBulkEntry {H : Type} : Lit × DataW H → Nat
  | (.string bytes, d) => bytes.length + uptoBulk d + 1
  | (_, d) => uptoBulk d + 1
 end
def uptoSmall : (H : Type) → List (DataW H) → Bool := fun _ ds => decide (uptoBulkAll ds ≤ 1048576)
def OpenSpec.upto (s : _root_.Go.ChangeSpec) : _root_.Go.OpenSpec := { _root_.Go.OpenSpec.ofChange s with cond := some uptoSmall }

/-- 'filigreelaw11.ColourChecks', WHERE WHAT IT READS IS OF BULK AT MOST 1048576: true; the input reads as it did. -/
def colourChecksUptoRow : OpenClaim := { program := "ytpajjnkmaebhcab", sum := "0652a231c1a9190f6adc58560ba5c2177906b9428329ea1bcd2b7afcbf96fbc5", func := "filigree/filigreelaw11.ColourChecks", spec := "colourChecks", unfollowed := true, recurses := true, plainKeys := false, apart := false, narrowed := true }
def ColourChecksUptoSaid : Prop := colourChecksUptoRow.holds Try.pinned (OpenSpec.upto colourChecksSpec)

/-- 'filigreelaw11.ColourGreedy', WHERE WHAT IT READS IS OF BULK AT MOST 1048576: true; the input reads as it did. -/
def colourGreedyUptoRow : OpenClaim := { program := "ytpajjnkmaebhcab", sum := "0652a231c1a9190f6adc58560ba5c2177906b9428329ea1bcd2b7afcbf96fbc5", func := "filigree/filigreelaw11.ColourGreedy", spec := "colourGreedy", unfollowed := true, recurses := true, plainKeys := false, apart := false, narrowed := true }
def ColourGreedyUptoSaid : Prop := colourGreedyUptoRow.holds Try.pinned (OpenSpec.upto colourGreedySpec)

/-- 'filigreelaw11.ColourFew', WHERE WHAT IT READS IS OF BULK AT MOST 1048576: true; the input reads as it did. -/
def colourFewUptoRow : OpenClaim := { program := "ytpajjnkmaebhcab", sum := "0652a231c1a9190f6adc58560ba5c2177906b9428329ea1bcd2b7afcbf96fbc5", func := "filigree/filigreelaw11.ColourFew", spec := "colourFew", unfollowed := true, recurses := true, plainKeys := false, apart := false, narrowed := true }
def ColourFewUptoSaid : Prop := colourFewUptoRow.holds Try.pinned (OpenSpec.upto colourFewSpec)

end Rows
end Go.Proofs.Ytpajjnkmaebhcab
