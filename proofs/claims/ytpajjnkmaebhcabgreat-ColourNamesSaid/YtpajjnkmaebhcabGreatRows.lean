/-
  No cell of these rows narrows 'for every input' (looked for: loops, veiled, ifaces, maps, wideKeys, modest, calm, conditions, laid).
  DERIVED. THE GIVEN ROWS OF THIS SEAT. 7 by the template 'for every input the law returns true; each argument reads behind the call as it read before'; 0 by the template 'total and deterministic' (their statements: YtpajjnkmaebhcabGreatTotals.lean).
  GIVEN WITH THE SEED: the statements are not yours to turn. If you find one false, say at which input.
  Laid BY PROGRAM, IN A SANDBOX (cutbox-rows.mjs): the forced cells as the released guide's own fill.sh prints them over the translation db868f995b5765b2… (all of the seat's roots in one cut). By AI agents, Wed Nov 11 2026. No macro, syntax, notation, axiom, sorry.
-/
import Derived.Test.YtpajjnkmaebhcabGreatChecked
import GoSem.Claim
import GoSem.ClaimJoined
import GoSem.ClaimMapViews
import Derived.JoinedTies
import Derived.KernelRfl
namespace Go.Proofs.YtpajjnkmaebhcabGreat
/- THE CELL 'sum', in the pinned program and in every row, IS THE sha256 OF THE DUMP (.gsa) THAT YtpajjnkmaebhcabGreatProg.lean LOADS. Nothing in Lean hashes anything: it is a label: what it is worth is what the hold of that sum in a sandbox is worth. -/
noncomputable def Tryz.pinned : Pinned := { name := "ytpajjnkmaebhcabgreat", sum := "db868f995b5765b2335028809d9d5c5ef1ab905541ee47afe4177eefe85a88cb", checked := Tryz.checked }
namespace Rows
def none {H : Type} : Left H := { results := [], args := [] }

/-- 'filigreelaw11.ColourFive': WHATEVER THE INPUT: true; the input reads as it did. -/
def colourFiveSpec : ChangeSpec := { name := "colourFive", fn := fun _ => fun
  | [d1, d2] => { results := [.lit (.bool true)], args := [d1, d2] }
  | _ => none }
def colourFiveRow : OpenClaim := { program := "ytpajjnkmaebhcabgreat", sum := "db868f995b5765b2335028809d9d5c5ef1ab905541ee47afe4177eefe85a88cb", func := "filigree/filigreelaw11.ColourFive", spec := "colourFive", unfollowed := true, recurses := true, plainKeys := false, apart := false }
def ColourFiveSaid : Prop := colourFiveRow.holds Tryz.pinned (OpenSpec.ofChange colourFiveSpec)

/-- ITS FALSE NEIGHBOUR: 'it returns false'. Refute it at one input. -/
def colourFiveWrong : ChangeSpec := { name := "colourFive", fn := fun _ => fun
  | [d1, d2] => { results := [.lit (.bool false)], args := [d1, d2] }
  | _ => none }
def ColourFiveWrongFalsely : Prop := colourFiveRow.holds Tryz.pinned (OpenSpec.ofChange colourFiveWrong)

/-- 'filigreelaw11.ColourNames': WHATEVER THE INPUT: true; the input reads as it did. -/
def colourNamesSpec : ChangeSpec := { name := "colourNames", fn := fun _ => fun
  | [d1, d2, d3, d4] => { results := [.lit (.bool true)], args := [d1, d2, d3, d4] }
  | _ => none }
def colourNamesRow : OpenClaim := { program := "ytpajjnkmaebhcabgreat", sum := "db868f995b5765b2335028809d9d5c5ef1ab905541ee47afe4177eefe85a88cb", func := "filigree/filigreelaw11.ColourNames", spec := "colourNames", unfollowed := true, recurses := true, plainKeys := false, apart := false }
def ColourNamesSaid : Prop := colourNamesRow.holds Tryz.pinned (OpenSpec.ofChange colourNamesSpec)

/-- ITS FALSE NEIGHBOUR: 'it returns false'. Refute it at one input. -/
def colourNamesWrong : ChangeSpec := { name := "colourNames", fn := fun _ => fun
  | [d1, d2, d3, d4] => { results := [.lit (.bool false)], args := [d1, d2, d3, d4] }
  | _ => none }
def ColourNamesWrongFalsely : Prop := colourNamesRow.holds Tryz.pinned (OpenSpec.ofChange colourNamesWrong)

/-- 'filigreelaw20.BakerShift': WHATEVER THE INPUT: true; the input reads as it did. -/
def bakerShiftSpec : ChangeSpec := { name := "bakerShift", fn := fun _ => fun
  | [d1, d2, d3] => { results := [.lit (.bool true)], args := [d1, d2, d3] }
  | _ => none }
def bakerShiftRow : OpenClaim := { program := "ytpajjnkmaebhcabgreat", sum := "db868f995b5765b2335028809d9d5c5ef1ab905541ee47afe4177eefe85a88cb", func := "filigree/filigreelaw20.BakerShift", spec := "bakerShift", unfollowed := true, recurses := true, plainKeys := false, apart := false }
def BakerShiftSaid : Prop := bakerShiftRow.holds Tryz.pinned (OpenSpec.ofChange bakerShiftSpec)

/-- ITS FALSE NEIGHBOUR: 'it returns false'. Refute it at one input. -/
def bakerShiftWrong : ChangeSpec := { name := "bakerShift", fn := fun _ => fun
  | [d1, d2, d3] => { results := [.lit (.bool false)], args := [d1, d2, d3] }
  | _ => none }
def BakerShiftWrongFalsely : Prop := bakerShiftRow.holds Tryz.pinned (OpenSpec.ofChange bakerShiftWrong)

/-- 'filigreelaw20.BakerSet': WHATEVER THE INPUT: true; the input reads as it did. -/
def bakerSetSpec : ChangeSpec := { name := "bakerSet", fn := fun _ => fun
  | [d1, d2, d3] => { results := [.lit (.bool true)], args := [d1, d2, d3] }
  | _ => none }
def bakerSetRow : OpenClaim := { program := "ytpajjnkmaebhcabgreat", sum := "db868f995b5765b2335028809d9d5c5ef1ab905541ee47afe4177eefe85a88cb", func := "filigree/filigreelaw20.BakerSet", spec := "bakerSet", unfollowed := true, recurses := true, plainKeys := false, apart := false }
def BakerSetSaid : Prop := bakerSetRow.holds Tryz.pinned (OpenSpec.ofChange bakerSetSpec)

/-- ITS FALSE NEIGHBOUR: 'it returns false'. Refute it at one input. -/
def bakerSetWrong : ChangeSpec := { name := "bakerSet", fn := fun _ => fun
  | [d1, d2, d3] => { results := [.lit (.bool false)], args := [d1, d2, d3] }
  | _ => none }
def BakerSetWrongFalsely : Prop := bakerSetRow.holds Tryz.pinned (OpenSpec.ofChange bakerSetWrong)

/-- 'filigreelaw20.BakerEnough': WHATEVER THE INPUT: true; the input reads as it did. -/
def bakerEnoughSpec : ChangeSpec := { name := "bakerEnough", fn := fun _ => fun
  | [d1, d2, d3, d4] => { results := [.lit (.bool true)], args := [d1, d2, d3, d4] }
  | _ => none }
def bakerEnoughRow : OpenClaim := { program := "ytpajjnkmaebhcabgreat", sum := "db868f995b5765b2335028809d9d5c5ef1ab905541ee47afe4177eefe85a88cb", func := "filigree/filigreelaw20.BakerEnough", spec := "bakerEnough", unfollowed := true, recurses := true, plainKeys := false, apart := false }
def BakerEnoughSaid : Prop := bakerEnoughRow.holds Tryz.pinned (OpenSpec.ofChange bakerEnoughSpec)

/-- ITS FALSE NEIGHBOUR: 'it returns false'. Refute it at one input. -/
def bakerEnoughWrong : ChangeSpec := { name := "bakerEnough", fn := fun _ => fun
  | [d1, d2, d3, d4] => { results := [.lit (.bool false)], args := [d1, d2, d3, d4] }
  | _ => none }
def BakerEnoughWrongFalsely : Prop := bakerEnoughRow.holds Tryz.pinned (OpenSpec.ofChange bakerEnoughWrong)

/-- 'filigreelaw20.BakerAny': WHATEVER THE INPUT: true; the input reads as it did. -/
def bakerAnySpec : ChangeSpec := { name := "bakerAny", fn := fun _ => fun
  | [d1, d2, d3, d4] => { results := [.lit (.bool true)], args := [d1, d2, d3, d4] }
  | _ => none }
def bakerAnyRow : OpenClaim := { program := "ytpajjnkmaebhcabgreat", sum := "db868f995b5765b2335028809d9d5c5ef1ab905541ee47afe4177eefe85a88cb", func := "filigree/filigreelaw20.BakerAny", spec := "bakerAny", unfollowed := true, recurses := true, plainKeys := false, apart := false }
def BakerAnySaid : Prop := bakerAnyRow.holds Tryz.pinned (OpenSpec.ofChange bakerAnySpec)

/-- ITS FALSE NEIGHBOUR: 'it returns false'. Refute it at one input. -/
def bakerAnyWrong : ChangeSpec := { name := "bakerAny", fn := fun _ => fun
  | [d1, d2, d3, d4] => { results := [.lit (.bool false)], args := [d1, d2, d3, d4] }
  | _ => none }
def BakerAnyWrongFalsely : Prop := bakerAnyRow.holds Tryz.pinned (OpenSpec.ofChange bakerAnyWrong)

/-- 'filigreelaw20.BakerShifts': WHATEVER THE INPUT: true; the input reads as it did. -/
def bakerShiftsSpec : ChangeSpec := { name := "bakerShifts", fn := fun _ => fun
  | [d1, d2, d3, d4, d5] => { results := [.lit (.bool true)], args := [d1, d2, d3, d4, d5] }
  | _ => none }
def bakerShiftsRow : OpenClaim := { program := "ytpajjnkmaebhcabgreat", sum := "db868f995b5765b2335028809d9d5c5ef1ab905541ee47afe4177eefe85a88cb", func := "filigree/filigreelaw20.BakerShifts", spec := "bakerShifts", unfollowed := true, recurses := true, plainKeys := false, apart := false }
def BakerShiftsSaid : Prop := bakerShiftsRow.holds Tryz.pinned (OpenSpec.ofChange bakerShiftsSpec)

/-- ITS FALSE NEIGHBOUR: 'it returns false'. Refute it at one input. -/
def bakerShiftsWrong : ChangeSpec := { name := "bakerShifts", fn := fun _ => fun
  | [d1, d2, d3, d4, d5] => { results := [.lit (.bool false)], args := [d1, d2, d3, d4, d5] }
  | _ => none }
def BakerShiftsWrongFalsely : Prop := bakerShiftsRow.holds Tryz.pinned (OpenSpec.ofChange bakerShiftsWrong)

/- THE SECOND FORM. 'bulk': how many values and letters a reading holds, each counted each time it is reached (what is shared counts as often as it is met; a slice's spare places count too). A statement '..UptoSaid' is the law's where the arguments, and the package variables that the reading takes, are together of bulk at most 1048576: NARROWER than '..Said'. Prove '..Said' where nothing that the law and all that it calls make is longer than what came in: it says more and counts as full. Else prove '..UptoSaid'. A law counts once. -/
mutual
def uptoBulk {H : Type} : DataW H → Nat
  | .lit (.string bytes) => bytes.length + 1
  | .lit _ => 1
  | .nil => 1
  | .ptr d => uptoBulk d + 1
  | .slice elems spare => uptoBulkAll elems + uptoBulkAll spare + 1
  | .agg parts => uptoBulkAll parts + 1
  | .iface _ d => uptoBulk d + 1
  | .map entries => uptoBulkEntries entries + 1
  | .held _ => 1
def uptoBulkAll {H : Type} : List (DataW H) → Nat
  | [] => 0
  | d :: r => uptoBulk d + uptoBulkAll r
def uptoBulkEntries {H : Type} : List (Lit × DataW H) → Nat
  | [] => 0
  | x :: r => uptoBulkEntry x + uptoBulkEntries r
def uptoBulkEntry {H : Type} : Lit × DataW H → Nat
  | (.string bytes, d) => bytes.length + uptoBulk d + 1
  | (_, d) => uptoBulk d + 1
 end
def uptoSmall : (H : Type) → List (DataW H) → Bool := fun _ ds => decide (uptoBulkAll ds ≤ 1048576)
def OpenSpec.upto (s : _root_.Go.ChangeSpec) : _root_.Go.OpenSpec := { _root_.Go.OpenSpec.ofChange s with cond := some uptoSmall }

/-- 'filigreelaw11.ColourFive', WHERE WHAT IT READS IS OF BULK AT MOST 1048576: true; the input reads as it did. -/
def colourFiveUptoRow : OpenClaim := { program := "ytpajjnkmaebhcabgreat", sum := "db868f995b5765b2335028809d9d5c5ef1ab905541ee47afe4177eefe85a88cb", func := "filigree/filigreelaw11.ColourFive", spec := "colourFive", unfollowed := true, recurses := true, plainKeys := false, apart := false, narrowed := true }
def ColourFiveUptoSaid : Prop := colourFiveUptoRow.holds Tryz.pinned (OpenSpec.upto colourFiveSpec)

/-- 'filigreelaw11.ColourNames', WHERE WHAT IT READS IS OF BULK AT MOST 1048576: true; the input reads as it did. -/
def colourNamesUptoRow : OpenClaim := { program := "ytpajjnkmaebhcabgreat", sum := "db868f995b5765b2335028809d9d5c5ef1ab905541ee47afe4177eefe85a88cb", func := "filigree/filigreelaw11.ColourNames", spec := "colourNames", unfollowed := true, recurses := true, plainKeys := false, apart := false, narrowed := true }
def ColourNamesUptoSaid : Prop := colourNamesUptoRow.holds Tryz.pinned (OpenSpec.upto colourNamesSpec)

/-- 'filigreelaw20.BakerShift', WHERE WHAT IT READS IS OF BULK AT MOST 1048576: true; the input reads as it did. -/
def bakerShiftUptoRow : OpenClaim := { program := "ytpajjnkmaebhcabgreat", sum := "db868f995b5765b2335028809d9d5c5ef1ab905541ee47afe4177eefe85a88cb", func := "filigree/filigreelaw20.BakerShift", spec := "bakerShift", unfollowed := true, recurses := true, plainKeys := false, apart := false, narrowed := true }
def BakerShiftUptoSaid : Prop := bakerShiftUptoRow.holds Tryz.pinned (OpenSpec.upto bakerShiftSpec)

/-- 'filigreelaw20.BakerSet', WHERE WHAT IT READS IS OF BULK AT MOST 1048576: true; the input reads as it did. -/
def bakerSetUptoRow : OpenClaim := { program := "ytpajjnkmaebhcabgreat", sum := "db868f995b5765b2335028809d9d5c5ef1ab905541ee47afe4177eefe85a88cb", func := "filigree/filigreelaw20.BakerSet", spec := "bakerSet", unfollowed := true, recurses := true, plainKeys := false, apart := false, narrowed := true }
def BakerSetUptoSaid : Prop := bakerSetUptoRow.holds Tryz.pinned (OpenSpec.upto bakerSetSpec)

/-- 'filigreelaw20.BakerEnough', WHERE WHAT IT READS IS OF BULK AT MOST 1048576: true; the input reads as it did. -/
def bakerEnoughUptoRow : OpenClaim := { program := "ytpajjnkmaebhcabgreat", sum := "db868f995b5765b2335028809d9d5c5ef1ab905541ee47afe4177eefe85a88cb", func := "filigree/filigreelaw20.BakerEnough", spec := "bakerEnough", unfollowed := true, recurses := true, plainKeys := false, apart := false, narrowed := true }
def BakerEnoughUptoSaid : Prop := bakerEnoughUptoRow.holds Tryz.pinned (OpenSpec.upto bakerEnoughSpec)

/-- 'filigreelaw20.BakerAny', WHERE WHAT IT READS IS OF BULK AT MOST 1048576: true; the input reads as it did. -/
def bakerAnyUptoRow : OpenClaim := { program := "ytpajjnkmaebhcabgreat", sum := "db868f995b5765b2335028809d9d5c5ef1ab905541ee47afe4177eefe85a88cb", func := "filigree/filigreelaw20.BakerAny", spec := "bakerAny", unfollowed := true, recurses := true, plainKeys := false, apart := false, narrowed := true }
def BakerAnyUptoSaid : Prop := bakerAnyUptoRow.holds Tryz.pinned (OpenSpec.upto bakerAnySpec)

/-- 'filigreelaw20.BakerShifts', WHERE WHAT IT READS IS OF BULK AT MOST 1048576: true; the input reads as it did. -/
def bakerShiftsUptoRow : OpenClaim := { program := "ytpajjnkmaebhcabgreat", sum := "db868f995b5765b2335028809d9d5c5ef1ab905541ee47afe4177eefe85a88cb", func := "filigree/filigreelaw20.BakerShifts", spec := "bakerShifts", unfollowed := true, recurses := true, plainKeys := false, apart := false, narrowed := true }
def BakerShiftsUptoSaid : Prop := bakerShiftsUptoRow.holds Tryz.pinned (OpenSpec.upto bakerShiftsSpec)

end Rows
end Go.Proofs.YtpajjnkmaebhcabGreat
