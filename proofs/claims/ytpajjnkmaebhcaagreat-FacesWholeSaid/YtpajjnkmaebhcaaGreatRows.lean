/-
  No cell of these rows narrows 'for every input' (looked for: loops, veiled, ifaces, maps, wideKeys, modest, calm, conditions, laid).
  DERIVED. THE GIVEN ROWS OF THIS SEAT. 2 by the template 'for every input the law returns true; each argument reads behind the call as it read before'; 0 by the template 'total and deterministic' (their statements: YtpajjnkmaebhcaaGreatTotals.lean).
  GIVEN WITH THE SEED: the statements are not yours to turn. If you find one false, say at which input.
  Laid BY PROGRAM, IN A SANDBOX (cutbox-rows.mjs): the forced cells as the released guide's own fill.sh prints them over the translation 083bf4ac904161a3… (all of the seat's roots in one cut). By AI agents, Wed Nov 11 2026. No macro, syntax, notation, axiom, sorry.
-/
import Derived.Test.YtpajjnkmaebhcaaGreatChecked
import GoSem.Claim
import GoSem.ClaimJoined
import GoSem.ClaimMapViews
import Derived.JoinedTies
import Derived.KernelRfl
namespace Go.Proofs.YtpajjnkmaebhcaaGreat
/- THE CELL 'sum', in the pinned program and in every row, IS THE sha256 OF THE DUMP (.gsa) THAT YtpajjnkmaebhcaaGreatProg.lean LOADS. Nothing in Lean hashes anything: it is a label: what it is worth is what the hold of that sum in a sandbox is worth. -/
noncomputable def Tryz.pinned : Pinned := { name := "ytpajjnkmaebhcaagreat", sum := "083bf4ac904161a3482515f2986c23bc12aef9f9d8d0bf2bfd32d633e1fa96f2", checked := Tryz.checked }
namespace Rows
def none {H : Type} : Left H := { results := [], args := [] }

/-- 'filigreelaw10.FacesJoined': WHATEVER THE INPUT: true; the input reads as it did. -/
def facesJoinedSpec : ChangeSpec := { name := "facesJoined", fn := fun _ => fun
  | [d1, d2] => { results := [.lit (.bool true)], args := [d1, d2] }
  | _ => none }
def facesJoinedRow : OpenClaim := { program := "ytpajjnkmaebhcaagreat", sum := "083bf4ac904161a3482515f2986c23bc12aef9f9d8d0bf2bfd32d633e1fa96f2", func := "filigree/filigreelaw10.FacesJoined", spec := "facesJoined", unfollowed := true, recurses := true, plainKeys := false, apart := false }
def FacesJoinedSaid : Prop := facesJoinedRow.holds Tryz.pinned (OpenSpec.ofChange facesJoinedSpec)

/-- ITS FALSE NEIGHBOUR: 'it returns false'. Refute it at one input. -/
def facesJoinedWrong : ChangeSpec := { name := "facesJoined", fn := fun _ => fun
  | [d1, d2] => { results := [.lit (.bool false)], args := [d1, d2] }
  | _ => none }
def FacesJoinedWrongFalsely : Prop := facesJoinedRow.holds Tryz.pinned (OpenSpec.ofChange facesJoinedWrong)

/-- 'filigreelaw10.FacesWhole': WHATEVER THE INPUT: true; the input reads as it did. -/
def facesWholeSpec : ChangeSpec := { name := "facesWhole", fn := fun _ => fun
  | [d1, d2] => { results := [.lit (.bool true)], args := [d1, d2] }
  | _ => none }
def facesWholeRow : OpenClaim := { program := "ytpajjnkmaebhcaagreat", sum := "083bf4ac904161a3482515f2986c23bc12aef9f9d8d0bf2bfd32d633e1fa96f2", func := "filigree/filigreelaw10.FacesWhole", spec := "facesWhole", unfollowed := true, recurses := true, plainKeys := false, apart := false }
def FacesWholeSaid : Prop := facesWholeRow.holds Tryz.pinned (OpenSpec.ofChange facesWholeSpec)

/-- ITS FALSE NEIGHBOUR: 'it returns false'. Refute it at one input. -/
def facesWholeWrong : ChangeSpec := { name := "facesWhole", fn := fun _ => fun
  | [d1, d2] => { results := [.lit (.bool false)], args := [d1, d2] }
  | _ => none }
def FacesWholeWrongFalsely : Prop := facesWholeRow.holds Tryz.pinned (OpenSpec.ofChange facesWholeWrong)

/- THE SECOND FORM. 'bulk': how many values and letters a reading holds, each counted each time it is reached (what is shared counts as often as it is met; a slice's spare places count too). A statement '..UptoSaid' is the law's where the arguments, and the package variables that the reading takes, are together of bulk at most 1048576: NARROWER than '..Said'. Prove '..Said' where nothing that the law and all that it calls make is longer than what came in: it says more and counts as full. Else prove '..UptoSaid'. A law counts once. -/
mutual
def uptoBulk {H : Type} : DataW H → Nat
  | .lit (.string bytes) => bytes.length + 1
  | .lit _ => 1
  | .nil => 1
  | .ptr d => uptoBulk d + 1
  | .slice elems spare => uptoBulkAll elems + uptoBulkAll spare + 1
  | .agg parts => uptoBulkAll parts + 1
  | .iface _ d => uptoBulk d + 1
  | .map entries => uptoBulkEntries entries + 1
  | .held _ => 1
def uptoBulkAll {H : Type} : List (DataW H) → Nat
  | [] => 0
  | d :: r => uptoBulk d + uptoBulkAll r
def uptoBulkEntries {H : Type} : List (Lit × DataW H) → Nat
  | [] => 0
  | x :: r => uptoBulkEntry x + uptoBulkEntries r
def uptoBulkEntry {H : Type} : Lit × DataW H → Nat
  | (.string bytes, d) => bytes.length + uptoBulk d + 1
  | (_, d) => uptoBulk d + 1
 end
def uptoSmall : (H : Type) → List (DataW H) → Bool := fun _ ds => decide (uptoBulkAll ds ≤ 1048576)
def OpenSpec.upto (s : _root_.Go.ChangeSpec) : _root_.Go.OpenSpec := { _root_.Go.OpenSpec.ofChange s with cond := some uptoSmall }

/-- 'filigreelaw10.FacesJoined', WHERE WHAT IT READS IS OF BULK AT MOST 1048576: true; the input reads as it did. -/
def facesJoinedUptoRow : OpenClaim := { program := "ytpajjnkmaebhcaagreat", sum := "083bf4ac904161a3482515f2986c23bc12aef9f9d8d0bf2bfd32d633e1fa96f2", func := "filigree/filigreelaw10.FacesJoined", spec := "facesJoined", unfollowed := true, recurses := true, plainKeys := false, apart := false, narrowed := true }
def FacesJoinedUptoSaid : Prop := facesJoinedUptoRow.holds Tryz.pinned (OpenSpec.upto facesJoinedSpec)

/-- 'filigreelaw10.FacesWhole', WHERE WHAT IT READS IS OF BULK AT MOST 1048576: true; the input reads as it did. -/
def facesWholeUptoRow : OpenClaim := { program := "ytpajjnkmaebhcaagreat", sum := "083bf4ac904161a3482515f2986c23bc12aef9f9d8d0bf2bfd32d633e1fa96f2", func := "filigree/filigreelaw10.FacesWhole", spec := "facesWhole", unfollowed := true, recurses := true, plainKeys := false, apart := false, narrowed := true }
def FacesWholeUptoSaid : Prop := facesWholeUptoRow.holds Tryz.pinned (OpenSpec.upto facesWholeSpec)

end Rows
end Go.Proofs.YtpajjnkmaebhcaaGreat
