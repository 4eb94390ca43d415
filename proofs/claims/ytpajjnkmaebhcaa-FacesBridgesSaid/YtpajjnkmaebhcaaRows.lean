/-
  No cell of these rows narrows 'for every input' (looked for: loops, veiled, ifaces, maps, wideKeys, modest, calm, conditions, laid).
  DERIVED. THE GIVEN ROWS OF THIS SEAT. 10 by the template 'for every input the law returns true; each argument reads behind the call as it read before'; 0 by the template 'total and deterministic' (their statements: YtpajjnkmaebhcaaTotals.lean).
  GIVEN WITH THE SEED: the statements are not yours to turn. If you find one false, say at which input.
  Laid BY PROGRAM, IN A SANDBOX (cutbox-rows.mjs): the forced cells as the released guide's own fill.sh prints them over the translation b9bcc3401912e7fa… (all of the seat's roots in one cut). By AI agents, Wed Nov 11 2026. No macro, syntax, notation, axiom, sorry.
-/
import Derived.Test.YtpajjnkmaebhcaaChecked
import GoSem.Claim
import GoSem.ClaimJoined
import GoSem.ClaimMapViews
import Derived.JoinedTies
import Derived.KernelRfl
namespace Go.Proofs.Ytpajjnkmaebhcaa
/- THE CELL 'sum', in the pinned program and in every row, IS THE sha256 OF THE DUMP (.gsa) THAT YtpajjnkmaebhcaaProg.lean LOADS. Nothing in Lean hashes anything: it is a label: what it is worth is what the hold of that sum in a sandbox is worth. -/
noncomputable def Try.pinned : Pinned := { name := "ytpajjnkmaebhcaa", sum := "b9bcc3401912e7fafaf7d5db71578d03828b301ad89c0dd9eae2533e5e7e88cb", checked := Try.checked }
namespace Rows
def none {H : Type} : Left H := { results := [], args := [] }

/-- 'filigreelaw07.RotationFaces': WHATEVER THE INPUT: true; the input reads as it did. -/
def rotationFacesSpec : ChangeSpec := { name := "rotationFaces", fn := fun _ => fun
  | [d1, d2] => { results := [.lit (.bool true)], args := [d1, d2] }
  | _ => none }
def rotationFacesRow : OpenClaim := { program := "ytpajjnkmaebhcaa", sum := "b9bcc3401912e7fafaf7d5db71578d03828b301ad89c0dd9eae2533e5e7e88cb", func := "filigree/filigreelaw07.RotationFaces", spec := "rotationFaces", unfollowed := true, recurses := true, plainKeys := false, apart := false }
def RotationFacesSaid : Prop := rotationFacesRow.holds Try.pinned (OpenSpec.ofChange rotationFacesSpec)

/-- ITS FALSE NEIGHBOUR: 'it returns false'. Refute it at one input. -/
def rotationFacesWrong : ChangeSpec := { name := "rotationFaces", fn := fun _ => fun
  | [d1, d2] => { results := [.lit (.bool false)], args := [d1, d2] }
  | _ => none }
def RotationFacesWrongFalsely : Prop := rotationFacesRow.holds Try.pinned (OpenSpec.ofChange rotationFacesWrong)

/-- 'filigreelaw07.RotationEuler': WHATEVER THE INPUT: true; the input reads as it did. -/
def rotationEulerSpec : ChangeSpec := { name := "rotationEuler", fn := fun _ => fun
  | [d1, d2] => { results := [.lit (.bool true)], args := [d1, d2] }
  | _ => none }
def rotationEulerRow : OpenClaim := { program := "ytpajjnkmaebhcaa", sum := "b9bcc3401912e7fafaf7d5db71578d03828b301ad89c0dd9eae2533e5e7e88cb", func := "filigree/filigreelaw07.RotationEuler", spec := "rotationEuler", unfollowed := true, recurses := true, plainKeys := false, apart := false }
def RotationEulerSaid : Prop := rotationEulerRow.holds Try.pinned (OpenSpec.ofChange rotationEulerSpec)

/-- ITS FALSE NEIGHBOUR: 'it returns false'. Refute it at one input. -/
def rotationEulerWrong : ChangeSpec := { name := "rotationEuler", fn := fun _ => fun
  | [d1, d2] => { results := [.lit (.bool false)], args := [d1, d2] }
  | _ => none }
def RotationEulerWrongFalsely : Prop := rotationEulerRow.holds Try.pinned (OpenSpec.ofChange rotationEulerWrong)

/-- 'filigreelaw07.RotationDarts': WHATEVER THE INPUT: true; the input reads as it did. -/
def rotationDartsSpec : ChangeSpec := { name := "rotationDarts", fn := fun _ => fun
  | [d1, d2] => { results := [.lit (.bool true)], args := [d1, d2] }
  | _ => none }
def rotationDartsRow : OpenClaim := { program := "ytpajjnkmaebhcaa", sum := "b9bcc3401912e7fafaf7d5db71578d03828b301ad89c0dd9eae2533e5e7e88cb", func := "filigree/filigreelaw07.RotationDarts", spec := "rotationDarts", unfollowed := true, recurses := true, plainKeys := false, apart := false }
def RotationDartsSaid : Prop := rotationDartsRow.holds Try.pinned (OpenSpec.ofChange rotationDartsSpec)

/-- ITS FALSE NEIGHBOUR: 'it returns false'. Refute it at one input. -/
def rotationDartsWrong : ChangeSpec := { name := "rotationDarts", fn := fun _ => fun
  | [d1, d2] => { results := [.lit (.bool false)], args := [d1, d2] }
  | _ => none }
def RotationDartsWrongFalsely : Prop := rotationDartsRow.holds Try.pinned (OpenSpec.ofChange rotationDartsWrong)

/-- 'filigreelaw07.RotationForest': WHATEVER THE INPUT: true; the input reads as it did. -/
def rotationForestSpec : ChangeSpec := { name := "rotationForest", fn := fun _ => fun
  | [d1, d2] => { results := [.lit (.bool true)], args := [d1, d2] }
  | _ => none }
def rotationForestRow : OpenClaim := { program := "ytpajjnkmaebhcaa", sum := "b9bcc3401912e7fafaf7d5db71578d03828b301ad89c0dd9eae2533e5e7e88cb", func := "filigree/filigreelaw07.RotationForest", spec := "rotationForest", unfollowed := true, recurses := true, plainKeys := false, apart := false }
def RotationForestSaid : Prop := rotationForestRow.holds Try.pinned (OpenSpec.ofChange rotationForestSpec)

/-- ITS FALSE NEIGHBOUR: 'it returns false'. Refute it at one input. -/
def rotationForestWrong : ChangeSpec := { name := "rotationForest", fn := fun _ => fun
  | [d1, d2] => { results := [.lit (.bool false)], args := [d1, d2] }
  | _ => none }
def RotationForestWrongFalsely : Prop := rotationForestRow.holds Try.pinned (OpenSpec.ofChange rotationForestWrong)

/-- 'filigreelaw07.RotationRight': WHATEVER THE INPUT: true; the input reads as it did. -/
def rotationRightSpec : ChangeSpec := { name := "rotationRight", fn := fun _ => fun
  | [d1, d2, d3] => { results := [.lit (.bool true)], args := [d1, d2, d3] }
  | _ => none }
def rotationRightRow : OpenClaim := { program := "ytpajjnkmaebhcaa", sum := "b9bcc3401912e7fafaf7d5db71578d03828b301ad89c0dd9eae2533e5e7e88cb", func := "filigree/filigreelaw07.RotationRight", spec := "rotationRight", unfollowed := true, recurses := true, plainKeys := false, apart := false }
def RotationRightSaid : Prop := rotationRightRow.holds Try.pinned (OpenSpec.ofChange rotationRightSpec)

/-- ITS FALSE NEIGHBOUR: 'it returns false'. Refute it at one input. -/
def rotationRightWrong : ChangeSpec := { name := "rotationRight", fn := fun _ => fun
  | [d1, d2, d3] => { results := [.lit (.bool false)], args := [d1, d2, d3] }
  | _ => none }
def RotationRightWrongFalsely : Prop := rotationRightRow.holds Try.pinned (OpenSpec.ofChange rotationRightWrong)

/-- 'filigreelaw07.RotationGenus': WHATEVER THE INPUT: true; the input reads as it did. -/
def rotationGenusSpec : ChangeSpec := { name := "rotationGenus", fn := fun _ => fun
  | [d1, d2] => { results := [.lit (.bool true)], args := [d1, d2] }
  | _ => none }
def rotationGenusRow : OpenClaim := { program := "ytpajjnkmaebhcaa", sum := "b9bcc3401912e7fafaf7d5db71578d03828b301ad89c0dd9eae2533e5e7e88cb", func := "filigree/filigreelaw07.RotationGenus", spec := "rotationGenus", unfollowed := true, recurses := true, plainKeys := false, apart := false }
def RotationGenusSaid : Prop := rotationGenusRow.holds Try.pinned (OpenSpec.ofChange rotationGenusSpec)

/-- ITS FALSE NEIGHBOUR: 'it returns false'. Refute it at one input. -/
def rotationGenusWrong : ChangeSpec := { name := "rotationGenus", fn := fun _ => fun
  | [d1, d2] => { results := [.lit (.bool false)], args := [d1, d2] }
  | _ => none }
def RotationGenusWrongFalsely : Prop := rotationGenusRow.holds Try.pinned (OpenSpec.ofChange rotationGenusWrong)

/-- 'filigreelaw10.FacesDual': WHATEVER THE INPUT: true; the input reads as it did. -/
def facesDualSpec : ChangeSpec := { name := "facesDual", fn := fun _ => fun
  | [d1, d2] => { results := [.lit (.bool true)], args := [d1, d2] }
  | _ => none }
def facesDualRow : OpenClaim := { program := "ytpajjnkmaebhcaa", sum := "b9bcc3401912e7fafaf7d5db71578d03828b301ad89c0dd9eae2533e5e7e88cb", func := "filigree/filigreelaw10.FacesDual", spec := "facesDual", unfollowed := true, recurses := true, plainKeys := false, apart := false }
def FacesDualSaid : Prop := facesDualRow.holds Try.pinned (OpenSpec.ofChange facesDualSpec)

/-- ITS FALSE NEIGHBOUR: 'it returns false'. Refute it at one input. -/
def facesDualWrong : ChangeSpec := { name := "facesDual", fn := fun _ => fun
  | [d1, d2] => { results := [.lit (.bool false)], args := [d1, d2] }
  | _ => none }
def FacesDualWrongFalsely : Prop := facesDualRow.holds Try.pinned (OpenSpec.ofChange facesDualWrong)

/-- 'filigreelaw10.FacesBridges': WHATEVER THE INPUT: true; the input reads as it did. -/
def facesBridgesSpec : ChangeSpec := { name := "facesBridges", fn := fun _ => fun
  | [d1, d2] => { results := [.lit (.bool true)], args := [d1, d2] }
  | _ => none }
def facesBridgesRow : OpenClaim := { program := "ytpajjnkmaebhcaa", sum := "b9bcc3401912e7fafaf7d5db71578d03828b301ad89c0dd9eae2533e5e7e88cb", func := "filigree/filigreelaw10.FacesBridges", spec := "facesBridges", unfollowed := true, recurses := true, plainKeys := false, apart := false }
def FacesBridgesSaid : Prop := facesBridgesRow.holds Try.pinned (OpenSpec.ofChange facesBridgesSpec)

/-- ITS FALSE NEIGHBOUR: 'it returns false'. Refute it at one input. -/
def facesBridgesWrong : ChangeSpec := { name := "facesBridges", fn := fun _ => fun
  | [d1, d2] => { results := [.lit (.bool false)], args := [d1, d2] }
  | _ => none }
def FacesBridgesWrongFalsely : Prop := facesBridgesRow.holds Try.pinned (OpenSpec.ofChange facesBridgesWrong)

/-- 'filigreelaw10.FacesEuler': WHATEVER THE INPUT: true; the input reads as it did. -/
def facesEulerSpec : ChangeSpec := { name := "facesEuler", fn := fun _ => fun
  | [d1, d2] => { results := [.lit (.bool true)], args := [d1, d2] }
  | _ => none }
def facesEulerRow : OpenClaim := { program := "ytpajjnkmaebhcaa", sum := "b9bcc3401912e7fafaf7d5db71578d03828b301ad89c0dd9eae2533e5e7e88cb", func := "filigree/filigreelaw10.FacesEuler", spec := "facesEuler", unfollowed := true, recurses := true, plainKeys := false, apart := false }
def FacesEulerSaid : Prop := facesEulerRow.holds Try.pinned (OpenSpec.ofChange facesEulerSpec)

/-- ITS FALSE NEIGHBOUR: 'it returns false'. Refute it at one input. -/
def facesEulerWrong : ChangeSpec := { name := "facesEuler", fn := fun _ => fun
  | [d1, d2] => { results := [.lit (.bool false)], args := [d1, d2] }
  | _ => none }
def FacesEulerWrongFalsely : Prop := facesEulerRow.holds Try.pinned (OpenSpec.ofChange facesEulerWrong)

/-- 'filigreelaw07.RotationCanon': WHATEVER THE INPUT: true; the input reads as it did. -/
def rotationCanonSpec : ChangeSpec := { name := "rotationCanon", fn := fun _ => fun
  | [d1, d2] => { results := [.lit (.bool true)], args := [d1, d2] }
  | _ => none }
def rotationCanonRow : OpenClaim := { program := "ytpajjnkmaebhcaa", sum := "b9bcc3401912e7fafaf7d5db71578d03828b301ad89c0dd9eae2533e5e7e88cb", func := "filigree/filigreelaw07.RotationCanon", spec := "rotationCanon", unfollowed := true, recurses := true, plainKeys := false, apart := false }
def RotationCanonSaid : Prop := rotationCanonRow.holds Try.pinned (OpenSpec.ofChange rotationCanonSpec)

/-- ITS FALSE NEIGHBOUR: 'it returns false'. Refute it at one input. -/
def rotationCanonWrong : ChangeSpec := { name := "rotationCanon", fn := fun _ => fun
  | [d1, d2] => { results := [.lit (.bool false)], args := [d1, d2] }
  | _ => none }
def RotationCanonWrongFalsely : Prop := rotationCanonRow.holds Try.pinned (OpenSpec.ofChange rotationCanonWrong)

/- THE SECOND FORM. 'bulk': how many values and letters a reading holds, each counted each time it is reached (what is shared counts as often as it is met; a slice's spare places count too). A statement '..UptoSaid' is the law's where the arguments, and the package variables that the reading takes, are together of bulk at most 1048576: NARROWER than '..Said'. Prove '..Said' where nothing that the law and all that it calls make is longer than what came in: it says more and counts as full. Else prove '..UptoSaid'. A law counts once. -/
mutual
def uptoBulk {H : Type} : DataW H → Nat
  | .lit (.string bytes) => bytes.length + 1
  | .lit _ => 1
  | .nil => 1
  | .ptr d => uptoBulk d + 1
  | .slice elems spare => uptoBulkAll elems + uptoBulkAll spare + 1
  | .agg parts => uptoBulkAll parts + 1
  | .iface _ d => uptoBulk d + 1
  | .map entries => uptoBulkEntries entries + 1
  | .held _ => 1
def uptoBulkAll {H : Type} : List (DataW H) → Nat
  | [] => 0
  | d :: r => uptoBulk d + uptoBulkAll r
def uptoBulkEntries {H : Type} : List (Lit × DataW H) → Nat
  | [] => 0
  | x :: r => uptoBulkEntry x + uptoBulkEntries r
def uptoBulkEntry {H : Type} : Lit × DataW H → Nat
  | (.string bytes, d) => bytes.length + uptoBulk d + 1
  | (_, d) => uptoBulk d + 1
 end
def uptoSmall : (H : Type) → List (DataW H) → Bool := fun _ ds => decide (uptoBulkAll ds ≤ 1048576)
def OpenSpec.upto (s : _root_.Go.ChangeSpec) : _root_.Go.OpenSpec := { _root_.Go.OpenSpec.ofChange s with cond := some uptoSmall }

/-- 'filigreelaw07.RotationFaces', WHERE WHAT IT READS IS OF BULK AT MOST 1048576: true; the input reads as it did. -/
def rotationFacesUptoRow : OpenClaim := { program := "ytpajjnkmaebhcaa", sum := "b9bcc3401912e7fafaf7d5db71578d03828b301ad89c0dd9eae2533e5e7e88cb", func := "filigree/filigreelaw07.RotationFaces", spec := "rotationFaces", unfollowed := true, recurses := true, plainKeys := false, apart := false, narrowed := true }
def RotationFacesUptoSaid : Prop := rotationFacesUptoRow.holds Try.pinned (OpenSpec.upto rotationFacesSpec)

/-- 'filigreelaw07.RotationEuler', WHERE WHAT IT READS IS OF BULK AT MOST 1048576: true; the input reads as it did. -/
def rotationEulerUptoRow : OpenClaim := { program := "ytpajjnkmaebhcaa", sum := "b9bcc3401912e7fafaf7d5db71578d03828b301ad89c0dd9eae2533e5e7e88cb", func := "filigree/filigreelaw07.RotationEuler", spec := "rotationEuler", unfollowed := true, recurses := true, plainKeys := false, apart := false, narrowed := true }
def RotationEulerUptoSaid : Prop := rotationEulerUptoRow.holds Try.pinned (OpenSpec.upto rotationEulerSpec)

/-- 'filigreelaw07.RotationDarts', WHERE WHAT IT READS IS OF BULK AT MOST 1048576: true; the input reads as it did. -/
def rotationDartsUptoRow : OpenClaim := { program := "ytpajjnkmaebhcaa", sum := "b9bcc3401912e7fafaf7d5db71578d03828b301ad89c0dd9eae2533e5e7e88cb", func := "filigree/filigreelaw07.RotationDarts", spec := "rotationDarts", unfollowed := true, recurses := true, plainKeys := false, apart := false, narrowed := true }
def RotationDartsUptoSaid : Prop := rotationDartsUptoRow.holds Try.pinned (OpenSpec.upto rotationDartsSpec)

/-- 'filigreelaw07.RotationForest', WHERE WHAT IT READS IS OF BULK AT MOST 1048576: true; the input reads as it did. -/
def rotationForestUptoRow : OpenClaim := { program := "ytpajjnkmaebhcaa", sum := "b9bcc3401912e7fafaf7d5db71578d03828b301ad89c0dd9eae2533e5e7e88cb", func := "filigree/filigreelaw07.RotationForest", spec := "rotationForest", unfollowed := true, recurses := true, plainKeys := false, apart := false, narrowed := true }
def RotationForestUptoSaid : Prop := rotationForestUptoRow.holds Try.pinned (OpenSpec.upto rotationForestSpec)

/-- 'filigreelaw07.RotationRight', WHERE WHAT IT READS IS OF BULK AT MOST 1048576: true; the input reads as it did. -/
def rotationRightUptoRow : OpenClaim := { program := "ytpajjnkmaebhcaa", sum := "b9bcc3401912e7fafaf7d5db71578d03828b301ad89c0dd9eae2533e5e7e88cb", func := "filigree/filigreelaw07.RotationRight", spec := "rotationRight", unfollowed := true, recurses := true, plainKeys := false, apart := false, narrowed := true }
def RotationRightUptoSaid : Prop := rotationRightUptoRow.holds Try.pinned (OpenSpec.upto rotationRightSpec)

/-- 'filigreelaw07.RotationGenus', WHERE WHAT IT READS IS OF BULK AT MOST 1048576: true; the input reads as it did. -/
def rotationGenusUptoRow : OpenClaim := { program := "ytpajjnkmaebhcaa", sum := "b9bcc3401912e7fafaf7d5db71578d03828b301ad89c0dd9eae2533e5e7e88cb", func := "filigree/filigreelaw07.RotationGenus", spec := "rotationGenus", unfollowed := true, recurses := true, plainKeys := false, apart := false, narrowed := true }
def RotationGenusUptoSaid : Prop := rotationGenusUptoRow.holds Try.pinned (OpenSpec.upto rotationGenusSpec)

/-- 'filigreelaw10.FacesDual', WHERE WHAT IT READS IS OF BULK AT MOST 1048576: true; the input reads as it did. -/
def facesDualUptoRow : OpenClaim := { program := "ytpajjnkmaebhcaa", sum := "b9bcc3401912e7fafaf7d5db71578d03828b301ad89c0dd9eae2533e5e7e88cb", func := "filigree/filigreelaw10.FacesDual", spec := "facesDual", unfollowed := true, recurses := true, plainKeys := false, apart := false, narrowed := true }
def FacesDualUptoSaid : Prop := facesDualUptoRow.holds Try.pinned (OpenSpec.upto facesDualSpec)

/-- 'filigreelaw10.FacesBridges', WHERE WHAT IT READS IS OF BULK AT MOST 1048576: true; the input reads as it did. -/
def facesBridgesUptoRow : OpenClaim := { program := "ytpajjnkmaebhcaa", sum := "b9bcc3401912e7fafaf7d5db71578d03828b301ad89c0dd9eae2533e5e7e88cb", func := "filigree/filigreelaw10.FacesBridges", spec := "facesBridges", unfollowed := true, recurses := true, plainKeys := false, apart := false, narrowed := true }
def FacesBridgesUptoSaid : Prop := facesBridgesUptoRow.holds Try.pinned (OpenSpec.upto facesBridgesSpec)

/-- 'filigreelaw10.FacesEuler', WHERE WHAT IT READS IS OF BULK AT MOST 1048576: true; the input reads as it did. -/
def facesEulerUptoRow : OpenClaim := { program := "ytpajjnkmaebhcaa", sum := "b9bcc3401912e7fafaf7d5db71578d03828b301ad89c0dd9eae2533e5e7e88cb", func := "filigree/filigreelaw10.FacesEuler", spec := "facesEuler", unfollowed := true, recurses := true, plainKeys := false, apart := false, narrowed := true }
def FacesEulerUptoSaid : Prop := facesEulerUptoRow.holds Try.pinned (OpenSpec.upto facesEulerSpec)

/-- 'filigreelaw07.RotationCanon', WHERE WHAT IT READS IS OF BULK AT MOST 1048576: true; the input reads as it did. -/
def rotationCanonUptoRow : OpenClaim := { program := "ytpajjnkmaebhcaa", sum := "b9bcc3401912e7fafaf7d5db71578d03828b301ad89c0dd9eae2533e5e7e88cb", func := "filigree/filigreelaw07.RotationCanon", spec := "rotationCanon", unfollowed := true, recurses := true, plainKeys := false, apart := false, narrowed := true }
def RotationCanonUptoSaid : Prop := rotationCanonUptoRow.holds Try.pinned (OpenSpec.upto rotationCanonSpec)

end Rows
end Go.Proofs.Ytpajjnkmaebhcaa
