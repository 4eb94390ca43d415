/- More of the seat's types. -/
import Derived.Test.YtkekpgkacjpjnaaTy
import Derived.Test.YtkekpgkacjpjnaaSlStep2
namespace Go.Sl
open Go Go.Proofs
instance : BoTy Try.prog 4 := ⟨Try.underlying4⟩
end Go.Sl
