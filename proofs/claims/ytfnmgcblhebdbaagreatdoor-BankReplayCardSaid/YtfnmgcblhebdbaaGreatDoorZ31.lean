/- Big numbers of the reference: slices of limbs; Norm: its contract. Conditions: those of each theorem. -/
import Derived.Test.YtfnmgcblhebdbaaGreatDoorZ3
import Derived.Laws.CopyOwn
import Derived.Laws.MakeOwn
namespace Go.Proofs.YtfnmgcblhebdbaaGreatDoor
open Go.ChangeShapes Go.WideShapes Go.ChangeAt Go.RowKit

namespace Na
end Na

end Go.Proofs.YtfnmgcblhebdbaaGreatDoor
namespace Go.Proofs.YtfnmgcblhebdbaaGreatDoor
namespace Rw
def limbs (n:Nat):List Nat:=if h:n=0 then[]else n % 4294967296 :: limbs (n / 4294967296)
termination_by n
decreasing_by omega
end Rw
end Go.Proofs.YtfnmgcblhebdbaaGreatDoor
