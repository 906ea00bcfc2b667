/- The score of an answer, in the reference: a contract. Conditions: those of each theorem. -/
import Derived.Test.YtnlenappjjlbjaaGreatDoorP29
import Derived.Test.YtnlenappjjlbjaaGreatDoorP17
namespace Go.Proofs.YtnlenappjjlbjaaGreatDoor
open Go.ChangeShapes Go.WideShapes Go.ChangeAt Go.RowKit
end Go.Proofs.YtnlenappjjlbjaaGreatDoor
