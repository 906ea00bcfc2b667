/- slices.Clone of integers and of strings: a row of its own: contracts (out of the library's shelf, laid at this translation's numbers). Conditions: those of each theorem. -/
import Derived.Ground.Names2Prog
import Derived.Shelf.Slices.Clone
import Derived.Test.YtnlenappjjlbjaaGreatDoorQItA
namespace Go.Proofs
open Go.Shelf
namespace YtnlenappjjlbjaaGreatDoor
open Go.RowKit
end YtnlenappjjlbjaaGreatDoor
end Go.Proofs
