/- The score of an answer, in the reference: a contract. Conditions: those of each theorem. -/
import Derived.Test.YtnlenappjjlbjaaGreatDoorQ29
import Derived.Test.YtnlenappjjlbjaaGreatDoorQ17

