/- A clone of integers as a row of its own, sorted in place; the rule of an answer's choices: contracts. Conditions: those of each theorem. -/
import Derived.Test.YtnlenappjjlbjaaGreatDoorQ8
import Derived.Test.YtnlenappjjlbjaaGreatDoorQRsK
import Derived.Test.YtnlenappjjlbjaaGreatDoorQ14
namespace Go.Proofs.YtnlenappjjlbjaaGreatDoor
open Go.ChangeShapes Go.WideShapes Go.ChangeAt Go.RowKit Go.Shelf Go.Sort
namespace Rs
end Rs
end Go.Proofs.YtnlenappjjlbjaaGreatDoor
namespace Go.Proofs.YtnlenappjjlbjaaGreatDoor
open Go.ChangeShapes Go.WideShapes Go.ChangeAt Go.RowKit
theorem two_fst (w:World) (o1 o2:Obj):((w.alloc o1).alloc o2).heap[w.heap.size]?=some o1:=((Ext.refl (w.alloc o1)).alloc o2).blockAt (heap_alloc_new w o1)
theorem two_snd (w:World) (o1 o2:Obj):((w.alloc o1).alloc o2).heap[w.heap.size+1]?=some o2:=heap_new_at _ _ _ (by simp)
namespace Rs
end Rs
namespace Rs
end Rs
namespace Rs
end Rs
end Go.Proofs.YtnlenappjjlbjaaGreatDoor
