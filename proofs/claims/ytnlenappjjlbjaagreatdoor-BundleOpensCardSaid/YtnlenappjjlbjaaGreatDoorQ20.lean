/- The law's awake: the chapter's example. Conditions: the library's variable and the package's names lie in memory. -/
import Derived.Test.YtnlenappjjlbjaaGreatDoorQ15
import Derived.Test.YtnlenappjjlbjaaGreatDoorQ17
namespace Go.Proofs.YtnlenappjjlbjaaGreatDoor
open Go.RowKit Go.Shelf

namespace It
end It
theorem heap_set {w:World} {g:Nat} {cs:Array Value} {t:TypeId} {fr:Nat×Nat} (h:w.heap[g]?=some (.cells cs t fr)) (i:Nat) (v:Value):(w.setCell ⟨g,i,none⟩ v).heap[g]?=some (.cells (cs.setIfInBounds i v) t fr):=by
 simp [World.setCell,Array.getElem?_modify,h]
theorem frozen_row {w:World} {g:Nat} {cs:Array Value} {t:TypeId} (h:w.heap[g]?=some (.cells cs t (0,0))) (i:Nat):w.frozen? ⟨g,i,none⟩=false:=by
 simp [World.frozen?,h]
theorem infoNode {CS:Array Value} (h:CS.size=5):(Tryz.prog.info? 52).map (·.size)=some CS.size:=by rw [h];kernel_rfl
end Go.Proofs.YtnlenappjjlbjaaGreatDoor
