/- The key of an item: the reference's permutation and key, the package's onlyKey and validKey: contracts. Conditions: those of each theorem. -/
import Derived.Test.YtdaccamiipknmaaDoorItG
import Derived.Test.YtdaccamiipknmaaDoorItS
namespace Go.Proofs.YtdaccamiipknmaaDoor
open Go.RowKit

namespace It
def noOpt (it : Item) : Bool := decide (it.opts.length = 0) && decide (it.chs.length = 0)
def noNum (it : Item) : Bool := decide (it.value = 0) && decide (it.tol = 0)
def noTxt (it : Item) : Bool := decide (it.texts.length = 0)
def noEss (it : Item) : Bool := decide (it.rub = 0)
/-- a is at most b. -/
def sle (a b : ByteArray) : Bool := Op.bytesLess a.toList b.toList || a.toList == b.toList
/-- The i-th accepted text is normalized and stands behind the one before. -/
def txA (f : ByteArray → Bool) (l : List ByteArray) (i : Nat) : Bool := f (l.getD i ⟨#[]⟩) && (decide (i = 0) || !sle (l.getD i ⟨#[]⟩) (l.getD (i - 1) ⟨#[]⟩))
def txs (f : ByteArray → Bool) (l : List ByteArray) : Bool := allN (txA f l) l.length
def key1 (it : Item) : Bool := noNum it && noTxt it && noEss it && decide (2 ≤ it.opts.length) && decide (it.chs.length = 1) && rising it.chs 0 ((it.opts.length : Int) - 1)
def key2 (it : Item) : Bool := noNum it && noTxt it && noEss it && decide (2 ≤ it.opts.length) && decide (1 ≤ it.chs.length) && rising it.chs 0 ((it.opts.length : Int) - 1)
def key3 (it : Item) : Bool := noNum it && noTxt it && noEss it && decide (2 ≤ it.opts.length) && perm it.chs it.opts.length
def key4 (it : Item) : Bool := noOpt it && noTxt it && noEss it && wi it.value (-9999999) 9999999 && wi it.tol 0 9999999
def key5 (f : ByteArray → Bool) (it : Item) : Bool := txs f it.texts && (noOpt it && noNum it && noEss it && decide (1 ≤ it.texts.length))
def key6 (it : Item) : Bool := noOpt it && noNum it && noTxt it && decide (1 ≤ it.rub)
/-- The key, as the reference asks it. -/
def key (it : Item) : Bool := if it.kind = 1 then key1 it else if it.kind = 2 then key2 it else if it.kind = 3 then key3 it else if it.kind = 4 then key4 it else if it.kind = 5 then key5 nrm it else key6 it
theorem count_take {l : List Int} {k : Nat} {x y : Int} (h : l[k]? = some x) : (l.take (k + 1)).count y = (l.take k).count y + if x = y then 1 else 0 := by
  rw [List.take_add_one, h, List.count_append]
  simp [List.count_cons]
end It

end Go.Proofs.YtdaccamiipknmaaDoor
