/- Banks in plain words: entries, how an entry, its last version and one of its versions are found. No conditions. -/
import Derived.Test.YtfnmgcblhebdbaaGreatDoorItA
import Derived.Test.YtfnmgcblhebdbaaGreatDoorRevP
namespace Go.Proofs.YtfnmgcblhebdbaaGreatDoor
namespace Bk
/-- An entry: its versions, its review record, its model's rows. -/
structure Ent where
  vers : List It.Item
  rev : Rev.Rec
  rows : List (List Int)
/-- An asset. -/
structure Ast where
  id : Int
  bytes : Int
  alt : ByteArray
  frm : Int
  unt : Int
/-- A topic: its code, its title. -/
abbrev Tpc := ByteArray × ByteArray
structure Bank where
  now : Int
  pts : List Int
  prior : List Int
  outl : List Tpc
  assets : List Ast
  ents : List Ent
  enem : List (Int × Int)
/-- The number of an entry: that of its last version. -/
def num (e : Ent) : Option Int := (e.vers[e.vers.length - 1]?).map (·.id)
/-- The index of the first entry with a number. -/
def fnd (es : List Ent) (id : Int) : Option Nat := es.findIdx? fun e => decide (num e = some id)
theorem fnd_none {es : List Ent} {id : Int} (h : ∀ (i : Nat) (e : Ent), es[i]? = some e → num e ≠ some id) : fnd es id = none := by
  unfold fnd
  rw [List.findIdx?_eq_none_iff]
  intro e he
  obtain ⟨i, hi, rfl⟩ := List.mem_iff_getElem.1 he
  exact decide_eq_false (h i _ (List.getElem?_eq_getElem hi))
theorem fnd_some {es : List Ent} {id : Int} {k : Nat} {e : Ent} (he : es[k]? = some e) (hn : num e = some id) (h : ∀ (i : Nat) (x : Ent), i < k → es[i]? = some x → num x ≠ some id) : fnd es id = some k := by
  obtain ⟨hk, hx⟩ := List.getElem?_eq_some_iff.1 he
  unfold fnd
  rw [List.findIdx?_eq_some_iff_getElem]
  refine ⟨hk, by rw [hx]; exact decide_eq_true hn, fun j hj => ?_⟩
  have := h j _ hj (List.getElem?_eq_getElem (by omega))
  simpa using this
theorem fnd_at {es : List Ent} {id : Int} {k : Nat} (h : fnd es id = some k) : ∃ e, es[k]? = some e ∧ num e = some id := by
  unfold fnd at h
  obtain ⟨hk, h1, -⟩ := List.findIdx?_eq_some_iff_getElem.1 h
  exact ⟨es[k], List.getElem?_eq_getElem hk, of_decide_eq_true h1⟩
theorem num_some {e : Ent} {id : Int} (h : num e = some id) : ∃ x, e.vers[e.vers.length - 1]? = some x ∧ x.id = id ∧ 0 < e.vers.length := by
  unfold num at h
  obtain ⟨x, hx, rfl⟩ := Option.map_eq_some_iff.1 h
  exact ⟨x, hx, rfl, by have := (List.getElem?_eq_some_iff.1 hx).1; omega⟩
/-- What Entry, Last and Version find. -/
def entF (b : Bank) (id : Int) : Option Ent := (fnd b.ents id).bind fun k => b.ents[k]?
def lastF (b : Bank) (id : Int) : Option It.Item := (entF b id).bind fun e => e.vers[e.vers.length - 1]?
def verF (b : Bank) (id v : Int) : Option It.Item := (entF b id).bind fun e => e.vers.find? fun x => decide (x.ver = v)
theorem find_none {l : List It.Item} {v : Int} (h : ∀ (i : Nat) (x : It.Item), l[i]? = some x → x.ver ≠ v) : (l.find? fun x => decide (x.ver = v)) = none := by
  rw [List.find?_eq_none]
  intro x hx
  obtain ⟨i, hi, rfl⟩ := List.mem_iff_getElem.1 hx
  simpa using h i _ (List.getElem?_eq_getElem hi)
theorem find_some {l : List It.Item} {v : Int} {k : Nat} {x : It.Item} (hx : l[k]? = some x) (hv : x.ver = v) (h : ∀ (i : Nat) (y : It.Item), i < k → l[i]? = some y → y.ver ≠ v) : (l.find? fun x => decide (x.ver = v)) = some x := by
  obtain ⟨hk, rfl⟩ := List.getElem?_eq_some_iff.1 hx
  rw [List.find?_eq_some_iff_getElem]
  refine ⟨decide_eq_true hv, k, hk, rfl, fun j hj => ?_⟩
  simpa using h j _ hj (List.getElem?_eq_getElem (by omega))
end Bk
end Go.Proofs.YtfnmgcblhebdbaaGreatDoor
