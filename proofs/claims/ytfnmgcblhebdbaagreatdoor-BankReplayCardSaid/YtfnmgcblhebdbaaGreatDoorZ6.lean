/- Banks in plain words: entries, how an entry, its last version and one of its versions are found. No conditions. -/
import Derived.Test.YtfnmgcblhebdbaaGreatDoorZ4
import Derived.Test.YtfnmgcblhebdbaaGreatDoorZ5
namespace Go.Proofs.YtfnmgcblhebdbaaGreatDoor
namespace Bk
structure Ent where
 vers:List It.Item
 rev:Rev.Rec
 rows:List (List Int)
structure Ast where
 id:Int
 bytes:Int
 alt:ByteArray
 frm:Int
 unt:Int
abbrev Tpc:=ByteArray×ByteArray
structure Bank where
 now:Int
 pts:List Int
 prior:List Int
 outl:List Tpc
 assets:List Ast
 ents:List Ent
 enem:List (Int×Int)
def num (e:Ent):Option Int:=(e.vers[e.vers.length-1]?).map (·.id)
def fnd (es:List Ent)(id:Int):Option Nat:=es.findIdx? fun e=>decide (num e=some id)
theorem fnd_none{es:List Ent}{id:Int}(h:∀ (i:Nat) (e:Ent),es[i]?=some e→num e≠some id):fnd es id=none:=by unfold fnd;rw[List.findIdx?_eq_none_iff];intro e he;obtain⟨i,hi,rfl⟩:=List.mem_iff_getElem.1 he;exact decide_eq_false (h i _ (List.getElem?_eq_getElem hi))
theorem fnd_some{es:List Ent}{id:Int}{k:Nat}{e:Ent}(he:es[k]?=some e)(hn:num e=some id)(h:∀ (i:Nat) (x:Ent),i<k→es[i]?=some x→num x≠some id):fnd es id=some k:=by obtain⟨hk,hx⟩:=List.getElem?_eq_some_iff.1 he;unfold fnd;rw[List.findIdx?_eq_some_iff_getElem];refine⟨hk,by rw[hx];exact decide_eq_true hn,fun j hj=>?_⟩;have:=h j _ hj (List.getElem?_eq_getElem (by omega));simpa using this
theorem fnd_at{es:List Ent}{id:Int}{k:Nat}(h:fnd es id=some k):∃ e,es[k]?=some e∧num e=some id:=by unfold fnd at h;obtain⟨hk,h1,-⟩:=List.findIdx?_eq_some_iff_getElem.1 h;exact⟨es[k],List.getElem?_eq_getElem hk,of_decide_eq_true h1⟩
theorem num_some{e:Ent}{id:Int}(h:num e=some id):∃ x,e.vers[e.vers.length-1]?=some x∧x.id=id∧0<e.vers.length:=by unfold num at h;obtain⟨x,hx,rfl⟩:=Option.map_eq_some_iff.1 h;exact⟨x,hx,rfl,by have:=(List.getElem?_eq_some_iff.1 hx).1;omega⟩
end Bk
end Go.Proofs.YtfnmgcblhebdbaaGreatDoor
