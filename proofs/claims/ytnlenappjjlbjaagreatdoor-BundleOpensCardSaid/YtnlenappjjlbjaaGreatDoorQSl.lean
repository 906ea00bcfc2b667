/- Slices that read as lists: 'Sl' says that a slice's address leads to the cells of the listed elements; how such slices come out of a row's reading, and how they are kept. No conditions. -/
import Derived.Test.YtnlenappjjlbjaaGreatDoorQBase
namespace Go.Proofs.YtnlenappjjlbjaaGreatDoor
open Go.ChangeShapes Go.WideShapes Go.ChangeAt Go.RowKit

def Sl (w:World) (k:Nat) (A:Option Addr) (xs:List (List Value)):Prop :=
 xs=[]∨∃ b off,A=some ⟨b,off,none⟩∧b<w.heap.size∧∀ i cs,xs[i]?=some cs→∀ j v,cs[j]?=some v→w.cell? ⟨b,off+(i*k+j),none⟩=some v

theorem Sl.ext {w w':World} {k:Nat} {A:Option Addr} {xs:List (List Value)} (h:Sl w k A xs) (he:Ext w w'):Sl w' k A xs:=by
 rcases h with h | ⟨b,off,hA,hb,hc⟩
 · exact Or.inl h
 · exact Or.inr ⟨b,off,hA,Nat.lt_of_lt_of_le hb he.size,fun i cs hi j v hv=>he.keep (hc i cs hi j v hv)⟩

theorem Sl.at_ {w : World} {k : Nat} {A : Option Addr} {xs : List (List Value)} (h : Sl w k A xs) {i : Nat} {cs : List Value} (hi : xs[i]? = some cs) :
    ∃ b off,A=some ⟨b,off,none⟩∧b<w.heap.size∧∀ j v,cs[j]?=some v→w.cell? ⟨b,off+(i*k+j),none⟩=some v:=by
 rcases h with h | ⟨b,off,hA,hb,hc⟩
 · subst h;simp at hi
 · exact ⟨b,off,hA,hb,hc i cs hi⟩

def SlI (w:World) (A:Option Addr) (xs:List Int):Prop:=Sl w 1 A (xs.map fun x=>[.int .i64 x])
theorem SlI.ext {w w':World} {A:Option Addr} {xs:List Int} (h:SlI w A xs) (he:Ext w w'):SlI w' A xs:=Sl.ext h he
theorem SlI.nil (w:World) (A:Option Addr):SlI w A []:=Or.inl rfl
theorem SlI.at_ {w : World} {A : Option Addr} {xs : List Int} (h : SlI w A xs) {i : Nat} (hi : i < xs.length) :
    ∃ b off x,A=some ⟨b,off,none⟩∧b<w.heap.size∧xs[i]?=some x∧w.cell? ⟨b,off+i,none⟩=some (.int .i64 x):=by
 obtain ⟨b,off,hA,hb,hc⟩:=Sl.at_ (i:=i) (cs:=[.int .i64 xs[i]]) h (by simp [hi])
 refine ⟨b,off,xs[i],hA,hb,List.getElem?_eq_getElem hi,?_⟩
 have:=hc 0 _ rfl
 simpa using this

theorem str_empty {s:ByteArray} (h:s.size=0):s.toList=[]:=by
 rw [ByteArray.toList_eq]
 exact List.eq_nil_of_length_eq_zero (by simpa using h)
theorem str_some {s:ByteArray} (h:1≤s.size):s.toList.isEmpty=false∧¬ s.toList=[]:=by
 have hne:¬ s.toList=[]:=fun e=>by
  have h1:=congrArg List.length e
  rw [ByteArray.toList_eq] at h1
  have h2:s.size=0:=by simpa using h1
  omega
 exact ⟨by cases h:s.toList with | nil=>exact absurd h hne | cons a l=>rfl,hne⟩

def In64 (x:Int):Prop:=-9223372036854775808≤x∧x≤9223372036854775807
section
variable {H:Type} {enc:TypeId×Value→H} {P:Program} {w:World} {base:Nat} {spare:Nat→Bool} {held:Bool}

end
end Go.Proofs.YtnlenappjjlbjaaGreatDoor
