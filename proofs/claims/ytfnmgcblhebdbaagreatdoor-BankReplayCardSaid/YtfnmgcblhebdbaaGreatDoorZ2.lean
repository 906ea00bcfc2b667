/- Items: the plain words that the contracts speak of, and the plain laws between the two ways to say them. No conditions. -/
import Derived.Test.YtfnmgcblhebdbaaGreatDoorZBase
namespace Go.Proofs.YtfnmgcblhebdbaaGreatDoor
open Go.RowKit

namespace It
def allN (p:Nat→Bool)(k:Nat):Bool:=(List.range k).all p
theorem allN_zero(p:Nat→Bool):allN p 0=true:=rfl
theorem allN_succ(p:Nat→Bool)(k:Nat):allN p (k+1)=(allN p k && p k):=by unfold allN;rw[List.range_succ,List.all_append];simp
theorem allN_iff{p:Nat→Bool}{k:Nat}:allN p k=true↔∀ i,i<k→p i=true:=by unfold allN;rw[List.all_eq_true];simp
theorem allN_next{p:Nat→Bool}{k:Nat}(h:allN p k=true)(hp:p k=true):allN p (k+1)=true:=by rw[allN_succ,h,hp];rfl
theorem allN_no{p:Nat→Bool}{k m:Nat}(hk:k<m)(hp:p k=false):allN p m=false:=by
 cases h:allN p m with
 | false=>rfl
 | true=>rw[allN_iff.1 h k hk]at hp;cases hp
theorem allN_congr{p q:Nat→Bool}{k:Nat}(h:∀ i,i<k→p i=q i):allN p k=allN q k:=by
 rw[Bool.eq_iff_iff,allN_iff,allN_iff];exact⟨fun g i hi=>by rw[← h i hi];exact g i hi,fun g i hi=>by rw[h i hi];exact g i hi⟩

def wi (n lo hi:Int):Bool:=decide (lo≤n) && decide (n≤hi)
theorem wi_iff{n lo hi:Int}:wi n lo hi=true↔lo≤n∧n≤hi:=by unfold wi;simp
def by_ (s:ByteArray)(i:Nat):Int:=((s.data.toList.getD i 0).toNat:Int)
theorem by_at(s:ByteArray){i:Nat}(h:i<s.size):by_ s i=(s[i].toNat:Int):=by unfold by_;rw[List.getD_eq_getElem?_getD,List.getElem?_eq_getElem (by simpa using h)];rfl
def risA (l:List Int)(lo hi:Int)(i:Nat):Bool:=wi (l.getD i 0) lo hi && (decide (i=0) || decide (l.getD (i-1) 0<l.getD i 0))
def rising (l:List Int)(lo hi:Int):Bool:=allN (risA l lo hi) l.length
def okc (feeds:Bool)(x:Int):Bool:=(decide (32≤x) && decide (x≤126)) || (feeds && decide (x=10))
def prn (s:ByteArray)(most:Nat)(feeds:Bool):Bool:=decide (1≤s.size) && decide (s.size≤most) && allN (fun i=>okc feeds (by_ s i)) s.size
def ltr (x:Int):Bool:=(decide (97≤x) && decide (x≤122)) || (decide (48≤x) && decide (x≤57))
def nrmA (s:ByteArray)(i:Nat):Bool:=(ltr (by_ s i) || decide (by_ s i=32)) && !(decide (by_ s i=32) && (decide (i=0) || decide (i+1=s.size) || decide (by_ s (i-1)=32)))
def nrm (s:ByteArray):Bool:=allN (nrmA s) s.size && decide (0<s.size)
def nrmC (s:ByteArray):Bool:=allN (fun i=>ltr (by_ s i) || decide (by_ s i=32)) s.size &&
 !(decide (0<s.size) && decide (by_ s 0=32)) && !(decide (0<s.size) && decide (by_ s (s.size-1)=32)) && allN (fun i=>!(decide (i+1<s.size) && decide (by_ s i=32) && decide (by_ s (i+1)=32))) s.size
theorem nrm_eq(s:ByteArray)(h:0<s.size):nrmC s=nrm s:=by
 unfold nrm nrmC;rw[Bool.eq_iff_iff];simp only[Bool.and_eq_true,allN_iff,nrmA,Bool.or_eq_true,Bool.not_eq_true',decide_eq_true_eq,Bool.and_eq_false_iff,decide_eq_false_iff_not,Bool.or_eq_false_iff];constructor
 · rintro⟨⟨⟨h1,h2⟩,h3⟩,h4⟩;refine⟨fun i hi=>⟨h1 i hi,?_⟩,h⟩;by_cases e:by_ s i=32
   · refine Or.inr ⟨⟨fun e0=>?_,fun e1=>?_⟩,fun e2=>?_⟩
     · subst e0;exact(h2.resolve_left (fun g=>g h)) e
     · have:i=s.size-1:=by omega
       subst this;exact(h3.resolve_left (fun g=>g h)) e
     · rcases Nat.eq_zero_or_pos i with g | g
       · subst g;exact(h2.resolve_left (fun g=>g h)) e
       · rcases h4 (i-1) (by omega)with h5 | h5
         · rcases h5 with h5 | h5
           · exact h5 (by omega)
           · exact h5 e2
         · exact h5 (by rw[show i-1+1=i by omega];exact e)
   · exact Or.inl e
 · rintro⟨h1,-⟩;refine⟨⟨⟨fun i hi=>(h1 i hi).1,?_⟩,?_⟩,fun i hi=>?_⟩
   · refine Or.inr fun e=>?_;rcases(h1 0 h).2 with g | g
     · exact g e
     · exact g.1.1 rfl
   · refine Or.inr fun e=>?_;rcases(h1 (s.size-1) (by omega)).2 with g | g
     · exact g e
     · exact g.1.2 (by omega)
   · by_cases hlt:i+1<s.size
     · by_cases e1:by_ s i=32
       · refine Or.inr fun e2=>?_;rcases(h1 (i+1) hlt).2 with g | g
         · exact g e2
         · exact g.2 (by rw[show i+1-1=i by omega];exact e1)
       · exact Or.inl (Or.inr e1)
     · exact Or.inl (Or.inl hlt)

def times (l:List Int)(k:Int):Nat:=l.count k
def perm (l:List Int)(n:Nat):Bool:=decide (l.length=n) && allN (fun k=>decide (times l k=1)) n
def sorted (l:List Int):List Int:=l.mergeSort fun x y=>decide (x≤y)
def ints (n:Nat):List Int:=(List.range n).map Int.ofNat
theorem perm_range:∀ (n:Nat) (l:List Int),l.length=n→(∀ k,k<n→(k:Int)∈l)→l.Perm (ints n)
 | 0,l,h,_=>by have:l=[]:=List.eq_nil_of_length_eq_zero h;subst this;exact List.Perm.refl _
 | n+1,l,h,hm=>by
  have h1:=hm n (by omega);have hp:=List.perm_cons_erase h1;have hl:(l.erase (n:Int)).length=n:=by have:=hp.length_eq;simp at this;omega
  have ih:=perm_range n (l.erase (n:Int)) hl (fun k hk=>(List.mem_erase_of_ne (by omega)).2 (hm k (by omega)));refine hp.trans ((List.Perm.cons _ ih).trans ?_);unfold ints;rw[List.range_succ,List.map_append];exact(List.perm_append_comm (l₁:=[(n:Int)]) (l₂:=(List.range n).map Int.ofNat))
theorem ints_at(n:Nat){i:Nat}(h:i<n):(ints n).getD i 0=i:=by unfold ints;rw[List.getD_eq_getElem?_getD,List.getElem?_map,List.getElem?_range h];rfl
theorem ints_len(n:Nat):(ints n).length=n:=by simp[ints]
theorem ints_rising(n:Nat):rising (ints n) 0 ((n:Int)-1)=true:=by
 unfold rising;rw[ints_len,allN_iff];intro i hi;unfold risA;rw[ints_at n hi];simp only[Bool.and_eq_true,wi_iff,Bool.or_eq_true,decide_eq_true_eq];refine⟨by omega,?_⟩;by_cases h0:i=0
 · exact Or.inl h0
 · exact Or.inr (by rw[ints_at n (by omega)];omega)
theorem rising_ints(n:Nat)(l:List Int)(hl:l.length=n)(h:rising l 0 ((n:Int)-1)=true):l=ints n:=by
 unfold rising at h;rw[hl,allN_iff]at h;have hr:∀ i,i<n→(0≤l.getD i 0∧l.getD i 0≤(n:Int)-1)∧(i=0∨l.getD (i-1) 0<l.getD i 0):=fun i hi=>by have:=h i hi;unfold risA at this;simpa only[Bool.and_eq_true,wi_iff,Bool.or_eq_true,decide_eq_true_eq]using this
 have lo:∀ i,i<n→(i:Int)≤l.getD i 0:=fun i=>by
  induction i with
  | zero=>intro hi;have:=(hr 0 hi).1.1;omega
  | succ i ih =>
   intro hi;have h1:=ih (by omega);have h2:=(hr (i+1) hi).2;rcases h2 with h2 | h2
   · omega
   · rw[show i+1-1=i by omega]at h2;omega
 have hi':∀ j i,i+j+1=n→l.getD i 0≤(i:Int):=fun j=>by
  induction j with
  | zero=>intro i hi;have:=(hr i (by omega)).1.2;omega
  | succ j ih =>
   intro i hi;have h1:=ih (i+1) (by omega);have h2:=(hr (i+1) (by omega)).2;rcases h2 with h2 | h2
   · omega
   · rw[show i+1-1=i by omega]at h2;omega
 apply List.ext_getElem?;intro i;by_cases hi:i<n
 · have e:l.getD i 0=i:=by have:=lo i hi;have:=hi' (n-i-1) i (by omega);omega
   rw[List.getD_eq_getElem?_getD,List.getElem?_eq_getElem (by omega)]at e;unfold ints;rw[List.getElem?_map,List.getElem?_range hi,List.getElem?_eq_getElem (by omega)];simpa using e
 · rw[List.getElem?_eq_none (by omega),List.getElem?_eq_none (by rw[ints_len];omega)]
theorem sorted_perm(l:List Int):(sorted l).Perm l:=List.mergeSort_perm _ _
theorem sorted_ints(n:Nat)(l:List Int)(h:l.Perm (ints n)):sorted l=ints n:=by
 have hs:List.Pairwise (fun a b=>a≤b) (sorted l):=by have:=List.pairwise_mergeSort (le:=fun x y:Int=>decide (x≤y)) (by intro a b c;simp;omega) (by intro a b;simp;omega) l;exact this.imp (fun h=>by simpa using h)
 have hi:List.Pairwise (fun a b=>a≤b) (ints n):=by unfold ints;rw[List.pairwise_map];exact List.pairwise_lt_range.imp (fun h=>by simp;omega)
 exact List.Perm.eq_of_pairwise (le:=fun a b:Int=>a≤b) (fun a b _ _ h1 h2=>by omega) hs hi ((sorted_perm l).trans h)
theorem perm_eq(l:List Int)(n:Nat)(hl:l.length=n):rising (sorted l) 0 ((n:Int)-1)=perm l n:=by
 have hlen:(sorted l).length=n:=by rw[(sorted_perm l).length_eq,hl]
 rw[Bool.eq_iff_iff];constructor
 · intro h;have e:=rising_ints n _ hlen h;have hp:l.Perm (ints n):=by have:=(sorted_perm l).symm;rwa [e]at this
   unfold perm;simp only[Bool.and_eq_true,decide_eq_true_eq,allN_iff];refine⟨hl,fun k hk=>?_⟩;unfold times;rw[hp.count_eq];unfold ints;have hn:(List.map Int.ofNat (List.range n)).Nodup:=by unfold List.Nodup;rw[List.pairwise_map];exact List.pairwise_lt_range.imp (fun h=>by simp;omega)
   rw[hn.count];exact if_pos (List.mem_map.2 ⟨k,by simpa using hk,rfl⟩)
 · intro h;unfold perm at h;simp only[Bool.and_eq_true,decide_eq_true_eq,allN_iff]at h;have hp:=perm_range n l hl (fun k hk=>by have:=h.2 k hk;unfold times at this;exact List.count_pos_iff.1 (by omega))
   rw[sorted_ints n l hp];exact ints_rising n
end It
end Go.Proofs.YtfnmgcblhebdbaaGreatDoor
namespace Go.Proofs.YtfnmgcblhebdbaaGreatDoor
open Go.ChangeShapes Go.WideShapes Go.ChangeAt Go.RowKit

def Sl (w:World)(k:Nat)(A:Option Addr)(xs:List (List Value)):Prop :=
 xs=[]∨∃ b off,A=some ⟨b,off,none⟩∧b<w.heap.size∧∀ i cs,xs[i]?=some cs→∀ j v,cs[j]?=some v→w.cell? ⟨b,off+(i*k+j),none⟩=some v

theorem Sl.ext{w w':World}{k:Nat}{A:Option Addr}{xs:List (List Value)}(h:Sl w k A xs)(he:Ext w w'):Sl w' k A xs:=by
 rcases h with h | ⟨b,off,hA,hb,hc⟩
 · exact Or.inl h
 · exact Or.inr ⟨b,off,hA,Nat.lt_of_lt_of_le hb he.size,fun i cs hi j v hv=>he.keep (hc i cs hi j v hv)⟩

theorem Sl.at_{w:World}{k:Nat}{A:Option Addr}{xs:List (List Value)}(h:Sl w k A xs){i:Nat}{cs:List Value}(hi:xs[i]?=some cs) :
    ∃ b off,A=some ⟨b,off,none⟩∧b<w.heap.size∧∀ j v,cs[j]?=some v→w.cell? ⟨b,off+(i*k+j),none⟩=some v:=by
 rcases h with h | ⟨b,off,hA,hb,hc⟩
 · subst h;simp at hi
 · exact⟨b,off,hA,hb,hc i cs hi⟩

def SlI (w:World)(A:Option Addr)(xs:List Int):Prop:=Sl w 1 A (xs.map fun x=>[.int .i64 x])
theorem SlI.ext{w w':World}{A:Option Addr}{xs:List Int}(h:SlI w A xs)(he:Ext w w'):SlI w' A xs:=Sl.ext h he
theorem SlI.nil(w:World)(A:Option Addr):SlI w A []:=Or.inl rfl
theorem SlI.at_{w:World}{A:Option Addr}{xs:List Int}(h:SlI w A xs){i:Nat}(hi:i<xs.length) :
    ∃ b off x,A=some ⟨b,off,none⟩∧b<w.heap.size∧xs[i]?=some x∧w.cell? ⟨b,off+i,none⟩=some (.int .i64 x):=by
 obtain⟨b,off,hA,hb,hc⟩:=Sl.at_ (i:=i) (cs:=[.int .i64 xs[i]]) h (by simp[hi]);refine⟨b,off,xs[i],hA,hb,List.getElem?_eq_getElem hi,?_⟩;have:=hc 0 _ rfl;simpa using this

def In64 (x:Int):Prop:=-9223372036854775808≤x∧x≤9223372036854775807
theorem in64_of_wf{x:Int}(h:(Lit.int .i64 x).wf=true):In64 x:=by
 simp only[Lit.wf,Bool.and_eq_true,decide_eq_true_eq]at h;exact h

section
variable {H:Type} {enc:TypeId×Value→H} {P:Program} {w:World} {base:Nat} {spare:Nat→Bool} {held:Bool}

end
end Go.Proofs.YtfnmgcblhebdbaaGreatDoor
