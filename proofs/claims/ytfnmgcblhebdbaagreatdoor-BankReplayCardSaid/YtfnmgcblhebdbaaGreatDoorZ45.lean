/- What the form's own reach says of data that were read: each slice and each string takes at most reachBytes bytes; slices opened with that. No conditions. -/
import Derived.Test.YtfnmgcblhebdbaaGreatDoorZ3
import Derived.SizedLaws
namespace Go.Proofs.YtfnmgcblhebdbaaGreatDoor
open Go.ChangeShapes Go.WideShapes Go.ChangeAt Go.RowKit

section
variable {H:Type} {enc:TypeId×Value→H} {P:Program} {w:World} {base:Nat} {held:Bool}

def Light (P:Program)(t:TypeId)(d:DataW H):Prop:=∀ n∈d.weights P t,n≤reachBytes

theorem light_arg{ts:List TypeId}{ds:List (DataW H)}(h:(DataW.weightsEach P ts ds).all (· ≤ reachBytes)=true){j:Nat}{t:TypeId}{d:DataW H}(ht:ts[j]?=some t)(hd:ds[j]?=some d):Light P t d:=fun n hn=>by
 have:=List.all_eq_true.1 h n (DataW.weights_mem_each ht hd n hn);simpa using this

theorem light_all{e:TypeId}:∀ {ds:List (DataW H)} {d:DataW H},d∈ds→∀ n∈d.weights P e,n∈DataW.weightsAll P e ds
 | d0 :: ds,d,hd,n,hn=>by
  simp only[DataW.weightsAll,List.mem_append];rcases List.mem_cons.1 hd with rfl | hd
  · exact Or.inl hn
  · exact Or.inr (light_all hd n hn)

theorem light_str{t:TypeId}{l:List UInt8}(h:Light P t (.lit (.string l):DataW H)):l.length≤140737488351232:=by
 have:=h l.length (by simp[DataW.weights]);simpa[reachBytes]using this

theorem open_slW{X:Type}[Inhabited X](encX:X→List Value)(Good:X→Prop){t e:TypeId}{k bs fuel:Nat}{cs:List Value}{y:DataW H×List MemPlace}
    (ht:P.underlying t=some (.slice e)) (hk:P.cellsOf e=k) (hk0:0<k) (hbs:P.bytesOf e=bs)
    (hel:∀ n cs y,DataW.trod enc P w base (fun _=>true) held n e cs=some y→Light P e y.1→∃ x,cs=encX x∧Good x)
    (h:DataW.trod enc P w base (fun _=>true) held fuel t cs=some y) (hy:Light P t y.1) :
    ∃ (A:Option Addr) (xs:List X) (c:Nat),cs=[.slice A xs.length c]∧xs.length≤c∧c≤maxLen∧c*bs≤140737488351232∧(∀ x∈xs,Good x)∧Sl w k A (xs.map encX):=by
 have h0:=h;rcases Deep.open_slice ht h with ⟨rfl,_⟩ | ⟨a,len,cap,m,n,D,Pl,rfl,hb,hl,hm,hmm,hyy,hx⟩
 · exact⟨none,[],0,rfl,Nat.le_refl _,Nat.zero_le _,by simp,fun x hx=>by simp at hx,Or.inl rfl⟩
 · have hmc:m=cap:=(by rw[hmm];simp);subst hmc;subst hyy;simp only at hy;have hw:m*bs≤140737488351232:=by have:=hy ((((List.range len).map D).length+((List.range (m-len)).map fun j=>D (len+j)).length)*P.bytesOf e) (by simp[DataW.weights,ht]);simp only[List.length_map,List.length_range,reachBytes,hbs]at this;rw[show len+(m-len)=m by omega]at this;exact this
   have hli:∀ i,i<len→Light P e (D i):=fun i hi n hn=>by refine hy n ?_;simp only[DataW.weights,ht];refine List.mem_cons_of_mem _ (List.mem_append_left _ (light_all (d:=D i) ?_ n hn));exact List.mem_map.2 ⟨i,by simpa using hi,rfl⟩
   have hel':∀ i,i<len→∃ x,w.cells? base (a.add (i*k)) k=some (encX x)∧Good x:=fun i hi=>by obtain⟨cs',h1,h2⟩:=hx i (by omega);obtain⟨x,rfl,hg⟩:=hel _ _ _ h2 (hli i hi);rw[hk]at h1;exact⟨x,h1,hg⟩
   obtain⟨f,hf⟩:=Deep.choose_lt (α:=X) (n:=len) (p:=fun i x=>w.cells? base (a.add (i*k)) k=some (encX x)∧Good x) hel';refine⟨some a,(List.range len).map f,m,by simp,by simpa using hl,hm,hw,fun x hx=>?_,?_⟩
   · obtain⟨i,hi,rfl⟩:=List.mem_map.1 hx;exact(hf i (by simpa using hi)).2
   · rcases Nat.eq_zero_or_pos len with h0 | h0
     · subst h0;exact Or.inl rfl
     · have key:∀ i,i<len→∀ j v,(encX (f i))[j]?=some v→w.cell? (a.add (i*k+j))=some v:=fun i hi j v hv=>by
         obtain⟨_,hlen',hc⟩:=World.cells?_some (hf i hi).1;have hj:j<k:=by
          have:j<(encX (f i)).length:=by
           rcases Nat.lt_or_ge j (encX (f i)).length with g | g
           · exact g
           · rw[List.getElem?_eq_none g]at hv;cases hv
          omega
         have:=hc j hj;rw[Deep.add_add]at this;rw[this];exact hv
       have h00:∃ v,w.cell? a=some v:=by obtain⟨_,hlen',hc⟩:=World.cells?_some (hf 0 h0).1;have h1:0<(encX (f 0)).length:=(by omega);have:=key 0 h0 0 ((encX (f 0))[0]) (List.getElem?_eq_getElem h1);rw[Nat.zero_mul,Nat.add_zero]at this;exact⟨_,by simpa[Addr.add]using this⟩
       obtain⟨v0,hv0⟩:=h00;obtain⟨b,off,spot⟩:=a;have hspot:spot=none:=by
        cases spot with
        | none=>rfl
        | some z=>unfold World.cell? at hv0;simp at hv0;split at hv0 <;> simp at hv0
       subst hspot;refine Or.inr ⟨b,off,rfl,World.block_lt_of_cell? w _ hv0,fun i cs hi j v hv=>?_⟩;have hi':i<len:=by
        rcases Nat.lt_or_ge i len with g | g
        · exact g
        · rw[List.getElem?_eq_none (by simpa using g)]at hi;cases hi
       have hcs:cs=encX (f i):=by simp[hi']at hi;exact hi.symm
       subst hcs;have:=key i hi' j v hv;rwa [add_plain]at this

theorem fieldsW{t:TypeId}{fs:Array Field}{fuel:Nat}{cs:List Value}{y:DataW H×List MemPlace}(hs:P.underlying t=some (.struct fs))(h:DataW.trod enc P w base (fun _=>true) held fuel t cs=some y)(hy:Light P t y.1) :
    cs.length=P.cellsOf t∧∃ n,∀ (i:Nat) (f:Field),fs[i]?=some f→∃ z,DataW.trod enc P w base (fun _=>true) held n f.type ((cs.drop f.offset).take (P.cellsOf f.type))=some z∧Light P f.type z.1:=by
 obtain⟨xs,n,_,hyx,hl,hlen,hf⟩:=DataW.trod_struct hs h;refine⟨hl,n,fun i f hi=>?_⟩;have hi':i<xs.length:=by
  rw[hlen];rcases Nat.lt_or_ge i fs.size with g | g
  · exact g
  · rw[Array.getElem?_eq_none g]at hi;cases hi
 refine⟨xs[i],(hf i f hi).trans (List.getElem?_eq_getElem hi'),fun m hm=>hy m ?_⟩;rw[hyx];simp only[DataW.weights,hs];refine DataW.weights_mem_each (j:=i) (t:=f.type) (d:=(xs[i]).1) ?_ ?_ m hm
 · rw[List.getElem?_map,Array.getElem?_toList,hi];rfl
 · rw[List.getElem?_map,List.getElem?_eq_getElem hi'];rfl
end
end Go.Proofs.YtfnmgcblhebdbaaGreatDoor
