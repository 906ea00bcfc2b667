/- A region that draws its order, walked by an invariant: each operation once, whatever has come before it. No conditions. -/
import Derived.Test.YtfnmgcblhebdbaaGreatDoorZ3
import Derived.Orders
namespace Go.Proofs.YtfnmgcblhebdbaaGreatDoor
open Go.RowKit

section
variable {P:Program} {ops:Array Oper} {Q:Exit→Act→World→Prop}

theorem getD_true_false{l:Array Bool}{i:Nat}(h:i<l.size):l.getD i true=l.getD i false:=by simp[h]

theorem all_of_none{l:Array Bool}(hs:l.size=ops.size)(hac:∀ (i:Nat) (o:Oper),ops[i]?=some o→∀ e∈o.after,Region.binds .any e=true→e.on<i)(hr:Region.ready .any ops l=[]):∀ i,l.getD i true=true:=by
 intro i
 induction i using Nat.strongRecOn with
 | ind i ih =>
  rcases Nat.lt_or_ge i l.size with hi | hi
  · cases hv:l.getD i true with
    | true=>rfl
    | false =>
     exfalso;have ho:ops[i]?=some ops[i]:=Array.getElem?_eq_getElem (by omega);have hm:i∈Region.ready .any ops l:=mem_ready.2 ⟨hv,ops[i],ho,fun e he hb=>by have:=hac i _ ho e he hb;rw[← getD_true_false (by omega)];exact ih e.on this⟩
     rw[hr]at hm;cases hm
  · simp[Nat.not_lt.2 hi]

theorem any_inv(I:(Nat→Bool)→Act→World→Prop)(hac:∀ (i:Nat) (o:Oper),ops[i]?=some o→∀ e∈o.after,Region.binds .any e=true→e.on<i)
    (hstep:∀ (l:Nat→Bool) (a:Act) (w:World) (i:Nat) (o:Oper),ops[i]?=some o→l i=false→(∀ e∈o.after,Region.binds .any e=true→l e.on=true)→I l a w→wpOp P ops Q i (I (fun j=>if j=i then true else l j)) a w)
    (hdone:∀ a w,I (fun _=>true) a w→Q .normal a w) :
    ∀ (fuel:Nat) (l:Array Bool) (a:Act) (w:World),l.size=ops.size→l.toList.countP (fun b=>!b)≤fuel→I (fun i=>l.getD i true) a w→wpAny P .any ops Q fuel l a w
 | 0,l,a,w,hs,hc,hI=>by
  have hall:∀ i,l.getD i true=true:=fun i=>by
   rcases Nat.lt_or_ge i l.size with hi | hi
   · have h0:l.toList.countP (fun b=>!b)=0:=(by omega);rw[List.countP_eq_zero]at h0;have:=h0 l[i] (by simp);simpa[hi]using this
   · simp[Nat.not_lt.2 hi]
  refine⟨?_,hdone a w ?_⟩
  · cases hr:Region.ready .any ops l with
    | nil=>rfl
    | cons i r=>have hm:i∈Region.ready .any ops l:=(by rw[hr];simp);have:=(mem_ready.1 hm).1;rw[hall i]at this;cases this
  · rw[show(fun _:Nat=>true)=(fun i=>l.getD i true)from funext fun i=>(hall i).symm];exact hI
 | fuel+1,l,a,w,hs,hc,hI=>by
  refine⟨fun hr=>hdone a w ?_,fun i hi=>?_⟩
  · rw[show(fun _:Nat=>true)=(fun i=>l.getD i true)from funext fun i=>(all_of_none hs hac hr i).symm];exact hI
  · obtain⟨hun,o,ho,hd⟩:=mem_ready.1 hi;have hlt:i<l.size:=by
     rcases Nat.lt_or_ge i l.size with h | h
     · exact h
     · simp[Nat.not_lt.2 h]at hun
    refine wpOp_mono (fun a' w' h'=>any_inv I hac hstep hdone fuel (l.setIfInBounds i true) a' w' (by simpa using hs) ?_ ?_) (hstep _ a w i o ho hun (fun e he hb=>?_) hI)
    · have hv:l[i]=false:=(by simpa[hlt]using hun);rw[Array.toList_setIfInBounds,List.countP_set (by simpa using hlt)];have:0<l.toList.countP (fun b=>!b):=List.countP_pos_iff.2 ⟨l[i],by simp,by simp[hv]⟩;rw[if_pos (by simp[hv]),if_neg (by simp)];omega
    · have e:(fun j=>(l.setIfInBounds i true).getD j true)=(fun j=>if j=i then true else l.getD j true):=funext fun j=>by
        by_cases hj:j=i
        · subst hj;simp[hlt]
        · rw[getD_set_ne true (Ne.symm hj),if_neg hj]
      rw[e];exact h'
    · have h1:=hd e he hb;have hlt2:e.on<l.size:=by
       rcases Nat.lt_or_ge e.on l.size with h | h
       · exact h
       · simp[Nat.not_lt.2 h]at h1
      rw[getD_true_false hlt2];exact h1

theorem region_inv{id:Nat}{a:Act}{w:World}(hm:P.follows .mixedOrders=true)(I:(Nat→Bool)→Act→World→Prop)
    (hac:ops.toList.zipIdx.all (fun p=>p.1.after.all fun e=>!Region.binds .any e || decide (e.on<p.2))=true) (h0:I (fun i=>!decide (i<ops.size)) a w.drew)
    (hstep:∀ (l:Nat→Bool) (a:Act) (w:World) (i:Nat) (o:Oper),ops[i]?=some o→l i=false→(∀ e∈o.after,Region.binds .any e=true→l e.on=true)→I l a w→wpOp P ops Q i (I (fun j=>if j=i then true else l j)) a w)
    (hdone:∀ a w,I (fun _=>true) a w→Q .normal a w):(Code.region id ops true).wp P Q a w:=by
 refine wp_region_any hm (any_inv I (fun i o ho e he hb=>?_) hstep hdone _ _ _ _ (by simp) (by simp[List.countP_replicate]) ?_)
 · have h1:=List.all_eq_true.1 hac (o,i) (by rw[List.mem_zipIdx_iff_getElem?];simpa using ho)
   have h2:=Array.all_eq_true_iff_forall_mem.1 h1 e he;simpa[hb]using h2
 · have e:(fun i=>(Array.replicate ops.size false).getD i true)=(fun i=>!decide (i<ops.size)):=funext fun i=>by by_cases h:i<ops.size <;> simp[h]
   rw[e];exact h0

theorem wpOp_plain{i:Nat}{o:Oper}{K:Act→World→Prop}{a:Act}{w:World}(ho:ops[i]?=some o)(hg:o.guard=none)(h:o.wp P a w K Q):wpOp P ops Q i K a w:=by
 unfold wpOp;rw[ho];simp only;have hw:Region.wanted o (yielded ops a.tmps)=true:=by simp[Region.wanted,hg]
 rw[if_pos hw];exact Or.inl h
theorem wpOp_yield{i:Nat}{o:Oper}{K:Act→World→Prop}{a:Act}{w w':World}{v:Value}(ho:ops[i]?=some o)(hg:o.guard=none)(hr:(execOp a.eval o).run P w=.ok (.value v) w')(h:K (a.put o.dst v) w'):wpOp P ops Q i K a w:=by
 refine wpOp_plain ho hg ?_;unfold Oper.wp;rw[hr];exact h

def over (t:Array Value)(U:Nat→Option Value):Array Value:=t.mapIdx fun j x=>(U j).getD x
def upd (U:Nat→Option Value)(d:Nat)(v:Value):Nat→Option Value:=fun j=>if j=d then some v else U j
theorem over_none(t:Array Value):over t (fun _=>none)=t:=by
 unfold over;apply Array.ext
 · simp
 · intro i h1 h2;simp
theorem over_size(t:Array Value)(U:Nat→Option Value):(over t U).size=t.size:=by simp[over]
theorem over_set(t:Array Value)(U:Nat→Option Value)(d:Nat)(v:Value):(over t U).setIfInBounds d v=over t (upd U d v):=by
 unfold over upd;apply Array.ext_getElem?;intro i;rw[Array.getElem?_setIfInBounds,Array.getElem?_mapIdx,Array.getElem?_mapIdx];by_cases hd:d=i
 · subst hd;by_cases hl:d<t.size
   · simp[hl]
   · simp[hl]
 · rw[if_neg hd,if_neg (Ne.symm hd)]
theorem over_getD(t:Array Value)(U:Nat→Option Value)(j:Nat)(h:j<t.size):(over t U).getD j undef=(U j).getD (t.getD j undef):=by simp[over,h]
theorem over_at{t:Array Value}{U:Nat→Option Value}{j:Nat}{v:Value}(h:U j=some v)(hj:j<t.size):(over t U).getD j undef=v:=by rw[over_getD t U j hj,h];rfl
theorem over_old{t:Array Value}{U:Nat→Option Value}{j:Nat}(h:U j=none)(hj:j<t.size):(over t U).getD j undef=t.getD j undef:=by rw[over_getD t U j hj,h];rfl
theorem upd_same(U:Nat→Option Value)(d:Nat)(v:Value):upd U d v d=some v:=by simp[upd]
theorem upd_ne{U:Nat→Option Value}{d j:Nat}{v:Value}(h:j≠d):upd U d v j=U j:=by simp[upd,h]

theorem region_over{id:Nat}{a:Act}{w:World}(hm:P.follows .mixedOrders=true)(hac:ops.toList.zipIdx.all (fun p=>p.1.after.all fun e=>!Region.binds .any e || decide (e.on<p.2))=true)
    (E:Array Value→Prop) (hE:E a.tmps) (J:(Nat→Bool)→(Nat→Option Value)→World→Prop) (h0:J (fun i=>!decide (i<ops.size)) (fun _=>none) w.drew)
    (hstep:∀ (t:Array Value) (d:List Deferred) (l:Nat→Bool) (U:Nat→Option Value) (w:World) (i:Nat) (o:Oper),E t→ops[i]?=some o→l i=false→(∀ e∈o.after,Region.binds .any e=true→l e.on=true)→J l U w →
     wpOp P ops Q i (fun a' w'=>∃ U',a'=⟨over t U',d⟩∧J (fun j=>if j=i then true else l j) U' w') ⟨over t U,d⟩ w)
    (hdone:∀ U w,J (fun _=>true) U w→Q .normal ⟨over a.tmps U,a.defers⟩ w):(Code.region id ops true).wp P Q a w:=by
 refine region_inv hm (fun l a' w'=>∃ U,a'=⟨over a.tmps U,a.defers⟩∧J l U w') hac ⟨fun _=>none,by rw[over_none],h0⟩ ?_ ?_
 · rintro l a' w' i o ho hl hd ⟨U,rfl,hJ⟩;exact hstep a.tmps a.defers l U w' i o hE ho hl hd hJ
 · rintro a' w' ⟨U,rfl,hJ⟩;exact hdone U w' hJ
theorem put_over(t:Array Value)(U:Nat→Option Value)(d:List Deferred)(k:Nat)(v:Value):(⟨over t U,d⟩:Act).put (some k) v=⟨over t (upd U k v),d⟩:=by unfold Act.put;simp only[over_set]
theorem step_yield{t:Array Value}{d:List Deferred}{l:Nat→Bool}{U:Nat→Option Value}{w w':World}{i k:Nat}{o:Oper}{v:Value}{J:(Nat→Bool)→(Nat→Option Value)→World→Prop}(ho:ops[i]?=some o)(hg:o.guard=none)(hk:o.dst=some k)
    (hr:(execOp (Act.eval ⟨over t U,d⟩) o).run P w=.ok (.value v) w') (hJ:J (fun j=>if j=i then true else l j) (upd U k v) w') :
    wpOp P ops Q i (fun a' w'=>∃ U',a'=⟨over t U',d⟩∧J (fun j=>if j=i then true else l j) U' w') ⟨over t U,d⟩ w:=by
 refine wpOp_yield ho hg hr ⟨upd U k v,?_,hJ⟩;rw[hk];exact put_over t U d k v
theorem eval_old{t:Array Value}{U:Nat→Option Value}{d:List Deferred}{j:Nat}{v:Value}(h:U j=none)(hj:j<t.size)(hv:t.getD j undef=v):(⟨over t U,d⟩:Act).eval (.tmp j)=v:=by show(over t U).getD j undef=v;rw[over_old h hj,hv]
theorem eval_new{t:Array Value}{U:Nat→Option Value}{d:List Deferred}{j:Nat}{v:Value}(h:U j=some v)(hj:j<t.size):(⟨over t U,d⟩:Act).eval (.tmp j)=v:=over_at h hj
end
end Go.Proofs.YtfnmgcblhebdbaaGreatDoor
