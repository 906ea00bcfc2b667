/- A region that draws its order, walked by a table of facts: what each operation leaves, until another one uses it up. No conditions. -/
import Derived.Test.YtfnmgcblhebdbaaGreatDoorZ9
import Derived.Test.YtfnmgcblhebdbaaGreatDoorZ4
namespace Go.Proofs.YtfnmgcblhebdbaaGreatDoor
open Go.RowKit

theorem dep{o:Oper}{l:Nat→Bool}(hd:∀ e∈o.after,Region.binds .any e=true→l e.on=true)(d:Nat)(h:(o.after.any fun e=>decide (e.on=d) && Region.binds .any e)=true):l d=true:=by rw[Array.any_eq_true']at h;obtain⟨e,he,h⟩:=h;rw[Bool.and_eq_true,decide_eq_true_eq]at h;rw[← h.1];exact hd e he h.2
def overL (U:Nat→Option Value):Nat→List Value→List Value
 | _,[]=>[]
 | n,x :: xs=>(U n).getD x :: overL U (n+1) xs
theorem overL_at(U:Nat→Option Value):∀ (n:Nat) (l:List Value) (j:Nat),(overL U n l)[j]?=(l[j]?).map fun x=>(U (n+j)).getD x
 | _,[],j=>by simp[overL]
 | n,x :: xs,0=>by simp[overL]
 | n,x :: xs,j+1=>by simp only[overL,List.getElem?_cons_succ];rw[overL_at U (n+1) xs j,show n+1+j=n+(j+1)by omega]
theorem over_list(l:List Value)(U:Nat→Option Value):over l.toArray U=(overL U 0 l).toArray:=by
 apply Array.ext_getElem?;intro j;unfold over;rw[Array.getElem?_mapIdx];simp[overL_at]

structure Tb (ops:Array Oper)(m:Nat)(ds:List Nat)(cons:Nat→Option Nat)(R:Nat→Option Value→World→Prop)(B:World)(l:Nat→Bool)(U:Nat→Option Value)(w:World):Prop where
 ext:Ext B w
 out:∀ k,ds.contains k=false→U k=none
 shut:∀ (i:Nat) (o:Oper),ops[i]?=some o→l i=true→∀ e∈o.after,Region.binds .any e=true→l e.on=true
 past:∀ i,ops.size≤i→l i=true
 facts:∀ i,i<m→l i=true→(∀ c,cons i=some c→l c=false)→R i (U (ds.getD i 0)) w

section
variable {P:Program} {ops:Array Oper} {Q:Exit→Act→World→Prop} {m:Nat} {ds:List Nat} {cons:Nat→Option Nat} {R:Nat→Option Value→World→Prop} {B:World}

theorem Tb.put{l:Nat→Bool}{U:Nat→Option Value}{w w':World}{i:Nat}{o:Oper}{v:Value}(h:Tb ops m ds cons R B l U w)(ho:ops[i]?=some o)(hd:∀ e∈o.after,Region.binds .any e=true→l e.on=true)
    (hin:ds.contains (ds.getD i 0)=true) (hinj:∀ j,j<m→j≠i→ds.getD j 0≠ds.getD i 0) (hx:Ext B w') (hR:R i (some v) w')
    (hst:∀ j,j<m→j≠i→l j=true→(∀ c,cons j=some c→c≠i∧l c=false)→R j (U (ds.getD j 0)) w→R j (U (ds.getD j 0)) w') :
    Tb ops m ds cons R B (fun j=>if j=i then true else l j) (upd U (ds.getD i 0) v) w' where
 ext:=hx
 out k hk:=by
  have hne:k≠ds.getD i 0:=fun e=>by rw[e,hin]at hk;cases hk
  rw[upd_ne hne];exact h.out k hk
 shut j oj hj hl e he hb:=by
  by_cases hei:e.on=i
  · simp[hei]
  · simp only[if_neg hei];by_cases hji:j=i
    · subst hji;rw[ho]at hj;injection hj with hj;subst hj;exact hd e he hb
    · rw[if_neg hji]at hl;exact h.shut j oj hj hl e he hb
 past j hj:=by
  by_cases hji:j=i
  · rw[if_pos hji]
  · rw[if_neg hji];exact h.past j hj
 facts j hj hl hc:=by
  by_cases hji:j=i
  · subst hji;rw[upd_same];exact hR
  · rw[if_neg hji]at hl;rw[upd_ne (hinj j hj hji)];have hc':∀ c,cons j=some c→c≠i∧l c=false:=fun c e=>by
     have:=hc c e;by_cases hci:c=i
     · rw[if_pos hci]at this;cases this
     · rw[if_neg hci]at this;exact⟨hci,this⟩
    exact hst j hj hji hl hc' (h.facts j hj hl (fun c e=>(hc' c e).2))

theorem tb_yield{t:Array Value}{d:List Deferred}{l:Nat→Bool}{U:Nat→Option Value}{w w':World}{i:Nat}{o:Oper}{v:Value}(h:Tb ops m ds cons R B l U w)(ho:ops[i]?=some o)(hd:∀ e∈o.after,Region.binds .any e=true→l e.on=true)
    (hg:o.guard=none) (hk:o.dst=some (ds.getD i 0)) (hin:ds.contains (ds.getD i 0)=true) (hinj:∀ j,j<m→j≠i→ds.getD j 0≠ds.getD i 0)
    (hr:(execOp (Act.eval ⟨over t U,d⟩) o).run P w=.ok (.value v) w') (hx:Ext B w') (hR:R i (some v) w')
    (hst:∀ j,j<m→j≠i→l j=true→(∀ c,cons j=some c→c≠i∧l c=false)→R j (U (ds.getD j 0)) w→R j (U (ds.getD j 0)) w') :
    wpOp P ops Q i (fun a' w'=>∃ U',a'=⟨over t U',d⟩∧Tb ops m ds cons R B (fun j=>if j=i then true else l j) U' w') ⟨over t U,d⟩ w :=
 step_yield (J:=fun l U w=>Tb ops m ds cons R B l U w) ho hg hk hr (h.put ho hd hin hinj hx hR hst)
theorem tb_pure{t:Array Value}{d:List Deferred}{l:Nat→Bool}{U:Nat→Option Value}{w:World}{i:Nat}{o:Oper}{v:Value}(h:Tb ops m ds cons R B l U w)(ho:ops[i]?=some o)(hd:∀ e∈o.after,Region.binds .any e=true→l e.on=true)
    (hg:o.guard=none) (hk:o.dst=some (ds.getD i 0)) (hin:ds.contains (ds.getD i 0)=true) (hinj:∀ j,j<m→j≠i→ds.getD j 0≠ds.getD i 0)
    (hr:(execOp (Act.eval ⟨over t U,d⟩) o).run P w=.ok (.value v) w) (hR:R i (some v) w) :
    wpOp P ops Q i (fun a' w'=>∃ U',a'=⟨over t U',d⟩∧Tb ops m ds cons R B (fun j=>if j=i then true else l j) U' w') ⟨over t U,d⟩ w :=
 tb_yield h ho hd hg hk hin hinj hr h.ext hR (fun _ _ _ _ _ hj=>hj)
theorem region_tb{id:Nat}{a:Act}{w:World}(hm:P.follows .mixedOrders=true)(hac:ops.toList.zipIdx.all (fun p=>p.1.after.all fun e=>!Region.binds .any e || decide (e.on<p.2))=true)
    (E:Array Value→Prop) (hE:E a.tmps) (m:Nat) (ds:List Nat) (cons:Nat→Option Nat) (R:Nat→Option Value→World→Prop) (B:World) (hB:Ext B w) (hv:∀ i,ops.size≤i→i<m→R i none w.drew)
    (hstep:∀ (t:Array Value) (d:List Deferred) (l:Nat→Bool) (U:Nat→Option Value) (w:World) (i:Nat) (o:Oper),E t→ops[i]?=some o→l i=false→(∀ e∈o.after,Region.binds .any e=true→l e.on=true)→Tb ops m ds cons R B l U w →
     wpOp P ops Q i (fun a' w'=>∃ U',a'=⟨over t U',d⟩∧Tb ops m ds cons R B (fun j=>if j=i then true else l j) U' w') ⟨over t U,d⟩ w)
    (hdone:∀ U w,Ext B w→(∀ k,ds.contains k=false→U k=none)→(∀ i,i<m→cons i=none→R i (U (ds.getD i 0)) w)→Q .normal ⟨over a.tmps U,a.defers⟩ w):(Code.region id ops true).wp P Q a w:=by
 refine region_over hm hac E hE (fun l U w=>Tb ops m ds cons R B l U w) ?_ hstep ?_
 · refine⟨hB.drew,fun _ _=>rfl,fun i o ho hl=>?_,fun i hi=>by simp[Nat.not_lt.2 hi],fun i hi hl _=>?_⟩
   · have:i<ops.size:=by
       rcases Nat.lt_or_ge i ops.size with g | g
       · exact g
       · rw[Array.getElem?_eq_none g]at ho;cases ho
     simp[this]at hl
   · refine hv i ?_ hi;simpa using hl
 · intro U w h;exact hdone U w h.ext h.out (fun i hi hc=>h.facts i hi rfl (fun c e=>by rw[hc]at e;cases e))
end
section
variable {ops:Array Oper} {m:Nat} {ds:List Nat} {cons:Nat→Option Nat} {R:Nat→Option Value→World→Prop} {B:World} {l:Nat→Bool} {U:Nat→Option Value} {w:World}
theorem nf{o:Oper}(hT:Tb ops m ds cons R B l U w)(hd:∀ e∈o.after,Region.binds .any e=true→l e.on=true)(j s:Nat)(v:Value)(hj:j<m:=by decide)(hp:(o.after.any fun e=>decide (e.on=j) && Region.binds .any e)=true:=by kernel_rfl)(hc:∀ c,cons j=some c→l c=false:=by intro c e;cases e)(he:R j (U (ds.getD j 0)) w→U s=some v:=by exact fun h=>h):U s=some v:=he (hT.facts j hj (dep hd j hp) hc)
theorem nw{t:Array Value}{n:Nat}{o:Oper}(d:List Deferred)(hT:Tb ops m ds cons R B l U w)(hd:∀ e∈o.after,Region.binds .any e=true→l e.on=true)(hz:t.size=n)(j s:Nat)(v:Value)(hl:s<n:=by decide)(hj:j<m:=by decide)(hp:(o.after.any fun e=>decide (e.on=j) && Region.binds .any e)=true:=by kernel_rfl)(hc:∀ c,cons j=some c→l c=false:=by intro c e;cases e)(he:R j (U (ds.getD j 0)) w→U s=some v:=by exact fun h=>h):Act.eval ⟨over t U,d⟩ (.tmp s)=v:=eval_new (nf hT hd j s v hj hp hc he) (by omega)
theorem od{t:Array Value}{n s:Nat}{v:Value}(d:List Deferred)(hT:Tb ops m ds cons R B l U w)(hz:t.size=n)(hs:t.getD s undef=v)(hc:ds.contains s=false:=by decide)(hl:s<n:=by decide):Act.eval ⟨over t U,d⟩ (.tmp s)=v:=eval_old (hT.out s hc) (by omega) hs
theorem oi{X:Type}{a b:X}(h:some a=some b):a=b:=Option.some.inj h
end

section
variable {P:Program} {ops:Array Oper} {Q:Exit→Act→World→Prop} {m:Nat} {ds:List Nat} {cons:Nat→Option Nat} {R:Nat→Option Value→World→Prop} {B:World}
theorem exec_call2{P:Program}{ev:Operand→Value}{o:Oper}{w:World}{f:FuncId}{c x:Operand}{vc vx:Value}{ts:Array TypeId}(ho:o.op=.call { callee:=.value (.func f),args:=#[c,x],argTypes:=ts })(hf:ev (.func f)=.func (.func f) #[] #[])(hc:ev c=vc)(hx:ev x=vx)
    (he:∀ args w,(callFunc f args).run P w=.ok (.enter f args) w):(execOp ev o).run P w=.ok (.enter f #[vc,vx]) w:=by
 unfold execOp;simp[ho,resolve,invoke,go_sem,hf,hc,hx,he]
theorem exec_call1{P:Program}{ev:Operand→Value}{o:Oper}{w:World}{f:FuncId}{x:Operand}{vx:Value}{ts:Array TypeId}(ho:o.op=.call { callee:=.value (.func f),args:=#[x],argTypes:=ts })(hf:ev (.func f)=.func (.func f) #[] #[])(hx:ev x=vx)
    (he:∀ args w,(callFunc f args).run P w=.ok (.enter f args) w):(execOp ev o).run P w=.ok (.enter f #[vx]) w:=by
 unfold execOp;simp[ho,resolve,invoke,go_sem,hf,hx,he]
theorem tb_call{t:Array Value}{d:List Deferred}{l:Nat→Bool}{U:Nat→Option Value}{w:World}{i:Nat}{o:Oper}{f:FuncId}{args:Array Value}(hR0:∀ j u w w',Ext w w'→R j u w→R j u w')(h:Tb ops m ds cons R B l U w)(ho:ops[i]?=some o)(hd:∀ e∈o.after,Region.binds .any e=true→l e.on=true)
    (hg:o.guard=none) (hk:o.dst=some (ds.getD i 0)) (hin:ds.contains (ds.getD i 0)=true) (hinj:∀ j,j<m→j≠i→ds.getD j 0≠ds.getD i 0)
    (hr:(execOp (Act.eval ⟨over t U,d⟩) o).run P w=.ok (.enter f args) w) (hc:Calls P f args w fun e w'=>∃ v,e=.returned v∧Ext w w'∧R i (some v) w') :
    wpOp P ops Q i (fun a' w'=>∃ U',a'=⟨over t U',d⟩∧Tb ops m ds cons R B (fun j=>if j=i then true else l j) U' w') ⟨over t U,d⟩ w:=by
 refine wpOp_plain ho hg ?_;unfold Oper.wp;rw[hr,Oper.upon_enter];refine hc.mono ?_;rintro e w' ⟨v,rfl,hx,hR⟩;refine⟨upd U (ds.getD i 0) v,?_,h.put ho hd hin hinj (h.ext.trans hx) hR (fun j _ _ _ _ hj=>hR0 j _ _ _ hx hj)⟩;rw[hk];exact put_over t U d _ v
theorem Tb.mark{l:Nat→Bool}{U:Nat→Option Value}{w w':World}{i:Nat}{o:Oper}(h:Tb ops m ds cons R B l U w)(ho:ops[i]?=some o)(hd:∀ e∈o.after,Region.binds .any e=true→l e.on=true)
    (hx:Ext B w') (hR:R i (U (ds.getD i 0)) w')
    (hst:∀ j,j<m→j≠i→l j=true→(∀ c,cons j=some c→c≠i∧l c=false)→R j (U (ds.getD j 0)) w→R j (U (ds.getD j 0)) w') :
    Tb ops m ds cons R B (fun j=>if j=i then true else l j) U w' where
 ext:=hx
 out k hk:=h.out k hk
 shut j oj hj hl e he hb:=by
  by_cases hei:e.on=i
  · simp[hei]
  · simp only[if_neg hei];by_cases hji:j=i
    · subst hji;rw[ho]at hj;injection hj with hj;subst hj;exact hd e he hb
    · rw[if_neg hji]at hl;exact h.shut j oj hj hl e he hb
 past j hj:=by
  by_cases hji:j=i
  · rw[if_pos hji]
  · rw[if_neg hji];exact h.past j hj
 facts j hj hl hc:=by
  by_cases hji:j=i
  · subst hji;exact hR
  · rw[if_neg hji]at hl;have hc':∀ c,cons j=some c→c≠i∧l c=false:=fun c e=>by
     have:=hc c e;by_cases hci:c=i
     · rw[if_pos hci]at this;cases this
     · rw[if_neg hci]at this;exact⟨hci,this⟩
    exact hst j hj hji hl hc' (h.facts j hj hl (fun c e=>(hc' c e).2))
theorem Tb.putW{l:Nat→Bool}{U:Nat→Option Value}{w w':World}{i:Nat}{o:Oper}{v:Value}(h:Tb ops m ds cons R B l U w)(ho:ops[i]?=some o)(hd:∀ e∈o.after,Region.binds .any e=true→l e.on=true)
    (hin:ds.contains (ds.getD i 0)=true) (hinj:∀ j,j<m→j≠i→l j=true→ds.getD j 0≠ds.getD i 0) (hx:Ext B w') (hR:R i (some v) w')
    (hst:∀ j,j<m→j≠i→l j=true→(∀ c,cons j=some c→c≠i∧l c=false)→R j (U (ds.getD j 0)) w→R j (U (ds.getD j 0)) w') :
    Tb ops m ds cons R B (fun j=>if j=i then true else l j) (upd U (ds.getD i 0) v) w' where
 ext:=hx
 out k hk:=by
  have hne:k≠ds.getD i 0:=fun e=>by rw[e,hin]at hk;cases hk
  rw[upd_ne hne];exact h.out k hk
 shut j oj hj hl e he hb:=by
  by_cases hei:e.on=i
  · simp[hei]
  · simp only[if_neg hei];by_cases hji:j=i
    · subst hji;rw[ho]at hj;injection hj with hj;subst hj;exact hd e he hb
    · rw[if_neg hji]at hl;exact h.shut j oj hj hl e he hb
 past j hj:=by
  by_cases hji:j=i
  · rw[if_pos hji]
  · rw[if_neg hji];exact h.past j hj
 facts j hj hl hc:=by
  by_cases hji:j=i
  · subst hji;rw[upd_same];exact hR
  · rw[if_neg hji]at hl;rw[upd_ne (hinj j hj hji hl)];have hc':∀ c,cons j=some c→c≠i∧l c=false:=fun c e=>by
     have:=hc c e;by_cases hci:c=i
     · rw[if_pos hci]at this;cases this
     · rw[if_neg hci]at this;exact⟨hci,this⟩
    exact hst j hj hji hl hc' (h.facts j hj hl (fun c e=>(hc' c e).2))
theorem tb_extW{t:Array Value}{d:List Deferred}{l:Nat→Bool}{U:Nat→Option Value}{w w':World}{i:Nat}{o:Oper}{v:Value}(hR0:∀ j u w w',Ext w w'→R j u w→R j u w')(h:Tb ops m ds cons R B l U w)(ho:ops[i]?=some o)(hd:∀ e∈o.after,Region.binds .any e=true→l e.on=true)
    (hg:o.guard=none) (hk:o.dst=some (ds.getD i 0)) (hin:ds.contains (ds.getD i 0)=true) (hinj:∀ j,j<m→j≠i→l j=true→ds.getD j 0≠ds.getD i 0)
    (hr:(execOp (Act.eval ⟨over t U,d⟩) o).run P w=.ok (.value v) w') (hx:Ext w w') (hR:R i (some v) w') :
    wpOp P ops Q i (fun a' w'=>∃ U',a'=⟨over t U',d⟩∧Tb ops m ds cons R B (fun j=>if j=i then true else l j) U' w') ⟨over t U,d⟩ w :=
 step_yield (J:=fun l U w=>Tb ops m ds cons R B l U w) ho hg hk hr (h.putW ho hd hin hinj (h.ext.trans hx) hR (fun j _ _ _ _ hj=>hR0 j _ _ _ hx hj))
theorem tb_store{t:Array Value}{d:List Deferred}{l:Nat→Bool}{U:Nat→Option Value}{w w':World}{i:Nat}{o:Oper}(h:Tb ops m ds cons R B l U w)(ho:ops[i]?=some o)(hd:∀ e∈o.after,Region.binds .any e=true→l e.on=true)
    (hg:o.guard=none) (hk:o.dst=none)
    (hr:(execOp (Act.eval ⟨over t U,d⟩) o).run P w=.ok .skip w') (hx:Ext B w') (hR:R i (U (ds.getD i 0)) w')
    (hst:∀ j,j<m→j≠i→l j=true→(∀ c,cons j=some c→c≠i∧l c=false)→R j (U (ds.getD j 0)) w→R j (U (ds.getD j 0)) w') :
    wpOp P ops Q i (fun a' w'=>∃ U',a'=⟨over t U',d⟩∧Tb ops m ds cons R B (fun j=>if j=i then true else l j) U' w') ⟨over t U,d⟩ w:=by
 refine wpOp_plain ho hg ?_;unfold Oper.wp;rw[hr,Oper.upon_skip];refine⟨U,?_,h.mark ho hd hx hR hst⟩;rw[hk];rfl
end

section
variable {P:Program} {ops:Array Oper} {Q:Exit→Act→World→Prop} {m:Nat} {ds:List Nat} {cons:Nat→Option Nat} {R:Nat→Option Value→World→Prop} {B:World}
theorem tb_callX{t:Array Value}{d:List Deferred}{l:Nat→Bool}{U:Nat→Option Value}{w:World}{i:Nat}{o:Oper}{f:FuncId}{args:Array Value}(h:Tb ops m ds cons R B l U w)(ho:ops[i]?=some o)(hd:∀ e∈o.after,Region.binds .any e=true→l e.on=true)
    (hg:o.guard=none) (hk:o.dst=some (ds.getD i 0)) (hin:ds.contains (ds.getD i 0)=true) (hinj:∀ j,j<m→j≠i→ds.getD j 0≠ds.getD i 0)
    (hr:(execOp (Act.eval ⟨over t U,d⟩) o).run P w=.ok (.enter f args) w)
    (hc:Calls P f args w fun e w'=>∃ v,e=.returned v∧Ext B w'∧R i (some v) w'∧(∀ j,j<m→j≠i→l j=true→(∀ c,cons j=some c→c≠i∧l c=false)→R j (U (ds.getD j 0)) w→R j (U (ds.getD j 0)) w')) :
    wpOp P ops Q i (fun a' w'=>∃ U',a'=⟨over t U',d⟩∧Tb ops m ds cons R B (fun j=>if j=i then true else l j) U' w') ⟨over t U,d⟩ w:=by
 refine wpOp_plain ho hg ?_;unfold Oper.wp;rw[hr,Oper.upon_enter];refine hc.mono ?_;rintro e w' ⟨v,rfl,hx,hR,hst⟩;refine⟨upd U (ds.getD i 0) v,?_,h.put ho hd hin hinj hx hR hst⟩;rw[hk];exact put_over t U d _ v
end
end Go.Proofs.YtfnmgcblhebdbaaGreatDoor
