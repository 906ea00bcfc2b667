/- A region that draws its order, by a table of facts: operations under a guard. No conditions. -/
import Derived.Test.YtfnmgcblhebdbaaGreatDoorZ10
import Derived.BigFrame
namespace Go.Proofs.YtfnmgcblhebdbaaGreatDoor
open Go.RowKit

def Mono (p:Option Value→World→Prop):Prop:=∀ u w w',Ext w w'→p u w→p u w'
theorem mono_val(v:Value):Mono (fun u _=>u=some v):=fun _ _ _ _ h=>h
def AllMono:List (Option Value→World→Prop)→Prop
 | []=>True
 | p :: l=>Mono p∧AllMono l
theorem AllMono.at_:∀ {l:List (Option Value→World→Prop)},AllMono l→∀ j,Mono (l.getD j fun _ _=>True)
 | [],_,j=>fun _ _ _ _ _=>trivial
 | p :: l,h,0=>h.1
 | p :: l,h,j+1=>by simpa using AllMono.at_ h.2 j

def sv (v : Value) : Option Value → World → Prop := fun u _ => u = some v
def sl (l : List Value) : List (Option Value → World → Prop) := l.map sv
theorem sl_mono : ∀ l : List Value, AllMono (sl l)
  | [] => trivial
  | v :: l => ⟨mono_val v, sl_mono l⟩
def RG (l : List (Option Value → World → Prop)) (j : Nat) (u : Option Value) (w : World) : Prop := l.getD j (fun _ _ => True) u w
theorem RG.ext {l : List (Option Value → World → Prop)} (h : AllMono l) (j : Nat) (u : Option Value) (w w' : World) (he : Ext w w') (hR : RG l j u w) : RG l j u w' := h.at_ j u w w' he hR
section
variable {P:Program} {ops:Array Oper} {Q:Exit→Act→World→Prop} {m:Nat} {ds:List Nat} {cons:Nat→Option Nat} {R:Nat→Option Value→World→Prop} {B:World}

theorem wpOp_want{i:Nat}{o:Oper}{K:Act→World→Prop}{a:Act}{w:World}(ho:ops[i]?=some o)(hw:Region.wanted o (yielded ops a.tmps)=true)(h:o.wp P a w K Q):wpOp P ops Q i K a w:=by unfold wpOp;rw[ho];simp only;rw[if_pos hw];exact Or.inl h
theorem wpOp_skip{i:Nat}{o:Oper}{K:Act→World→Prop}{a:Act}{w:World}(ho:ops[i]?=some o)(hw:Region.wanted o (yielded ops a.tmps)=false)(h:K (a.put o.dst undef) w):wpOp P ops Q i K a w:=by unfold wpOp;rw[ho];simp only;rw[if_neg (by rw[hw];decide)];exact h
theorem yielded_at{t:Array Value}{U:Nat→Option Value}{j s:Nat}{oj:Oper}{b:Bool}(hj:ops[j]?=some oj)(hs:oj.dst=some s)(hu:U s=some (.bool b))(hlt:s<t.size):yielded ops (over t U) j=some b:=by
 unfold yielded;have h1:(over t U)[s]?=some (.bool b):=by
  have h2:s<(over t U).size:=by rw[over_size];exact hlt
  rw[Array.getElem?_eq_getElem h2];have:=over_at (t:=t) hu hlt;rw[Array.getD_eq_getD_getElem?,Array.getElem?_eq_getElem h2]at this;exact congrArg some this
 simp[hj,hs,h1]
theorem wanted_of{t:Array Value}{U:Nat→Option Value}{o:Oper}{j s:Nat}{oj:Oper}{b:Bool}(hg:o.guard=some (j,b))(hj:ops[j]?=some oj)(hs:oj.dst=some s)(hu:U s=some (.bool b))(hlt:s<t.size):Region.wanted o (yielded ops (over t U))=true:=by unfold Region.wanted;rw[hg];simp only[yielded_at hj hs hu hlt,beq_self_eq_true]
theorem wanted_no{t:Array Value}{U:Nat→Option Value}{o:Oper}{j s:Nat}{oj:Oper}{b:Bool}(hg:o.guard=some (j,b))(hj:ops[j]?=some oj)(hs:oj.dst=some s)(hu:U s=some (.bool (!b)))(hlt:s<t.size):Region.wanted o (yielded ops (over t U))=false:=by unfold Region.wanted;rw[hg];simp only[yielded_at hj hs hu hlt];cases b <;> rfl
theorem wanted_plain{t:Array Value}{o:Oper}(hg:o.guard=none):Region.wanted o (yielded ops t)=true:=by unfold Region.wanted;rw[hg]

theorem tbw_yield{t:Array Value}{d:List Deferred}{l:Nat→Bool}{U:Nat→Option Value}{w w':World}{i:Nat}{o:Oper}{v:Value}(hR0:∀ j u w w',Ext w w'→R j u w→R j u w')(h:Tb ops m ds cons R B l U w)(ho:ops[i]?=some o)(hd:∀ e∈o.after,Region.binds .any e=true→l e.on=true)
    (hw:Region.wanted o (yielded ops (over t U))=true) (hk:o.dst=some (ds.getD i 0)) (hin:ds.contains (ds.getD i 0)=true) (hinj:∀ j,j<m→j≠i→ds.getD j 0≠ds.getD i 0)
    (hr:(execOp (Act.eval ⟨over t U,d⟩) o).run P w=.ok (.value v) w') (hx:Ext w w') (hR:R i (some v) w') :
    wpOp P ops Q i (fun a' w'=>∃ U',a'=⟨over t U',d⟩∧Tb ops m ds cons R B (fun j=>if j=i then true else l j) U' w') ⟨over t U,d⟩ w:=by
 refine wpOp_want ho hw ?_;unfold Oper.wp;rw[hr];refine⟨upd U (ds.getD i 0) v,?_,h.put ho hd hin hinj (h.ext.trans hx) hR (fun j _ _ _ _ hj=>hR0 j _ _ _ hx hj)⟩;rw[hk];exact put_over t U d _ v
theorem tbw_call{t:Array Value}{d:List Deferred}{l:Nat→Bool}{U:Nat→Option Value}{w:World}{i:Nat}{o:Oper}{f:FuncId}{args:Array Value}(hR0:∀ j u w w',Ext w w'→R j u w→R j u w')(h:Tb ops m ds cons R B l U w)(ho:ops[i]?=some o)(hd:∀ e∈o.after,Region.binds .any e=true→l e.on=true)
    (hw:Region.wanted o (yielded ops (over t U))=true) (hk:o.dst=some (ds.getD i 0)) (hin:ds.contains (ds.getD i 0)=true) (hinj:∀ j,j<m→j≠i→ds.getD j 0≠ds.getD i 0)
    (hr:(execOp (Act.eval ⟨over t U,d⟩) o).run P w=.ok (.enter f args) w) (hc:Calls P f args w fun e w'=>∃ v,e=.returned v∧Ext w w'∧R i (some v) w') :
    wpOp P ops Q i (fun a' w'=>∃ U',a'=⟨over t U',d⟩∧Tb ops m ds cons R B (fun j=>if j=i then true else l j) U' w') ⟨over t U,d⟩ w:=by
 refine wpOp_want ho hw ?_;unfold Oper.wp;rw[hr,Oper.upon_enter];refine hc.mono ?_;rintro e w' ⟨v,rfl,hx,hR⟩;refine⟨upd U (ds.getD i 0) v,?_,h.put ho hd hin hinj (h.ext.trans hx) hR (fun j _ _ _ _ hj=>hR0 j _ _ _ hx hj)⟩;rw[hk];exact put_over t U d _ v
theorem tbw_skip{t:Array Value}{d:List Deferred}{l:Nat→Bool}{U:Nat→Option Value}{w:World}{i:Nat}{o:Oper}(h:Tb ops m ds cons R B l U w)(ho:ops[i]?=some o)(hd:∀ e∈o.after,Region.binds .any e=true→l e.on=true)
    (hw:Region.wanted o (yielded ops (over t U))=false) (hk:o.dst=some (ds.getD i 0)) (hin:ds.contains (ds.getD i 0)=true) (hinj:∀ j,j<m→j≠i→ds.getD j 0≠ds.getD i 0) (hR:R i (some undef) w) :
    wpOp P ops Q i (fun a' w'=>∃ U',a'=⟨over t U',d⟩∧Tb ops m ds cons R B (fun j=>if j=i then true else l j) U' w') ⟨over t U,d⟩ w:=by
 refine wpOp_skip ho hw ?_;refine⟨upd U (ds.getD i 0) undef,?_,h.put ho hd hin hinj h.ext hR (fun _ _ _ _ _ hj=>hj)⟩;rw[hk];exact put_over t U d _ undef
theorem exec_load_row{P:Program}{ev:Operand→Value}{o:Oper}{w:World}(ty:TypeId)(x:Operand)(ho:o.op=.load ty x)(g:Nat)(hx:ev x=.pointer (some ⟨g,0,none⟩))(t:TypeId)(cs:Array Value)(fr:Nat×Nat)(td:TypeDesc)(hg:w.heap[g]?=some (.cells cs t fr))
    (hu:P.underlying ty=some td) (hd:(match td with | .struct _ | .array _ _=>true | _=>false)=true) (hi:(P.info? ty).map (·.size)=some cs.size):(execOp ev o).run P w=.ok (.value (.agg cs)) w:=by
 unfold execOp;simp only[ho,hx,Instr.loadAt,Instr.sureAddr,Sem.run_bind,Sem.run_pure,Result.andThen_ok,run_loadVar_row w g t ty cs fr td hg hu hd hi]
theorem exec_call3{P:Program}{ev:Operand→Value}{o:Oper}{w:World}{f:FuncId}{c x y:Operand}{vc vx vy:Value}{ts:Array TypeId}(ho:o.op=.call { callee:=.value (.func f),args:=#[c,x,y],argTypes:=ts })(hf:ev (.func f)=.func (.func f) #[] #[])(hc:ev c=vc)(hx:ev x=vx)(hy:ev y=vy)
    (he:∀ args w,(callFunc f args).run P w=.ok (.enter f args) w):(execOp ev o).run P w=.ok (.enter f #[vc,vx,vy]) w:=by
 unfold execOp;simp[ho,resolve,invoke,go_sem,hf,hc,hx,hy,he]
theorem wpList_load_row_w{rest:List Oper}{o:Oper}{a:Act}{w:World}(hw:Region.wanted o (yielded ops a.tmps)=true)(ty:TypeId)(x:Operand)(ho:o.op=.load ty x)
    (g:Nat) (hx:a.eval x=.pointer (some ⟨g,0,none⟩)) (t:TypeId) (cs:Array Value) (fr:Nat×Nat) (d:TypeDesc) (hg:w.heap[g]?=some (.cells cs t fr))
    (hu:P.underlying ty=some d) (hd:(match d with | .struct _ | .array _ _=>true | _=>false)=true) (hi:(P.info? ty).map (·.size)=some cs.size)
    (h:wpList P ops Q rest (a.put o.dst (.agg cs)) w):wpList P ops Q (o :: rest) a w :=
 Go.BigFrame.wpList_want hw fun _ hK=>wp_load_row ty x ho g hx t cs fr d hg hu hd hi (hK _ _ h)
end
section
variable {P:Program} {ops:Array Oper} {Q:Exit→Act→World→Prop} {m:Nat} {ds:List Nat} {cons:Nat→Option Nat} {R:Nat→Option Value→World→Prop} {B:World}
theorem yxe{t:Array Value}{d:List Deferred}{l:Nat→Bool}{U:Nat→Option Value}{w:World}{i:Nat}{o:Oper}(hT:Tb ops m ds cons R B l U w)(hR0:∀ j u w w',Ext w w'→R j u w→R j u w')(ho:ops[i]?=some o)(hd:∀ e∈o.after,Region.binds .any e=true→l e.on=true)(v:Value)(hr:(execOp (Act.eval ⟨over t U,d⟩) o).run P w=.ok (.value v) w)(hw:Region.wanted o (yielded ops (over t U))=true:=by exact wanted_plain rfl)(hk:o.dst=some (ds.getD i 0):=by rfl)(hin:ds.contains (ds.getD i 0)=true:=by decide)(hinj:∀ j,j<m→j≠i→ds.getD j 0≠ds.getD i 0:=by decide)(hR:R i (some v) w:=by exact rfl):wpOp P ops Q i (fun a' w'=>∃ U',a'=⟨over t U',d⟩∧Tb ops m ds cons R B (fun j=>if j=i then true else l j) U' w') ⟨over t U,d⟩ w:=tbw_yield hR0 hT ho hd hw hk hin hinj hr (Ext.refl _) hR
theorem yl1{x0:Operand}{a0:Value}  {t:Array Value}{d:List Deferred}{l:Nat→Bool}{U:Nat→Option Value}{w:World}{i:Nat}{o:Oper}(hT:Tb ops m ds cons R B l U w)(hR0:∀ j u w w',Ext w w'→R j u w→R j u w')(ho:ops[i]?=some o)(hd:∀ e∈o.after,Region.binds .any e=true→l e.on=true)(v:Value)(v0:Act.eval ⟨over t U,d⟩ x0=a0)  (hr:∀ ev:Operand→Value,ev x0=a0→(execOp ev o).run P w=.ok (.value v) w:=by intro ev v0;simp[execOp,go_sem,v0])(hw:Region.wanted o (yielded ops (over t U))=true:=by exact wanted_plain rfl)(hk:o.dst=some (ds.getD i 0):=by rfl)(hin:ds.contains (ds.getD i 0)=true:=by decide)(hinj:∀ j,j<m→j≠i→ds.getD j 0≠ds.getD i 0:=by decide)(hR:R i (some v) w:=by exact rfl):wpOp P ops Q i (fun a' w'=>∃ U',a'=⟨over t U',d⟩∧Tb ops m ds cons R B (fun j=>if j=i then true else l j) U' w') ⟨over t U,d⟩ w:=tbw_yield hR0 hT ho hd hw hk hin hinj (hr _ v0) (Ext.refl _) hR
theorem yk1{x0:Operand}{a0:Value}{p:Prop}{t:Array Value}{d:List Deferred}{l:Nat→Bool}{U:Nat→Option Value}{w:World}{i:Nat}{o:Oper}(hT:Tb ops m ds cons R B l U w)(hR0:∀ j u w w',Ext w w'→R j u w→R j u w')(ho:ops[i]?=some o)(hd:∀ e∈o.after,Region.binds .any e=true→l e.on=true)(v:Value)(v0:Act.eval ⟨over t U,d⟩ x0=a0)(h:p)(hr:∀ ev:Operand→Value,ev x0=a0→p→(execOp ev o).run P w=.ok (.value v) w:=by intro ev v0 h;simp[execOp,go_sem,v0,h])(hw:Region.wanted o (yielded ops (over t U))=true:=by exact wanted_plain rfl)(hk:o.dst=some (ds.getD i 0):=by rfl)(hin:ds.contains (ds.getD i 0)=true:=by decide)(hinj:∀ j,j<m→j≠i→ds.getD j 0≠ds.getD i 0:=by decide)(hR:R i (some v) w:=by exact rfl):wpOp P ops Q i (fun a' w'=>∃ U',a'=⟨over t U',d⟩∧Tb ops m ds cons R B (fun j=>if j=i then true else l j) U' w') ⟨over t U,d⟩ w:=tbw_yield hR0 hT ho hd hw hk hin hinj (hr _ v0 h) (Ext.refl _) hR
theorem yl2{x0 x1:Operand}{a0 a1:Value}  {t:Array Value}{d:List Deferred}{l:Nat→Bool}{U:Nat→Option Value}{w:World}{i:Nat}{o:Oper}(hT:Tb ops m ds cons R B l U w)(hR0:∀ j u w w',Ext w w'→R j u w→R j u w')(ho:ops[i]?=some o)(hd:∀ e∈o.after,Region.binds .any e=true→l e.on=true)(v:Value)(v0:Act.eval ⟨over t U,d⟩ x0=a0)(v1:Act.eval ⟨over t U,d⟩ x1=a1)  (hr:∀ ev:Operand→Value,ev x0=a0→ev x1=a1→(execOp ev o).run P w=.ok (.value v) w:=by intro ev v0 v1;simp[execOp,go_sem,v0,v1])(hw:Region.wanted o (yielded ops (over t U))=true:=by exact wanted_plain rfl)(hk:o.dst=some (ds.getD i 0):=by rfl)(hin:ds.contains (ds.getD i 0)=true:=by decide)(hinj:∀ j,j<m→j≠i→ds.getD j 0≠ds.getD i 0:=by decide)(hR:R i (some v) w:=by exact rfl):wpOp P ops Q i (fun a' w'=>∃ U',a'=⟨over t U',d⟩∧Tb ops m ds cons R B (fun j=>if j=i then true else l j) U' w') ⟨over t U,d⟩ w:=tbw_yield hR0 hT ho hd hw hk hin hinj (hr _ v0 v1) (Ext.refl _) hR
theorem yk2{x0 x1:Operand}{a0 a1:Value}{p:Prop}{t:Array Value}{d:List Deferred}{l:Nat→Bool}{U:Nat→Option Value}{w:World}{i:Nat}{o:Oper}(hT:Tb ops m ds cons R B l U w)(hR0:∀ j u w w',Ext w w'→R j u w→R j u w')(ho:ops[i]?=some o)(hd:∀ e∈o.after,Region.binds .any e=true→l e.on=true)(v:Value)(v0:Act.eval ⟨over t U,d⟩ x0=a0)(v1:Act.eval ⟨over t U,d⟩ x1=a1)(h:p)(hr:∀ ev:Operand→Value,ev x0=a0→ev x1=a1→p→(execOp ev o).run P w=.ok (.value v) w:=by intro ev v0 v1 h;simp[execOp,go_sem,v0,v1,h])(hw:Region.wanted o (yielded ops (over t U))=true:=by exact wanted_plain rfl)(hk:o.dst=some (ds.getD i 0):=by rfl)(hin:ds.contains (ds.getD i 0)=true:=by decide)(hinj:∀ j,j<m→j≠i→ds.getD j 0≠ds.getD i 0:=by decide)(hR:R i (some v) w:=by exact rfl):wpOp P ops Q i (fun a' w'=>∃ U',a'=⟨over t U',d⟩∧Tb ops m ds cons R B (fun j=>if j=i then true else l j) U' w') ⟨over t U,d⟩ w:=tbw_yield hR0 hT ho hd hw hk hin hinj (hr _ v0 v1 h) (Ext.refl _) hR
theorem yl3{x0 x1 x2:Operand}{a0 a1 a2:Value}  {t:Array Value}{d:List Deferred}{l:Nat→Bool}{U:Nat→Option Value}{w:World}{i:Nat}{o:Oper}(hT:Tb ops m ds cons R B l U w)(hR0:∀ j u w w',Ext w w'→R j u w→R j u w')(ho:ops[i]?=some o)(hd:∀ e∈o.after,Region.binds .any e=true→l e.on=true)(v:Value)(v0:Act.eval ⟨over t U,d⟩ x0=a0)(v1:Act.eval ⟨over t U,d⟩ x1=a1)(v2:Act.eval ⟨over t U,d⟩ x2=a2)  (hr:∀ ev:Operand→Value,ev x0=a0→ev x1=a1→ev x2=a2→(execOp ev o).run P w=.ok (.value v) w:=by intro ev v0 v1 v2;simp[execOp,go_sem,v0,v1,v2])(hw:Region.wanted o (yielded ops (over t U))=true:=by exact wanted_plain rfl)(hk:o.dst=some (ds.getD i 0):=by rfl)(hin:ds.contains (ds.getD i 0)=true:=by decide)(hinj:∀ j,j<m→j≠i→ds.getD j 0≠ds.getD i 0:=by decide)(hR:R i (some v) w:=by exact rfl):wpOp P ops Q i (fun a' w'=>∃ U',a'=⟨over t U',d⟩∧Tb ops m ds cons R B (fun j=>if j=i then true else l j) U' w') ⟨over t U,d⟩ w:=tbw_yield hR0 hT ho hd hw hk hin hinj (hr _ v0 v1 v2) (Ext.refl _) hR
theorem yk3{x0 x1 x2:Operand}{a0 a1 a2:Value}{p:Prop}{t:Array Value}{d:List Deferred}{l:Nat→Bool}{U:Nat→Option Value}{w:World}{i:Nat}{o:Oper}(hT:Tb ops m ds cons R B l U w)(hR0:∀ j u w w',Ext w w'→R j u w→R j u w')(ho:ops[i]?=some o)(hd:∀ e∈o.after,Region.binds .any e=true→l e.on=true)(v:Value)(v0:Act.eval ⟨over t U,d⟩ x0=a0)(v1:Act.eval ⟨over t U,d⟩ x1=a1)(v2:Act.eval ⟨over t U,d⟩ x2=a2)(h:p)(hr:∀ ev:Operand→Value,ev x0=a0→ev x1=a1→ev x2=a2→p→(execOp ev o).run P w=.ok (.value v) w:=by intro ev v0 v1 v2 h;simp[execOp,go_sem,v0,v1,v2,h])(hw:Region.wanted o (yielded ops (over t U))=true:=by exact wanted_plain rfl)(hk:o.dst=some (ds.getD i 0):=by rfl)(hin:ds.contains (ds.getD i 0)=true:=by decide)(hinj:∀ j,j<m→j≠i→ds.getD j 0≠ds.getD i 0:=by decide)(hR:R i (some v) w:=by exact rfl):wpOp P ops Q i (fun a' w'=>∃ U',a'=⟨over t U',d⟩∧Tb ops m ds cons R B (fun j=>if j=i then true else l j) U' w') ⟨over t U,d⟩ w:=tbw_yield hR0 hT ho hd hw hk hin hinj (hr _ v0 v1 v2 h) (Ext.refl _) hR
theorem cl{t:Array Value}{d:List Deferred}{l:Nat→Bool}{U:Nat→Option Value}{w:World}{i:Nat}{o:Oper}(hT:Tb ops m ds cons R B l U w)(hR0:∀ j u w w',Ext w w'→R j u w→R j u w')(ho:ops[i]?=some o)(hd:∀ e∈o.after,Region.binds .any e=true→l e.on=true){f:FuncId}{args:Array Value}(hr:(execOp (Act.eval ⟨over t U,d⟩) o).run P w=.ok (.enter f args) w)(hc:Calls P f args w fun e w'=>∃ v,e=.returned v∧Ext w w'∧R i (some v) w')(hw:Region.wanted o (yielded ops (over t U))=true:=by exact wanted_plain rfl)(hk:o.dst=some (ds.getD i 0):=by rfl)(hin:ds.contains (ds.getD i 0)=true:=by decide)(hinj:∀ j,j<m→j≠i→ds.getD j 0≠ds.getD i 0:=by decide):wpOp P ops Q i (fun a' w'=>∃ U',a'=⟨over t U',d⟩∧Tb ops m ds cons R B (fun j=>if j=i then true else l j) U' w') ⟨over t U,d⟩ w:=tbw_call hR0 hT ho hd hw hk hin hinj hr hc
end
section
variable {P:Program} {ops:Array Oper} {Q:Exit→Act→World→Prop} {m:Nat} {ds:List Nat} {cons:Nat→Option Nat} {R:Nat→Option Value→World→Prop} {B:World} {J:(Nat→Bool)→(Nat→Option Value)→World→Prop}
theorem tj_yield{t:Array Value}{d:List Deferred}{l:Nat→Bool}{U:Nat→Option Value}{w w':World}{i:Nat}{o:Oper}{v:Value}(hR0:∀ j u w w',Ext w w'→R j u w→R j u w')(h:Tb ops m ds cons R B l U w)(ho:ops[i]?=some o)(hd:∀ e∈o.after,Region.binds .any e=true→l e.on=true)
    (hg:o.guard=none) (hk:o.dst=some (ds.getD i 0)) (hin:ds.contains (ds.getD i 0)=true) (hinj:∀ j,j<m→j≠i→l j=true→ds.getD j 0≠ds.getD i 0)
    (hr:(execOp (Act.eval ⟨over t U,d⟩) o).run P w=.ok (.value v) w') (hx:Ext w w') (hR:R i (some v) w') (hj:J (fun j=>if j=i then true else l j) (upd U (ds.getD i 0) v) w') :
    wpOp P ops Q i (fun a' w'=>∃ U',a'=⟨over t U',d⟩∧(Tb ops m ds cons R B (fun j=>if j=i then true else l j) U' w'∧J (fun j=>if j=i then true else l j) U' w')) ⟨over t U,d⟩ w :=
 step_yield (J:=fun l U w=>Tb ops m ds cons R B l U w∧J l U w) ho hg hk hr ⟨h.putW ho hd hin hinj (h.ext.trans hx) hR (fun j _ _ _ _ hj=>hR0 j _ _ _ hx hj),hj⟩
theorem tj_call{t:Array Value}{d:List Deferred}{l:Nat→Bool}{U:Nat→Option Value}{w:World}{i:Nat}{o:Oper}{f:FuncId}{args:Array Value}(hR0:∀ j u w w',Ext w w'→R j u w→R j u w')(h:Tb ops m ds cons R B l U w)(ho:ops[i]?=some o)(hd:∀ e∈o.after,Region.binds .any e=true→l e.on=true)
    (hg:o.guard=none) (hk:o.dst=some (ds.getD i 0)) (hin:ds.contains (ds.getD i 0)=true) (hinj:∀ j,j<m→j≠i→ds.getD j 0≠ds.getD i 0)
    (hr:(execOp (Act.eval ⟨over t U,d⟩) o).run P w=.ok (.enter f args) w) (hc:Calls P f args w fun e w'=>∃ v,e=.returned v∧Ext w w'∧R i (some v) w'∧J (fun j=>if j=i then true else l j) (upd U (ds.getD i 0) v) w') :
    wpOp P ops Q i (fun a' w'=>∃ U',a'=⟨over t U',d⟩∧(Tb ops m ds cons R B (fun j=>if j=i then true else l j) U' w'∧J (fun j=>if j=i then true else l j) U' w')) ⟨over t U,d⟩ w:=by
 refine wpOp_plain ho hg ?_;unfold Oper.wp;rw[hr,Oper.upon_enter];refine hc.mono ?_;rintro e w' ⟨v,rfl,hx,hR,hj⟩;refine⟨upd U (ds.getD i 0) v,?_,h.put ho hd hin hinj (h.ext.trans hx) hR (fun j _ _ _ _ hj=>hR0 j _ _ _ hx hj),hj⟩;rw[hk];exact put_over t U d _ v
theorem tj_store{t:Array Value}{d:List Deferred}{l:Nat→Bool}{U:Nat→Option Value}{w w':World}{i:Nat}{o:Oper}(h:Tb ops m ds cons R B l U w)(ho:ops[i]?=some o)(hd:∀ e∈o.after,Region.binds .any e=true→l e.on=true)
    (hg:o.guard=none) (hk:o.dst=none)
    (hr:(execOp (Act.eval ⟨over t U,d⟩) o).run P w=.ok .skip w') (hx:Ext B w') (hR:R i (U (ds.getD i 0)) w')
    (hst:∀ j,j<m→j≠i→l j=true→(∀ c,cons j=some c→c≠i∧l c=false)→R j (U (ds.getD j 0)) w→R j (U (ds.getD j 0)) w') (hj:J (fun j=>if j=i then true else l j) U w') :
    wpOp P ops Q i (fun a' w'=>∃ U',a'=⟨over t U',d⟩∧(Tb ops m ds cons R B (fun j=>if j=i then true else l j) U' w'∧J (fun j=>if j=i then true else l j) U' w')) ⟨over t U,d⟩ w:=by
 refine wpOp_plain ho hg ?_;unfold Oper.wp;rw[hr,Oper.upon_skip];refine⟨U,?_,h.mark ho hd hx hR hst,hj⟩;rw[hk];rfl
theorem region_tj{id:Nat}{a:Act}{w:World}(hm:P.follows .mixedOrders=true)(hac:ops.toList.zipIdx.all (fun p=>p.1.after.all fun e=>!Region.binds .any e || decide (e.on<p.2))=true)
    (E:Array Value→Prop) (hE:E a.tmps) (m:Nat) (ds:List Nat) (cons:Nat→Option Nat) (R:Nat→Option Value→World→Prop) (B:World) (J:(Nat→Bool)→(Nat→Option Value)→World→Prop) (hB:Ext B w) (hv:∀ i,ops.size≤i→i<m→R i none w.drew) (hj0:J (fun i=>!decide (i<ops.size)) (fun _=>none) w.drew)
    (hstep:∀ (t:Array Value) (d:List Deferred) (l:Nat→Bool) (U:Nat→Option Value) (w:World) (i:Nat) (o:Oper),E t→ops[i]?=some o→l i=false→(∀ e∈o.after,Region.binds .any e=true→l e.on=true)→(Tb ops m ds cons R B l U w∧J l U w) →
     wpOp P ops Q i (fun a' w'=>∃ U',a'=⟨over t U',d⟩∧(Tb ops m ds cons R B (fun j=>if j=i then true else l j) U' w'∧J (fun j=>if j=i then true else l j) U' w')) ⟨over t U,d⟩ w)
    (hdone:∀ U w,Ext B w→(∀ k,ds.contains k=false→U k=none)→(∀ i,i<m→cons i=none→R i (U (ds.getD i 0)) w)→J (fun _=>true) U w→Q .normal ⟨over a.tmps U,a.defers⟩ w):(Code.region id ops true).wp P Q a w:=by
 refine region_over hm hac E hE (fun l U w=>Tb ops m ds cons R B l U w∧J l U w) ⟨?_,hj0⟩ hstep ?_
 · refine⟨hB.drew,fun _ _=>rfl,fun i o ho hl=>?_,fun i hi=>by simp[Nat.not_lt.2 hi],fun i hi hl _=>?_⟩
   · have:i<ops.size:=by
       rcases Nat.lt_or_ge i ops.size with g | g
       · exact g
       · rw[Array.getElem?_eq_none g]at ho;cases ho
     simp[this]at hl
   · refine hv i ?_ hi;simpa using hl
 · intro U w h;exact hdone U w h.1.ext h.1.out (fun i hi hc=>h.1.facts i hi rfl (fun c e=>by rw[hc]at e;cases e)) h.2
end
end Go.Proofs.YtfnmgcblhebdbaaGreatDoor
