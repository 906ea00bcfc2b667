/- A region that draws its order, by a table of facts: operations under a guard. No conditions. -/
import Derived.Test.YtnlenappjjlbjaaGreatDoorQ11
import Derived.BigFrame
namespace Go.Proofs.YtnlenappjjlbjaaGreatDoor
open Go.RowKit

def Mono (p:Option Value→World→Prop):Prop:=∀ u w w',Ext w w'→p u w→p u w'
theorem mono_val (v:Value):Mono (fun u _=>u=some v):=fun _ _ _ _ h=>h
def AllMono:List (Option Value→World→Prop)→Prop
 | []=>True
 | p :: l=>Mono p∧AllMono l
theorem AllMono.at_:∀ {l:List (Option Value→World→Prop)},AllMono l→∀ j,Mono (l.getD j fun _ _=>True)
 | [],_,j=>fun _ _ _ _ _=>trivial
 | p :: l,h,0=>h.1
 | p :: l,h,j+1=>by simpa using AllMono.at_ h.2 j

section
variable {P:Program} {ops:Array Oper} {Q:Exit→Act→World→Prop} {m:Nat} {ds:List Nat} {cons:Nat→Option Nat} {R:Nat→Option Value→World→Prop} {B:World}

theorem wpOp_want {i:Nat} {o:Oper} {K:Act→World→Prop} {a:Act} {w:World} (ho:ops[i]?=some o) (hw:Region.wanted o (yielded ops a.tmps)=true) (h:o.wp P a w K Q):wpOp P ops Q i K a w:=by
 unfold wpOp
 rw [ho]
 simp only
 rw [if_pos hw]
 exact Or.inl h
theorem wanted_plain {t:Array Value} {o:Oper} (hg:o.guard=none):Region.wanted o (yielded ops t)=true:=by unfold Region.wanted;rw [hg]

theorem tbw_yield {t : Array Value} {d : List Deferred} {l : Nat → Bool} {U : Nat → Option Value} {w w' : World} {i : Nat} {o : Oper} {v : Value} (hR0 : ∀ j u w w', Ext w w' → R j u w → R j u w') (h : Tb ops m ds cons R B l U w) (ho : ops[i]? = some o) (hd : ∀ e ∈ o.after, Region.binds .any e = true → l e.on = true)
    (hw:Region.wanted o (yielded ops (over t U))=true) (hk:o.dst=some (ds.getD i 0)) (hin:ds.contains (ds.getD i 0)=true) (hinj:∀ j,j<m→j≠i→ds.getD j 0≠ds.getD i 0)
    (hr:(execOp (Act.eval ⟨over t U,d⟩) o).run P w=.ok (.value v) w') (hx:Ext w w') (hR:R i (some v) w') :
    wpOp P ops Q i (fun a' w'=>∃ U',a'=⟨over t U',d⟩∧Tb ops m ds cons R B (fun j=>if j=i then true else l j) U' w') ⟨over t U,d⟩ w:=by
 refine wpOp_want ho hw ?_
 unfold Oper.wp
 rw [hr]
 refine ⟨upd U (ds.getD i 0) v,?_,h.put ho hd hin hinj (h.ext.trans hx) hR (fun j _ _ _ _ hj=>hR0 j _ _ _ hx hj)⟩
 rw [hk]
 exact put_over t U d _ v
theorem tbw_call {t : Array Value} {d : List Deferred} {l : Nat → Bool} {U : Nat → Option Value} {w : World} {i : Nat} {o : Oper} {f : FuncId} {args : Array Value} (hR0 : ∀ j u w w', Ext w w' → R j u w → R j u w') (h : Tb ops m ds cons R B l U w) (ho : ops[i]? = some o) (hd : ∀ e ∈ o.after, Region.binds .any e = true → l e.on = true)
    (hw:Region.wanted o (yielded ops (over t U))=true) (hk:o.dst=some (ds.getD i 0)) (hin:ds.contains (ds.getD i 0)=true) (hinj:∀ j,j<m→j≠i→ds.getD j 0≠ds.getD i 0)
    (hr:(execOp (Act.eval ⟨over t U,d⟩) o).run P w=.ok (.enter f args) w) (hc:Calls P f args w fun e w'=>∃ v,e=.returned v∧Ext w w'∧R i (some v) w') :
    wpOp P ops Q i (fun a' w'=>∃ U',a'=⟨over t U',d⟩∧Tb ops m ds cons R B (fun j=>if j=i then true else l j) U' w') ⟨over t U,d⟩ w:=by
 refine wpOp_want ho hw ?_
 unfold Oper.wp
 rw [hr,Oper.upon_enter]
 refine hc.mono ?_
 rintro e w' ⟨v,rfl,hx,hR⟩
 refine ⟨upd U (ds.getD i 0) v,?_,h.put ho hd hin hinj (h.ext.trans hx) hR (fun j _ _ _ _ hj=>hR0 j _ _ _ hx hj)⟩
 rw [hk]
 exact put_over t U d _ v
theorem exec_load_row {P : Program} {ev : Operand → Value} {o : Oper} {w : World} (ty : TypeId) (x : Operand) (ho : o.op = .load ty x) (g : Nat) (hx : ev x = .pointer (some ⟨g, 0, none⟩)) (t : TypeId) (cs : Array Value) (fr : Nat × Nat) (td : TypeDesc) (hg : w.heap[g]? = some (.cells cs t fr))
    (hu:P.underlying ty=some td) (hd:(match td with | .struct _ | .array _ _=>true | _=>false)=true) (hi:(P.info? ty).map (·.size)=some cs.size):(execOp ev o).run P w=.ok (.value (.agg cs)) w:=by
 unfold execOp
 simp only [ho,hx,Instr.loadAt,Instr.sureAddr,Sem.run_bind,Sem.run_pure,Result.andThen_ok,run_loadVar_row w g t ty cs fr td hg hu hd hi]
end
end Go.Proofs.YtnlenappjjlbjaaGreatDoor
