/- review.Apply: what its statement of a new record leaves, whatever the order of its parts. Conditions: those of each theorem. -/
import Derived.Test.YtfnmgcblhebdbaaGreatDoorZ20
import Derived.Test.YtfnmgcblhebdbaaGreatDoorZ4
import Derived.Test.YtfnmgcblhebdbaaGreatDoorZ9
import Derived.OneCell
import Derived.Lib.SmallJoins
namespace Go.Proofs.YtfnmgcblhebdbaaGreatDoor
set_option maxHeartbeats 800000
open Go.RowKit

theorem Tryz.infoAct:(Tryz.prog.info? 116).map (fun i=>(i.zero,i.size,i.bytes))=some (some (.agg #[.int .i64 0,.int .i64 0,.int .i64 0,.int .i64 0]),4,32):=by kernel_rfl
def AFin (B:Nat)(st au:Int)(ap fa:List Int)(log:List Rev.Act)(k u ro t:Int)(U:Nat→Option Value)(w:World):Prop :=
 ∃ g x y z,U 7=some (.pointer (some ⟨g,0,none⟩))∧B≤g∧w.heap[g]?=some (.cells #[.int .i64 st,.int .i64 au,x,y,z] 54 (0,0))∧w.ownsRow B 3 1 x ap.length (ap.map fun x=>[Value.int .i64 x]).flatten∧w.ownsRow B 3 1 y fa.length (fa.map fun x=>[Value.int .i64 x]).flatten∧w.ownsRow B 116 4 z (log.length+1) ((log.map Rev.Act.cells).flatten ++ [.int .i64 k,.int .i64 u,.int .i64 ro,.int .i64 t])∧∀ q,y.ownBlock=some q→x.ownBlock≠some q
def ADST:List Nat:=[15,16,17,18,19,20,21,22,23,24,25,26,27,28,29,30,31,7]
def AJ (B n:Nat)(st au:Int)(P:Option Addr)(pc:Nat)(ap:List Int)(Q:Option Addr)(qc:Nat)(fa:List Int)(L:Option Addr)(lc:Nat)(log:List Rev.Act)(k u ro t:Int)(W:World)(l:Nat→Bool)(U:Nat→Option Value)(w:World):Prop :=
 (∀ j,ADST.contains j=false→U j=none)∧Ext W w∧(l 18=true→(∀ i,i<18→l i=true)∧AFin B st au ap fa log k u ro t U w)∧(l 18=false→(l 0=true→U 15=some (.pointer (some ⟨n,0,none⟩)))∧(l 1=true→U 16=some (.int .i64 st))∧(l 2=true→U 17=some (.pointer (some ⟨n,1,none⟩)))∧(l 3=true→U 18=some (.int .i64 au))∧(l 4=true→U 19=some (.pointer (some ⟨n,2,none⟩)))∧(l 5=true→U 20=some (.slice P ap.length pc))∧(l 6=true→∃ v,U 21=some v∧w.ownsRow B 3 1 v ap.length (ap.map fun x=>[Value.int .i64 x]).flatten)∧(l 7=true→U 22=some (.pointer (some ⟨n,3,none⟩)))∧(l 8=true→U 23=some (.slice Q fa.length qc))∧(l 9=true→l 6=true∧∃ v,U 24=some v∧w.ownsRow B 3 1 v fa.length (fa.map fun x=>[Value.int .i64 x]).flatten∧∀ x,U 21=some x→∀ q,v.ownBlock=some q→x.ownBlock≠some q)∧(l 10=true→U 25=some (.pointer (some ⟨n,4,none⟩)))∧(l 11=true→U 26=some (.slice L log.length lc))∧(l 12=true→l 15=false→∃ v,U 27=some v∧w.ownsRow B 116 4 v log.length (log.map Rev.Act.cells).flatten)∧(l 13=true→U 28=some (.agg #[.int .i64 k,.int .i64 u,.int .i64 ro,.int .i64 t]))∧(l 14=true→l 15=false→∃ b,U 29=some (.slice (some ⟨b,0,none⟩) 1 1)∧w.heap[b]?=some (.cells #[.int .i64 k,.int .i64 u,.int .i64 ro,.int .i64 t] 116 (0,0)))∧(l 15=true→∃ v,U 30=some v∧w.ownsRow B 116 4 v (log.length+1) ((log.map Rev.Act.cells).flatten ++ [.int .i64 k,.int .i64 u,.int .i64 ro,.int .i64 t]))∧(l 16=true→l 6=true∧l 9=true∧l 15=true∧∃ x y z,U 21=some x∧U 24=some y∧U 30=some z∧U 31=some (.agg #[.int .i64 st,.int .i64 au,x,y,z]))∧(l 17=true→∃ g c0 c1 c2 c3 c4,U 7=some (.pointer (some ⟨g,0,none⟩))∧B≤g∧w.heap[g]?=some (.cells #[c0,c1,c2,c3,c4] 54 (0,0))))
def AE (n:Nat)(T:Array Value):Prop:=T.size=78∧T.getD 2 undef=.pointer (some ⟨n,0,none⟩)∧T.getD 3 undef=.pointer (some ⟨n+1,0,none⟩)
def AW (n:Nat)(st au:Int)(P:Option Addr)(pc:Nat)(ap:List Int)(Q:Option Addr)(qc:Nat)(fa:List Int)(L:Option Addr)(lc:Nat)(log:List Rev.Act)(k u ro t:Int)(W:World):Prop :=
 W.cell? ⟨n,0,none⟩=some (.int .i64 st)∧W.cell? ⟨n,1,none⟩=some (.int .i64 au)∧W.cell? ⟨n,2,none⟩=some (.slice P ap.length pc)∧W.cell? ⟨n,3,none⟩=some (.slice Q fa.length qc)∧W.cell? ⟨n,4,none⟩=some (.slice L log.length lc)∧W.cell? ⟨n+1,0,none⟩=some (.int .i64 k)∧W.cell? ⟨n+1,1,none⟩=some (.int .i64 u)∧W.cell? ⟨n+1,2,none⟩=some (.int .i64 ro)∧W.cell? ⟨n+1,3,none⟩=some (.int .i64 t)∧SlI W P ap∧SlI W Q fa∧SlA W L log∧ap.length≤1000000∧fa.length≤1000000∧log.length≤1000000

theorem all18{l:Nat→Bool}(h0:l 0=true)(h1:l 1=true)(h2:l 2=true)(h3:l 3=true)(h4:l 4=true)(h5:l 5=true)(h6:l 6=true)(h7:l 7=true)(h8:l 8=true)(h9:l 9=true)(h10:l 10=true)(h11:l 11=true)(h12:l 12=true)(h13:l 13=true)(h14:l 14=true)(h15:l 15=true)(h16:l 16=true)(h17:l 17=true):∀ i,i<18→l i=true:=fun i hi=>by
 match i,hi with
 | 0,_=>exact h0
 | 1,_=>exact h1
 | 2,_=>exact h2
 | 3,_=>exact h3
 | 4,_=>exact h4
 | 5,_=>exact h5
 | 6,_=>exact h6
 | 7,_=>exact h7
 | 8,_=>exact h8
 | 9,_=>exact h9
 | 10,_=>exact h10
 | 11,_=>exact h11
 | 12,_=>exact h12
 | 13,_=>exact h13
 | 14,_=>exact h14
 | 15,_=>exact h15
 | 16,_=>exact h16
 | 17,_=>exact h17
 | n+18,h=>exact absurd h (by omega)

theorem kp{l:Nat→Bool}{U:Nat→Option Value}{i d k j:Nat}{v:Value}{x:Option Value}(f:l k=true→U j=x)(hk:k≠i:=by decide)(hj:j≠d:=by decide):(if k=i then true else l k)=true→upd U d v j=x:=fun h=>by rw[if_neg hk]at h;rw[upd_ne hj];exact f h
theorem ke{α:Type}{g:α→Value}{Q:α→Prop}{l:Nat→Bool}{U:Nat→Option Value}{i d k j:Nat}{v:Value}(f:l k=true→∃ a,U j=some (g a)∧Q a)(hk:k≠i:=by decide)(hj:j≠d:=by decide):(if k=i then true else l k)=true→∃ a,upd U d v j=some (g a)∧Q a:=fun h=>by rw[if_neg hk]at h;rw[upd_ne hj];exact f h
theorem k2{α:Type}{g:α→Value}{Q:α→Prop}{l:Nat→Bool}{U:Nat→Option Value}{i d k m j:Nat}{v:Value}(f:l k=true→l m=false→∃ a,U j=some (g a)∧Q a)(hk:k≠i:=by decide)(hm:m≠i:=by decide)(hj:j≠d:=by decide):(if k=i then true else l k)=true→(if m=i then true else l m)=false→∃ a,upd U d v j=some (g a)∧Q a:=fun h h2=>by rw[if_neg hk]at h;rw[if_neg hm]at h2;rw[upd_ne hj];exact f h h2
theorem k9{Q:Value→Prop}{T:Value→Value→Prop}{l:Nat→Bool}{U:Nat→Option Value}{i d k m j j2:Nat}{v:Value}(f:l k=true→l m=true∧∃ a,U j=some a∧Q a∧∀ x,U j2=some x→T a x)(hk:k≠i:=by decide)(hm:m≠i:=by decide)(hj:j≠d:=by decide)(hj2:j2≠d:=by decide):(if k=i then true else l k)=true→(if m=i then true else l m)=true∧∃ a,upd U d v j=some a∧Q a∧∀ x,upd U d v j2=some x→T a x:=fun h=>by rw[if_neg hk]at h;rw[if_neg hm,upd_ne hj,upd_ne hj2];exact f h
theorem kd{g:Value→Value→Value→Value}{l:Nat→Bool}{U:Nat→Option Value}{i d k m1 m2 m3 j1 j2 j3 j4:Nat}{v:Value}(f:l k=true→l m1=true∧l m2=true∧l m3=true∧∃ x y z,U j1=some x∧U j2=some y∧U j3=some z∧U j4=some (g x y z))(hk:k≠i:=by decide)(h1:m1≠i:=by decide)(h2:m2≠i:=by decide)(h3:m3≠i:=by decide)(d1:j1≠d:=by decide)(d2:j2≠d:=by decide)(d3:j3≠d:=by decide)(d4:j4≠d:=by decide):(if k=i then true else l k)=true→(if m1=i then true else l m1)=true∧(if m2=i then true else l m2)=true∧(if m3=i then true else l m3)=true∧∃ x y z,upd U d v j1=some x∧upd U d v j2=some y∧upd U d v j3=some z∧upd U d v j4=some (g x y z):=fun h=>by rw[if_neg hk]at h;rw[if_neg h1,if_neg h2,if_neg h3,upd_ne d1,upd_ne d2,upd_ne d3,upd_ne d4];exact f h
theorem kg{B:Nat}{Q:Nat→Value→Value→Value→Value→Value→Prop}{l:Nat→Bool}{U:Nat→Option Value}{i d k j:Nat}{v:Value}(f:l k=true→∃ g c0 c1 c2 c3 c4,U j=some (.pointer (some ⟨g,0,none⟩))∧B≤g∧Q g c0 c1 c2 c3 c4)(hk:k≠i:=by decide)(hj:j≠d:=by decide):(if k=i then true else l k)=true→∃ g c0 c1 c2 c3 c4,upd U d v j=some (.pointer (some ⟨g,0,none⟩))∧B≤g∧Q g c0 c1 c2 c3 c4:=fun h=>by rw[if_neg hk]at h;rw[upd_ne hj];exact f h
section
variable {B n:Nat} {st au:Int} {P:Option Addr} {pc:Nat} {ap:List Int} {Q:Option Addr} {qc:Nat} {fa:List Int} {L:Option Addr} {lc:Nat} {log:List Rev.Act} {k u ro t:Int} {W:World} {ops:Array Oper} {Qx:Exit→Act→World→Prop} {T:Array Value} {dd:List Deferred} {l:Nat→Bool} {U:Nat→Option Value} {w:World} {o:Oper}
theorem AJ_0(hE:AE n T)(hW:AW n st au P pc ap Q qc fa L lc log k u ro t W)(_hB:B=W.heap.size)
    (ho:ops[0]?=some o) (hop:o.op=Op.fieldAddr 54 (Operand.tmp 2) 0) (hds:o.dst=some 15) (hgd:o.guard=none) (hl:l 0=false)  (hJ:AJ B n st au P pc ap Q qc fa L lc log k u ro t W l U w) :
    wpOp Tryz.prog ops Qx 0 (fun a' w'=>∃ U',a'=⟨over T U',dd⟩∧AJ B n st au P pc ap Q qc fa L lc log k u ro t W (fun j=>if j=0 then true else l j) U' w') ⟨over T U,dd⟩ w:=by
 obtain⟨hU,hx,hF,hc⟩:=hJ;obtain⟨hs,g2,g3⟩:=hE;have l18:l 18=false:=by
  cases h:l 18 with
  | false=>rfl
  | true=>rw[(hF h).1 0 (by omega)]at hl;cases hl
 obtain⟨f0,f1,f2,f3,f4,f5,f6,f7,f8,f9,f10,f11,f12,f13,f14,f15,f16,f17⟩:=hc l18;obtain⟨cw0',cw1',cw2',cw3',cw4',cw5',cw6',cw7',cw8',hap,hfa,hlg,b1,b2,b3⟩:=hW;have e2:=eval_old (d:=dd) (hU 2 (by decide)) (by omega) g2;refine step_yield (v:=.pointer (some ⟨n,0,none⟩)) (w':=w) ho hgd hds ?_ ⟨fun j hj=>(upd_ne (fun e=>by subst e;exact absurd hj (by decide))).trans (hU j hj),hx,fun h=>absurd h (by simp[l18]),fun _ =>
     ⟨fun _=>upd_same _ _ _,kp f1,kp f2,kp f3,kp f4,kp f5,ke f6,kp f7,kp f8,k9 f9,kp f10,kp f11,k2 f12,kp f13,k2 f14,ke f15,kd f16,kg f17⟩⟩
 generalize Act.eval ⟨over T U,dd⟩=ev at *;simp[execOp,hop,e2,go_sem]

theorem AJ_1(hE:AE n T)(hW:AW n st au P pc ap Q qc fa L lc log k u ro t W)(_hB:B=W.heap.size)
    (ho:ops[1]?=some o) (hop:o.op=Op.load 3 (Operand.tmp 15)) (hds:o.dst=some 16) (hgd:o.guard=none) (hl:l 1=false) (d0:l 0=true) (hJ:AJ B n st au P pc ap Q qc fa L lc log k u ro t W l U w) :
    wpOp Tryz.prog ops Qx 1 (fun a' w'=>∃ U',a'=⟨over T U',dd⟩∧AJ B n st au P pc ap Q qc fa L lc log k u ro t W (fun j=>if j=1 then true else l j) U' w') ⟨over T U,dd⟩ w:=by
 obtain⟨hU,hx,hF,hc⟩:=hJ;obtain⟨hs,g2,g3⟩:=hE;have l18:l 18=false:=by
  cases h:l 18 with
  | false=>rfl
  | true=>rw[(hF h).1 1 (by omega)]at hl;cases hl
 obtain⟨f0,f1,f2,f3,f4,f5,f6,f7,f8,f9,f10,f11,f12,f13,f14,f15,f16,f17⟩:=hc l18;obtain⟨cw0',cw1',cw2',cw3',cw4',cw5',cw6',cw7',cw8',hap,hfa,hlg,b1,b2,b3⟩:=hW;have cw0:=hx.keep cw0';have e15:=eval_new (t:=T) (d:=dd) (f0 d0) (by omega);refine step_yield (v:=.int .i64 st) (w':=w) ho hgd hds ?_ ⟨fun j hj=>(upd_ne (fun e=>by subst e;exact absurd hj (by decide))).trans (hU j hj),hx,fun h=>absurd h (by simp[l18]),fun _ =>
     ⟨kp f0,fun _=>upd_same _ _ _,kp f2,kp f3,kp f4,kp f5,ke f6,kp f7,kp f8,k9 f9,kp f10,kp f11,k2 f12,kp f13,k2 f14,ke f15,kd f16,kg f17⟩⟩
 generalize Act.eval ⟨over T U,dd⟩=ev at *;simp[execOp,hop,e15,go_sem,cw0]

theorem AJ_2(hE:AE n T)(hW:AW n st au P pc ap Q qc fa L lc log k u ro t W)(_hB:B=W.heap.size)
    (ho:ops[2]?=some o) (hop:o.op=Op.fieldAddr 54 (Operand.tmp 2) 1) (hds:o.dst=some 17) (hgd:o.guard=none) (hl:l 2=false)  (hJ:AJ B n st au P pc ap Q qc fa L lc log k u ro t W l U w) :
    wpOp Tryz.prog ops Qx 2 (fun a' w'=>∃ U',a'=⟨over T U',dd⟩∧AJ B n st au P pc ap Q qc fa L lc log k u ro t W (fun j=>if j=2 then true else l j) U' w') ⟨over T U,dd⟩ w:=by
 obtain⟨hU,hx,hF,hc⟩:=hJ;obtain⟨hs,g2,g3⟩:=hE;have l18:l 18=false:=by
  cases h:l 18 with
  | false=>rfl
  | true=>rw[(hF h).1 2 (by omega)]at hl;cases hl
 obtain⟨f0,f1,f2,f3,f4,f5,f6,f7,f8,f9,f10,f11,f12,f13,f14,f15,f16,f17⟩:=hc l18;obtain⟨cw0',cw1',cw2',cw3',cw4',cw5',cw6',cw7',cw8',hap,hfa,hlg,b1,b2,b3⟩:=hW;have e2:=eval_old (d:=dd) (hU 2 (by decide)) (by omega) g2;refine step_yield (v:=.pointer (some ⟨n,1,none⟩)) (w':=w) ho hgd hds ?_ ⟨fun j hj=>(upd_ne (fun e=>by subst e;exact absurd hj (by decide))).trans (hU j hj),hx,fun h=>absurd h (by simp[l18]),fun _ =>
     ⟨kp f0,kp f1,fun _=>upd_same _ _ _,kp f3,kp f4,kp f5,ke f6,kp f7,kp f8,k9 f9,kp f10,kp f11,k2 f12,kp f13,k2 f14,ke f15,kd f16,kg f17⟩⟩
 generalize Act.eval ⟨over T U,dd⟩=ev at *;simp[execOp,hop,e2,go_sem]

theorem AJ_3(hE:AE n T)(hW:AW n st au P pc ap Q qc fa L lc log k u ro t W)(_hB:B=W.heap.size)
    (ho:ops[3]?=some o) (hop:o.op=Op.load 3 (Operand.tmp 17)) (hds:o.dst=some 18) (hgd:o.guard=none) (hl:l 3=false) (d2:l 2=true) (hJ:AJ B n st au P pc ap Q qc fa L lc log k u ro t W l U w) :
    wpOp Tryz.prog ops Qx 3 (fun a' w'=>∃ U',a'=⟨over T U',dd⟩∧AJ B n st au P pc ap Q qc fa L lc log k u ro t W (fun j=>if j=3 then true else l j) U' w') ⟨over T U,dd⟩ w:=by
 obtain⟨hU,hx,hF,hc⟩:=hJ;obtain⟨hs,g2,g3⟩:=hE;have l18:l 18=false:=by
  cases h:l 18 with
  | false=>rfl
  | true=>rw[(hF h).1 3 (by omega)]at hl;cases hl
 obtain⟨f0,f1,f2,f3,f4,f5,f6,f7,f8,f9,f10,f11,f12,f13,f14,f15,f16,f17⟩:=hc l18;obtain⟨cw0',cw1',cw2',cw3',cw4',cw5',cw6',cw7',cw8',hap,hfa,hlg,b1,b2,b3⟩:=hW;have cw1:=hx.keep cw1';have e17:=eval_new (t:=T) (d:=dd) (f2 d2) (by omega);refine step_yield (v:=.int .i64 au) (w':=w) ho hgd hds ?_ ⟨fun j hj=>(upd_ne (fun e=>by subst e;exact absurd hj (by decide))).trans (hU j hj),hx,fun h=>absurd h (by simp[l18]),fun _ =>
     ⟨kp f0,kp f1,kp f2,fun _=>upd_same _ _ _,kp f4,kp f5,ke f6,kp f7,kp f8,k9 f9,kp f10,kp f11,k2 f12,kp f13,k2 f14,ke f15,kd f16,kg f17⟩⟩
 generalize Act.eval ⟨over T U,dd⟩=ev at *;simp[execOp,hop,e17,go_sem,cw1]

theorem AJ_4(hE:AE n T)(hW:AW n st au P pc ap Q qc fa L lc log k u ro t W)(_hB:B=W.heap.size)
    (ho:ops[4]?=some o) (hop:o.op=Op.fieldAddr 54 (Operand.tmp 2) 2) (hds:o.dst=some 19) (hgd:o.guard=none) (hl:l 4=false)  (hJ:AJ B n st au P pc ap Q qc fa L lc log k u ro t W l U w) :
    wpOp Tryz.prog ops Qx 4 (fun a' w'=>∃ U',a'=⟨over T U',dd⟩∧AJ B n st au P pc ap Q qc fa L lc log k u ro t W (fun j=>if j=4 then true else l j) U' w') ⟨over T U,dd⟩ w:=by
 obtain⟨hU,hx,hF,hc⟩:=hJ;obtain⟨hs,g2,g3⟩:=hE;have l18:l 18=false:=by
  cases h:l 18 with
  | false=>rfl
  | true=>rw[(hF h).1 4 (by omega)]at hl;cases hl
 obtain⟨f0,f1,f2,f3,f4,f5,f6,f7,f8,f9,f10,f11,f12,f13,f14,f15,f16,f17⟩:=hc l18;obtain⟨cw0',cw1',cw2',cw3',cw4',cw5',cw6',cw7',cw8',hap,hfa,hlg,b1,b2,b3⟩:=hW;have e2:=eval_old (d:=dd) (hU 2 (by decide)) (by omega) g2;refine step_yield (v:=.pointer (some ⟨n,2,none⟩)) (w':=w) ho hgd hds ?_ ⟨fun j hj=>(upd_ne (fun e=>by subst e;exact absurd hj (by decide))).trans (hU j hj),hx,fun h=>absurd h (by simp[l18]),fun _ =>
     ⟨kp f0,kp f1,kp f2,kp f3,fun _=>upd_same _ _ _,kp f5,ke f6,kp f7,kp f8,k9 f9,kp f10,kp f11,k2 f12,kp f13,k2 f14,ke f15,kd f16,kg f17⟩⟩
 generalize Act.eval ⟨over T U,dd⟩=ev at *;simp[execOp,hop,e2,go_sem]

theorem AJ_5(hE:AE n T)(hW:AW n st au P pc ap Q qc fa L lc log k u ro t W)(_hB:B=W.heap.size)
    (ho:ops[5]?=some o) (hop:o.op=Op.load 22 (Operand.tmp 19)) (hds:o.dst=some 20) (hgd:o.guard=none) (hl:l 5=false) (d4:l 4=true) (hJ:AJ B n st au P pc ap Q qc fa L lc log k u ro t W l U w) :
    wpOp Tryz.prog ops Qx 5 (fun a' w'=>∃ U',a'=⟨over T U',dd⟩∧AJ B n st au P pc ap Q qc fa L lc log k u ro t W (fun j=>if j=5 then true else l j) U' w') ⟨over T U,dd⟩ w:=by
 obtain⟨hU,hx,hF,hc⟩:=hJ;obtain⟨hs,g2,g3⟩:=hE;have l18:l 18=false:=by
  cases h:l 18 with
  | false=>rfl
  | true=>rw[(hF h).1 5 (by omega)]at hl;cases hl
 obtain⟨f0,f1,f2,f3,f4,f5,f6,f7,f8,f9,f10,f11,f12,f13,f14,f15,f16,f17⟩:=hc l18;obtain⟨cw0',cw1',cw2',cw3',cw4',cw5',cw6',cw7',cw8',hap,hfa,hlg,b1,b2,b3⟩:=hW;have cw2:=hx.keep cw2';have e19:=eval_new (t:=T) (d:=dd) (f4 d4) (by omega);refine step_yield (v:=.slice P ap.length pc) (w':=w) ho hgd hds ?_ ⟨fun j hj=>(upd_ne (fun e=>by subst e;exact absurd hj (by decide))).trans (hU j hj),hx,fun h=>absurd h (by simp[l18]),fun _ =>
     ⟨kp f0,kp f1,kp f2,kp f3,kp f4,fun _=>upd_same _ _ _,ke f6,kp f7,kp f8,k9 f9,kp f10,kp f11,k2 f12,kp f13,k2 f14,ke f15,kd f16,kg f17⟩⟩
 generalize Act.eval ⟨over T U,dd⟩=ev at *;simp[execOp,hop,e19,go_sem,cw2]

theorem AJ_6(hE:AE n T)(hW:AW n st au P pc ap Q qc fa L lc log k u ro t W)(hB:B=W.heap.size)
    (ho:ops[6]?=some o) (hop:o.op=.call { callee:=.builtin .append,args:=#[Operand.const (Value.slice none 0 0),Operand.tmp 20],argTypes:=#[22,22] }) (hds:o.dst=some 21) (hgd:o.guard=none) (hl:l 6=false) (d5:l 5=true) (hJ:AJ B n st au P pc ap Q qc fa L lc log k u ro t W l U w) :
    wpOp Tryz.prog ops Qx 6 (fun a' w'=>∃ U',a'=⟨over T U',dd⟩∧AJ B n st au P pc ap Q qc fa L lc log k u ro t W (fun j=>if j=6 then true else l j) U' w') ⟨over T U,dd⟩ w:=by
 obtain⟨hU,hx,hF,hc⟩:=hJ;obtain⟨hs,g2,g3⟩:=hE;have l18:l 18=false:=by
  cases h:l 18 with
  | false=>rfl
  | true=>rw[(hF h).1 6 (by omega)]at hl;cases hl
 obtain⟨f0,f1,f2,f3,f4,f5,f6,f7,f8,f9,f10,f11,f12,f13,f14,f15,f16,f17⟩:=hc l18;obtain⟨cw0',cw1',cw2',cw3',cw4',cw5',cw6',cw7',cw8',hap,hfa,hlg,b1,b2,b3⟩:=hW;have e20:=eval_new (t:=T) (d:=dd) (f5 d5) (by omega);obtain⟨i0,hi0,hz0,hz1,hz2⟩:=info_parts Tryz.infoInt;have hsz:=hx.size;obtain⟨v',w',hrun,hown,hgr,hat⟩:=run_append_sl (P:=Tryz.prog) w B 22 o.type 3 i0 (.int .i64 0) 1 8 Tryz.underlying22 hi0 hz0 hz1 hz2 rfl (by decide) (.slice none 0 0) 0 [] (own_nil _ _ _ _) P pc (ap.map (fun x:Int=>[Value.int .i64 x])) (hap.ext hx) (fun c hc=>by obtain⟨x,-,rfl⟩:=List.mem_map.1 hc;rfl)
  (fun c hc q hq=>by obtain⟨x,-,rfl⟩:=List.mem_map.1 hc;simp at hq;subst hq;rfl) (by rw[List.length_map];unfold maxLen;omega) (by rw[List.length_map];omega) (by omega)
 rw[List.length_map,Nat.zero_add,List.nil_append]at hown;have he':Ext w w':=grown_none hgr;rw[List.length_map]at hrun;refine step_yield (v:=v') (w':=w') ho hgd hds (exec_append hop rfl e20 hrun) ⟨fun j hj=>(upd_ne (fun e=>by subst e;exact absurd hj (by decide))).trans (hU j hj),hx.trans he',fun h=>absurd h (by simp[l18]),fun _ =>
     ⟨kp f0,kp f1,kp f2,kp f3,kp f4,kp f5,
      fun _=>⟨v',upd_same _ _ _,hown⟩,kp f7,kp f8,fun hc=>absurd (f9 (by simpa using hc)).1 (by simp[hl]),kp f10,kp f11,fun hc h15=>(f12 (by simpa using hc) (by simpa using h15)).elim fun v hv=>⟨v,(upd_ne (by decide)).trans hv.1,own_ext (hv.2) he'⟩,kp f13,fun hc h15=>(f14 (by simpa using hc) (by simpa using h15)).elim fun v hv=>⟨v,(upd_ne (by decide)).trans hv.1,he'.blockAt hv.2⟩,fun hc=>(f15 (by simpa using hc)).elim fun v hv=>⟨v,(upd_ne (by decide)).trans hv.1,own_ext (hv.2) he'⟩,fun hc=>absurd (f16 (by simpa using hc)).1 (by simp[hl]),fun hc=>by obtain⟨g,c0,c1,c2,c3,c4,e1,e2,e3⟩:=f17 (by simpa using hc);exact⟨g,c0,c1,c2,c3,c4,(upd_ne (by decide)).trans e1,e2,he'.blockAt e3⟩⟩⟩

theorem AJ_7(hE:AE n T)(hW:AW n st au P pc ap Q qc fa L lc log k u ro t W)(_hB:B=W.heap.size)
    (ho:ops[7]?=some o) (hop:o.op=Op.fieldAddr 54 (Operand.tmp 2) 3) (hds:o.dst=some 22) (hgd:o.guard=none) (hl:l 7=false)  (hJ:AJ B n st au P pc ap Q qc fa L lc log k u ro t W l U w) :
    wpOp Tryz.prog ops Qx 7 (fun a' w'=>∃ U',a'=⟨over T U',dd⟩∧AJ B n st au P pc ap Q qc fa L lc log k u ro t W (fun j=>if j=7 then true else l j) U' w') ⟨over T U,dd⟩ w:=by
 obtain⟨hU,hx,hF,hc⟩:=hJ;obtain⟨hs,g2,g3⟩:=hE;have l18:l 18=false:=by
  cases h:l 18 with
  | false=>rfl
  | true=>rw[(hF h).1 7 (by omega)]at hl;cases hl
 obtain⟨f0,f1,f2,f3,f4,f5,f6,f7,f8,f9,f10,f11,f12,f13,f14,f15,f16,f17⟩:=hc l18;obtain⟨cw0',cw1',cw2',cw3',cw4',cw5',cw6',cw7',cw8',hap,hfa,hlg,b1,b2,b3⟩:=hW;have e2:=eval_old (d:=dd) (hU 2 (by decide)) (by omega) g2;refine step_yield (v:=.pointer (some ⟨n,3,none⟩)) (w':=w) ho hgd hds ?_ ⟨fun j hj=>(upd_ne (fun e=>by subst e;exact absurd hj (by decide))).trans (hU j hj),hx,fun h=>absurd h (by simp[l18]),fun _ =>
     ⟨kp f0,kp f1,kp f2,kp f3,kp f4,kp f5,ke f6,fun _=>upd_same _ _ _,kp f8,k9 f9,kp f10,kp f11,k2 f12,kp f13,k2 f14,ke f15,kd f16,kg f17⟩⟩
 generalize Act.eval ⟨over T U,dd⟩=ev at *;simp[execOp,hop,e2,go_sem]

theorem AJ_8(hE:AE n T)(hW:AW n st au P pc ap Q qc fa L lc log k u ro t W)(_hB:B=W.heap.size)
    (ho:ops[8]?=some o) (hop:o.op=Op.load 22 (Operand.tmp 22)) (hds:o.dst=some 23) (hgd:o.guard=none) (hl:l 8=false) (d7:l 7=true) (hJ:AJ B n st au P pc ap Q qc fa L lc log k u ro t W l U w) :
    wpOp Tryz.prog ops Qx 8 (fun a' w'=>∃ U',a'=⟨over T U',dd⟩∧AJ B n st au P pc ap Q qc fa L lc log k u ro t W (fun j=>if j=8 then true else l j) U' w') ⟨over T U,dd⟩ w:=by
 obtain⟨hU,hx,hF,hc⟩:=hJ;obtain⟨hs,g2,g3⟩:=hE;have l18:l 18=false:=by
  cases h:l 18 with
  | false=>rfl
  | true=>rw[(hF h).1 8 (by omega)]at hl;cases hl
 obtain⟨f0,f1,f2,f3,f4,f5,f6,f7,f8,f9,f10,f11,f12,f13,f14,f15,f16,f17⟩:=hc l18;obtain⟨cw0',cw1',cw2',cw3',cw4',cw5',cw6',cw7',cw8',hap,hfa,hlg,b1,b2,b3⟩:=hW;have cw3:=hx.keep cw3';have e22:=eval_new (t:=T) (d:=dd) (f7 d7) (by omega);refine step_yield (v:=.slice Q fa.length qc) (w':=w) ho hgd hds ?_ ⟨fun j hj=>(upd_ne (fun e=>by subst e;exact absurd hj (by decide))).trans (hU j hj),hx,fun h=>absurd h (by simp[l18]),fun _ =>
     ⟨kp f0,kp f1,kp f2,kp f3,kp f4,kp f5,ke f6,kp f7,fun _=>upd_same _ _ _,k9 f9,kp f10,kp f11,k2 f12,kp f13,k2 f14,ke f15,kd f16,kg f17⟩⟩
 generalize Act.eval ⟨over T U,dd⟩=ev at *;simp[execOp,hop,e22,go_sem,cw3]

theorem AJ_9(hE:AE n T)(hW:AW n st au P pc ap Q qc fa L lc log k u ro t W)(hB:B=W.heap.size)
    (ho:ops[9]?=some o) (hop:o.op=.call { callee:=.builtin .append,args:=#[Operand.const (Value.slice none 0 0),Operand.tmp 23],argTypes:=#[22,22] }) (hds:o.dst=some 24) (hgd:o.guard=none) (hl:l 9=false) (d8:l 8=true) (d6:l 6=true) (hJ:AJ B n st au P pc ap Q qc fa L lc log k u ro t W l U w) :
    wpOp Tryz.prog ops Qx 9 (fun a' w'=>∃ U',a'=⟨over T U',dd⟩∧AJ B n st au P pc ap Q qc fa L lc log k u ro t W (fun j=>if j=9 then true else l j) U' w') ⟨over T U,dd⟩ w:=by
 obtain⟨hU,hx,hF,hc⟩:=hJ;obtain⟨hs,g2,g3⟩:=hE;have l18:l 18=false:=by
  cases h:l 18 with
  | false=>rfl
  | true=>rw[(hF h).1 9 (by omega)]at hl;cases hl
 obtain⟨f0,f1,f2,f3,f4,f5,f6,f7,f8,f9,f10,f11,f12,f13,f14,f15,f16,f17⟩:=hc l18;obtain⟨cw0',cw1',cw2',cw3',cw4',cw5',cw6',cw7',cw8',hap,hfa,hlg,b1,b2,b3⟩:=hW;have e23:=eval_new (t:=T) (d:=dd) (f8 d8) (by omega);obtain⟨i0,hi0,hz0,hz1,hz2⟩:=info_parts Tryz.infoInt;have hsz:=hx.size;obtain⟨v',w',hrun,hown,hgr,hat⟩:=run_append_sl (P:=Tryz.prog) w B 22 o.type 3 i0 (.int .i64 0) 1 8 Tryz.underlying22 hi0 hz0 hz1 hz2 rfl (by decide) (.slice none 0 0) 0 [] (own_nil _ _ _ _) Q qc (fa.map (fun x:Int=>[Value.int .i64 x])) (hfa.ext hx) (fun c hc=>by obtain⟨x,-,rfl⟩:=List.mem_map.1 hc;rfl)
  (fun c hc q hq=>by obtain⟨x,-,rfl⟩:=List.mem_map.1 hc;simp at hq;subst hq;rfl) (by rw[List.length_map];unfold maxLen;omega) (by rw[List.length_map];omega) (by omega)
 rw[List.length_map,Nat.zero_add,List.nil_append]at hown;have he':Ext w w':=grown_none hgr;rw[List.length_map]at hrun;have hdis:∀ x,upd U 24 v' 21=some x→∀ q,v'.ownBlock=some q→x.ownBlock≠some q:=fun x hx q hq e=>by
  obtain⟨x',ux,hox⟩:=f6 d6;rw[upd_ne (by decide),ux]at hx;injection hx with hx;subst hx;have:=own_lt hox q e;rcases hat with g | g
  · rw[hq]at g;cases g
  · rw[hq]at g;injection g with g;omega
 refine step_yield (v:=v') (w':=w') ho hgd hds (exec_append hop rfl e23 hrun) ⟨fun j hj=>(upd_ne (fun e=>by subst e;exact absurd hj (by decide))).trans (hU j hj),hx.trans he',fun h=>absurd h (by simp[l18]),fun _ =>
     ⟨kp f0,kp f1,kp f2,kp f3,kp f4,kp f5,fun hc=>(f6 (by simpa using hc)).elim fun v hv=>⟨v,(upd_ne (by decide)).trans hv.1,own_ext (hv.2) he'⟩,kp f7,kp f8,
      fun _=>⟨by simpa using d6,v',upd_same _ _ _,hown,hdis⟩,kp f10,kp f11,fun hc h15=>(f12 (by simpa using hc) (by simpa using h15)).elim fun v hv=>⟨v,(upd_ne (by decide)).trans hv.1,own_ext (hv.2) he'⟩,kp f13,fun hc h15=>(f14 (by simpa using hc) (by simpa using h15)).elim fun v hv=>⟨v,(upd_ne (by decide)).trans hv.1,he'.blockAt hv.2⟩,fun hc=>(f15 (by simpa using hc)).elim fun v hv=>⟨v,(upd_ne (by decide)).trans hv.1,own_ext (hv.2) he'⟩,fun hc=>absurd (f16 (by simpa using hc)).2.1 (by simp[hl]),fun hc=>by obtain⟨g,c0,c1,c2,c3,c4,e1,e2,e3⟩:=f17 (by simpa using hc);exact⟨g,c0,c1,c2,c3,c4,(upd_ne (by decide)).trans e1,e2,he'.blockAt e3⟩⟩⟩

theorem AJ_10(hE:AE n T)(hW:AW n st au P pc ap Q qc fa L lc log k u ro t W)(_hB:B=W.heap.size)
    (ho:ops[10]?=some o) (hop:o.op=Op.fieldAddr 54 (Operand.tmp 2) 4) (hds:o.dst=some 25) (hgd:o.guard=none) (hl:l 10=false)  (hJ:AJ B n st au P pc ap Q qc fa L lc log k u ro t W l U w) :
    wpOp Tryz.prog ops Qx 10 (fun a' w'=>∃ U',a'=⟨over T U',dd⟩∧AJ B n st au P pc ap Q qc fa L lc log k u ro t W (fun j=>if j=10 then true else l j) U' w') ⟨over T U,dd⟩ w:=by
 obtain⟨hU,hx,hF,hc⟩:=hJ;obtain⟨hs,g2,g3⟩:=hE;have l18:l 18=false:=by
  cases h:l 18 with
  | false=>rfl
  | true=>rw[(hF h).1 10 (by omega)]at hl;cases hl
 obtain⟨f0,f1,f2,f3,f4,f5,f6,f7,f8,f9,f10,f11,f12,f13,f14,f15,f16,f17⟩:=hc l18;obtain⟨cw0',cw1',cw2',cw3',cw4',cw5',cw6',cw7',cw8',hap,hfa,hlg,b1,b2,b3⟩:=hW;have e2:=eval_old (d:=dd) (hU 2 (by decide)) (by omega) g2;refine step_yield (v:=.pointer (some ⟨n,4,none⟩)) (w':=w) ho hgd hds ?_ ⟨fun j hj=>(upd_ne (fun e=>by subst e;exact absurd hj (by decide))).trans (hU j hj),hx,fun h=>absurd h (by simp[l18]),fun _ =>
     ⟨kp f0,kp f1,kp f2,kp f3,kp f4,kp f5,ke f6,kp f7,kp f8,k9 f9,fun _=>upd_same _ _ _,kp f11,k2 f12,kp f13,k2 f14,ke f15,kd f16,kg f17⟩⟩
 generalize Act.eval ⟨over T U,dd⟩=ev at *;simp[execOp,hop,e2,go_sem]

theorem AJ_11(hE:AE n T)(hW:AW n st au P pc ap Q qc fa L lc log k u ro t W)(_hB:B=W.heap.size)
    (ho:ops[11]?=some o) (hop:o.op=Op.load 52 (Operand.tmp 25)) (hds:o.dst=some 26) (hgd:o.guard=none) (hl:l 11=false) (d10:l 10=true) (hJ:AJ B n st au P pc ap Q qc fa L lc log k u ro t W l U w) :
    wpOp Tryz.prog ops Qx 11 (fun a' w'=>∃ U',a'=⟨over T U',dd⟩∧AJ B n st au P pc ap Q qc fa L lc log k u ro t W (fun j=>if j=11 then true else l j) U' w') ⟨over T U,dd⟩ w:=by
 obtain⟨hU,hx,hF,hc⟩:=hJ;obtain⟨hs,g2,g3⟩:=hE;have l18:l 18=false:=by
  cases h:l 18 with
  | false=>rfl
  | true=>rw[(hF h).1 11 (by omega)]at hl;cases hl
 obtain⟨f0,f1,f2,f3,f4,f5,f6,f7,f8,f9,f10,f11,f12,f13,f14,f15,f16,f17⟩:=hc l18;obtain⟨cw0',cw1',cw2',cw3',cw4',cw5',cw6',cw7',cw8',hap,hfa,hlg,b1,b2,b3⟩:=hW;have cw4:=hx.keep cw4';have e25:=eval_new (t:=T) (d:=dd) (f10 d10) (by omega);refine step_yield (v:=.slice L log.length lc) (w':=w) ho hgd hds ?_ ⟨fun j hj=>(upd_ne (fun e=>by subst e;exact absurd hj (by decide))).trans (hU j hj),hx,fun h=>absurd h (by simp[l18]),fun _ =>
     ⟨kp f0,kp f1,kp f2,kp f3,kp f4,kp f5,ke f6,kp f7,kp f8,k9 f9,kp f10,fun _=>upd_same _ _ _,k2 f12,kp f13,k2 f14,ke f15,kd f16,kg f17⟩⟩
 generalize Act.eval ⟨over T U,dd⟩=ev at *;simp[execOp,hop,e25,go_sem,cw4]

theorem AJ_12(hE:AE n T)(hW:AW n st au P pc ap Q qc fa L lc log k u ro t W)(hB:B=W.heap.size)
    (ho:ops[12]?=some o) (hop:o.op=.call { callee:=.builtin .append,args:=#[Operand.const (Value.slice none 0 0),Operand.tmp 26],argTypes:=#[52,52] }) (hds:o.dst=some 27) (hgd:o.guard=none) (hl:l 12=false) (d11:l 11=true) (hJ:AJ B n st au P pc ap Q qc fa L lc log k u ro t W l U w) :
    wpOp Tryz.prog ops Qx 12 (fun a' w'=>∃ U',a'=⟨over T U',dd⟩∧AJ B n st au P pc ap Q qc fa L lc log k u ro t W (fun j=>if j=12 then true else l j) U' w') ⟨over T U,dd⟩ w:=by
 obtain⟨hU,hx,hF,hc⟩:=hJ;obtain⟨hs,g2,g3⟩:=hE;have l18:l 18=false:=by
  cases h:l 18 with
  | false=>rfl
  | true=>rw[(hF h).1 12 (by omega)]at hl;cases hl
 obtain⟨f0,f1,f2,f3,f4,f5,f6,f7,f8,f9,f10,f11,f12,f13,f14,f15,f16,f17⟩:=hc l18;obtain⟨cw0',cw1',cw2',cw3',cw4',cw5',cw6',cw7',cw8',hap,hfa,hlg,b1,b2,b3⟩:=hW;have e26:=eval_new (t:=T) (d:=dd) (f11 d11) (by omega);obtain⟨i0,hi0,hz0,hz1,hz2⟩:=info_parts Tryz.infoAct;have hsz:=hx.size;obtain⟨v',w',hrun,hown,hgr,hat⟩:=run_append_sl (P:=Tryz.prog) w B 52 o.type 116 i0 (.agg #[.int .i64 0,.int .i64 0,.int .i64 0,.int .i64 0]) 4 32 Tryz.underlying52 hi0 hz0 hz1 hz2 rfl (by decide) (.slice none 0 0) 0 [] (own_nil _ _ _ _) L lc (log.map Rev.Act.cells) (hlg.ext hx) (fun c hc=>by obtain⟨x,-,rfl⟩:=List.mem_map.1 hc;rfl)
  (fun c hc q hq=>by obtain⟨x,-,rfl⟩:=List.mem_map.1 hc;simp[Rev.Act.cells]at hq;rcases hq with rfl | rfl | rfl | rfl <;> rfl) (by rw[List.length_map];unfold maxLen;omega) (by rw[List.length_map];omega) (by omega)
 rw[List.length_map,Nat.zero_add,List.nil_append]at hown;have he':Ext w w':=grown_none hgr;rw[List.length_map]at hrun;refine step_yield (v:=v') (w':=w') ho hgd hds (exec_append hop rfl e26 hrun) ⟨fun j hj=>(upd_ne (fun e=>by subst e;exact absurd hj (by decide))).trans (hU j hj),hx.trans he',fun h=>absurd h (by simp[l18]),fun _ =>
     ⟨kp f0,kp f1,kp f2,kp f3,kp f4,kp f5,fun hc=>(f6 (by simpa using hc)).elim fun v hv=>⟨v,(upd_ne (by decide)).trans hv.1,own_ext (hv.2) he'⟩,kp f7,kp f8,fun hc=>by obtain⟨p6,v,e1,e2,e3⟩:=f9 (by simpa using hc);exact⟨by simpa using p6,v,(upd_ne (by decide)).trans e1,own_ext (e2) he',fun x hx=>e3 x ((upd_ne (by decide)).symm.trans hx)⟩,kp f10,kp f11,
      fun _ _=>⟨v',upd_same _ _ _,hown⟩,kp f13,fun hc h15=>(f14 (by simpa using hc) (by simpa using h15)).elim fun v hv=>⟨v,(upd_ne (by decide)).trans hv.1,he'.blockAt hv.2⟩,fun hc=>(f15 (by simpa using hc)).elim fun v hv=>⟨v,(upd_ne (by decide)).trans hv.1,own_ext (hv.2) he'⟩,kd f16,fun hc=>by obtain⟨g,c0,c1,c2,c3,c4,e1,e2,e3⟩:=f17 (by simpa using hc);exact⟨g,c0,c1,c2,c3,c4,(upd_ne (by decide)).trans e1,e2,he'.blockAt e3⟩⟩⟩

theorem AJ_13(hE:AE n T)(hW:AW n st au P pc ap Q qc fa L lc log k u ro t W)(_hB:B=W.heap.size)
    (ho:ops[13]?=some o) (hop:o.op=Op.load 116 (Operand.tmp 3)) (hds:o.dst=some 28) (hgd:o.guard=none) (hl:l 13=false)  (hJ:AJ B n st au P pc ap Q qc fa L lc log k u ro t W l U w) :
    wpOp Tryz.prog ops Qx 13 (fun a' w'=>∃ U',a'=⟨over T U',dd⟩∧AJ B n st au P pc ap Q qc fa L lc log k u ro t W (fun j=>if j=13 then true else l j) U' w') ⟨over T U,dd⟩ w:=by
 obtain⟨hU,hx,hF,hc⟩:=hJ;obtain⟨hs,g2,g3⟩:=hE;have l18:l 18=false:=by
  cases h:l 18 with
  | false=>rfl
  | true=>rw[(hF h).1 13 (by omega)]at hl;cases hl
 obtain⟨f0,f1,f2,f3,f4,f5,f6,f7,f8,f9,f10,f11,f12,f13,f14,f15,f16,f17⟩:=hc l18;obtain⟨cw0',cw1',cw2',cw3',cw4',cw5',cw6',cw7',cw8',hap,hfa,hlg,b1,b2,b3⟩:=hW;have cw5:=hx.keep cw5';have cw6:=hx.keep cw6';have cw7:=hx.keep cw7';have cw8:=hx.keep cw8';have e3:=eval_old (d:=dd) (hU 3 (by decide)) (by omega) g3;refine step_yield (v:=.agg #[.int .i64 k,.int .i64 u,.int .i64 ro,.int .i64 t]) (w':=w) ho hgd hds ?_ ⟨fun j hj=>(upd_ne (fun e=>by subst e;exact absurd hj (by decide))).trans (hU j hj),hx,fun h=>absurd h (by simp[l18]),fun _ =>
     ⟨kp f0,kp f1,kp f2,kp f3,kp f4,kp f5,ke f6,kp f7,kp f8,k9 f9,kp f10,kp f11,k2 f12,fun _=>upd_same _ _ _,k2 f14,ke f15,kd f16,kg f17⟩⟩
 generalize Act.eval ⟨over T U,dd⟩=ev at *;simp[execOp,hop,e3,go_sem,cw5,cw6,cw7,cw8]

theorem AJ_14(hE:AE n T)(hW:AW n st au P pc ap Q qc fa L lc log k u ro t W)(_hB:B=W.heap.size)
    (ho:ops[14]?=some o) (hop:o.op=Op.buildSlice 52 1 #[(0,Operand.tmp 28)]) (hds:o.dst=some 29) (hgd:o.guard=none) (hl:l 14=false) (d13:l 13=true) (hJ:AJ B n st au P pc ap Q qc fa L lc log k u ro t W l U w) :
    wpOp Tryz.prog ops Qx 14 (fun a' w'=>∃ U',a'=⟨over T U',dd⟩∧AJ B n st au P pc ap Q qc fa L lc log k u ro t W (fun j=>if j=14 then true else l j) U' w') ⟨over T U,dd⟩ w:=by
 obtain⟨hU,hx,hF,hc⟩:=hJ;obtain⟨hs,g2,g3⟩:=hE;have l18:l 18=false:=by
  cases h:l 18 with
  | false=>rfl
  | true=>rw[(hF h).1 14 (by omega)]at hl;cases hl
 obtain⟨f0,f1,f2,f3,f4,f5,f6,f7,f8,f9,f10,f11,f12,f13,f14,f15,f16,f17⟩:=hc l18;obtain⟨cw0',cw1',cw2',cw3',cw4',cw5',cw6',cw7',cw8',hap,hfa,hlg,b1,b2,b3⟩:=hW;have e28:=eval_new (t:=T) (d:=dd) (f13 d13) (by omega);have he':Ext w (w.alloc (.cells #[.int .i64 k,.int .i64 u,.int .i64 ro,.int .i64 t] 116)):=(Ext.refl _).alloc _;refine step_yield (v:=.slice (some ⟨w.heap.size,0,none⟩) 1 1) (w':=w.alloc (.cells #[.int .i64 k,.int .i64 u,.int .i64 ro,.int .i64 t] 116)) ho hgd hds ?_ ⟨fun j hj=>(upd_ne (fun e=>by subst e;exact absurd hj (by decide))).trans (hU j hj),hx.trans he',fun h=>absurd h (by simp[l18]),fun _ =>
     ⟨kp f0,kp f1,kp f2,kp f3,kp f4,kp f5,fun hc=>(f6 (by simpa using hc)).elim fun v hv=>⟨v,(upd_ne (by decide)).trans hv.1,own_ext (hv.2) he'⟩,kp f7,kp f8,fun hc=>by obtain⟨p6,v,e1,e2,e3⟩:=f9 (by simpa using hc);exact⟨by simpa using p6,v,(upd_ne (by decide)).trans e1,own_ext (e2) he',fun x hx=>e3 x ((upd_ne (by decide)).symm.trans hx)⟩,kp f10,kp f11,fun hc h15=>(f12 (by simpa using hc) (by simpa using h15)).elim fun v hv=>⟨v,(upd_ne (by decide)).trans hv.1,own_ext (hv.2) he'⟩,kp f13,
      fun _ _=>⟨w.heap.size,upd_same _ _ _,heap_alloc_new _ _⟩,fun hc=>(f15 (by simpa using hc)).elim fun v hv=>⟨v,(upd_ne (by decide)).trans hv.1,own_ext (hv.2) he'⟩,kd f16,fun hc=>by obtain⟨g,c0,c1,c2,c3,c4,e1,e2,e3⟩:=f17 (by simpa using hc);exact⟨g,c0,c1,c2,c3,c4,(upd_ne (by decide)).trans e1,e2,he'.blockAt e3⟩⟩⟩
 generalize Act.eval ⟨over T U,dd⟩=ev at *;simp[execOp,hop,e28,go_sem]

theorem AJ_15(hE:AE n T)(hW:AW n st au P pc ap Q qc fa L lc log k u ro t W)(hB:B=W.heap.size)
    (ho:ops[15]?=some o) (hop:o.op=.call { callee:=.builtin .append,args:=#[Operand.tmp 27,Operand.tmp 29],argTypes:=#[52,52] }) (hds:o.dst=some 30) (hgd:o.guard=none) (hl:l 15=false) (d12:l 12=true) (d14:l 14=true) (hJ:AJ B n st au P pc ap Q qc fa L lc log k u ro t W l U w) :
    wpOp Tryz.prog ops Qx 15 (fun a' w'=>∃ U',a'=⟨over T U',dd⟩∧AJ B n st au P pc ap Q qc fa L lc log k u ro t W (fun j=>if j=15 then true else l j) U' w') ⟨over T U,dd⟩ w:=by
 obtain⟨hU,hx,hF,hc⟩:=hJ;obtain⟨hs,g2,g3⟩:=hE;have l18:l 18=false:=by
  cases h:l 18 with
  | false=>rfl
  | true=>rw[(hF h).1 15 (by omega)]at hl;cases hl
 obtain⟨f0,f1,f2,f3,f4,f5,f6,f7,f8,f9,f10,f11,f12,f13,f14,f15,f16,f17⟩:=hc l18;obtain⟨cw0',cw1',cw2',cw3',cw4',cw5',cw6',cw7',cw8',hap,hfa,hlg,b1,b2,b3⟩:=hW;obtain⟨v27,u27,ho27⟩:=f12 d12 hl;obtain⟨b,u29,hb29⟩:=f14 d14 hl;have e27:=eval_new (t:=T) (d:=dd) u27 (by omega);have e29:=eval_new (t:=T) (d:=dd) u29 (by omega);obtain⟨i0,hi0,hz0,hz1,hz2⟩:=info_parts Tryz.infoAct;have hsz:=hx.size;obtain⟨v',w',hrun,hown,hgr,-,hat⟩:=run_append_own_at (P:=Tryz.prog) w B 52 o.type 116 i0 (.agg #[.int .i64 0,.int .i64 0,.int .i64 0,.int .i64 0]) 4 32 Tryz.underlying52 hi0 hz0 hz1 hz2 rfl (by decide) v27 log.length (log.map Rev.Act.cells).flatten ho27 ⟨b,0,none⟩ 1 1 [.int .i64 k,.int .i64 u,.int .i64 ro,.int .i64 t] rfl (World.news_of_block hb29) (by simp[Value.oneCell']) (by unfold maxLen;omega) (by omega) (by omega);have hex:Ext W w':=hx.grown hgr (fun q hq=>by have:=own_ge ho27 q hq;omega);refine step_yield (v:=v') (w':=w') ho hgd hds (exec_append hop e27 e29 hrun) ⟨fun j hj=>(upd_ne (fun e=>by subst e;exact absurd hj (by decide))).trans (hU j hj),hex,fun h=>absurd h (by simp[l18]),fun _ =>
     ⟨kp f0,kp f1,kp f2,kp f3,kp f4,kp f5,fun hc=>(f6 (by simpa using hc)).elim fun v hv=>⟨v,(upd_ne (by decide)).trans hv.1,own_grown hv.2 hgr (fun q hq e=>own_types hv.2 ho27 (by decide) q hq e)⟩,kp f7,kp f8,fun hc=>by obtain⟨p6,v,e1,e2,e3⟩:=f9 (by simpa using hc);exact⟨by simpa using p6,v,(upd_ne (by decide)).trans e1,own_grown e2 hgr (fun q hq e=>own_types e2 ho27 (by decide) q hq e),fun x hx=>e3 x ((upd_ne (by decide)).symm.trans hx)⟩,kp f10,kp f11,
      fun _ h15=>absurd h15 (by simp),kp f13,
      fun _ h15=>absurd h15 (by simp),
      fun _=>⟨v',upd_same _ _ _,hown⟩,fun hc=>absurd (f16 (by simpa using hc)).2.2.1 (by simp[hl]),fun hc=>by obtain⟨g,c0,c1,c2,c3,c4,e1,e2,e3⟩:=f17 (by simpa using hc);exact⟨g,c0,c1,c2,c3,c4,(upd_ne (by decide)).trans e1,e2,((hgr.block g (World.block_lt_of_cell? w ⟨g,0,none⟩ (by rw[cell_of_row _ _ _ _ _ _ e3];rfl)) (fun e=>own_other ho27 e3 (by decide) e.symm)).trans e3)⟩⟩⟩

theorem AJ_16(hE:AE n T)(hW:AW n st au P pc ap Q qc fa L lc log k u ro t W)(_hB:B=W.heap.size)
    (ho:ops[16]?=some o) (hop:o.op=Op.build 54 #[(0,Operand.tmp 16),(1,Operand.tmp 18),(2,Operand.tmp 21),(3,Operand.tmp 24),(4,Operand.tmp 30)]) (hds:o.dst=some 31) (hgd:o.guard=none) (hl:l 16=false) (d1:l 1=true) (d3:l 3=true) (d6:l 6=true) (d9:l 9=true) (d15:l 15=true) (hJ:AJ B n st au P pc ap Q qc fa L lc log k u ro t W l U w) :
    wpOp Tryz.prog ops Qx 16 (fun a' w'=>∃ U',a'=⟨over T U',dd⟩∧AJ B n st au P pc ap Q qc fa L lc log k u ro t W (fun j=>if j=16 then true else l j) U' w') ⟨over T U,dd⟩ w:=by
 obtain⟨hU,hx,hF,hc⟩:=hJ;obtain⟨hs,g2,g3⟩:=hE;have l18:l 18=false:=by
  cases h:l 18 with
  | false=>rfl
  | true=>rw[(hF h).1 16 (by omega)]at hl;cases hl
 obtain⟨f0,f1,f2,f3,f4,f5,f6,f7,f8,f9,f10,f11,f12,f13,f14,f15,f16,f17⟩:=hc l18;obtain⟨cw0',cw1',cw2',cw3',cw4',cw5',cw6',cw7',cw8',hap,hfa,hlg,b1,b2,b3⟩:=hW;obtain⟨x,ux,hox⟩:=f6 d6;obtain⟨-,y,uy,hoy,-⟩:=f9 d9;obtain⟨z,uz,hoz⟩:=f15 d15;have e16:=eval_new (t:=T) (d:=dd) (f1 d1) (by omega);have e18:=eval_new (t:=T) (d:=dd) (f3 d3) (by omega);have e21:=eval_new (t:=T) (d:=dd) ux (by omega);have e24:=eval_new (t:=T) (d:=dd) uy (by omega);have e30:=eval_new (t:=T) (d:=dd) uz (by omega);refine step_yield (v:=.agg #[.int .i64 st,.int .i64 au,x,y,z]) (w':=w) ho hgd hds ?_ ⟨fun j hj=>(upd_ne (fun e=>by subst e;exact absurd hj (by decide))).trans (hU j hj),hx,fun h=>absurd h (by simp[l18]),fun _ =>
     ⟨kp f0,kp f1,kp f2,kp f3,kp f4,kp f5,ke f6,kp f7,kp f8,k9 f9,kp f10,kp f11,k2 f12,kp f13,k2 f14,ke f15,
      fun _=>⟨by simpa using d6,by simpa using d9,by simpa using d15,x,y,z,(upd_ne (by decide)).trans ux,(upd_ne (by decide)).trans uy,(upd_ne (by decide)).trans uz,upd_same _ _ _⟩,kg f17⟩⟩
 obtain⟨A1,c1,rfl⟩:=own_form hox;obtain⟨A2,c2,rfl⟩:=own_form hoy;obtain⟨A3,c3,rfl⟩:=own_form hoz;clear ux uy uz hox hoy hoz;generalize Act.eval ⟨over T U,dd⟩=ev at *;simp[execOp,hop,e16,e18,e21,e24,e30,go_sem]

theorem AJ_17(hE:AE n T)(hW:AW n st au P pc ap Q qc fa L lc log k u ro t W)(hB:B=W.heap.size)
    (ho:ops[17]?=some o) (hop:o.op=Op.alloc 54) (hds:o.dst=some 7) (hgd:o.guard=none) (hl:l 17=false)  (hJ:AJ B n st au P pc ap Q qc fa L lc log k u ro t W l U w) :
    wpOp Tryz.prog ops Qx 17 (fun a' w'=>∃ U',a'=⟨over T U',dd⟩∧AJ B n st au P pc ap Q qc fa L lc log k u ro t W (fun j=>if j=17 then true else l j) U' w') ⟨over T U,dd⟩ w:=by
 obtain⟨hU,hx,hF,hc⟩:=hJ;obtain⟨hs,g2,g3⟩:=hE;have l18:l 18=false:=by
  cases h:l 18 with
  | false=>rfl
  | true=>rw[(hF h).1 17 (by omega)]at hl;cases hl
 obtain⟨f0,f1,f2,f3,f4,f5,f6,f7,f8,f9,f10,f11,f12,f13,f14,f15,f16,f17⟩:=hc l18;obtain⟨cw0',cw1',cw2',cw3',cw4',cw5',cw6',cw7',cw8',hap,hfa,hlg,b1,b2,b3⟩:=hW;have he':Ext w (w.alloc (.cells #[.int .i64 0,.int .i64 0,.slice none 0 0,.slice none 0 0,.slice none 0 0] 54)):=(Ext.refl _).alloc _;have hsz:=hx.size;refine step_yield (v:=.pointer (some ⟨w.heap.size,0,none⟩)) (w':=(w.alloc (.cells #[.int .i64 0,.int .i64 0,.slice none 0 0,.slice none 0 0,.slice none 0 0] 54))) ho hgd hds ?_ ⟨fun j hj=>(upd_ne (fun e=>by subst e;exact absurd hj (by decide))).trans (hU j hj),hx.trans he',fun h=>absurd h (by simp[l18]),fun _ =>
     ⟨kp f0,kp f1,kp f2,kp f3,kp f4,kp f5,fun hc=>(f6 (by simpa using hc)).elim fun v hv=>⟨v,(upd_ne (by decide)).trans hv.1,own_ext (hv.2) he'⟩,kp f7,kp f8,fun hc=>by obtain⟨p6,v,e1,e2,e3⟩:=f9 (by simpa using hc);exact⟨by simpa using p6,v,(upd_ne (by decide)).trans e1,own_ext (e2) he',fun x hx=>e3 x ((upd_ne (by decide)).symm.trans hx)⟩,kp f10,kp f11,fun hc h15=>(f12 (by simpa using hc) (by simpa using h15)).elim fun v hv=>⟨v,(upd_ne (by decide)).trans hv.1,own_ext (hv.2) he'⟩,kp f13,fun hc h15=>(f14 (by simpa using hc) (by simpa using h15)).elim fun v hv=>⟨v,(upd_ne (by decide)).trans hv.1,he'.blockAt hv.2⟩,fun hc=>(f15 (by simpa using hc)).elim fun v hv=>⟨v,(upd_ne (by decide)).trans hv.1,own_ext (hv.2) he'⟩,kd f16,
      fun _=>⟨w.heap.size,_,_,_,_,_,upd_same _ _ _,by omega,heap_alloc_new _ _⟩⟩⟩
 generalize Act.eval ⟨over T U,dd⟩=ev at *;simp[execOp,hop,go_sem]

theorem AJ_18(hE:AE n T)(hW:AW n st au P pc ap Q qc fa L lc log k u ro t W)(hB:B=W.heap.size)
    (ho:ops[18]?=some o) (hop:o.op=Op.store 54 (Operand.tmp 7) (Operand.tmp 31)) (hds:o.dst=none) (hgd:o.guard=none) (hl:l 18=false) (d0:l 0=true) (d1:l 1=true) (d2:l 2=true) (d3:l 3=true) (d4:l 4=true) (d5:l 5=true) (d6:l 6=true) (d7:l 7=true) (d8:l 8=true) (d9:l 9=true) (d10:l 10=true) (d11:l 11=true) (d12:l 12=true) (d13:l 13=true) (d14:l 14=true) (d15:l 15=true) (d16:l 16=true) (d17:l 17=true) (hJ:AJ B n st au P pc ap Q qc fa L lc log k u ro t W l U w) :
    wpOp Tryz.prog ops Qx 18 (fun a' w'=>∃ U',a'=⟨over T U',dd⟩∧AJ B n st au P pc ap Q qc fa L lc log k u ro t W (fun j=>if j=18 then true else l j) U' w') ⟨over T U,dd⟩ w:=by
 obtain⟨hU,hx,hF,hc⟩:=hJ;obtain⟨hs,g2,g3⟩:=hE;have l18:=hl;obtain⟨f0,f1,f2,f3,f4,f5,f6,f7,f8,f9,f10,f11,f12,f13,f14,f15,f16,f17⟩:=hc l18;obtain⟨cw0',cw1',cw2',cw3',cw4',cw5',cw6',cw7',cw8',hap,hfa,hlg,b1,b2,b3⟩:=hW;obtain⟨-,-,-,x,y,z,u21,u24,u30,u31⟩:=f16 d16;obtain⟨x',ux,hox⟩:=f6 d6;obtain⟨-,y',uy,hoy,hdis⟩:=f9 d9;obtain⟨z',uz,hoz⟩:=f15 d15;rw[u21]at ux;rw[u24]at uy;rw[u30]at uz;injection ux with ux;injection uy with uy;injection uz with uz;subst ux uy uz;obtain⟨g,c0,c1,c2,c3,c4,u7,hg,hh⟩:=f17 d17;have e7:=eval_new (t:=T) (d:=dd) u7 (by omega);have e31:=eval_new (t:=T) (d:=dd) u31 (by omega);have k0:=Joins.block_setCell (i:=0) hh (.int .i64 st);have k1:=Joins.block_setCell (i:=1) k0 (.int .i64 au);have k2:=Joins.block_setCell (i:=2) k1 x;have k3:=Joins.block_setCell (i:=3) k2 y;have k4:=Joins.block_setCell (i:=4) k3 z;simp at k4;have p0:w.cell? ⟨g,0,none⟩=some c0:=by rw[cell_of_row _ _ _ _ _ _ hh];rfl
 have p1:=cell_of_row _ _ 1 _ _ _ k0;have p2:=cell_of_row _ _ 2 _ _ _ k1;have p3:=cell_of_row _ _ 3 _ _ _ k2;have p4:=cell_of_row _ _ 4 _ _ _ k3;have q0:=frozen_of_row _ _ 0 _ _ hh;have q1:=frozen_of_row _ _ 1 _ _ k0;have q2:=frozen_of_row _ _ 2 _ _ k1;have q3:=frozen_of_row _ _ 3 _ _ k2;have q4:=frozen_of_row _ _ 4 _ _ k3;simp at p1 p2 p3 p4;have ox:∀ (w:World) (o:Nat) (u:Value),w.ownsRow B 3 1 x ap.length (ap.map fun x=>[Value.int .i64 x]).flatten→w.heap[g]?=some (.cells #[c0,c1,c2,c3,c4] 54 (0,0))→True:=fun _ _ _ _ _=>trivial;clear ox;have hne1:x.ownBlock≠some g:=own_other hox hh (by decide);have hne2:y.ownBlock≠some g:=own_other hoy hh (by decide);have hne3:z.ownBlock≠some g:=own_other hoz hh (by decide);obtain⟨A1,a1,rfl⟩:=own_form hox;obtain⟨A2,a2,rfl⟩:=own_form hoy;obtain⟨A3,a3,rfl⟩:=own_form hoz;have hgW:W.heap.size≤g:=by omega
 refine wpOp_plain ho hgd ?_;have hr:(execOp (Act.eval ⟨over T U,dd⟩) o).run Tryz.prog w=.ok .skip (((((w.setCell ⟨g,0,none⟩ (.int .i64 st)).setCell ⟨g,1,none⟩ (.int .i64 au)).setCell ⟨g,2,none⟩ (.slice A1 ap.length a1)).setCell ⟨g,3,none⟩ (.slice A2 fa.length a2)).setCell ⟨g,4,none⟩ (.slice A3 (log.length+1) a3)):=by clear f0 f1 f2 f3 f4 f5 f6 f7 f8 f9 f10 f11 f12 f13 f14 f15 f16 f17 hox hoy hoz k0 k1 k2 k3 k4 hh;generalize Act.eval ⟨over T U,dd⟩=ev at *;simp[execOp,hop,e7,e31,go_sem,p0,p1,p2,p3,p4,q0,q1,q2,q3,q4]
 unfold Oper.wp;rw[hr];refine⟨U,by rw[hds];rfl,hU,?_,fun _=>⟨fun i hi=>?_,g,_,_,_,u7,hg,k4,?_,?_,?_,hdis _ u21⟩,fun h=>absurd h (by simp)⟩
 · exact((((hx.setCell hgW _).setCell hgW _).setCell hgW _).setCell hgW _).setCell hgW _
 · show(if i=18 then true else l i)=true;rw[if_neg (by omega)];exact all18 d0 d1 d2 d3 d4 d5 d6 d7 d8 d9 d10 d11 d12 d13 d14 d15 d16 d17 i hi
 · exact ownsRow_setCell_other (ownsRow_setCell_other (ownsRow_setCell_other (ownsRow_setCell_other (ownsRow_setCell_other hox hne1 _) hne1 _) hne1 _) hne1 _) hne1 _
 · exact ownsRow_setCell_other (ownsRow_setCell_other (ownsRow_setCell_other (ownsRow_setCell_other (ownsRow_setCell_other hoy hne2 _) hne2 _) hne2 _) hne2 _) hne2 _
 · exact ownsRow_setCell_other (ownsRow_setCell_other (ownsRow_setCell_other (ownsRow_setCell_other (ownsRow_setCell_other hoz hne3 _) hne3 _) hne3 _) hne3 _) hne3 _

end
end Go.Proofs.YtfnmgcblhebdbaaGreatDoor
