/- Rows of records: a whole record read out of a slice, written into a row that the call owns. No conditions. -/
import Derived.Test.YtfnmgcblhebdbaaGreatDoorZ4
import Derived.Deep.MidRow
import Derived.Deep.WholeRow
namespace Go.Proofs.YtfnmgcblhebdbaaGreatDoor
open Go.RowKit

theorem Sl.range{w:World}{k:Nat}{A:Option Addr}{xs:List (List Value)}(h:Sl w k A xs){i:Nat}{cs:List Value}(hi:xs[i]?=some cs) :
    ∃ b off,A=some ⟨b,off,none⟩∧b<w.heap.size∧w.rangeAt b (off+i*k) cs:=by
 obtain⟨b,off,hA,hb,hc⟩:=h.at_ hi;exact⟨b,off,hA,hb,fun j v hv=>by rw[Nat.add_assoc];exact hc j v hv⟩
theorem Ext.range{w w':World}(he:Ext w w'){b o:Nat}{cs:List Value}(h:w.rangeAt b o cs):w'.rangeAt b o cs:=fun j v hv=>he.keep (h j v hv)
theorem Ext.setCells{a:World}{g:Nat}(hg:a.heap.size≤g):∀ (vs:List Value) (o:Nat) (b:World),Ext a b→Ext a (b.setCells g o vs)
 | [],_,_,h=>h
 | v :: r,o,b,h=>by rw[World.setCells];exact Ext.setCells hg r (o+1) _ (h.setCell hg v)

theorem rowSet_other(w:World){g q:Nat}(cs:Array Value)(h:q≠g):(w.setRow g cs).heap[q]?=w.heap[q]?:=by simp[World.setRow,Array.getElem?_modify,show g≠q from fun e=>h e.symm]
theorem Ext.rowSet{a b:World}(h:Ext a b){g:Nat}(hg:a.heap.size≤g)(cs:Array Value):Ext a (b.setRow g cs) :=
 ⟨h.os,h.tape,h.output,by simpa[World.setRow]using h.size,fun q hq=>by rw[← h.block q hq];exact rowSet_other _ _ (by omega)⟩
section
variable {P:Program}
theorem wpList_load_arr{ops:Array Oper}{rest:List Oper}{op:Oper}{a:Act}{w:World}{Q:Exit→Act→World→Prop}(hgd:op.guard=none)(ty:TypeId)(x:Operand)(ho:op.op=.load ty x)
    (b o:Nat) (hx:a.eval x=.pointer (some ⟨b,o,none⟩)) (CS:Array Value) (d:TypeDesc) (hc:w.rangeAt b o CS.toList)
    (hu:P.underlying ty=some d) (hd:d.isRow=true) (hi:(P.info? ty).map (·.size)=some CS.size)
    (h:wpList P ops Q rest (a.put op.dst (.agg CS)) w):wpList P ops Q (op :: rest) a w :=
 wpList_load_mid hgd ty x ho b o hx CS.toList d hc hu hd (by simpa using hi) h
theorem exec_load_arr{ev:Operand→Value}{o:Oper}{w:World}(ty:TypeId)(x:Operand)(ho:o.op=.load ty x)(g f:Nat)(hx:ev x=.pointer (some ⟨g,f,none⟩))(CS:Array Value)(d:TypeDesc)(hc:w.rangeAt g f CS.toList)
    (hu:P.underlying ty=some d) (hd:d.isRow=true) (hi:(P.info? ty).map (·.size)=some CS.size):(execOp ev o).run P w=.ok (.value (.agg CS)) w:=by
 unfold execOp;simp only[ho,hx,Instr.loadAt,Instr.sureAddr,Sem.run_bind,Sem.run_pure,Result.andThen_ok,run_loadVar_mid w g f ty CS.toList d hc hu hd (by simpa using hi)]
theorem wpList_store_new{ops:Array Oper}{rest:List Oper}{op:Oper}{a:Act}{w:World}{Q:Exit→Act→World→Prop}(hgd:op.guard=none)(ty:TypeId)(x y:Operand)(ho:op.op=.store ty x y)
    (c CS:Array Value) (t:TypeId) (hx:a.eval x=.pointer (some ⟨w.heap.size,0,none⟩)) (hy:a.eval y=.agg CS)
    (hi:(P.info? ty).map (·.size)=some CS.size) (hz:c.size=CS.size) (h1:CS.all (·.oneCell')=true)
    (h:wpList P ops Q rest (a.put op.dst undef) (w.alloc (.cells CS t))):wpList P ops Q (op :: rest) a (w.alloc (.cells c t)) :=
 wpList_store_row hgd ty x y ho w.heap.size CS hx hy t c (heap_alloc_last w _) hi hz h1 (by rw[World.setRow_alloc_new];exact h)
theorem wpList_appS{w:World}{ops:Array Oper}{rest:List Oper}{o:Oper}{a:Act}{Q:Exit→Act→World→Prop}(hgd:o.guard=none)(s x:Operand)(t:TypeId)
    (ho:o.op=.call { callee:=.builtin .append,args:=#[s,x],argTypes:=#[t,t] })
    (B:World) (e:TypeId) (i:TypeInfo) (z:Value) (size bytes:Nat) (ht:P.underlying t=some (.slice e)) (hi:P.info? e=some i) (hz:i.zero=some z)
    (hsize:i.size=size) (hby:i.bytes=bytes) (hzs:z.cells.size=size) (hsz:0<size)
    (v:Value) (n:Nat) (xs:List Value) (hs:a.eval s=v) (hown:w.ownsRow B.heap.size e size v n xs) (hB:Ext B w)
    (A:Option Addr) (c m:Nat) (xss:List (List Value)) (hm:xss.length=m) (hx:a.eval x=.slice A m c) (hr:Sl w size A xss) (hk:∀ c∈xss,c.length=size) (h1:∀ c∈xss,∀ u∈c,u.oneCell'=true)
    (h63:n+m≤maxLen) (hbytes:(n+m)*bytes≤140737488355328)
    (h:∀ A' c' w',w'.ownsRow B.heap.size e size (.slice A' (n+m) c') (n+m) (xs ++ xss.flatten)→Ext B w'→wpList P ops Q rest (a.put o.dst (.slice A' (n+m) c')) w'):wpList P ops Q (o :: rest) a w:=by
 subst hm;obtain⟨v',w',hrun,hown',hgr,-⟩:=run_append_sl w B.heap.size t o.type e i z size bytes ht hi hz hsize hby hzs hsz v n xs hown A c xss hr hk h1 h63 hbytes hB.size;obtain⟨A',c',rfl⟩:=own_form hown';refine wpList_plain hgd fun K hK=>?_;unfold Oper.wp;rw[exec_append ho hs hx hrun];exact hK _ _ (h A' c' w' hown' (hB.grown hgr (fun k hk=>own_ge hown k hk)))
end
namespace Bk
def But (g:Nat)(w w':World):Prop:=w.heap.size≤w'.heap.size∧∀ q,q<w.heap.size→q≠g→w'.heap[q]?=w.heap[q]?
theorem But.ext(g:Nat){w w':World}(h:Ext w w'):But g w w':=⟨h.size,fun q hq _=>h.block q hq⟩
theorem But.trans{g:Nat}{a b c:World}(h:But g a b)(k:But g b c):But g a c:=⟨Nat.le_trans h.1 k.1,fun q hq hg=>(k.2 q (Nat.lt_of_lt_of_le hq h.1) hg).trans (h.2 q hq hg)⟩
theorem But.setCell(w:World)(p:Addr)(v:Value):But p.block w (w.setCell p v):=⟨by simp,fun _ _ hg=>Below.heap_setCell _ _ _ _ hg⟩
theorem But.setCells(g:Nat):∀ (vs:List Value) (o:Nat) (w:World),But g w (w.setCells g o vs)
 | [],_,_=>⟨Nat.le_refl _,fun _ _ _=>rfl⟩
 | v :: r,o,w=>by rw[World.setCells];exact(But.setCell w ⟨g,o,none⟩ v).trans (But.setCells g r (o+1) _)
theorem But.setRow(g:Nat)(w:World)(cs:Array Value):But g w (w.setRow g cs):=⟨by simp[World.setRow],fun _ _ hg=>rowSet_other _ _ hg⟩
theorem But.grown{g:Nat}{w w':World}(h:w.grownBy w' (some g)):But g w w':=⟨h.size,fun q hq hg=>h.block q hq (fun e=>hg (Option.some.inj e))⟩
theorem But.grown'{g:Nat}{w w':World}{row:Option Nat}(h:w.grownBy w' row)(hr:row=none∨row=some g):But g w w':=⟨h.size,fun q hq hg=>h.block q hq (fun e=>by rcases hr with hr | hr <;> rw[hr]at e <;> cases e;exact hg rfl)⟩

def OffA (g:Nat)(A:Option Addr)(n:Nat):Prop:=n=0∨∀ a,A=some a→a.block≠g
def FromA (N:Nat)(A:Option Addr)(n:Nat):Prop:=n=0∨∀ a,A=some a→N≤a.block
theorem FromA.off{N g n:Nat}{A:Option Addr}(h:FromA N A n)(hg:g<N):OffA g A n:=h.imp id fun h a ha e=>by have:=h a ha;omega
theorem FromA.mono{N M n:Nat}{A:Option Addr}(h:FromA N A n)(hg:M≤N):FromA M A n:=h.imp id fun h a ha=>Nat.le_trans hg (h a ha)
theorem Sl.but{w w':World}{k g:Nat}{A:Option Addr}{xs:List (List Value)}(h:Sl w k A xs)(hb:But g w w')(ho:OffA g A xs.length):Sl w' k A xs:=by
 rcases h with h | ⟨b,off,hA,hl,hc⟩
 · exact Or.inl h
 · rcases ho with ho | ho
   · exact Or.inl (List.eq_nil_of_length_eq_zero ho)
   · refine Or.inr ⟨b,off,hA,Nat.lt_of_lt_of_le hl hb.1,fun i cs hi j v hv=>?_⟩;rw[World.cell?_of_block (hb.2 b hl (ho _ hA))];exact hc i cs hi j v hv
theorem Sl.offA{w:World}{k g:Nat}{A:Option Addr}{xs:List (List Value)}(h:Sl w k A xs)(hg:w.heap.size≤g):OffA g A xs.length:=by
 rcases h with h | ⟨b,off,hA,hl,-⟩
 · left;rw[h];rfl
 · right
   rintro a ha e;rw[hA]at ha;cases ha;simp only at e;omega

def TyA (T:TypeId)(w:World)(A:Option Addr)(n:Nat):Prop:=n=0∨∀ a,A=some a→∃ cur fr,w.heap[a.block]?=some (.cells cur T fr)
theorem TyA.ext{T:TypeId}{w w':World}{A:Option Addr}{n:Nat}(h:TyA T w A n)(he:Ext w w'):TyA T w' A n:=h.imp id fun h a ha=>by obtain⟨cur,fr,h1⟩:=h a ha;exact⟨cur,fr,he.blockAt h1⟩
theorem TyA.but{T:TypeId}{w w':World}{A:Option Addr}{n g:Nat}(h:TyA T w A n)(hb:But g w w')(ho:OffA g A n):TyA T w' A n:=by
 rcases h with h | h
 · exact Or.inl h
 · rcases ho with ho | ho
   · exact Or.inl ho
   · refine Or.inr fun a ha=>?_;obtain⟨cur,fr,h1⟩:=h a ha;exact⟨cur,fr,by rw[hb.2 a.block (Array.getElem?_eq_some_iff.1 h1).1 (ho a ha)];exact h1⟩
theorem TyA.off{T TG:TypeId}{w:World}{A:Option Addr}{n g:Nat}{cs:Array Value}{fr:Nat×Nat}(h:TyA T w A n)(hg:w.heap[g]?=some (.cells cs TG fr))(hne:T≠TG):OffA g A n:=h.imp id fun h a ha e=>by obtain⟨cur,fr',h1⟩:=h a ha;rw[e,hg]at h1;injection h1 with h1;injection h1 with _ h1;exact hne h1.symm
theorem TyA.of_own{T:TypeId}{w:World}{base k n c:Nat}{A:Option Addr}{xs:List Value}(h:w.ownsRow base T k (.slice A n c) n xs):TyA T w A n:=by
 cases A with
 | none=>exact Or.inr fun a ha=>by cases ha
 | some a=>refine Or.inr fun a' ha=>?_;cases ha;obtain⟨cur,h1⟩:=own_block h a.block rfl;exact⟨cur,_,h1⟩
structure Elt (X:Type) where
 T:TypeId
 k:Nat
 enc:X→List Value
 In:World→X→Prop
 Off:Nat→X→Prop
 From:Nat→X→Prop
 pos:0<k
 len:∀ x,(enc x).length=k
 one:∀ x,∀ v∈enc x,v.oneCell'=true
 ext:∀ {w w' x},In w x→Ext w w'→In w' x
 but:∀ {w w' g x},In w x→Off g x→But g w w'→In w' x
 off:∀ {w g x},In w x→w.heap.size≤g→Off g x
 frm:∀ {N g x},From N x→g<N→Off g x
 mono:∀ {N M x},From N x→M≤N→From M x

section
variable {X:Type} (E:Elt X)
structure SlX (w:World)(A:Option Addr)(xs:List X):Prop where
 sl:Sl w E.k A (xs.map E.enc)
 ins:∀ x∈xs,E.In w x
structure OffX (g:Nat)(A:Option Addr)(xs:List X):Prop where
 a:OffA g A xs.length
 ins:∀ x∈xs,E.Off g x
structure FromX (N:Nat)(A:Option Addr)(xs:List X):Prop where
 a:FromA N A xs.length
 ins:∀ x∈xs,E.From N x
variable {E}
theorem SlX.nil(w:World)(A:Option Addr):SlX E w A []:=⟨Or.inl rfl,fun x hx=>by simp at hx⟩
theorem SlX.ext{w w':World}{A:Option Addr}{xs:List X}(h:SlX E w A xs)(he:Ext w w'):SlX E w' A xs:=⟨h.sl.ext he,fun x hx=>E.ext (h.ins x hx) he⟩
theorem SlX.but{w w':World}{g:Nat}{A:Option Addr}{xs:List X}(h:SlX E w A xs)(ho:OffX E g A xs)(hb:But g w w'):SlX E w' A xs :=
 ⟨Sl.but h.sl hb (by rw[List.length_map];exact ho.a),fun x hx=>E.but (h.ins x hx) (ho.ins x hx) hb⟩
theorem SlX.off{w:World}{g:Nat}{A:Option Addr}{xs:List X}(h:SlX E w A xs)(hg:w.heap.size≤g):OffX E g A xs :=
 ⟨by have:=Sl.offA h.sl hg;rwa [List.length_map]at this,fun x hx=>E.off (h.ins x hx) hg⟩
theorem FromX.off{N g:Nat}{A:Option Addr}{xs:List X}(h:FromX E N A xs)(hg:g<N):OffX E g A xs:=⟨h.a.off hg,fun x hx=>E.frm (h.ins x hx) hg⟩
theorem FromX.mono{N M:Nat}{A:Option Addr}{xs:List X}(h:FromX E N A xs)(hg:M≤N):FromX E M A xs:=⟨h.a.mono hg,fun x hx=>E.mono (h.ins x hx) hg⟩
theorem FromX.nil(N:Nat)(A:Option Addr):FromX E N A []:=⟨Or.inl rfl,fun x hx=>by simp at hx⟩
theorem SlX.at_{w:World}{A:Option Addr}{xs:List X}(h:SlX E w A xs){i:Nat}{x:X}(hi:xs[i]?=some x) :
    ∃ b off,A=some ⟨b,off,none⟩∧b<w.heap.size∧w.rangeAt b (off+i*E.k) (E.enc x)∧E.In w x:=by
 obtain⟨b,off,hA,hb,hc⟩:=Sl.range h.sl (i:=i) (cs:=E.enc x) (by simp[hi]);exact⟨b,off,hA,hb,hc,h.ins x (List.mem_of_getElem? hi)⟩
theorem map_len(xs:List X):∀ c∈xs.map E.enc,c.length=E.k:=fun c hc=>by
 obtain⟨x,-,rfl⟩:=List.mem_map.1 hc;exact E.len x

structure RowX (E:Elt X)(T:TypeId)(w:World)(base:Nat)(v:Value)(xs:List X):Prop where
 own:w.ownsRow base T E.k v xs.length (xs.map E.enc).flatten
 ins:∀ x∈xs,E.In w x
 off:∀ g,v.ownBlock=some g→∀ x∈xs,E.Off g x
theorem RowX.nil(T:TypeId)(w:World)(base:Nat):RowX E T w base (.slice none 0 0) []:=⟨own_nil _ _ _ _,fun x hx=>by simp at hx,fun g hg=>by simp[Value.ownBlock]at hg⟩
theorem RowX.ext{T:TypeId}{w w':World}{base:Nat}{v:Value}{xs:List X}(h:RowX E T w base v xs)(he:Ext w w'):RowX E T w' base v xs:=⟨own_ext h.own he,fun x hx=>E.ext (h.ins x hx) he,h.off⟩
theorem RowX.sl{T:TypeId}{w:World}{base:Nat}{v:Value}{xs:List X}(h:RowX E T w base v xs):∃ A c,v=.slice A xs.length c∧xs.length≤c∧c≤maxLen∧FromA base A xs.length∧SlX E w A xs:=by obtain⟨A,c,h1,h2,h3,h4⟩:=Sl.of_own (xs:=xs.map E.enc) (map_len xs) (List.length_map _) h.own;rw[List.length_map]at h1 h2;refine⟨A,c,h1,h2,h3,Or.inr fun a ha=>?_,h4,h.ins⟩;refine own_ge h.own a.block ?_;rw[h1,ha];rfl
theorem RowX.app{T:TypeId}{w w1 w2:World}{base:Nat}{v v':Value}{xs:List X}{x:X}(h:RowX E T w base v xs)(hx:E.In w x)(hxo:∀ g,v.ownBlock=some g→E.Off g x)(he:Ext w w1)
    (hown:w2.ownsRow base T E.k v' (xs.length+1) ((xs.map E.enc).flatten ++ E.enc x)) (hg:w1.grownBy w2 v.ownBlock) (hat:v'.ownBlock=v.ownBlock∨v'.ownBlock=some w1.heap.size):RowX E T w2 base v' (xs ++ [x]):=by
 have h0:∀ y∈xs ++ [x],E.In w1 y∧∀ g,v.ownBlock=some g→E.Off g y:=fun y hy=>by
  rcases List.mem_append.1 hy with hy | hy
  · exact⟨E.ext (h.ins y hy) he,fun g hg=>h.off g hg y hy⟩
  · obtain rfl:y=x:=by simpa using hy
    exact⟨E.ext hx he,hxo⟩
 constructor
 · have e:(List.map E.enc (xs ++ [x])).flatten=(xs.map E.enc).flatten ++ E.enc x:=(by simp);rw[e,List.length_append];exact hown
 · intro y hy;obtain⟨h1,h2⟩:=h0 y hy;cases hv:v.ownBlock with
   | none=>rw[hv]at hg;exact E.ext h1 (grown_none hg)
   | some g=>rw[hv]at hg;exact E.but h1 (h2 g hv) (But.grown hg)
 · intro g hg' y hy;obtain⟨h1,h2⟩:=h0 y hy;rcases hat with e | e
   · exact h2 g (e ▸ hg')
   · rw[e]at hg';injection hg' with hg';exact E.off h1 (by omega)
end
def eI:Elt Int where
 T:=3
 k:=1
 enc x:=[.int .i64 x]
 In _ x:=In64 x
 Off _ _:=True
 From _ _:=True
 pos:=by omega
 len _:=rfl
 one x v hv := by obtain rfl : v = .int .i64 x := by simpa using hv
                  rfl
 ext h _:=h
 but h _ _:=h
 off _ _:=trivial
 frm _ _:=trivial
 mono _ _:=trivial
def eIL:Elt IL where
 T:=22
 k:=1
 enc x:=[x.val]
 In w x:=x.In w
 Off g x:=OffA g x.A x.xs.length
 From N x:=FromA N x.A x.xs.length
 pos:=by omega
 len _:=rfl
 one x v hv := by obtain rfl : v = x.val := by simpa using hv
                  rfl
 ext h he:=h.ext he
 but h ho hb:=⟨Sl.but h.1 hb (by rw[List.length_map];exact ho),h.2⟩
 off h hg:=by have:=Sl.offA h.1 hg;rwa [List.length_map]at this
 frm h hg:=h.off hg
 mono h hg:=h.mono hg
def eILt:Elt IL where
 T:=22
 k:=1
 enc x:=[x.val]
 In w x:=x.In w∧TyA 3 w x.A x.xs.length
 Off g x:=OffA g x.A x.xs.length
 From N x:=FromA N x.A x.xs.length
 pos:=by omega
 len _:=rfl
 one x v hv := by obtain rfl : v = x.val := by simpa using hv
                  rfl
 ext h he:=⟨h.1.ext he,h.2.ext he⟩
 but h ho hb:=⟨⟨Sl.but h.1.1 hb (by rw[List.length_map];exact ho),h.1.2⟩,h.2.but hb ho⟩
 off h hg:=by have:=Sl.offA h.1.1 hg;rwa [List.length_map]at this
 frm h hg:=h.off hg
 mono h hg:=h.mono hg
end Bk
end Go.Proofs.YtfnmgcblhebdbaaGreatDoor
