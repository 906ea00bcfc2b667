/- append of a slice that reads as a list (nil and empty ones too) onto a row that the call owns; rows that a call owns as slices; how they are kept. No conditions. -/
import Derived.Test.YtfnmgcblhebdbaaGreatDoorZ3
import Derived.Maps.AppendAt
import Derived.Test.YtfnmgcblhebdbaaGreatDoorZ2
namespace Go.Proofs.YtfnmgcblhebdbaaGreatDoor
open Go.ChangeShapes Go.WideShapes Go.ChangeAt Go.RowKit

theorem heap_new_at(w:World)(o:Obj)(n:Nat)(hn:n=w.heap.size):(w.alloc o).heap[n]?=some o:=by subst hn;exact heap_alloc_new w o

theorem flatten_at{α:Type}{k:Nat}:∀ {xs:List (List α)} {i j:Nat} {cs:List α} {v:α},(∀ c∈xs,c.length=k)→xs[i]?=some cs→cs[j]?=some v→xs.flatten[i*k+j]?=some v
 | c0 :: xs,0,j,cs,v,hk,hi,hj=>by
  simp at hi;subst hi;have hj':j<c0.length:=by
   rcases Nat.lt_or_ge j c0.length with g | g
   · exact g
   · rw[List.getElem?_eq_none g]at hj;cases hj
  rw[List.flatten_cons,Nat.zero_mul,Nat.zero_add,List.getElem?_append_left hj'];exact hj
 | c0 :: xs,i+1,j,cs,v,hk,hi,hj=>by have h0:=hk c0 (by simp);rw[List.flatten_cons,List.getElem?_append_right (by rw[h0,Nat.succ_mul];omega),h0,show(i+1)*k+j-k=i*k+j by rw[Nat.succ_mul];omega];exact flatten_at (fun c hc=>hk c (List.mem_cons_of_mem _ hc)) (by simpa using hi) hj
theorem flatten_inv{α:Type}{k:Nat}:∀ {xs:List (List α)} {j:Nat} {v:α},(∀ c∈xs,c.length=k)→xs.flatten[j]?=some v→∃ i r cs,xs[i]?=some cs∧cs[r]?=some v∧j=i*k+r
 | [],j,v,_,h=>by simp at h
 | c0 :: xs,j,v,hk,h=>by
  have h0:=hk c0 (by simp);rw[List.flatten_cons]at h;rcases Nat.lt_or_ge j c0.length with g | g
  · rw[List.getElem?_append_left g]at h;exact⟨0,j,c0,rfl,h,by omega⟩
  · rw[List.getElem?_append_right g]at h;obtain⟨i,r,cs,h1,h2,h3⟩:=flatten_inv (fun c hc=>hk c (List.mem_cons_of_mem _ hc)) h;exact⟨i+1,r,cs,by simpa using h1,h2,by rw[Nat.succ_mul];omega⟩
theorem flatten_len{α:Type}{k:Nat}:∀ {xs:List (List α)},(∀ c∈xs,c.length=k)→xs.flatten.length=xs.length*k
 | [],_=>by simp
 | c0 :: xs,hk=>by
  rw[List.flatten_cons,List.length_append,flatten_len (fun c hc=>hk c (List.mem_cons_of_mem _ hc)),hk c0 (by simp),List.length_cons,Nat.succ_mul];omega

theorem Sl.of_own{w:World}{base:Nat}{e:TypeId}{k:Nat}{v:Value}{n:Nat}{xs:List (List Value)}(hk:∀ c∈xs,c.length=k)(hl:xs.length=n)(h:w.ownsRow base e k v n xs.flatten):∃ A c,v=.slice A xs.length c∧xs.length≤c∧c≤maxLen∧Sl w k A xs:=by
 rcases h.2 with ⟨rfl,h0⟩ | ⟨g,cap,cur,rfl,hg,hh,h1,h2,h3,h4⟩
 · have:xs=[]:=List.eq_nil_of_length_eq_zero (by omega);subst this;exact⟨none,0,rfl,Nat.le_refl _,Nat.zero_le _,Or.inl rfl⟩
 · refine⟨some ⟨g,0,none⟩,cap,by rw[hl],by omega,h2,Or.inr ⟨g,0,rfl,?_,fun i cs hi j v hv=>?_⟩⟩
   · rcases Nat.lt_or_ge g w.heap.size with hlt | hge
     · exact hlt
     · rw[Array.getElem?_eq_none hge]at hh;cases hh
   · have h5:=flatten_at hk hi hv;rw[← h4]at h5;have h6:=cell_of_row w g (i*k+j) cur e (0,0) hh;rw[Nat.zero_add,h6];have hlt:i*k+j<n*k:=by
      rcases Nat.lt_or_ge (i*k+j) (n*k)with g | g
      · exact g
      · rw[List.getElem?_eq_none (by rw[List.length_take];omega)]at h5;cases h5
     rw[List.getElem?_take_of_lt hlt]at h5;simpa using h5
theorem own_form{w:World}{base:Nat}{e:TypeId}{size:Nat}{v:Value}{n:Nat}{xs:List Value}(h:w.ownsRow base e size v n xs):∃ A c,v=.slice A n c:=by
 rcases h.2 with ⟨rfl,rfl⟩ | ⟨g,cap,cur,rfl,_⟩
 · exact⟨none,0,rfl⟩
 · exact⟨_,cap,rfl⟩
theorem own_lt{w:World}{base:Nat}{e:TypeId}{size:Nat}{v:Value}{n:Nat}{xs:List Value}(h:w.ownsRow base e size v n xs)(q:Nat)(hq:v.ownBlock=some q):q<w.heap.size:=by
 rcases h.2 with ⟨rfl,_⟩ | ⟨g,cap,cur,rfl,_,hh,_⟩
 · simp[Value.ownBlock]at hq
 · have e1:g=q:=(by simpa[Value.ownBlock]using hq);subst e1;rcases Nat.lt_or_ge g w.heap.size with hlt | hge
   · exact hlt
   · rw[Array.getElem?_eq_none hge]at hh;cases hh
theorem own_block{w:World}{base:Nat}{e:TypeId}{size:Nat}{v:Value}{n:Nat}{xs:List Value}(h:w.ownsRow base e size v n xs)(q:Nat)(hq:v.ownBlock=some q):∃ cur,w.heap[q]?=some (.cells cur e (0,0)):=by
 rcases h.2 with ⟨rfl,_⟩ | ⟨g,cap,cur,rfl,_,hh,_⟩
 · simp[Value.ownBlock]at hq
 · have e1:g=q:=(by simpa[Value.ownBlock]using hq);subst e1;exact⟨cur,hh⟩
theorem own_other{w:World}{base:Nat}{e e':TypeId}{size:Nat}{v:Value}{n:Nat}{xs:List Value}(h:w.ownsRow base e size v n xs){g:Nat}{cs:Array Value}{fr:Nat×Nat}(hg:w.heap[g]?=some (.cells cs e' fr))(hne:e≠e'):v.ownBlock≠some g:=fun hq=>by obtain⟨cur,hh⟩:=own_block h g hq;rw[hh]at hg;injection hg with hg;injection hg with _ ht;exact hne ht
theorem own_types{w:World}{base base':Nat}{e e':TypeId}{s s':Nat}{v v':Value}{n n':Nat}{xs xs':List Value}(h:w.ownsRow base e s v n xs)(h':w.ownsRow base' e' s' v' n' xs')(hne:e≠e')(q:Nat)(hq:v.ownBlock=some q):v'.ownBlock≠some q:=by obtain⟨cur,hh⟩:=own_block h q hq;exact own_other h' hh (Ne.symm hne)
theorem own_grown{w w':World}{base:Nat}{e:TypeId}{size:Nat}{v:Value}{n:Nat}{xs:List Value}{row:Option Nat}(h:w.ownsRow base e size v n xs)(hg:w.grownBy w' row)(hne:∀ q,v.ownBlock=some q→row≠some q):w'.ownsRow base e size v n xs:=by
 have hlt:=own_lt h;obtain⟨h1,h2⟩:=h;refine⟨h1,?_⟩;rcases h2 with h2 | ⟨g,cap,cur,rfl,hgb,hh,r⟩
 · exact Or.inl h2
 · exact Or.inr ⟨g,cap,cur,rfl,hgb,by rw[hg.block g (hlt g rfl) (fun e=>hne g rfl e.symm)];exact hh,r⟩
theorem Ext.blockAt{a b:World}(h:Ext a b){q:Nat}{o:Obj}(hq:a.heap[q]?=some o):b.heap[q]?=some o:=by
 have hlt:q<a.heap.size:=by
  rcases Nat.lt_or_ge q a.heap.size with g | g
  · exact g
  · rw[Array.getElem?_eq_none g]at hq;cases hq
 rw[Below.block h q hlt];exact hq
theorem own_ext{w w':World}{base:Nat}{e:TypeId}{size:Nat}{v:Value}{n:Nat}{xs:List Value}(h:w.ownsRow base e size v n xs)(he:Ext w w'):w'.ownsRow base e size v n xs:=by
 obtain⟨h1,h2⟩:=h;refine⟨h1,?_⟩;rcases h2 with h2 | ⟨g,cap,cur,rfl,hgb,hh,r⟩
 · exact Or.inl h2
 · exact Or.inr ⟨g,cap,cur,rfl,hgb,he.blockAt hh,r⟩
theorem grown_none{w w':World}(h:w.grownBy w' none):Ext w w':=(Ext.refl w).grown h (fun k e=>by cases e)
theorem own_nil(w:World)(base:Nat)(e:TypeId)(size:Nat):w.ownsRow base e size (.slice none 0 0) 0 []:=⟨by simp,Or.inl ⟨rfl,rfl⟩⟩

def Fresh (A:Option Addr)(w:World):Prop:=∀ a,A=some a→w.heap.size≤a.block
theorem Fresh.none(w:World):Fresh none w:=fun a ha=>by cases ha
theorem Fresh.own{w wF:World}{base:Nat}{e:TypeId}{size n c m:Nat}{A:Option Addr}{xs:List Value}(h:wF.ownsRow base e size (.slice A m c) n xs)(hb:w.heap.size≤base):Fresh A w:=by rintro a rfl;exact Nat.le_trans hb (own_ge h a.block rfl)
section
variable {P:Program}
theorem run_append_sl(w:World)(base:Nat)(t ty e:TypeId)(i:TypeInfo)(z:Value)(size bytes:Nat)(ht:P.underlying t=some (.slice e))(hi:P.info? e=some i)(hz:i.zero=some z)
    (hsize:i.size=size) (hby:i.bytes=bytes) (hzs:z.cells.size=size) (hsz:0<size)
    (v:Value) (n:Nat) (xs:List Value) (hown:w.ownsRow base e size v n xs)
    (A:Option Addr) (c:Nat) (xss:List (List Value)) (hr:Sl w size A xss) (hk:∀ c∈xss,c.length=size) (h1:∀ c∈xss,∀ u∈c,u.oneCell'=true)
    (h63:n+xss.length≤maxLen) (hbytes:(n+xss.length)*bytes≤140737488355328) (hbase:base≤w.heap.size) :
    ∃ v' w',(Builtin.append_ #[t,t] ty #[v,.slice A xss.length c]).run P w=.ok v' w'∧w'.ownsRow base e size v' (n+xss.length) (xs ++ xss.flatten)∧w.grownBy w' v.ownBlock ∧
     (v'.ownBlock=v.ownBlock∨v'.ownBlock=some w.heap.size):=by
 cases A with
 | none =>
  have h0:xss=[]:=by
   rcases hr with h | ⟨b,off,hA,_⟩
   · exact h
   · cases hA
  subst h0;refine⟨v,w,?_,by simpa using hown,World.grownBy.refl w _,Or.inl rfl⟩;rcases hown.2 with ⟨rfl,rfl⟩ | ⟨g,cap,cur,rfl,_,_,hnc,_⟩
  · simp[Builtin.append_,run_underlying ht,sizeOf,typeInfo,hi,Builtin.lenOf,Builtin.firstCells]
  · simp[Builtin.append_,run_underlying ht,sizeOf,typeInfo,hi,Builtin.lenOf,Builtin.firstCells,hnc,storeCells]
 | some ad =>
  obtain⟨v',w',h2,h3,h4,_,h5⟩:=run_append_own_at (P:=P) w base t ty e i z size bytes ht hi hz hsize hby hzs hsz v n xs hown ad xss.length c xss.flatten (flatten_len hk) (fun j u hu=>by
   rcases hr with h | ⟨b,off,hA,hb,hc⟩
   · subst h;simp at hu
   · injection hA with hA;subst hA;obtain⟨q,r,cs,g1,g2,rfl⟩:=flatten_inv hk hu;rw[add_plain];exact hc q cs g1 r u g2) (fun u hu=>by
   obtain⟨cs,g1,g2⟩:=List.mem_flatten.1 hu;exact h1 cs g1 u g2) h63 hbytes hbase
  exact⟨v',w',h2,h3,h4,h5⟩
theorem exec_append{ev:Operand→Value}{o:Oper}{w w':World}{s x:Operand}{t:TypeId}{v y v':Value}(ho:o.op=.call { callee:=.builtin .append,args:=#[s,x],argTypes:=#[t,t] })(hs:ev s=v)(hx:ev x=y)
    (hr:(Builtin.append_ #[t,t] o.type #[v,y]).run P w=.ok v' w'):(execOp ev o).run P w=.ok (.value v') w':=by
 unfold execOp;simp only[ho,resolve,invoke,builtin,Sem.run_bind,Sem.run_pure,Result.andThen_ok,List.map_toArray,List.map_cons,List.map_nil,hs,hx,hr]
end
end Go.Proofs.YtfnmgcblhebdbaaGreatDoor
namespace Go.Proofs.YtfnmgcblhebdbaaGreatDoor
set_option maxRecDepth 100000
set_option maxHeartbeats 1600000
open Go.RowKit

def SlS (w:World)(A:Option Addr)(xs:List ByteArray):Prop:=Sl w 1 A (xs.map fun s=>[.string s])
theorem SlS.ext{w w':World}{A:Option Addr}{xs:List ByteArray}(h:SlS w A xs)(he:Ext w w'):SlS w' A xs:=Sl.ext h he
theorem SlS.nil(w:World)(A:Option Addr):SlS w A []:=Or.inl rfl
theorem SlS.at_{w:World}{A:Option Addr}{xs:List ByteArray}(h:SlS w A xs){i:Nat}(hi:i<xs.length) :
    ∃ b off,A=some ⟨b,off,none⟩∧b<w.heap.size∧w.cell? ⟨b,off+i,none⟩=some (.string xs[i]):=by
 obtain⟨b,off,hA,hb,hc⟩:=Sl.at_ (i:=i) (cs:=[.string xs[i]]) h (by simp[hi]);exact⟨b,off,hA,hb,by simpa using hc 0 _ rfl⟩

namespace It
structure Item where
 id:Int
 ver:Int
 kind:Int
 stem:ByteArray
 opts:List ByteArray
 chs:List Int
 value:Int
 tol:Int
 texts:List ByteArray
 pts:Int
 cont:ByteArray
 fam:Int
 set_:Int
 wrd:Int
 sec:Int
 assets:List Int
 rub:Int
structure Loc where
 oA:Option Addr
 oc:Nat
 cA:Option Addr
 cc:Nat
 tA:Option Addr
 tc:Nat
 sA:Option Addr
 sc:Nat
def cells (it:Item)(L:Loc):List Value:=[.int .i64 it.id,.int .i64 it.ver,.int .i64 it.kind,.string it.stem,.slice L.oA it.opts.length L.oc,.slice L.cA it.chs.length L.cc,.int .i64 it.value,.int .i64 it.tol,.slice L.tA it.texts.length L.tc,.int .i64 it.pts,.string it.cont,.int .i64 it.fam,.int .i64 it.set_,.int .i64 it.wrd,.int .i64 it.sec,.slice L.sA it.assets.length L.sc,.int .i64 it.rub]
def agg (it:Item)(L:Loc):Value:=.agg #[.int .i64 it.id,.int .i64 it.ver,.int .i64 it.kind,.string it.stem,.slice L.oA it.opts.length L.oc,.slice L.cA it.chs.length L.cc,.int .i64 it.value,.int .i64 it.tol,.slice L.tA it.texts.length L.tc,.int .i64 it.pts,.string it.cont,.int .i64 it.fam,.int .i64 it.set_,.int .i64 it.wrd,.int .i64 it.sec,.slice L.sA it.assets.length L.sc,.int .i64 it.rub]
structure Ok (it:Item):Prop where
 id:In64 it.id
 ver:In64 it.ver
 kind:In64 it.kind
 value:In64 it.value
 tol:In64 it.tol
 pts:In64 it.pts
 fam:In64 it.fam
 set_:In64 it.set_
 wrd:In64 it.wrd
 sec:In64 it.sec
 rub:In64 it.rub
 stem:it.stem.size≤140737488351232
 cont:it.cont.size≤140737488351232
 opts:∀ s∈it.opts,s.size≤140737488351232
 texts:∀ s∈it.texts,s.size≤140737488351232
 chs:∀ x∈it.chs,In64 x
 assets:∀ x∈it.assets,In64 x
 ol:it.opts.length≤140737488351232
 cl:it.chs.length≤140737488351232
 tl:it.texts.length≤140737488351232
 sl:it.assets.length≤140737488351232
structure In (w:World)(it:Item)(L:Loc):Prop where
 ok:Ok it
 o:SlS w L.oA it.opts
 c:SlI w L.cA it.chs
 t:SlS w L.tA it.texts
 s:SlI w L.sA it.assets
 oc:it.opts.length≤L.oc∧L.oc≤maxLen
 cc:it.chs.length≤L.cc∧L.cc≤maxLen
 tc:it.texts.length≤L.tc∧L.tc≤maxLen
 sc:it.assets.length≤L.sc∧L.sc≤maxLen
theorem In.ext{w w':World}{it:Item}{L:Loc}(h:In w it L)(he:Ext w w'):In w' it L :=
 ⟨h.ok,h.o.ext he,h.c.ext he,h.t.ext he,h.s.ext he,h.oc,h.cc,h.tc,h.sc⟩

def ranges (it:Item):Bool:=wi it.id 1 9999999 && wi it.ver 1 50 && wi it.pts 1 5 && wi it.wrd 0 2000 && wi it.sec 1 2000 && wi it.fam 0 9999999 && wi it.set_ 0 9999999 && wi it.rub 0 9999999
end It

theorem within_any(n lo hi:Int)(w:World):Calls Tryz.prog 101 #[.int .i64 n,.int .i64 lo,.int .i64 hi] w fun e w'=>e=.returned (.bool (It.wi n lo hi))∧w=w':=by
 go_enter Tryz.func101,Tryz.ntmps101
 go_wp2
 all_goals
  go_ret;exact⟨ret_bool (by unfold It.wi;first | (simp[*];done) | (simp;omega)),rfl⟩
theorem validNumbers_any(it:It.Item)(L:It.Loc)(w:World):Calls Tryz.prog 100 #[It.agg it L] w fun e w'=>e=.returned (.bool (It.ranges it))∧Ext w w':=by
 unfold It.agg;go_enter Tryz.func100,Tryz.ntmps100
 go_wp2_with (go_at_call 101;refine(within_any _ _ _ _).mono ?_;rintro e w' ⟨rfl,rfl⟩)
 all_goals
  go_ret;exact⟨ret_bool (by unfold It.ranges;simp[*]),(Ext.refl _).alloc _⟩
set_option maxRecDepth 100000
set_option maxHeartbeats 1600000
open Go.RowKit


theorem rising_any(A:Option Addr)(c:Nat)(l:List Int)(lo hi:Int)(w:World)(h:SlI w A l)(hl:l.length≤9223372036854775807) :
    Calls Tryz.prog 105 #[.slice A l.length c,.int .i64 lo,.int .i64 hi] w fun e w'=>e=.returned (.bool (It.rising l lo hi))∧w=w':=by
 have H:=Hi h;clear h;obtain⟨v,hv⟩:∃ v,It.rising l lo hi=v:=⟨_,rfl⟩;have HV:=Hi hv;rw[hv];clear hv;go_enter Tryz.func105,Tryz.ntmps105
 go_wp2
 go_loop [11] (fun i=>∃ k:Nat,k≤l.length∧i=.int .i64 k∧Hid (It.allN (It.risA l lo hi) k=true)) (fun i=>l.length-(intOf i).toNat)
 case atStart=>exact⟨0,by omega,rfl,Hi rfl⟩
 case round =>
  obtain⟨k,hk,rfl,HA⟩:=hrel;by_cases hlt:k<l.length
  · obtain⟨b,off,x,rfl,hb,hx,hc⟩:=H.out.at_ hlt;have hxd:Hid (l.getD k 0=x):=Hi (by rw[List.getD_eq_getElem?_getD,hx];rfl);clear hx;have hend:It.risA l lo hi k=false→Hid (v=false):=fun g=>Hi (by rw[← HV.out];exact It.allN_no hlt g);have hnext:It.risA l lo hi k=true→Hid (It.allN (It.risA l lo hi) (k+1)=true):=fun g=>Hi (It.allN_next HA.out g);have hra:It.risA l lo hi k=(It.wi x lo hi && (decide (k=0) || decide (l.getD (k-1) 0<x))):=(by unfold It.risA;rw[hxd.out]);have HR:=Hi hra;have HE:=Hi hend;have HN:=Hi hnext;clear hra hend hnext;obtain⟨q,hq⟩:∃ q,It.wi x lo hi=q:=⟨_,rfl⟩;have HQ:=Hi hq;clear hq;cases q with
    | false =>
     have HF:=HE.out (by rw[HR.out,HQ.out];rfl);go_wp2_with (go_at_call 101;refine(within_any _ _ _ _).mono ?_;rintro e w' ⟨rfl,rfl⟩;rw[HQ.out])
     go_ret;exact⟨ret_bool HF.out.symm,rfl⟩
    | true =>
     rcases Nat.eq_zero_or_pos k with h0 | h0
     · subst h0;have hc0:w.cell? ⟨b,off,none⟩=some (.int .i64 x):=(by simpa using hc);have HF:=HN.out (by rw[HR.out,HQ.out];rfl);go_wp2_with (go_at_call 101;refine(within_any _ _ _ _).mono ?_;rintro e w' ⟨rfl,rfl⟩;rw[HQ.out])
       go_round
       case rel=>exact⟨0+1,by omega,by go_num,HF⟩
       case measure=>simp[intOf];omega
     · obtain⟨j,rfl⟩:∃ j,k=j+1:=⟨k-1,by omega⟩;obtain⟨b',off',y,e',hb',hy,hc'⟩:=H.out.at_ (i:=j) (by omega);obtain⟨rfl,rfl⟩:b=b'∧off=off':=by cases e';exact⟨rfl,rfl⟩
       have hyd:Hid (l.getD (j+1-1) 0=y):=Hi (by rw[Nat.add_sub_cancel,List.getD_eq_getElem?_getD,hy];rfl);clear hy e';by_cases hxy:x≤y
       · have HF:=HE.out (by rw[HR.out,HQ.out,hyd.out,decide_eq_false (show ¬ (j+1=0)by omega),decide_eq_false (show ¬ (y<x)by omega)];rfl);go_wp2_with (go_at_call 101;refine(within_any _ _ _ _).mono ?_;rintro e w' ⟨rfl,rfl⟩;rw[HQ.out])
         go_ret;exact⟨ret_bool HF.out.symm,rfl⟩
       · have hxy':y<x:=(by omega);have HF:=HN.out (by rw[HR.out,HQ.out,hyd.out,decide_eq_true hxy',Bool.or_true];rfl);clear hxy;go_wp2_with (go_at_call 101;refine(within_any _ _ _ _).mono ?_;rintro e w' ⟨rfl,rfl⟩;rw[HQ.out])
         go_round
         case rel=>exact⟨j+1+1,by omega,by go_num,HF⟩
         case measure=>simp[intOf];omega
  · have HF:Hid (v=true):=Hi (by rw[← HV.out];unfold It.rising;rw[show l.length=k by omega];exact HA.out);go_wp2;go_ret;exact⟨ret_bool HF.out.symm,rfl⟩


theorem printable_any(s:ByteArray)(most:Nat)(w:World)(hs:s.size≤9223372036854775807) :
    Calls Tryz.prog 129 #[.string s,.int .i64 most] w fun e w'=>e=.returned (.bool (It.prn s most false))∧w=w':=by
 obtain⟨v,hv⟩:∃ v,It.prn s most false=v:=⟨_,rfl⟩;have HV:=Hi hv;rw[hv];clear hv;go_enter Tryz.func129,Tryz.ntmps129
 go_wp2
 go_loop [5] (fun i=>∃ k:Nat,k≤s.size∧i=.int .i64 k∧Hid (It.allN (fun i=>It.okc false (It.by_ s i)) k=true)) (fun i=>s.size-(intOf i).toNat)
 case atStart=>exact⟨0,by omega,rfl,Hi rfl⟩
 case round =>
  obtain⟨k,hk,rfl,HA⟩:=hrel;by_cases hlt:k<s.size
  · have hby:=It.by_at s hlt;have HE:Hid ((fun i=>It.okc false (It.by_ s i)) k=false→Hid (v=false)):=Hi fun g=>Hi (by rw[← HV.out];unfold It.prn;rw[It.allN_no hlt g];simp)
    have HN:Hid ((fun i=>It.okc false (It.by_ s i)) k=true→Hid (It.allN (fun i=>It.okc false (It.by_ s i)) (k+1)=true)):=Hi fun g=>Hi (It.allN_next HA.out g);rcases(show((s[k].toNat:Int)<32)∨(32≤(s[k].toNat:Int)∧126<(s[k].toNat:Int))∨(32≤(s[k].toNat:Int)∧(s[k].toNat:Int)≤126)by omega)with h1 | ⟨h1,h2⟩ | ⟨h1,h2⟩
    · have HF:=HE.out (by show It.okc false (It.by_ s k)=false;rw[hby];unfold It.okc;simp;omega);clear hby;go_wp2
      all_goals
       go_ret;exact⟨ret_bool HF.out.symm,rfl⟩
    · have HF:=HE.out (by show It.okc false (It.by_ s k)=false;rw[hby];unfold It.okc;simp;omega);clear hby;go_wp2
      all_goals
       go_ret;exact⟨ret_bool HF.out.symm,rfl⟩
    · have HF:=HN.out (by show It.okc false (It.by_ s k)=true;rw[hby];unfold It.okc;simp;omega);clear hby;go_wp2
      all_goals
       go_round
       case rel=>exact⟨k+1,by omega,by go_num,HF⟩
       case measure=>simp[intOf];omega
  · obtain rfl:k=s.size:=by omega
    have HF:Hid (v=(decide (1≤s.size) && decide (s.size≤most))):=Hi (by rw[← HV.out];unfold It.prn;rw[HA.out,Bool.and_true]);rcases(show(s.size<1)∨(1≤s.size∧most<s.size)∨(1≤s.size∧s.size≤most)by omega)with h1 | ⟨h1,h2⟩ | ⟨h1,h2⟩
    · have HF2:Hid (v=false):=Hi (by rw[HF.out,decide_eq_false (by omega)];rfl);go_wp2;go_ret;exact⟨ret_bool (by first | exact HF2.out.symm | (rw[HF2.out];exact decide_eq_false (by omega)) | (rw[HF2.out];exact decide_eq_true (by omega))),rfl⟩
    · have HF2:Hid (v=false):=Hi (by rw[HF.out,decide_eq_false (show ¬ s.size≤most by omega),Bool.and_false]);go_wp2;go_ret;exact⟨ret_bool (by first | exact HF2.out.symm | (rw[HF2.out];exact decide_eq_false (by omega)) | (rw[HF2.out];exact decide_eq_true (by omega))),rfl⟩
    · have HF2:Hid (v=true):=Hi (by rw[HF.out,decide_eq_true h1,decide_eq_true h2];rfl);go_wp2;go_ret;exact⟨ret_bool (by first | exact HF2.out.symm | (rw[HF2.out];exact decide_eq_false (by omega)) | (rw[HF2.out];exact decide_eq_true (by omega))),rfl⟩


namespace It
def cap (x:Int):Bool:=(decide (65≤x) && decide (x≤90)) || (decide (48≤x) && decide (x≤57))
def seg (s:ByteArray):Bool:=decide (1≤s.size) && decide (s.size≤8) && allN (fun i=>cap (by_ s i)) s.size
end It

theorem validSegment_any(s:ByteArray)(w:World)(hs:s.size≤9223372036854775807) :
    Calls Tryz.prog 119 #[.string s] w fun e w'=>e=.returned (.bool (It.seg s))∧w=w':=by
 obtain⟨v,hv⟩:∃ v,It.seg s=v:=⟨_,rfl⟩;have HV:=Hi hv;rw[hv];clear hv;go_enter Tryz.func119,Tryz.ntmps119
 go_wp2
 go_loop [3] (fun i=>∃ k:Nat,k≤s.size∧i=.int .i64 k∧Hid (It.allN (fun i=>It.cap (It.by_ s i)) k=true)) (fun i=>s.size-(intOf i).toNat)
 case atStart=>exact⟨0,by omega,rfl,Hi rfl⟩
 case round =>
  obtain⟨k,hk,rfl,HA⟩:=hrel;by_cases hlt:k<s.size
  · have hby:=It.by_at s hlt;have HE:Hid ((fun i=>It.cap (It.by_ s i)) k=false→Hid (v=false)):=Hi fun g=>Hi (by rw[← HV.out];unfold It.seg;rw[It.allN_no hlt g];simp)
    have HN:Hid ((fun i=>It.cap (It.by_ s i)) k=true→Hid (It.allN (fun i=>It.cap (It.by_ s i)) (k+1)=true)):=Hi fun g=>Hi (It.allN_next HA.out g);rcases(show((s[k].toNat:Int)<65∧(s[k].toNat:Int)<48)∨((s[k].toNat:Int)<65∧48≤(s[k].toNat:Int)∧(s[k].toNat:Int)≤57)∨((s[k].toNat:Int)<65∧48≤(s[k].toNat:Int)∧57<(s[k].toNat:Int))∨(65≤(s[k].toNat:Int)∧(s[k].toNat:Int)≤90)∨(65≤(s[k].toNat:Int)∧90<(s[k].toNat:Int)∧48≤(s[k].toNat:Int)∧57<(s[k].toNat:Int))by omega)with ⟨h1,h2⟩ | ⟨h1,h2,h3⟩ | ⟨h1,h2,h3⟩ | ⟨h1,h2⟩ | ⟨h1,h2,h3,h4⟩
    · have HF:=HE.out (by show It.cap (It.by_ s k)=false;rw[hby];unfold It.cap;simp;omega);clear hby;go_wp2
      all_goals
       go_ret;exact⟨ret_bool HF.out.symm,rfl⟩
    · have HF:=HN.out (by show It.cap (It.by_ s k)=true;rw[hby];unfold It.cap;simp;omega);clear hby;go_wp2
      all_goals
       go_round
       case rel=>exact⟨k+1,by omega,by go_num,HF⟩
       case measure=>simp[intOf];omega
    · have HF:=HE.out (by show It.cap (It.by_ s k)=false;rw[hby];unfold It.cap;simp;omega);clear hby;go_wp2
      all_goals
       go_ret;exact⟨ret_bool HF.out.symm,rfl⟩
    · have HF:=HN.out (by show It.cap (It.by_ s k)=true;rw[hby];unfold It.cap;simp;omega);clear hby;go_wp2
      all_goals
       go_round
       case rel=>exact⟨k+1,by omega,by go_num,HF⟩
       case measure=>simp[intOf];omega
    · have HF:=HE.out (by show It.cap (It.by_ s k)=false;rw[hby];unfold It.cap;simp;omega);clear hby;go_wp2
      all_goals
       go_ret;exact⟨ret_bool HF.out.symm,rfl⟩
  · obtain rfl:k=s.size:=by omega
    have HF:Hid (v=(decide (1≤s.size) && decide (s.size≤8))):=Hi (by rw[← HV.out];unfold It.seg;rw[HA.out,Bool.and_true]);rcases(show(s.size<1)∨(1≤s.size∧8<s.size)∨(1≤s.size∧s.size≤8)by omega)with h1 | ⟨h1,h2⟩ | ⟨h1,h2⟩
    · have HF2:Hid (v=false):=Hi (by rw[HF.out,decide_eq_false (by omega)];rfl);go_wp2;go_ret;exact⟨ret_bool (by first | exact HF2.out.symm | (rw[HF2.out];exact decide_eq_false (by omega)) | (rw[HF2.out];exact decide_eq_true (by omega))),rfl⟩
    · have HF2:Hid (v=false):=Hi (by rw[HF.out,decide_eq_false (show ¬ s.size≤8 by omega),Bool.and_false]);go_wp2;go_ret;exact⟨ret_bool (by first | exact HF2.out.symm | (rw[HF2.out];exact decide_eq_false (by omega)) | (rw[HF2.out];exact decide_eq_true (by omega))),rfl⟩
    · have HF2:Hid (v=true):=Hi (by rw[HF.out,decide_eq_true h1,decide_eq_true h2];rfl);go_wp2;go_ret;exact⟨ret_bool (by first | exact HF2.out.symm | (rw[HF2.out];exact decide_eq_false (by omega)) | (rw[HF2.out];exact decide_eq_true (by omega))),rfl⟩


end Go.Proofs.YtfnmgcblhebdbaaGreatDoor
namespace Go.Proofs.YtfnmgcblhebdbaaGreatDoor
open Go.RowKit

namespace It
def eqI (xs ys:List Int):Bool:=decide (xs=ys)
def eqS (xs ys:List ByteArray):Bool:=decide (xs=ys)
def eqB (a b:ByteArray):Bool:=decide (a=b)
theorem neqB(a b:ByteArray):(a.toList != b.toList)=!eqB a b:=by
 unfold eqB;by_cases h:a=b
 · subst h;simp
 · have:¬ (a.toList=b.toList):=fun e=>h (by rw[ByteArray.toList_eq,ByteArray.toList_eq]at e;cases a;cases b;simp at e;rw[e])
   simp[h,this]
theorem beqB(a b:ByteArray):(a.toList == b.toList)=eqB a b:=by have:=neqB a b;rw[bne]at this;cases h:(a.toList == b.toList) <;> cases g:eqB a b <;> simp_all
def addL (xs:List ByteArray)(d:Bool)(name:ByteArray):List ByteArray:=if d then xs ++ [name]else xs
def foldN (ps:List (Bool×ByteArray)):List ByteArray:=ps.foldl (fun xs p=>addL xs p.1 p.2) []
theorem foldN_snoc{ps:List (Bool×ByteArray)}{k:Nat}{p:Bool×ByteArray}(h:ps[k]?=some p):foldN (ps.take (k+1))=addL (foldN (ps.take k)) p.1 p.2:=by unfold foldN;rw[List.take_add_one,h,List.foldl_append];rfl
theorem addL_len(xs:List ByteArray)(d:Bool)(name:ByteArray):(addL xs d name).length≤xs.length+1:=by unfold addL;split <;> simp
theorem addL_yes(xs:List ByteArray)(name:ByteArray):addL xs true name=xs ++ [name]:=rfl
def pairs (a b:Item):List (Bool×ByteArray):=[(a.id != b.id,⟨#[73,100]⟩),(a.ver != b.ver,⟨#[86,101,114,115,105,111,110]⟩),(a.kind != b.kind,⟨#[75,105,110,100]⟩),(!eqB a.stem b.stem,⟨#[83,116,101,109]⟩),(!eqS a.opts b.opts,⟨#[79,112,116,105,111,110,115]⟩),(!eqI a.chs b.chs,⟨#[67,104,111,105,99,101,115]⟩),(a.value != b.value,⟨#[86,97,108,117,101]⟩),(a.tol != b.tol,⟨#[84,111,108]⟩),(!eqS a.texts b.texts,⟨#[84,101,120,116,115]⟩),(a.pts != b.pts,⟨#[80,111,105,110,116,115]⟩),(!eqB a.cont b.cont,⟨#[67,111,110,116,101,110,116]⟩),(a.fam != b.fam,⟨#[70,97,109,105,108,121]⟩),(a.set_ != b.set_,⟨#[83,101,116]⟩),(a.wrd != b.wrd,⟨#[87,111,114,100,115]⟩),(a.sec != b.sec,⟨#[83,101,99,111,110,100,115]⟩),(!eqI a.assets b.assets,⟨#[65,115,115,101,116,115]⟩),(a.rub != b.rub,⟨#[82,117,98,114,105,99]⟩)]
def diff (a b:Item):List ByteArray:=foldN (pairs a b)
theorem foldN_le:∀ (ps:List (Bool×ByteArray)),(foldN ps).length≤ps.length:=by
 intro ps
 suffices h:∀ (ps:List (Bool×ByteArray)) (xs:List ByteArray),(ps.foldl (fun xs p=>addL xs p.1 p.2) xs).length≤xs.length+ps.length by have:=h ps [];simpa[foldN]using this
 intro ps
 induction ps with
 | nil=>intro xs;simp
 | cons p ps ih=>intro xs;rw[List.foldl_cons];have:=ih (addL xs p.1 p.2);have:=addL_len xs p.1 p.2;simp only[List.length_cons];omega
theorem diff_le(a b:Item):(diff a b).length≤17:=foldN_le (pairs a b)
end It
theorem Tryz.infoStr:(Tryz.prog.info? 9).map (fun i=>(i.zero,i.size,i.bytes))=some (some (.string ⟨#[]⟩),1,16):=by kernel_rfl
def RowS (base:Nat)(xs:List ByteArray)(w:World)(v:Value):Prop:=w.ownsRow base 9 1 v xs.length (xs.map Value.string)
theorem RowS.sl{base:Nat}{xs:List ByteArray}{w:World}{v:Value}(h:RowS base xs w v):∃ A c,v=.slice A xs.length c∧xs.length≤c∧c≤maxLen∧SlS w A xs:=by
 have h':w.ownsRow base 9 1 v xs.length (xs.map fun s=>[Value.string s]).flatten:=by
  have e:(xs.map fun s=>[Value.string s]).flatten=xs.map Value.string:=by clear h;induction xs with | nil=>rfl | cons x xs ih=>simp only[List.map_cons,List.flatten_cons,ih];rfl
  rw[e];exact h
 obtain⟨A,c,h1,h2,h3,h4⟩:=Sl.of_own (xs:=xs.map fun s=>[Value.string s]) (fun c hc=>by obtain⟨s,_,rfl⟩:=List.mem_map.1 hc;rfl) (by simp) h';rw[List.length_map]at h1 h2;exact⟨A,c,h1,h2,h3,h4⟩
end Go.Proofs.YtfnmgcblhebdbaaGreatDoor
namespace Go.Proofs.YtfnmgcblhebdbaaGreatDoor
namespace Rs

end Rs
end Go.Proofs.YtfnmgcblhebdbaaGreatDoor
