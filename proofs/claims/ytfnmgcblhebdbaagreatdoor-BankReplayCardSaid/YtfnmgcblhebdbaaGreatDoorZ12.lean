/- One element more in a row that a record holds, in a region that draws its order: what each operation leaves. No conditions. -/
import Derived.Test.YtfnmgcblhebdbaaGreatDoorZ8
import Derived.Test.YtfnmgcblhebdbaaGreatDoorZ10
import Derived.Test.YtfnmgcblhebdbaaGreatDoorZ11
import Derived.Great.BuildSlice
import Derived.Great.FillDense
import Derived.Shelf.Abstract
namespace Go.Proofs.YtfnmgcblhebdbaaGreatDoor
open Go.RowKit
namespace Bk
theorem set_self{cs:Array Value}{o:Nat}{v:Value}(h:cs[o]?=some v):cs.setIfInBounds o v=cs:=by
 apply Array.ext_getElem?;intro i;rw[Array.getElem?_setIfInBounds];by_cases hi:o=i
 · subst hi;rw[if_pos rfl,h,if_pos (Array.getElem?_eq_some_iff.1 h).1]
 · rw[if_neg hi]
theorem set_set{cs:Array Value}(o:Nat)(v v':Value):(cs.setIfInBounds o v).setIfInBounds o v'=cs.setIfInBounds o v':=by
 apply Array.ext_getElem?;intro i;simp only[Array.getElem?_setIfInBounds,Array.size_setIfInBounds];by_cases hi:o=i
 · rw[if_pos hi,if_pos hi]
 · rw[if_neg hi,if_neg hi,if_neg hi]
theorem fill_one{k:Nat}(hk:0<k)(v:Value)(z:Array Value)(hv:v.cells.size=k)(hz:z.size=k):Instr.fill (fun i=>some (i*k,k)) z [(0,v)]=some v.cells:=by refine(Go.Great.fill_whole hk [v] z (fun u hu=>by rw[List.mem_singleton]at hu;rw[hu];exact hv) (by simp[hz])).trans ?_;simp
section
variable {P:Program}
theorem exec_buildOne{ev:Operand→Value}{o:Oper}{w:World}(t e:TypeId)(x:Operand)(ho:o.op=.buildSlice t 1 #[(0,x)]){v:Value}(hx:ev x=v){ie:TypeInfo}{z:Value}{k:Nat}(hu:P.underlying t=some (.slice e))(hie:P.info? e=some ie)(hz:ie.zero=some z)
    (hs:ie.size=k) (hk:0<k) (hb:k≤1000) (hv:v.cells.size=k) :
    (execOp ev o).run P w=.ok (.value (.slice (some ⟨w.heap.size,0,none⟩) 1 1)) (w.alloc (.cells v.cells e)):=by
 have hr:=run_buildSlice w t e 1 #[(0,v)] v.cells ie z hu hie hz (by omega) (by omega) (by rw[hs];exact fill_one hk v _ hv (by simp))
 have e1:(#[(0,x)].map fun(p:Nat×Operand)=>(p.1,ev p.2))=#[(0,v)]:=by simp[hx]
 unfold execOp;simp only[ho,Sem.run_bind];rw[show(#[(0,x)].map fun(i,x)=>(i,ev x))=#[(0,v)]from e1,hr];rfl
theorem exec_buildL{ev:Operand→Value}{o:Oper}{w:World}(t:TypeId)(parts:Array (Nat×Operand))(ho:o.op=.build t parts)(L:List (Nat×Value))(hm:(parts.map fun(i,x)=>(i,ev x)).toList=L)(cells:Array Value)(hc:P.built t L=some cells) :
    (execOp ev o).run P w=.ok (.value (.agg cells)) w:=by
 subst hm;unfold execOp;simp only[ho,Sem.run_bind,run_build w t _ cells hc,Result.andThen_ok];rfl
theorem exec_store_row{ev:Operand→Value}{o:Oper}{w:World}(ty:TypeId)(x y:Operand)(ho:o.op=.store ty x y)(g:Nat)(cells:Array Value)(hx:ev x=.pointer (some ⟨g,0,none⟩))(hy:ev y=.agg cells)
    (t:TypeId) (old:Array Value) (hg:w.heap[g]?=some (.cells old t (0,0))) (hi:(P.info? ty).map (·.size)=some cells.size) (hold:old.size=cells.size) (h1:cells.all (·.oneCell')=true) :
    (execOp ev o).run P w=.ok .skip (w.setRow g cells):=by
 unfold execOp;simp only[ho,hx,hy,Instr.storeAt,Instr.sureAddr,Sem.run_bind,Sem.run_pure,Result.andThen_ok,run_storeVar_row w g t ty old cells hg hi hold h1]
theorem Sl.newRow(w:World)(cs:List Value){k:Nat}(e:TypeId):Sl (w.alloc (.cells cs.toArray e)) k (some ⟨w.heap.size,0,none⟩) [cs] :=
 Or.inr ⟨w.heap.size,0,rfl,by simp,fun i c hi j v hv=>by
  have hi0:i=0:=by
   rcases Nat.eq_zero_or_pos i with g | g
   · exact g
   · rw[List.getElem?_eq_none (by simp;omega)]at hi;cases hi
  subst hi0;have hcs:cs=c:=by simpa using hi
  subst hcs;rw[show 0+(0*k+j)=j by omega,World.cell?_alloc_new];simpa using hv⟩
theorem own_low'{w:World}{base base':Nat}{e:TypeId}{size:Nat}{v:Value}{n:Nat}{xs:List Value}(h:w.ownsRow base e size v n xs)(hb:base' ≤ base):w.ownsRow base' e size v n xs:=by
 obtain⟨h1,h2⟩:=h;refine⟨h1,?_⟩;rcases h2 with h2 | ⟨g,cap,cur,hv,hg,r⟩
 · exact Or.inl h2
 · exact Or.inr ⟨g,cap,cur,hv,Nat.le_trans hb hg,r⟩
variable {X:Type} {E:Elt X}
theorem RowX.but{T:TypeId}{w w':World}{base g:Nat}{v:Value}{xs:List X}(h:RowX E T w base v xs)(hb:But g w w')(hv:v.ownBlock≠some g)(hx:∀ x∈xs,E.Off g x):RowX E T w' base v xs:=by
 refine⟨?_,fun x hm=>E.but (h.ins x hm) (hx x hm) hb,h.off⟩;have hlt:=own_lt h.own;obtain⟨h1,h2⟩:=h.own;refine⟨h1,?_⟩;rcases h2 with h2 | ⟨q,cap,cur,rfl,hgb,hh,r⟩
 · exact Or.inl h2
 · refine Or.inr ⟨q,cap,cur,rfl,hgb,?_,r⟩;rw[hb.2 q (hlt q rfl) (fun e=>hv (by rw[e];rfl))];exact hh
structure Kp where
 K:World→Prop
 ext:∀ {w w':World},K w→Ext w w'→K w'
def Kp.none:Kp:=⟨fun _=>True,fun h _=>h⟩
theorem Kp.none_o{T:TypeId}:∀ (w w':World) (q:Nat) (cur:Array Value) (fr:Nat×Nat),w.heap[q]?=some (.cells cur T fr)→But q w w'→Kp.none.K w→Kp.none.K w':=fun _ _ _ _ _ _ _ h=>h
theorem Kp.none_g{g:Nat}:∀ (w w':World),But g w w'→Kp.none.K w→Kp.none.K w':=fun _ _ _ h=>h
variable (E)
def PNew (N:Nat)(D:X→Prop)(val:X→Value)(u:Option Value)(w:World):Prop:=∃ x,u=some (val x)∧E.In w x∧E.From N x∧D x
def POne (N:Nat)(D:X→Prop)(u:Option Value)(w:World):Prop:=∃ x p,u=some (.slice (some ⟨p,0,none⟩) 1 1)∧Sl w E.k (some ⟨p,0,none⟩) [E.enc x]∧E.In w x∧E.From N x∧D x
def PRow (T:TypeId)(N base:Nat)(v:Value)(xs:List X)(g:Nat)(cs:Array Value)(TG:TypeId)(K J:Kp)(w:World):Prop:=RowX E T w base v xs∧w.heap[g]?=some (.cells cs TG (0,0))∧N≤w.heap.size∧K.K w∧J.K w
def PApp (D:X→Prop)(T:TypeId)(base:Nat)(xs:List X)(g:Nat)(cs:Array Value)(TG:TypeId)(K:Kp)(u:Option Value)(w:World):Prop :=
 ∃ x A c,u=some (.slice A (xs.length+1) c)∧RowX E T w base (.slice A (xs.length+1) c) (xs ++ [x])∧E.From base x∧D x∧w.heap[g]?=some (.cells cs TG (0,0))∧K.K w
def PSto (D:X→Prop)(T:TypeId)(base:Nat)(xs:List X)(g o:Nat)(cs:Array Value)(TG:TypeId)(K:Kp)(w:World):Prop :=
 ∃ x A c,RowX E T w base (.slice A (xs.length+1) c) (xs ++ [x])∧E.From base x∧D x∧w.heap[g]?=some (.cells (cs.setIfInBounds o (.slice A (xs.length+1) c)) TG (0,0))∧K.K w
variable {E}
theorem PNew.mono{N:Nat}{D:X→Prop}{val:X→Value}{u:Option Value}{w w':World}(he:Ext w w')(h:PNew E N D val u w):PNew E N D val u w':=by obtain⟨x,h1,h2,h3⟩:=h;exact⟨x,h1,E.ext h2 he,h3⟩
theorem POne.mono{N:Nat}{D:X→Prop}{u:Option Value}{w w':World}(he:Ext w w')(h:POne E N D u w):POne E N D u w':=by obtain⟨x,p,h1,h2,h3,h4⟩:=h;exact⟨x,p,h1,h2.ext he,E.ext h3 he,h4⟩
theorem PRow.mono{T:TypeId}{N base:Nat}{v:Value}{xs:List X}{g:Nat}{cs:Array Value}{TG:TypeId}{K J:Kp}{w w':World}(he:Ext w w')(h:PRow E T N base v xs g cs TG K J w):PRow E T N base v xs g cs TG K J w':=⟨h.1.ext he,he.blockAt h.2.1,Nat.le_trans h.2.2.1 he.size,K.ext h.2.2.2.1 he,J.ext h.2.2.2.2 he⟩
theorem PApp.mono{D:X→Prop}{T:TypeId}{base:Nat}{xs:List X}{g:Nat}{cs:Array Value}{TG:TypeId}{K:Kp}{u:Option Value}{w w':World}(he:Ext w w')(h:PApp E D T base xs g cs TG K u w):PApp E D T base xs g cs TG K u w':=by obtain⟨x,A,c,h1,h2,h3,h4,h5,h6⟩:=h;exact⟨x,A,c,h1,h2.ext he,h3,h4,he.blockAt h5,K.ext h6 he⟩
theorem PSto.mono{D:X→Prop}{T:TypeId}{base:Nat}{xs:List X}{g o:Nat}{cs:Array Value}{TG:TypeId}{K:Kp}{w w':World}(he:Ext w w')(h:PSto E D T base xs g o cs TG K w):PSto E D T base xs g o cs TG K w':=by obtain⟨x,A,c,h2,h3,h4,h5,h6⟩:=h;exact⟨x,A,c,h2.ext he,h3,h4,he.blockAt h5,K.ext h6 he⟩
theorem PNew.one{N:Nat}{D:X→Prop}{val:X→Value}{w:World}{x:X}(e:TypeId)(hc:(val x).cells=(E.enc x).toArray)(h2:E.In w x)(h3:E.From N x)(h4:D x) :
    POne E N D (some (.slice (some ⟨w.heap.size,0,none⟩) 1 1)) (w.alloc (.cells (val x).cells e)):=by
 refine⟨x,w.heap.size,rfl,?_,E.ext h2 ((Ext.refl _).alloc _),h3,h4⟩;rw[hc];exact Sl.newRow w (E.enc x) e
theorem PRow.app{T t ty TG:TypeId}{ie:TypeInfo}{z:Value}{bytes:Nat}(ht:P.underlying t=some (.slice T))(hi:P.info? T=some ie)(hz:ie.zero=some z)(hs:ie.size=E.k)(hb:ie.bytes=bytes)(hzs:z.cells.size=E.k)(hT:T≠TG)
    {w B:World} {base N g:Nat} {v:Value} {xs:List X} {cs:Array Value} {D:X→Prop} {K J:Kp} {u:Option Value} (hr:PRow E T N base v xs g cs TG K J w) (hKO:∀ (w w':World) (q:Nat) (cur:Array Value) (fr:Nat×Nat),w.heap[q]?=some (.cells cur T fr)→But q w w'→K.K w→K.K w') (h1:POne E N D u w)
    (hN:∀ q,v.ownBlock=some q→q<N) (hbN:base≤N) (hx:Ext B w) (hBb:B.heap.size≤base) (h63:xs.length+1≤maxLen) (hbytes:(xs.length+1)*bytes≤140737488355328) :
    ∃ y u' w',u=some y∧(Builtin.append_ #[t,t] ty #[v,y]).run P w=.ok u' w'∧Ext B w'∧PApp E D T base xs g cs TG K (some u') w':=by
 obtain⟨x,p,rfl,h2,h3,h4,h5⟩:=h1;obtain⟨hrow,hblk,hsz,hk,-⟩:=hr;have hbase:base≤w.heap.size:=Nat.le_trans hbN hsz;obtain⟨v',w',hrun,hown,hgr,hat⟩:=run_append_sl (P:=P) w base t ty T ie z E.k bytes ht hi hz hs hb hzs E.pos v xs.length _ hrow.own (some ⟨p,0,none⟩) 1 [E.enc x] h2
  (fun c hc=>by rw[List.mem_singleton]at hc;rw[hc];exact E.len x) (fun c hc=>by rw[List.mem_singleton]at hc;rw[hc];exact E.one x) (by simpa using h63) (by simpa using hbytes) hbase
 simp only[List.length_singleton,List.flatten_cons,List.flatten_nil,List.append_nil]at hown;obtain⟨A,c,rfl⟩:=own_form hown;refine⟨_,_,w',rfl,hrun,hx.grown hgr (fun k hk=>Nat.le_trans hBb (own_ge hrow.own k hk)),x,A,c,rfl,hrow.app h3 (fun q hq=>E.frm h4 (hN q hq)) (Ext.refl _) hown hgr hat,E.mono h4 hbN,h5,?_,?_⟩
 · have hlt:g<w.heap.size:=(Array.getElem?_eq_some_iff.1 hblk).1;rw[hgr.block g hlt (fun e=>own_other hrow.own hblk hT e.symm)];exact hblk
 · cases hv:v.ownBlock with
   | none=>rw[hv]at hgr;exact K.ext hk (grown_none hgr)
   | some q=>rw[hv]at hgr;obtain⟨cur,hq⟩:=own_block hrow.own q hv;exact hKO w w' q cur _ hq (But.grown hgr) hk
theorem PApp.sto{D:X→Prop}{T:TypeId}{base:Nat}{xs:List X}{g o:Nat}{cs:Array Value}{TG:TypeId}{w:World}{x:X}{v:Value}{A:Option Addr}{c:Nat}(hv:v=.slice A (xs.length+1) c)(h2:RowX E T w base (.slice A (xs.length+1) c) (xs ++ [x]))(h3:E.From base x)(h4:D x)(h5:w.heap[g]?=some (.cells cs TG (0,0))){K:Kp}(h6:K.K w)(hKG:∀ (w w':World),But g w w'→K.K w→K.K w')
    (hT:T≠TG) (hg:g<base) (hf:∀ y∈xs,E.From base y):PSto E D T base xs g o cs TG K (w.setCell ⟨g,o,none⟩ v):=by
 subst hv;refine⟨x,A,c,h2.but (But.setCell w ⟨g,o,none⟩ _) (own_other h2.own h5 hT) (fun y hy=>?_),h3,h4,heap_setCell_same _ _ _ _ _ _ h5,hKG _ _ (But.setCell w ⟨g,o,none⟩ _) h6⟩;rcases List.mem_append.1 hy with hy | hy
 · exact E.frm (hf y hy) hg
 · rw[List.mem_singleton]at hy;rw[hy];exact E.frm h3 hg
theorem RowX.got{T:TypeId}{w:World}{N:Nat}{A:Option Addr}{c n:Nat}{xs:List X}(h:RowX E T w N (.slice A n c) xs)(he:T=E.T)(hn:xs.length=n)(hf:∀ x∈xs,E.From N x):Got E w N A xs c:=by obtain⟨A2,c2,h1,h2,h3,h4,h5⟩:=h.sl;rw[hn]at h1;cases h1;refine⟨h5,⟨h4,hf⟩,h2,h3,?_⟩;have:=h.own;rw[hn]at this;rw[hn,← he];exact TyA.of_own this
end
end Bk
end Go.Proofs.YtfnmgcblhebdbaaGreatDoor
namespace Go.Proofs.YtfnmgcblhebdbaaGreatDoor
set_option maxRecDepth 100000
set_option maxHeartbeats 25600000
open Go.RowKit
namespace Bk
theorem infoMd{CS:Array Value}(h:CS.size=1):(Tryz.prog.info? 46).map (·.size)=some CS.size:=by rw[h];kernel_rfl
def rxs (rows:List IL):List (List Int):=rows.map (·.xs)
theorem rxs_next{rows ys:List IL}{k:Nat}{x y:IL}(h:rxs ys=rxs (rows.take k))(hx:rows[k]?=some x)(hy:y.xs=x.xs):rxs (ys ++ [y])=rxs (rows.take (k+1)):=by unfold rxs at *;rw[List.map_append,h,List.take_add_one,hx];simp[hy]
def RetMd (w:World)(rows:List IL)(e:Ending)(w':World):Prop:=∃ A c ys,e=.returned (.agg #[.slice A rows.length c])∧rxs ys=rxs rows∧Got eILt w' w.heap.size A ys c
def cmdL (g N k cr xn xc:Nat)(Ar xA:Option Addr)(ys:List IL)(xl:List Int):List (Option Value→World→Prop):=[sv (.pointer (some ⟨g,0,none⟩)),
 sv (.slice Ar k cr),
 sv (.slice xA xn xc),
 fun u w=>PNew eILt (N) (fun y:IL=>y.xs=xl) (IL.val) u w,
 fun u w=>POne eILt (N) (fun y:IL=>y.xs=xl) u w,
 fun u w=>PApp eILt (fun y:IL=>y.xs=xl) 22 (g+1) ys (g) (#[.slice Ar k cr]) 46 (Kp.none) u w,
 sv (.pointer (some ⟨g,0,none⟩)),
 fun _ w=>PSto eILt (fun y:IL=>y.xs=xl) 22 (g+1) ys (g) 0 (#[.slice Ar k cr]) 46 (Kp.none) w,
 fun _ w=>PRow eILt 22 (N) (g+1) (.slice Ar k cr) ys (g) (#[.slice Ar k cr]) 46 (Kp.none) (Kp.none) w]
theorem cmdL_mono(g N k cr xn xc:Nat)(Ar xA:Option Addr)(ys:List IL)(xl:List Int):AllMono (cmdL g N k cr xn xc Ar xA ys xl):=⟨mono_val _,mono_val _,mono_val _,(fun _ _ _ he h=>PNew.mono he h),(fun _ _ _ he h=>POne.mono he h),(fun _ _ _ he h=>PApp.mono he h),mono_val _,(fun _ _ _ he h=>PSto.mono he h),(fun _ _ _ he h=>PRow.mono he h),trivial⟩
def cmdD:List Nat:=[13,14,15,16,17,18,19,900,901]
def cmdC (j:Nat):Option Nat:=if j=3 then some 4 else if j=4 then some 5 else if j=5 then some 7 else if j=8 then some 5 else none
def cmdE (g xn xc:Nat)(xA:Option Addr)(t:Array Value):Prop:=t.getD 3 undef=.pointer (some ⟨g,0,none⟩)∧t.getD 5 undef=.slice xA xn xc∧t.size=22

theorem bcopyModel_any(A:Option Addr)(c:Nat)(rows:List IL){n:Nat}(hn:rows.length=n)(w:World)(h:SlX eIL w A rows)(hzn:n*24≤140737488355328)(hr:∀ r∈rows,r.xs.length*8≤140737488355328) :
    Calls Tryz.prog 80 #[.agg #[.slice A n c]] w fun e w'=>RetMd w rows e w'∧Ext w w':=by
 have H:=Hi h;have HN:=Hi hn;have HR:=Hi hr;clear h hn hr;obtain⟨iL,hi,hz,hs,hb⟩:=info_parts infoIL;have EN:=Hi (enters_of Tryz.func58 (by kernel_rfl) rfl);obtain⟨B,hB⟩:∃ B,(w.alloc (.cells #[.slice A n c] 46)).alloc (.cells #[.slice none 0 0] 46)=B:=⟨_,rfl⟩;have HBX:Hid (Ext w B):=Hi (by rw[← hB];exact((Ext.refl _).alloc _).alloc _);have HBS:Hid (B.heap.size=w.heap.size+1+1):=Hi (by rw[← hB];simp);have HBA:Hid (B.heap[w.heap.size]?=some (.cells #[.slice A n c] 46 (0,0))):=Hi (by rw[← hB];exact two_fst' _ _ _);have HBB0:Hid (B.heap[w.heap.size+1]?=some (.cells #[.slice none 0 0] 46 (0,0))):=Hi (by rw[← hB];exact heap_new_at _ _ _ (by simp));have HBH:=Hi hB;have XB0:Hid (Ext B (B.alloc (.cells #[.slice none 0 0] 46))):=Hi ((Ext.refl _).alloc _);have HCB:Hid ((B.alloc (.cells #[.slice none 0 0] 46)).heap[w.heap.size+1+1]?=some (.cells #[.slice none 0 0] 46 (0,0))):=Hi (heap_new_at _ _ _ HBS.out.symm);clear hB;go_enter Tryz.func80,Tryz.ntmps80
 go_wp2;go_loopw [9] (fun i wr=>∃ (k:Nat) (ys:List IL) (Ar:Option Addr) (cr:Nat),k≤n∧i=.int .i64 k∧Hid (rxs ys=rxs (rows.take k))∧Hid (ys.length=k)∧Hid (RowX eILt 22 wr (w.heap.size+1+1+1) (.slice Ar k cr) ys)∧Hid (∀ y∈ys,eILt.From (w.heap.size+1+1+1) y)∧Hid (wr.heap[w.heap.size+1+1]?=some (.cells #[.slice Ar k cr] 46 (0,0)))∧Hid (Ext B wr)) (fun i _=>n-(intOf i).toNat)
 case atStart=>exact⟨0,[],none,0,by omega,rfl,Hi rfl,Hi rfl,Hi (RowX.nil _ _ _),Hi (fun y hy=>by simp at hy),by rw[HBH.out];exact HCB,by rw[HBH.out];exact XB0⟩
 case round =>
  obtain⟨k,ys,Ar,cr,hk,rfl,HY,HYL,HROW,HYF,HG,HXB⟩:=hrel
  skip
  by_cases hlt:k<n
  · obtain⟨x,hx⟩:∃ x,rows[k]?=some x:=⟨rows[k]'(by rw[HN.out];exact hlt),List.getElem?_eq_getElem _⟩;obtain⟨b,off,rfl,hbl,hc,hin⟩:=(H.out.ext HBX.out).at_ hx;have cx0:B.cell? ⟨b,off+k,none⟩=some (.slice x.A x.xs.length x.c):=by have:=hc 0 _ rfl;simpa[eIL,IL.val]using this
    obtain⟨n1,hn1⟩:∃ n,x.xs.length=n:=⟨_,rfl⟩;rw[hn1]at cx0;have cx:=HXB.out.keep cx0;have HXL:=Hi hn1;have HCX:=Hi cx0;have HXZ:Hid (n1*8≤140737488355328):=Hi (by rw[← hn1];exact HR.out x (List.mem_of_getElem? hx));have HSX:Hid (SlX eI B x.A x.xs):=Hi (SlX.ofI hin.1 hin.2.2.2);have HX:=Hi hx;have ki0:(0:Int)≤(k:Int):=(by omega);have ki1:(k:Int)<(n:Int):=(by omega);have KI:=Hi (And.intro ki0 ki1);clear hx hc hin hn1 cx0;have HCO:Hid ((#[.slice Ar k cr]:Array Value)[0]?=some (.slice Ar k cr)):=Hi rfl;have HOB:Hid (∀ q,(Value.slice Ar k cr).ownBlock=some q→q<wr.heap.size):=Hi (fun q hq=>own_lt HROW.out.own q hq);have HBN:Hid (w.heap.size+1+1+1≤wr.heap.size):=Hi (blk_lt HG.out);have HBB:Hid (B.heap.size≤w.heap.size+1+1+1):=Hi (by rw[HBS.out];omega);have HBG:Hid (B.heap.size≤w.heap.size+1+1):=Hi (by rw[HBS.out];omega);have HGB:Hid (w.heap.size+1+1<w.heap.size+1+1+1):=Hi (Nat.lt_succ_self _);have HLM:Hid (ys.length+1≤maxLen):=Hi (by rw[HYL.out];unfold maxLen;omega);have HLB:Hid ((ys.length+1)*24≤140737488355328):=Hi (by rw[HYL.out];omega);have HFR:=HYF;have HROW0:Hid (PRow eILt 22 wr.heap.size (w.heap.size+1+1+1) (.slice Ar k cr) ys (w.heap.size+1+1) #[.slice Ar k cr] 46 Kp.none Kp.none wr):=Hi ⟨HROW.out,HG.out,Nat.le_refl _,trivial,trivial⟩;have HKO:=Hi (Kp.none_o (T:=22));have HKG:=Hi (Kp.none_g (g:=w.heap.size+1+1));go_wp2_with fail
    refine region_tb (by kernel_rfl) (by decide +kernel) (cmdE (w.heap.size+1+1) n1 x.c x.A) ⟨rfl,rfl,rfl⟩ 9 cmdD cmdC (RG (cmdL (w.heap.size+1+1) wr.heap.size k cr n1 x.c Ar x.A ys x.xs)) B HXB.out (fun i h1 h2=>by
    have h3:8≤i:=h1;have h4:i<9:=h2;obtain rfl:i=8:=by omega
    exact PRow.mono ((Ext.refl _).drew) HROW0.out) ?_ ?_
    · intro Tv dd lv U wz i oZ hE ho hlv hd hT;obtain⟨t3,t5,tz⟩:=hE;have hx:=hT.ext;have rX:=RG.ext (cmdL_mono (w.heap.size+1+1) wr.heap.size k cr n1 x.c Ar x.A ys x.xs)
      match i,ho,hlv,hd with
      | 0,ho,hlv,hd=>cases oi ho;exact yl1 hT rX ho hd (.pointer (some ⟨w.heap.size+1+1,0,none⟩)) (od dd hT tz t3)
      | 1,ho,hlv,hd =>
       cases oi ho;have hnA:lv 5=false:=by
        cases hA:lv 5 with
        | false=>rfl
        | true=>exact absurd (dep (hT.shut 5 _ rfl hA) 1 (by kernel_rfl)) (by rw[hlv];decide)
       have hrow:PRow eILt 22 (wr.heap.size) (w.heap.size+1+1+1) (.slice Ar k cr) ys (w.heap.size+1+1) (#[.slice Ar k cr]) 46 (Kp.none) (Kp.none) wz:=hT.facts 8 (by decide) (hT.past 8 (by decide)) (fun c e=>by injection e with e;subst e;exact hnA);exact yk1 hT rX ho hd (.slice Ar k cr) (nw dd hT hd tz 0 13 (.pointer (some ⟨w.heap.size+1+1,0,none⟩))) ((cell_of_row _ _ 0 _ _ _ hrow.2.1).trans HCO.out)
      | 2,ho,hlv,hd=>cases oi ho;exact yl1 hT rX ho hd (.slice x.A n1 x.c) (od dd hT tz t5)
      | 3,ho,hlv,hd =>
       cases oi ho;have v0:=nw dd hT hd tz 2 15 (.slice x.A n1 x.c);have hnA:lv 5=false:=by
        cases hA:lv 5 with
        | false=>rfl
        | true=>exact absurd (dep (hT.shut 4 _ rfl (dep (hT.shut 5 _ rfl hA) 4 (by kernel_rfl))) 3 (by kernel_rfl)) (by rw[hlv];decide)
       have hrow:PRow eILt 22 (wr.heap.size) (w.heap.size+1+1+1) (.slice Ar k cr) ys (w.heap.size+1+1) (#[.slice Ar k cr]) 46 (Kp.none) (Kp.none) wz:=hT.facts 8 (by decide) (hT.past 8 (by decide)) (fun c e=>by injection e with e;subst e;exact hnA);refine cl hT rX ho hd (f:=58) (args:=#[.slice x.A n1 x.c]) (exec_call1 rfl rfl v0 EN.out) ?_;refine(cloneI x.A x.c x.xs HXL.out wz (HSX.out.ext hx) HXZ.out).mono ?_;rintro e w' hr;obtain⟨A1,c1,rfl,hg,hb⟩:=hr.got HXL.out (fun _ _=>trivial);exact⟨_,rfl,hb,⟨⟨A1,c1,x.xs⟩,by unfold IL.val;rw[HXL.out],⟨hg.il,hg.ty⟩,(hg.low hrow.2.2.1).frm.a,rfl⟩⟩
      | 4,ho,hlv,hd=>cases oi ho;obtain⟨y0,e0,h2,h3,h4⟩:PNew eILt (wr.heap.size) (fun y:IL=>y.xs=x.xs) (IL.val) (U 16) wz:=hT.facts 3 (by decide) (dep hd 3 (by kernel_rfl)) (fun c e=>by injection e with e;subst e;exact hlv);have v0:Act.eval ⟨over Tv U,dd⟩ (.tmp 16)=_:=eval_new (t:=Tv) (d:=dd) e0 (by show 16<Tv.size;omega);refine tbw_yield (v:=.slice (some ⟨wz.heap.size,0,none⟩) 1 1) (RG.ext (cmdL_mono (w.heap.size+1+1) wr.heap.size k cr n1 x.c Ar x.A ys x.xs)) hT ho hd (wanted_plain rfl) rfl (by decide) (by decide) (exec_buildOne 44 22 (.tmp 16) rfl v0 Tryz.underlying44 hi hz hs (by decide) (by decide) (by simp[IL.val,Value.cells])) ((Ext.refl _).alloc _) (PNew.one (E:=eILt) (val:=IL.val) 22 (by simp[IL.val,Value.cells,eILt]) h2 h3 h4)
      | 5,ho,hlv,hd =>
       cases oi ho;have v0:=nw dd hT hd tz 1 14 (.slice Ar k cr);have hnA:lv 5=false:=hlv;have hrow:PRow eILt 22 (wr.heap.size) (w.heap.size+1+1+1) (.slice Ar k cr) ys (w.heap.size+1+1) (#[.slice Ar k cr]) 46 (Kp.none) (Kp.none) wz:=hT.facts 8 (by decide) (hT.past 8 (by decide)) (fun c e=>by injection e with e;subst e;exact hnA);have h1:POne eILt (wr.heap.size) (fun y:IL=>y.xs=x.xs) (U 17) wz:=hT.facts 4 (by decide) (dep hd 4 (by kernel_rfl)) (fun c e=>by injection e with e;subst e;exact hlv);obtain⟨y,u',w',hU,hrun,hx2,hP⟩:=hrow.app (P:=Tryz.prog) (t:=44) (ty:=44) Tryz.underlying44 hi hz hs hb rfl (by decide) HKO.out h1 HOB.out HBN.out hx HBB.out HLM.out HLB.out;have v1:Act.eval ⟨over Tv U,dd⟩ (.tmp 17)=_:=eval_new (t:=Tv) (d:=dd) hU (by show 17<Tv.size;omega);refine tb_yield (v:=u') (w':=w') hT ho hd rfl rfl (by decide) (by decide) (exec_append rfl v0 v1 hrun) hx2 hP ?_;intro j hj hji hlj hcj hR
       match j,hj,hR with
       | 0,_,hR=>exact hR
       | 1,_,hR=>exact hR
       | 2,_,hR=>exact hR
       | 3,_,_=>exact absurd (dep hd 4 (by kernel_rfl)) (by rw[(hcj 4 rfl).2];decide)
       | 4,_,_=>exact absurd rfl (hcj 5 rfl).1
       | 5,_,_=>exact absurd rfl hji
       | 6,_,hR=>exact hR
       | 7,_,_=>exact absurd (dep (hT.shut 7 _ rfl hlj) 5 (by kernel_rfl)) (by rw[hlv];decide)
       | 8,_,_=>exact absurd rfl (hcj 5 rfl).1
       | j+9,hj,_=>exact absurd hj (by omega)
      | 6,ho,hlv,hd=>cases oi ho;exact yl1 hT rX ho hd (.pointer (some ⟨w.heap.size+1+1,0,none⟩)) (od dd hT tz t3)
      | 7,ho,hlv,hd =>
       cases oi ho;have v0:=nw dd hT hd tz 6 19 (.pointer (some ⟨w.heap.size+1+1,0,none⟩));obtain⟨y0,A',c',hU,h2,h3,h4,h5,h6⟩:PApp eILt (fun y:IL=>y.xs=x.xs) 22 (w.heap.size+1+1+1) ys (w.heap.size+1+1) (#[.slice Ar k cr]) 46 (Kp.none) (U 18) wz:=hT.facts 5 (by decide) (dep hd 5 (by kernel_rfl)) (fun c e=>by injection e with e;subst e;exact hlv);have v1:Act.eval ⟨over Tv U,dd⟩ (.tmp 18)=_:=eval_new (t:=Tv) (d:=dd) hU (by show 18<Tv.size;omega);have hc:=(cell_of_row _ _ 0 _ _ _ h5).trans HCO.out;have hfz:=frozen_of_row _ _ 0 _ _ h5;refine tb_store (w':=wz.setCell ⟨w.heap.size+1+1,0,none⟩ (.slice A' (ys.length+1) c')) hT ho hd rfl rfl ?_ (hx.setCell HBG.out _) (PApp.sto rfl h2 h3 h4 h5 h6 HKG.out (by decide) HGB.out HFR.out) ?_
       · generalize Act.eval ⟨over Tv U,dd⟩=ev at *;simp[execOp,v0,v1,go_sem,hc,hfz]
       · intro j hj hji hlj hcj hR
         match j,hj,hR with
         | 0,_,hR=>exact hR
         | 1,_,hR=>exact hR
         | 2,_,hR=>exact hR
         | 3,_,_=>exact absurd (dep (hT.shut 5 _ rfl (dep hd 5 (by kernel_rfl))) 4 (by kernel_rfl)) (by rw[(hcj 4 rfl).2];decide)
         | 4,_,_=>exact absurd (dep hd 5 (by kernel_rfl)) (by rw[(hcj 5 rfl).2];decide)
         | 5,_,_=>exact absurd rfl (hcj 7 rfl).1
         | 6,_,hR=>exact hR
         | 7,_,_=>exact absurd rfl hji
         | 8,_,_=>exact absurd (dep hd 5 (by kernel_rfl)) (by rw[(hcj 5 rfl).2];decide)
         | j+9,hj,_=>exact absurd hj (by omega)
      | i+8,ho,_,_=>exact absurd ho (by simp)
    intro U wz hex hout hfin;have PS:PSto eILt (fun y:IL=>y.xs=x.xs) 22 (w.heap.size+1+1+1) ys (w.heap.size+1+1) 0 (#[.slice Ar k cr]) 46 (Kp.none) wz:=hfin 7 (by decide) rfl;have XE:=Hi hex;clear hex hfin;rw[over_list];simp(disch:=decide) only[overL,Nat.reduceAdd,hout,Option.getD_none];clear hout;obtain⟨y,A',c',hrow,hfr,hD,hblk,-⟩:=PS;rw[HYL.out]at hrow hblk;have HY2:Hid (rxs (ys ++ [y])=rxs (rows.take (k+1))):=Hi (rxs_next HY.out HX.out hD);have HYL2:Hid ((ys ++ [y]).length=k+1):=Hi (by rw[List.length_append,HYL.out];rfl);have HR2:=Hi hrow;have HF2:Hid (∀ z∈ys ++ [y],eILt.From (w.heap.size+1+1+1) z):=Hi (fun z hz=>by
     rcases List.mem_append.1 hz with hz | hz
     · exact HYF.out z hz
     · rw[List.mem_singleton]at hz;rw[hz];exact hfr)
    have HB2:=Hi hblk;clear hrow hfr hD hblk;go_wp2;go_roundw;case rel=>exact⟨k+1,ys ++ [y],A',c',by omega,by go_num,HY2,HYL2,HR2,HF2,HB2,XE⟩
    case measure=>simp[intOf];omega
  · obtain rfl:k=n:=by omega
    have HZB:=Hi (HXB.out.blockAt HBB0.out);have INF:Hid ((Tryz.prog.info? 46).map (·.size)=some (#[.slice Ar k cr]:Array Value).size):=Hi (infoMd rfl);have cg:wr.cell? ⟨w.heap.size+1+1,0,none⟩=some (.slice Ar k cr):=cell_of_row _ _ 0 _ _ _ HG.out;have cz:wr.cell? ⟨w.heap.size+1,0,none⟩=some (.slice none 0 0):=cell_of_row _ _ 0 _ _ _ HZB.out;have fz:=frozen_of_row _ _ 0 _ _ HZB.out;go_wp2;have HZ2:(wr.setCell ⟨w.heap.size+1,0,none⟩ (.slice Ar k cr)).heap[w.heap.size+1]?=some (.cells #[.slice Ar k cr] 46 (0,0)):=heap_setCell_same _ _ _ _ _ _ HZB.out;refine bodyPost_ret (v:=.agg #[.slice Ar k cr]) (results_oneR Tryz.results80 _ _ (w.heap.size+1) _ #[.slice Ar k cr] _ _ rfl HZ2 Tryz.underlying46 rfl INF.out) rfl ?_;have hb:But (w.heap.size+1) wr _:=But.setCell wr ⟨w.heap.size+1,0,none⟩ (.slice Ar k cr);refine⟨⟨Ar,cr,ys,by rw[HN.out],?_,?_⟩,(HBX.out.trans HXB.out).setCell (show w.heap.size≤w.heap.size+1 by omega) _⟩
    · rw[HY.out,List.take_of_length_le (by rw[HN.out];exact Nat.le_refl _)]
    · have g:Got eILt wr (w.heap.size+1+1+1) Ar ys cr:=HROW.out.got rfl HYL.out HYF.out;exact(g.but hb (by omega)).low (by omega)
end Bk
set_option maxRecDepth 100000
set_option maxHeartbeats 12800000
open Go.RowKit
namespace Bk
theorem infoEn{CS:Array Value}(h:CS.size=7):(Tryz.prog.info? 56).map (·.size)=some CS.size:=by rw[h];kernel_rfl
theorem infoBk{CS:Array Value}(h:CS.size=7):(Tryz.prog.info? 31).map (·.size)=some CS.size:=by rw[h];kernel_rfl
def ixV:Option Nat→Int
 | none=>-1
 | some k=>(k:Int)
theorem num_nil{e:EntL}(h:e.vs.length=0):num e.ent=none:=by have:e.vs=[]:=List.eq_nil_of_length_eq_zero h;unfold num EntL.ent;rw[this];rfl
theorem num_last{e:EntL}{n:Nat}{x:ItL}(hn:e.vs.length=n)(hx:e.vs[n-1]?=some x):num e.ent=some x.1.id:=by unfold num EntL.ent;rw[List.length_map,hn,List.getElem?_map,hx];rfl
theorem ix_none{es:List EntL}{id:Int}{n:Nat}(hn:es.length=n)(h:∀ (j:Nat) (e:EntL),j<n→es[j]?=some e→num e.ent≠some id):ixV (fnd (es.map (·.ent)) id)=-1:=by
 rw[fnd_none (fun i x hx=>?_)]
 · rfl
 · rw[List.getElem?_map]at hx;obtain⟨y,hy,rfl⟩:=Option.map_eq_some_iff.1 hx;exact h i y (by rw[← hn];exact(List.getElem?_eq_some_iff.1 hy).1) hy
theorem ix_some{es:List EntL}{id:Int}{k:Nat}{e:EntL}(he:es[k]?=some e)(hn:num e.ent=some id)(h:∀ (j:Nat) (x:EntL),j<k→es[j]?=some x→num x.ent≠some id):ixV (fnd (es.map (·.ent)) id)=(k:Int):=by
 rw[fnd_some (k:=k) (e:=e.ent) (by rw[List.getElem?_map,he];rfl) hn (fun i x hi hx=>?_)]
 · rfl
 · rw[List.getElem?_map]at hx;obtain⟨y,hy,rfl⟩:=Option.map_eq_some_iff.1 hx;exact h i y hi hy
theorem ids_step{es:List EntL}{id:Int}{k:Nat}{e:EntL}(he:es[k]?=some e)(hn:num e.ent≠some id)(h:∀ (j:Nat) (x:EntL),j<k→es[j]?=some x→num x.ent≠some id):∀ (j:Nat) (x:EntL),j<k+1→es[j]?=some x→num x.ent≠some id:=fun j x hj hx=>by
 rcases Nat.lt_or_ge j k with g | g
 · exact h j x g hx
 · obtain rfl:j=k:=by omega
   rw[he]at hx;injection hx with hx;subst hx;exact hn
theorem number_any(e:EntL)(w:World)(h:e.In w)(hp:0<e.vs.length){v:Int}(hv:num e.ent=some v) :
    Calls Tryz.prog 71 #[e.agg] w fun r w'=>r=.returned (.int .i64 v)∧Ext w w':=by
 obtain⟨CE,hce,hne,-,hke⟩:=e.packed;rw[hce];have j0:CE[0]?=some (.slice e.vA e.vs.length e.vc):=by rw[← hke];rfl
 obtain⟨n,hn⟩:∃ n,e.vs.length=n:=⟨_,rfl⟩;obtain⟨x,hx⟩:∃ x,e.vs[n-1]?=some x:=⟨e.vs[n-1]'(by omega),List.getElem?_eq_getElem _⟩;obtain⟨b,off,hA,hbl,hc,-⟩:=h.vs.at_ hx;rw[hn,hA]at j0;rw[hn]at hp;have hv2:x.1.id=v:=by rw[num_last hn hx]at hv;injection hv
 have X0:Ext w (w.alloc (.cells CE 56)):=(Ext.refl _).alloc _;have c0:(w.alloc (.cells CE 56)).cell? ⟨w.heap.size,0,none⟩=some (.slice (some ⟨b,off,none⟩) n e.vc):=(World.cell?_alloc_new _ _ _ _).trans j0;have c1:(w.alloc (.cells CE 56)).cell? ⟨b,off+(n-1)*17,none⟩=some (.int .i64 v):=X0.keep (by rw[← hv2];exact hc 0 _ rfl);have h63:n≤9223372036854775807:=by
  have:n≤maxLen:=by rw[← hn];exact Nat.le_trans h.vc.1 h.vc.2
  unfold maxLen at this;omega
 obtain⟨m,hm⟩:∃ m,n-1=m:=⟨_,rfl⟩;have hnm:n=m+1:=by omega
 subst hnm;rw[Nat.add_sub_cancel]at c1;have X:=Hi X0;clear h hce hne hke j0 hn hx hA hbl hc hv hv2 X0 hm hp;go_enter Tryz.func71,Tryz.ntmps71
 go_wp2;go_ret;exact⟨rfl,X.out⟩
theorem bfind_any(b:BankL)(id:Int){v:Int}(hv:ixV (fnd (b.ents.map (·.ent)) id)=v)(w:World)(h:b.In w) :
    Calls Tryz.prog 38 #[b.agg,.int .i64 id] w fun e w'=>e=.returned (.int .i64 v)∧Ext w w':=by
 obtain⟨CB,hcb,hnb,-,hkb⟩:=b.packed;rw[hcb];have j5:CB[5]?=some (.slice b.eA b.ents.length b.ec):=by rw[← hkb];rfl
 have HS:=Hi h.ents;have h63:b.ents.length≤9223372036854775807:=by have:=h.ec;unfold maxLen at this;omega
 clear h hcb hnb hkb;obtain⟨EA,hEA⟩:∃ A,b.eA=A:=⟨_,rfl⟩;obtain⟨es,hes⟩:∃ l,b.ents=l:=⟨_,rfl⟩;obtain⟨n,hn⟩:∃ n,es.length=n:=⟨_,rfl⟩;rw[hEA,hes]at j5 HS;rw[hes]at hv h63;rw[hn]at j5 h63;have HN:=Hi hn;have HV:=Hi hv;have X0:Hid (Ext w (w.alloc (.cells CB 31))):=Hi ((Ext.refl _).alloc _);have c5:(w.alloc (.cells CB 31)).cell? ⟨w.heap.size,5,none⟩=some (.slice EA n b.ec):=(World.cell?_alloc_new _ _ _ _).trans j5;clear j5 hEA hes hn hv;go_enter Tryz.func38,Tryz.ntmps38
 go_wp2;go_loopw [10] (fun i wr=>∃ k:Nat,k≤n∧i=.int .i64 k∧Hid (∀ (j:Nat) (x:EntL),j<k→es[j]?=some x→num x.ent≠some id)∧Hid (Ext w wr)) (fun i _=>n-(intOf i).toNat)
 case atStart=>exact⟨0,by omega,rfl,Hi (fun j x hj=>absurd hj (by omega)),X0⟩
 case round =>
  obtain⟨k,hk,rfl,HA,HE⟩:=hrel;clear c5;by_cases hlt:k<n
  · obtain⟨e,hx⟩:∃ x,es[k]?=some x:=⟨es[k]'(by rw[HN.out];exact hlt),List.getElem?_eq_getElem _⟩;obtain⟨bb,off,rfl,hbl,hc,hin⟩:=(HS.out.ext HE.out).at_ hx;obtain⟨CE,hce,hne,h1e,hke⟩:=e.packed;have HC:Hid (wr.rangeAt bb (off+k*7) CE.toList):=Hi (by rw[← hke];exact hc);have IE:=Hi (infoEn hne);have NE:=Hi hne;have OE:=Hi h1e;have HX:=Hi hx;have ki0:(0:Int)≤(k:Int):=(by omega);have ki1:(k:Int)<(n:Int):=(by omega);have XA:Hid (Ext wr (wr.alloc (.cells CE 56))):=Hi ((Ext.refl _).alloc _);obtain⟨nv,hnv⟩:∃ n,e.vs.length=n:=⟨_,rfl⟩;have c0:(wr.alloc (.cells CE 56)).cell? ⟨wr.heap.size,0,none⟩=some (.slice e.vA nv e.vc):=(World.cell?_alloc_new _ _ _ _).trans (by rw[← hke,← hnv];rfl);have hv63:nv≤9223372036854775807:=by have:=hin.vc;unfold maxLen at this;omega
    have HIN:=Hi hin;clear hx hc hin hne h1e hke;by_cases h0:nv=0
    · have HF:=Hi (ids_step HX.out (by rw[num_nil (hnv.trans h0)];simp) HA.out);subst h0;clear hnv hce;go_wp2_with (first
       | (with_reducible refine wpList_load_arr rfl 56 (.tmp 13) rfl bb (off+k*7) (by with_unfolding_all rfl) CE _ HC.out Tryz.underlying56 rfl IE.out ?_)
       | (with_reducible refine wpList_store_new rfl 56 (.tmp 6) (.tmp 14) rfl _ CE 56 (by with_unfolding_all rfl) (by with_unfolding_all rfl) IE.out (by with_unfolding_all exact NE.out.symm) OE.out ?_))
      go_roundw;case rel=>exact⟨k+1,by omega,by go_num,HF,Hi (HE.out.trans XA.out)⟩
      case measure=>simp[intOf];omega
    · obtain⟨x,hx⟩:∃ x,e.vs[nv-1]?=some x:=⟨e.vs[nv-1]'(by omega),List.getElem?_eq_getElem _⟩;have HNU:=Hi (num_last hnv hx);obtain⟨q,hq⟩:∃ q,x.1.id=q:=⟨_,rfl⟩;rw[hq]at HNU;have K:=Hi (number_any e _ (HIN.out.ext XA.out) (by omega) HNU.out);rw[hce]at K;have hp:0<nv:=(by omega);have hp0:(0:Int)<(nv:Int):=(by omega);have hd:decide ((0:Int)<(nv:Int))=true:=decide_eq_true hp0;clear hnv hce hx hq h0;by_cases hqi:q=id
      · have t0:(q == id)=true:=(by rw[beq_iff_eq];exact hqi);have HF:Hid (v=(k:Int)):=Hi (by rw[← HV.out];exact ix_some HX.out (by rw[HNU.out,hqi]) HA.out);clear hqi;go_wp2_with (first
         | (with_reducible refine wpList_load_arr rfl 56 (.tmp 13) rfl bb (off+k*7) (by with_unfolding_all rfl) CE _ HC.out Tryz.underlying56 rfl IE.out ?_)
         | (with_reducible refine wpList_store_new rfl 56 (.tmp 6) (.tmp 14) rfl _ CE 56 (by with_unfolding_all rfl) (by with_unfolding_all rfl) IE.out (by with_unfolding_all exact NE.out.symm) OE.out ?_)
         | (refine wpList_load_row_w rfl 56 (.tmp 6) rfl wr.heap.size rfl _ CE _ _ (heap_alloc_last wr _) Tryz.underlying56 rfl IE.out ?_))
        with_reducible refine K.out.mono ?_
        rintro e w3 ⟨rfl,hb3⟩;go_wp2;go_ret;exact⟨ret_int HF.out.symm,(HE.out.trans XA.out).trans hb3⟩
      · have t0:(q == id)=false:=(by rw[beq_eq_false_iff_ne];exact hqi);have HF:=Hi (ids_step HX.out (by rw[HNU.out];intro e;injection e with e;exact hqi e) HA.out);clear hqi;go_wp2_with (first
         | (with_reducible refine wpList_load_arr rfl 56 (.tmp 13) rfl bb (off+k*7) (by with_unfolding_all rfl) CE _ HC.out Tryz.underlying56 rfl IE.out ?_)
         | (with_reducible refine wpList_store_new rfl 56 (.tmp 6) (.tmp 14) rfl _ CE 56 (by with_unfolding_all rfl) (by with_unfolding_all rfl) IE.out (by with_unfolding_all exact NE.out.symm) OE.out ?_)
         | (refine wpList_load_row_w rfl 56 (.tmp 6) rfl wr.heap.size rfl _ CE _ _ (heap_alloc_last wr _) Tryz.underlying56 rfl IE.out ?_))
        with_reducible refine K.out.mono ?_
        rintro e w3 ⟨rfl,hb3⟩;have HE3:=Hi ((HE.out.trans XA.out).trans hb3);clear hb3;go_wp2;go_roundw;case rel=>exact⟨k+1,by omega,by go_num,HF,HE3⟩
        case measure=>simp[intOf];omega
  · obtain rfl:k=n:=by omega
    have HF:Hid (v=-1):=Hi (by rw[← HV.out];exact ix_none HN.out HA.out);go_wp2;go_ret;exact⟨ret_int HF.out.symm,HE.out⟩
end Bk
set_option maxRecDepth 100000
set_option maxHeartbeats 25600000
open Go.RowKit
namespace Bk
theorem Got.keepT{X:Type}{E:Elt X}{W W':World}{N q:Nat}{A:Option Addr}{xs:List X}{c:Nat}{cur:Array Value}{T:TypeId}{fr:Nat×Nat}(h:Got E W N A xs c)(hq:W.heap[q]?=some (.cells cur T fr))(hne:E.T≠T)(ho:∀ x∈xs,E.Off q x)(hb:But q W W'):Got E W' N A xs c :=
 h.butO hb ⟨h.ty.off hq hne,ho⟩
theorem Got.offT{W:World}{N g:Nat}{A:Option Addr}{ys:List IL}{c:Nat}{cs:Array Value}{TG:TypeId}{fr:Nat×Nat}(h:Got eILt W N A ys c)(hg:W.heap[g]?=some (.cells cs TG fr))(h1:22≠TG)(h2:3≠TG):OffX eILt g A ys :=
 ⟨h.ty.off hg h1,fun y hy=>(h.sl.ins y hy).2.off hg h2⟩
theorem Got.plain{W:World}{N:Nat}{A:Option Addr}{ys:List IL}{c:Nat}(h:Got eILt W N A ys c):SlX eIL W A ys∧FromX eIL N A ys:=⟨⟨h.sl.sl,fun y hy=>(h.sl.ins y hy).1⟩,⟨h.frm.a,h.frm.ins⟩⟩
def its (xs:List ItL):List It.Item:=xs.map (·.1)
theorem its_next{xs ys:List ItL}{k:Nat}{x y:ItL}(h:its ys=its (xs.take k))(hx:xs[k]?=some x)(hy:y.1=x.1):its (ys ++ [y])=its (xs.take (k+1)):=by unfold its at *;rw[List.map_append,h,List.take_add_one,hx];simp[hy]
def OffV (e:EntL):Prop:=∀ q,(Value.slice e.vA e.vs.length e.vc).ownBlock=some q→OffA q e.ap.A e.ap.xs.length∧OffA q e.fa.A e.fa.xs.length∧OffX eAct q e.lA e.log∧OffX eIL q e.rA e.rows
def RetEn (w:World)(e:EntL)(r:Ending)(w':World):Prop :=
 ∃ e':EntL,r=.returned e'.agg∧e'.ent=e.ent∧e'.In w'∧e'.From w.heap.size∧RowX eIt 39 w' w.heap.size (.slice e'.vA e'.vs.length e'.vc) e'.vs∧OffV e'
structure KEn (e:EntL)(N g:Nat)(A1 A2 A3 A4:Option Addr)(c1 c2 c3 c4:Nat)(rs:List IL)(w:World):Prop where
 k1:Got eI w N A1 e.ap.xs c1
 k2:Got eI w N A2 e.fa.xs c2
 k3:Got eAct w N A3 e.log c3
 k4:Got eILt w N A4 rs c4
 o1:OffX eI g A1 e.ap.xs
 o2:OffX eI g A2 e.fa.xs
 o3:OffX eAct g A3 e.log
 o4:OffX eILt g A4 rs
theorem KEn.ext{e:EntL}{N g:Nat}{A1 A2 A3 A4:Option Addr}{c1 c2 c3 c4:Nat}{rs:List IL}{w w':World}(h:KEn e N g A1 A2 A3 A4 c1 c2 c3 c4 rs w)(he:Ext w w'):KEn e N g A1 A2 A3 A4 c1 c2 c3 c4 rs w':=⟨h.k1.ext he,h.k2.ext he,h.k3.ext he,h.k4.ext he,h.o1,h.o2,h.o3,h.o4⟩
theorem KEn.kt{e:EntL}{N g:Nat}{A1 A2 A3 A4:Option Addr}{c1 c2 c3 c4:Nat}{rs:List IL}{w w':World}{q:Nat}{cur:Array Value}{T:TypeId}{fr:Nat×Nat}(hq:w.heap[q]?=some (.cells cur T fr))(h1:3≠T)(h2:116≠T)(h3:22≠T)(hb:But q w w')(h:KEn e N g A1 A2 A3 A4 c1 c2 c3 c4 rs w):KEn e N g A1 A2 A3 A4 c1 c2 c3 c4 rs w' :=
 ⟨h.k1.keepT hq h1 (fun _ _=>trivial) hb,h.k2.keepT hq h1 (fun _ _=>trivial) hb,h.k3.keepT hq h2 (fun _ _=>trivial) hb,h.k4.keepT hq h3 (fun x hx=>(h.k4.sl.ins x hx).2.off hq h1) hb,h.o1,h.o2,h.o3,h.o4⟩
theorem KEn.ko{e:EntL}{N g:Nat}{A1 A2 A3 A4:Option Addr}{c1 c2 c3 c4:Nat}{rs:List IL}(w w':World)(q:Nat)(cur:Array Value)(fr:Nat×Nat)(hq:w.heap[q]?=some (.cells cur 39 fr))(hb:But q w w')(h:KEn e N g A1 A2 A3 A4 c1 c2 c3 c4 rs w):KEn e N g A1 A2 A3 A4 c1 c2 c3 c4 rs w':=h.kt hq (by decide) (by decide) (by decide) hb
theorem KEn.kg{e:EntL}{N g:Nat}{A1 A2 A3 A4:Option Addr}{c1 c2 c3 c4:Nat}{rs:List IL}(w w':World)(hb:But g w w')(h:KEn e N g A1 A2 A3 A4 c1 c2 c3 c4 rs w):KEn e N g A1 A2 A3 A4 c1 c2 c3 c4 rs w' :=
 ⟨h.k1.butO hb h.o1,h.k2.butO hb h.o2,h.k3.butO hb h.o3,h.k4.butO hb h.o4,h.o1,h.o2,h.o3,h.o4⟩
def KEn.kp (e:EntL)(N g:Nat)(A1 A2 A3 A4:Option Addr)(c1 c2 c3 c4:Nat)(rs:List IL):Kp:=⟨KEn e N g A1 A2 A3 A4 c1 c2 c3 c4 rs,fun h he=>h.ext he⟩
def Kp.blk (q:Nat)(cs:Array Value)(T:TypeId):Kp:=⟨fun w=>w.heap[q]?=some (.cells cs T (0,0)),fun h he=>he.blockAt h⟩
theorem KEn.offV{e:EntL}{N g base:Nat}{A1 A2 A3 A4 A5:Option Addr}{c1 c2 c3 c4 c5:Nat}{rs:List IL}{ys:List ItL}{w:World}(h:KEn e N g A1 A2 A3 A4 c1 c2 c3 c4 rs w)(hrow:RowX eIt 39 w base (.slice A5 ys.length c5) ys) :
    OffV (⟨A5,c5,ys,e.st,e.au,⟨A1,c1,e.ap.xs⟩,⟨A2,c2,e.fa.xs⟩,A3,c3,e.log,A4,c4,rs⟩:EntL):=fun q hq=>by
 obtain⟨cur,hb⟩:=own_block hrow.own q hq;have o:=h.k4.offT hb (by decide) (by decide);exact⟨h.k1.ty.off hb (by decide),h.k2.ty.off hb (by decide),⟨h.k3.ty.off hb (by decide),fun _ _=>trivial⟩,⟨o.a,o.ins⟩⟩
theorem KEn.done{e:EntL}{N g:Nat}{A1 A2 A3 A4 A5:Option Addr}{c1 c2 c3 c4 c5:Nat}{rs:List IL}{ys:List ItL}{w:World}(h:KEn e N g A1 A2 A3 A4 c1 c2 c3 c4 rs w)(hN:N≤g+1)(hst:In64 e.st)(hau:In64 e.au)
    (hrow:RowX eIt 39 w (g+1) (.slice A5 ys.length c5) ys) (hf:∀ y∈ys,eIt.From (g+1) y) (hy:its ys=its e.vs) (hr:rxs rs=rxs e.rows) :
    (⟨A5,c5,ys,e.st,e.au,⟨A1,c1,e.ap.xs⟩,⟨A2,c2,e.fa.xs⟩,A3,c3,e.log,A4,c4,rs⟩:EntL).ent=e.ent∧(⟨A5,c5,ys,e.st,e.au,⟨A1,c1,e.ap.xs⟩,⟨A2,c2,e.fa.xs⟩,A3,c3,e.log,A4,c4,rs⟩:EntL).In w ∧
     (⟨A5,c5,ys,e.st,e.au,⟨A1,c1,e.ap.xs⟩,⟨A2,c2,e.fa.xs⟩,A3,c3,e.log,A4,c4,rs⟩:EntL).From N:=by
 have g5:=hrow.got rfl rfl hf;have hl:=g5.low hN;refine⟨?_,⟨g5.sl,⟨g5.le,g5.mx⟩,hst,hau,h.k1.il,h.k2.il,h.k3.sl,⟨h.k3.le,h.k3.mx⟩,h.k4.plain.1,⟨h.k4.le,h.k4.mx⟩⟩,⟨hl.frm,h.k1.frm.a,h.k2.frm.a,h.k3.frm,h.k4.plain.2⟩⟩;unfold EntL.ent
 congr 1
def cenL (n0 nr rc:Nat)(rA:Option Addr)(a1 a2 a3 a4 a5:Value)(rows:List IL):List (Option Value→World→Prop):=[sv (.pointer (some ⟨n0,1,none⟩)),
 sv (.agg #[a1,a2,a3,a4,a5]),
 sv (.pointer (some ⟨n0,6,none⟩)),
 sv (.agg #[.slice rA nr rc]),
 fun u w=>∃ W:Option Addr×Nat×List IL,
 u=some (.agg #[.slice W.1 nr W.2.1])∧rxs W.2.2=rxs rows∧Got eILt w n0 W.1 W.2.2 W.2.1,
 fun u w=>∃ W:Option Addr×Nat×List IL,
 u=some (.agg #[.slice none 0 0,a1,a2,a3,a4,a5,.slice W.1 nr W.2.1])∧rxs W.2.2=rxs rows∧Got eILt w n0 W.1 W.2.2 W.2.1,
 fun u w=>∃ g:Nat,
 u=some (.pointer (some ⟨g,0,none⟩))∧n0+1+1≤g∧w.heap[g]?=some (.cells #[.slice none 0 0,.int .i64 0,.int .i64 0,.slice none 0 0,.slice none 0 0,.slice none 0 0,.slice none 0 0] 56 (0,0)),
 fun u w=>∃ W:Nat×Option Addr×Nat×List IL,
 u=some (.pointer (some ⟨W.1,0,none⟩))∧n0+1+1≤W.1∧w.heap[W.1]?=some (.cells #[.slice none 0 0,a1,a2,a3,a4,a5,.slice W.2.1 nr W.2.2.1] 56 (0,0))∧rxs W.2.2.2=rxs rows∧Got eILt w n0 W.2.1 W.2.2.2 W.2.2.1∧OffX eILt W.1 W.2.1 W.2.2.2]
theorem cenL_mono(n0 nr rc:Nat)(rA:Option Addr)(a1 a2 a3 a4 a5:Value)(rows:List IL):AllMono (cenL n0 nr rc rA a1 a2 a3 a4 a5 rows):=⟨mono_val _,mono_val _,mono_val _,mono_val _,(fun _ _ _ he h=>h.elim fun W h=>⟨W,h.1,h.2.1,h.2.2.ext he⟩),(fun _ _ _ he h=>h.elim fun W h=>⟨W,h.1,h.2.1,h.2.2.ext he⟩),(fun _ _ _ he h=>h.elim fun W h=>⟨W,h.1,h.2.1,he.blockAt h.2.2⟩),(fun _ _ _ he h=>h.elim fun W h=>⟨W,h.1,h.2.1,he.blockAt h.2.2.1,h.2.2.2.1,h.2.2.2.2.1.ext he,h.2.2.2.2.2⟩),trivial⟩
def cenD:List Nat:=[6,7,8,9,10,11,3,3]
def cenC (j:Nat):Option Nat:=if j=4 then some 5 else if j=5 then some 7 else if j=6 then some 7 else none
def cenE (n0:Nat)(t:Array Value):Prop:=t.getD 1 undef=.pointer (some ⟨n0,0,none⟩)∧t.size=46

def cevL (g N k cr q5:Nat)(Ar:Option Addr)(ys:List ItL)(CI CK:Array Value)(it:It.Item)(K:Kp):List (Option Value→World→Prop):=[sv (.pointer (some ⟨g,0,none⟩)),
 sv (.slice Ar k cr),
 sv (.agg CI),
 fun u w=>PNew eIt (N) (fun y:ItL=>y.1=it) ((fun y:ItL=>It.agg y.1 y.2)) u w,
 fun u w=>POne eIt (N) (fun y:ItL=>y.1=it) u w,
 fun u w=>PApp eIt (fun y:ItL=>y.1=it) 39 (g+1) ys (g) (CK) 56 (K) u w,
 sv (.pointer (some ⟨g,0,none⟩)),
 fun _ w=>PSto eIt (fun y:ItL=>y.1=it) 39 (g+1) ys (g) 0 (CK) 56 (K) w,
 fun _ w=>PRow eIt 39 (N) (g+1) (.slice Ar k cr) ys (g) (CK) 56 (K) (Kp.blk q5 CI 39) w]
theorem cevL_mono(g N k cr q5:Nat)(Ar:Option Addr)(ys:List ItL)(CI CK:Array Value)(it:It.Item)(K:Kp):AllMono (cevL g N k cr q5 Ar ys CI CK it K):=⟨mono_val _,mono_val _,mono_val _,(fun _ _ _ he h=>PNew.mono he h),(fun _ _ _ he h=>POne.mono he h),(fun _ _ _ he h=>PApp.mono he h),mono_val _,(fun _ _ _ he h=>PSto.mono he h),(fun _ _ _ he h=>PRow.mono he h),trivial⟩
def cevD:List Nat:=[37,38,39,40,41,42,43,900,901]
def cevC (j:Nat):Option Nat:=if j=3 then some 4 else if j=4 then some 5 else if j=5 then some 7 else if j=8 then some 5 else none
def cevE (g q5:Nat)(t:Array Value):Prop:=t.getD 3 undef=.pointer (some ⟨g,0,none⟩)∧t.getD 5 undef=.pointer (some ⟨q5,0,none⟩)∧t.size=46

theorem bcopyEntry_any(e:EntL)(w:World)(h:e.In w)(hz:EntSz e.ent) :
    Calls Tryz.prog 39 #[e.agg] w fun r w'=>RetEn w e r w'∧Ext w w':=by
 obtain⟨CE,hce,hne,h1e,hke⟩:=e.packed;rw[hce];obtain⟨B,hB⟩:∃ B,(w.alloc (.cells CE 56)).alloc (.cells #[.slice none 0 0,.int .i64 0,.int .i64 0,.slice none 0 0,.slice none 0 0,.slice none 0 0,.slice none 0 0] 56)=B:=⟨_,rfl⟩;have HBX:Hid (Ext w B):=Hi (by rw[← hB];exact((Ext.refl _).alloc _).alloc _);have HBS:Hid (B.heap.size=w.heap.size+1+1):=Hi (by rw[← hB];simp);have HBA:Hid (B.heap[w.heap.size]?=some (.cells CE 56 (0,0))):=Hi (by rw[← hB];exact two_fst' _ _ _);have HBZ:Hid (B.heap[w.heap.size+1]?=some (.cells #[.slice none 0 0,.int .i64 0,.int .i64 0,.slice none 0 0,.slice none 0 0,.slice none 0 0,.slice none 0 0] 56 (0,0))):=Hi (by rw[← hB];exact heap_new_at _ _ _ (by simp));have HBH:=Hi hB;have H:=Hi h;obtain⟨nr,hnr⟩:∃ n,e.rows.length=n:=⟨_,rfl⟩;obtain⟨nv,hnv⟩:∃ n,e.vs.length=n:=⟨_,rfl⟩;have HNR:=Hi hnr;have HNV:=Hi hnv;have HRW:Hid (SlX eIL B e.rA e.rows):=Hi (h.rows.ext HBX.out);have HZR:Hid (nr*24≤140737488355328):=Hi (by have:=hz.rows;simp only[EntL.ent,List.length_map,hnr]at this;exact this);have HZ1:Hid (∀ r∈e.rows,r.xs.length*8≤140737488355328):=Hi (fun r hr=>hz.row r.xs (List.mem_map.2 ⟨r,hr,rfl⟩));have HZV:Hid (nv*216≤140737488355328):=Hi (by have:=hz.vs;simp only[EntL.ent,List.length_map,hnv]at this;exact this);have HZI:Hid (∀ x∈e.vs,ItSz x.1):=Hi (fun x hx=>hz.its x.1 (List.mem_map.2 ⟨x,hx,rfl⟩));have sm1:e.ap.xs.length*8≤140737488355328:=hz.ap;have sm2:e.fa.xs.length*8≤140737488355328:=hz.fa;have sm3:e.log.length*32≤140737488355328:=hz.log;have HR1:Hid (B.rangeAt w.heap.size 1 (#[.int .i64 e.st,.int .i64 e.au,e.ap.val,e.fa.val,.slice e.lA e.log.length e.lc]:Array Value).toList):=Hi (fun j v hv=>by
  rw[cell_of_row _ _ (1+j) _ _ _ HBA.out,← hke]
  match j,hv with
  | 0,hv=>exact hv
  | 1,hv=>exact hv
  | 2,hv=>exact hv
  | 3,hv=>exact hv
  | 4,hv=>exact hv
  | j+5,hv=>simp at hv)
 have HR2:Hid (B.rangeAt w.heap.size 6 (#[.slice e.rA nr e.rc]:Array Value).toList):=Hi (fun j v hv=>by
  rw[cell_of_row _ _ (6+j) _ _ _ HBA.out,← hke]
  match j,hv with
  | 0,hv=>rw[← hnr]at hv;exact hv
  | j+1,hv=>simp at hv)
 have IRV:Hid ((Tryz.prog.info? 54).map (·.size)=some (#[.int .i64 e.st,.int .i64 e.au,e.ap.val,e.fa.val,.slice e.lA e.log.length e.lc]:Array Value).size):=Hi (infoRev rfl);have IMD:Hid ((Tryz.prog.info? 46).map (·.size)=some (#[.slice e.rA nr e.rc]:Array Value).size):=Hi (infoMd rfl);have IE7:Hid ((Tryz.prog.info? 56).map (·.size)=some 7):=Hi ((infoEn hne).trans (by rw[hne]));have EN1:=Hi (enters_of Tryz.func80 (by kernel_rfl) rfl);clear hB h hz hnr hnv;go_enter Tryz.func39,Tryz.ntmps39
 go_wp2_with fail
 refine region_tb (by kernel_rfl) (by decide +kernel) (cenE w.heap.size) ⟨rfl,rfl⟩ 8 cenD cenC (RG (cenL w.heap.size nr e.rc e.rA ((.int .i64 e.st)) ((.int .i64 e.au)) e.ap.val e.fa.val ((.slice e.lA e.log.length e.lc)) e.rows)) B (by rw[HBH.out];exact Ext.refl _) (fun i h1 h2=>absurd h2 (Nat.not_lt.2 h1)) ?_ ?_
 · intro Tv dd lv U wz i oZ hE ho hlv hd hT;obtain⟨t1,tz⟩:=hE;have hx:=hT.ext;have rX:=RG.ext (cenL_mono w.heap.size nr e.rc e.rA ((.int .i64 e.st)) ((.int .i64 e.au)) e.ap.val e.fa.val ((.slice e.lA e.log.length e.lc)) e.rows)
   match i,ho,hlv,hd with
   | 0,ho,hlv,hd=>cases oi ho;exact yl1 hT rX ho hd (.pointer (some ⟨w.heap.size,1,none⟩)) (od dd hT tz t1)
   | 1,ho,hlv,hd=>cases oi ho;have v0:=nw dd hT hd tz 0 6 (.pointer (some ⟨w.heap.size,1,none⟩));exact yxe hT rX ho hd (.agg #[(.int .i64 e.st),(.int .i64 e.au),e.ap.val,e.fa.val,(.slice e.lA e.log.length e.lc)]) (exec_load_arr _ _ rfl w.heap.size (1) v0 #[.int .i64 e.st,.int .i64 e.au,e.ap.val,e.fa.val,.slice e.lA e.log.length e.lc] _ (hx.range HR1.out) Tryz.underlying54 rfl IRV.out)
   | 2,ho,hlv,hd=>cases oi ho;exact yl1 hT rX ho hd (.pointer (some ⟨w.heap.size,6,none⟩)) (od dd hT tz t1)
   | 3,ho,hlv,hd=>cases oi ho;have v0:=nw dd hT hd tz 2 8 (.pointer (some ⟨w.heap.size,6,none⟩));exact yxe hT rX ho hd (.agg #[.slice e.rA nr e.rc]) (exec_load_arr _ _ rfl w.heap.size (6) v0 #[.slice e.rA nr e.rc] _ (hx.range HR2.out) Tryz.underlying46 rfl IMD.out)
   | 4,ho,hlv,hd=>cases oi ho;have v0:=nw dd hT hd tz 3 9 (.agg #[.slice e.rA nr e.rc]);refine cl hT rX ho hd (f:=80) (args:=#[.agg #[.slice e.rA nr e.rc]]) (exec_call1 rfl rfl v0 EN1.out) ?_;refine(bcopyModel_any e.rA e.rc e.rows HNR.out wz (HRW.out.ext hx) HZR.out HZ1.out).mono ?_;rintro r w' ⟨⟨A,c,ys,rfl,h1,h2⟩,hb⟩;rw[HNR.out];exact⟨_,rfl,hb,(A,c,ys),rfl,h1,h2.low (Nat.le_trans (by rw[HBS.out];omega) hx.size)⟩
   | 5,ho,hlv,hd=>cases oi ho;have v0:=nw dd hT hd tz 1 7 (.agg #[(.int .i64 e.st),(.int .i64 e.au),e.ap.val,e.fa.val,(.slice e.lA e.log.length e.lc)]);obtain⟨W,e0,h1,h2⟩:∃ W:Option Addr×Nat×List IL,U 10=some (.agg #[.slice W.1 nr W.2.1])∧rxs W.2.2=rxs e.rows∧Got eILt wz w.heap.size W.1 W.2.2 W.2.1:=hT.facts 4 (by decide) (dep hd 4 (by kernel_rfl)) (fun c e=>by injection e with e;subst e;exact hlv);have v1:Act.eval ⟨over Tv U,dd⟩ (.tmp 10)=_:=eval_new (t:=Tv) (d:=dd) e0 (by show 10<Tv.size;omega);exact yxe hT rX ho hd (.agg #[.slice none 0 0,(.int .i64 e.st),(.int .i64 e.au),e.ap.val,e.fa.val,(.slice e.lA e.log.length e.lc),.slice W.1 nr W.2.1]) (exec_buildL 56 _ rfl [(1,.agg #[.int .i64 e.st,.int .i64 e.au,e.ap.val,e.fa.val,.slice e.lA e.log.length e.lc]),(2,.agg #[.slice W.1 nr W.2.1])] (by simp[v0,v1]) _ (by kernel_rfl)) (hR:=⟨W,rfl,h1,h2⟩)
   | 6,ho,hlv,hd =>
    cases oi ho;refine tb_extW (v:=.pointer (some ⟨wz.heap.size,0,none⟩)) (w':=wz.alloc (.cells #[.slice none 0 0,.int .i64 0,.int .i64 0,.slice none 0 0,.slice none 0 0,.slice none 0 0,.slice none 0 0] 56)) (RG.ext (cenL_mono w.heap.size nr e.rc e.rA ((.int .i64 e.st)) ((.int .i64 e.au)) e.ap.val e.fa.val ((.slice e.lA e.log.length e.lc)) e.rows)) hT ho hd rfl rfl (by decide) ?_ ?_ ((Ext.refl _).alloc _) ⟨wz.heap.size,rfl,by have:=hx.size;rw[HBS.out]at this;exact this,heap_alloc_new _ _⟩
    · intro j hj hji hlj
      match j,hj,hlj with
      | 0,_,_=>decide
      | 1,_,_=>decide
      | 2,_,_=>decide
      | 3,_,_=>decide
      | 4,_,_=>decide
      | 5,_,_=>decide
      | 6,_,_=>exact absurd rfl hji
      | 7,_,hlj=>exact absurd (dep (hT.shut 7 _ rfl hlj) 6 (by kernel_rfl)) (by rw[hlv];decide)
      | j+8,hj,_=>exact absurd hj (by omega)
    · generalize Act.eval ⟨over Tv U,dd⟩=ev at *;simp[execOp,go_sem]
   | 7,ho,hlv,hd =>
    cases oi ho;obtain⟨W,e1,h1,h2⟩:∃ W:Option Addr×Nat×List IL,U 11=some (.agg #[.slice none 0 0,(.int .i64 e.st),(.int .i64 e.au),e.ap.val,e.fa.val,(.slice e.lA e.log.length e.lc),.slice W.1 nr W.2.1])∧rxs W.2.2=rxs e.rows∧Got eILt wz w.heap.size W.1 W.2.2 W.2.1:=hT.facts 5 (by decide) (dep hd 5 (by kernel_rfl)) (fun c e=>by injection e with e;subst e;exact hlv);have v1:Act.eval ⟨over Tv U,dd⟩ (.tmp 11)=_:=eval_new (t:=Tv) (d:=dd) e1 (by show 11<Tv.size;omega);obtain⟨g,e0,hg,hblk⟩:∃ g:Nat,U 3=some (.pointer (some ⟨g,0,none⟩))∧w.heap.size+1+1≤g∧wz.heap[g]?=some (.cells #[.slice none 0 0,.int .i64 0,.int .i64 0,.slice none 0 0,.slice none 0 0,.slice none 0 0,.slice none 0 0] 56 (0,0)):=hT.facts 6 (by decide) (dep hd 6 (by kernel_rfl)) (fun c e=>by injection e with e;subst e;exact hlv);have v0:Act.eval ⟨over Tv U,dd⟩ (.tmp 3)=_:=eval_new (t:=Tv) (d:=dd) e0 (by show 3<Tv.size;omega);have hoff:=h2.offT hblk (by decide) (by decide);refine tb_store (w':=wz.setRow g #[.slice none 0 0,(.int .i64 e.st),(.int .i64 e.au),e.ap.val,e.fa.val,(.slice e.lA e.log.length e.lc),.slice W.1 nr W.2.1]) hT ho hd rfl rfl (exec_store_row 56 (.tmp 3) (.tmp 11) rfl g _ v0 v1 56 _ hblk IE7.out rfl (by simp[IL.val,Value.oneCell'])) (hx.rowSet (by rw[HBS.out];exact hg) _) ⟨(g,W),e0,hg,setRow_heap _ _ _ _ _ _ hblk,h1,h2.butO (But.setRow g wz _) hoff,hoff⟩ ?_;intro j hj hji hlj hcj hR
    match j,hj,hR with
    | 0,_,hR=>exact hR
    | 1,_,hR=>exact hR
    | 2,_,hR=>exact hR
    | 3,_,hR=>exact hR
    | 4,_,_=>exact absurd (dep hd 5 (by kernel_rfl)) (by rw[(hcj 5 rfl).2];decide)
    | 5,_,_=>exact absurd rfl (hcj 7 rfl).1
    | 6,_,_=>exact absurd rfl (hcj 7 rfl).1
    | 7,_,_=>exact absurd rfl hji
    | j+8,hj,_=>exact absurd hj (by omega)
   | i+8,ho,_,_=>exact absurd ho (by simp)
 intro U wz hex hout hfin;obtain⟨W3,f3,hW3⟩:=hfin 7 (by decide) rfl
 change U 3=_ at f3
 have XE:=Hi hex;clear hex hfin;rw[over_list];simp(disch:=decide) only[overL,Nat.reduceAdd,hout,Option.getD_none];rw[f3];simp only[Option.getD_some];clear hout f3;obtain⟨g,A4,c4,rs⟩:=W3;obtain⟨hg,hblk,hrx,hgot,hoff⟩:=hW3
 dsimp only at hg hblk hrx hgot hoff ⊢
 obtain⟨CA,hca⟩:∃ C,(#[.slice none 0 0,.int .i64 e.st,.int .i64 e.au,e.ap.val,e.fa.val,.slice e.lA e.log.length e.lc,.slice A4 nr c4]:Array Value)=C:=⟨_,rfl⟩;rw[hca]at hblk;have HCA:=Hi hca;have HC0:=Hi hblk;have HA0:=Hi (XE.out.blockAt HBA.out);have HZ0:=Hi (XE.out.blockAt HBZ.out);have HX0:=Hi (HBX.out.trans XE.out);have HB0:=XE;have MO0:=Hi hgot;have HOFF:=Hi hoff;have HRX:=Hi hrx;have HBG:Hid (B.heap.size≤g):=Hi (by rw[HBS.out];exact hg);have HRL:Hid (rs.length=nr):=Hi (by have:=congrArg List.length hrx;unfold rxs at this;rw[List.length_map,List.length_map]at this;exact this.trans HNR.out);have J0:Hid (CE[0]?=some (.slice e.vA nv e.vc)):=Hi (by rw[← hke,← HNV.out];rfl);have J3:Hid (CE[3]?=some (.slice e.ap.A e.ap.xs.length e.ap.c)):=Hi (by rw[← hke];rfl);have J4:Hid (CE[4]?=some (.slice e.fa.A e.fa.xs.length e.fa.c)):=Hi (by rw[← hke];rfl);have J5:Hid (CE[5]?=some (.slice e.lA e.log.length e.lc)):=Hi (by rw[← hke];rfl);have K3_0:Hid (CA[3]?=some (.slice e.ap.A e.ap.xs.length e.ap.c)):=Hi (by rw[← hca];rfl);have K4_0:Hid (CA[4]?=some (.slice e.fa.A e.fa.xs.length e.fa.c)):=Hi (by rw[← hca];rfl);have K5_0:Hid (CA[5]?=some (.slice e.lA e.log.length e.lc)):=Hi (by rw[← hca];rfl);obtain⟨n1,hn1⟩:∃ n,e.ap.xs.length=n:=⟨_,rfl⟩;obtain⟨n2,hn2⟩:∃ n,e.fa.xs.length=n:=⟨_,rfl⟩;obtain⟨n3,hn3⟩:∃ n,e.log.length=n:=⟨_,rfl⟩;rw[hn1]at J3 K3_0 sm1;rw[hn2]at J4 K4_0 sm2;rw[hn3]at J5 K5_0 sm3;have HL1:=Hi hn1;have HL2:=Hi hn2;have HL3:=Hi hn3;obtain⟨VA,hVA⟩:∃ A,e.vA=A:=⟨_,rfl⟩;rw[hVA]at J0;have HVS:Hid (SlX eIt B VA e.vs):=Hi (by rw[← hVA];exact H.out.vs.ext HBX.out);have hv63:nv≤9223372036854775807:=by have:=HZV.out;omega
 clear hblk hrx hgot hoff hca hn1 hn2 hn3 hVA XE hce hne h1e hke HR1 HR2 IRV IMD;have cf:wz.cell? ⟨w.heap.size,3,none⟩=some (.slice e.ap.A n1 e.ap.c):=(cell_of_row _ _ 3 _ _ _ HA0.out).trans J3.out;have SL1:=Hi (SlX.ofI (H.out.ext HX0.out).ap.1 H.out.ap.2.2.2);go_wp2_with fail
 with_reducible refine(cloneI e.ap.A e.ap.c e.ap.xs HL1.out _ SL1.out sm1).mono ?_
 rintro e0 w1 hr;obtain⟨A1,c1,rfl,hg0,hb⟩:=hr.got HL1.out (fun _ _=>trivial);clear hr cf;have HZ1w:=Hi (hb.blockAt HZ0.out);have HC1w:=Hi (hb.blockAt HC0.out);have HA1w:=Hi (hb.blockAt HA0.out);have G1:=Hi (hg0.low (show g+1≤_ from blk_lt HC0.out));have kf:w1.cell? ⟨g,3,none⟩=some (.slice e.ap.A n1 e.ap.c):=(cell_of_row _ _ 3 _ _ _ HC1w.out).trans K3_0.out;have ff:w1.frozen? ⟨g,3,none⟩=false:=frozen_of_row _ _ _ _ _ HC1w.out;have HX1w:=Hi (HX0.out.trans hb);obtain⟨C1,hC1⟩:∃ C,CA.setIfInBounds 3 (.slice A1 n1 c1)=C:=⟨_,rfl⟩;have HA1:Hid ((w1.setCell ⟨g,3,none⟩ (.slice A1 n1 c1)).heap[w.heap.size]?=some (.cells CE 56 (0,0))):=Hi ((heap_setCell_other _ _ _ _ (by simp;try omega)).trans HA1w.out);have HZ1:Hid ((w1.setCell ⟨g,3,none⟩ (.slice A1 n1 c1)).heap[w.heap.size+1]?=some (.cells #[.slice none 0 0,.int .i64 0,.int .i64 0,.slice none 0 0,.slice none 0 0,.slice none 0 0,.slice none 0 0] 56 (0,0))):=Hi ((heap_setCell_other _ _ _ _ (by simp;try omega)).trans HZ1w.out);have HC1:Hid ((w1.setCell ⟨g,3,none⟩ (.slice A1 n1 c1)).heap[g]?=some (.cells C1 56 (0,0))):=Hi (by rw[← hC1];exact heap_setCell_same _ _ _ _ _ _ HC1w.out);have HX1:Hid (Ext w (w1.setCell ⟨g,3,none⟩ (.slice A1 n1 c1))):=Hi (HX1w.out.setCell (show w.heap.size≤g by omega) _);have G1:Hid (Got eI (w1.setCell ⟨g,3,none⟩ (.slice A1 n1 c1)) (g+1) A1 e.ap.xs c1):=Hi (G1.out.put (by omega) _ _);have K4_1:=Hi ((by rw[← hC1,Array.getElem?_setIfInBounds_ne (by decide)]:C1[4]?=CA[4]?).trans K4_0.out);have K5_1:=Hi ((by rw[← hC1,Array.getElem?_setIfInBounds_ne (by decide)]:C1[5]?=CA[5]?).trans K5_0.out);have HB1:Hid (Ext B (w1.setCell ⟨g,3,none⟩ (.slice A1 n1 c1))):=Hi ((HB0.out.trans hb).setCell HBG.out _);have MO1:Hid (Got eILt (w1.setCell ⟨g,3,none⟩ (.slice A1 n1 c1)) w.heap.size A4 rs c4):=Hi ((MO0.out.ext hb).butO (But.setCell w1 ⟨g,3,none⟩ _) HOFF.out);have HS1:=Hi hC1;clear hC1 hg0 hb;have cf:(w1.setCell ⟨g,3,none⟩ (.slice A1 n1 c1)).cell? ⟨w.heap.size,4,none⟩=some (.slice e.fa.A n2 e.fa.c):=(cell_of_row _ _ 4 _ _ _ HA1.out).trans J4.out;have SL2:=Hi (SlX.ofI (H.out.ext HX1.out).fa.1 H.out.fa.2.2.2);go_wp2_with fail
 with_reducible refine(cloneI e.fa.A e.fa.c e.fa.xs HL2.out _ SL2.out sm2).mono ?_
 rintro e0 w2 hr;obtain⟨A2,c2,rfl,hg0,hb⟩:=hr.got HL2.out (fun _ _=>trivial);clear hr cf kf ff;have HZ2w:=Hi (hb.blockAt HZ1.out);have HC2w:=Hi (hb.blockAt HC1.out);have HA2w:=Hi (hb.blockAt HA1.out);have G2:=Hi (hg0.low (show g+1≤_ from blk_lt HC1.out));have G1:=Hi (G1.out.ext hb);have kf:w2.cell? ⟨g,4,none⟩=some (.slice e.fa.A n2 e.fa.c):=(cell_of_row _ _ 4 _ _ _ HC2w.out).trans K4_1.out;have ff:w2.frozen? ⟨g,4,none⟩=false:=frozen_of_row _ _ _ _ _ HC2w.out;have HX2w:=Hi (HX1.out.trans hb);obtain⟨C2,hC2⟩:∃ C,C1.setIfInBounds 4 (.slice A2 n2 c2)=C:=⟨_,rfl⟩;have HA2:Hid ((w2.setCell ⟨g,4,none⟩ (.slice A2 n2 c2)).heap[w.heap.size]?=some (.cells CE 56 (0,0))):=Hi ((heap_setCell_other _ _ _ _ (by simp;try omega)).trans HA2w.out);have HZ2:Hid ((w2.setCell ⟨g,4,none⟩ (.slice A2 n2 c2)).heap[w.heap.size+1]?=some (.cells #[.slice none 0 0,.int .i64 0,.int .i64 0,.slice none 0 0,.slice none 0 0,.slice none 0 0,.slice none 0 0] 56 (0,0))):=Hi ((heap_setCell_other _ _ _ _ (by simp;try omega)).trans HZ2w.out);have HC2:Hid ((w2.setCell ⟨g,4,none⟩ (.slice A2 n2 c2)).heap[g]?=some (.cells C2 56 (0,0))):=Hi (by rw[← hC2];exact heap_setCell_same _ _ _ _ _ _ HC2w.out);have HX2:Hid (Ext w (w2.setCell ⟨g,4,none⟩ (.slice A2 n2 c2))):=Hi (HX2w.out.setCell (show w.heap.size≤g by omega) _);have G1:Hid (Got eI (w2.setCell ⟨g,4,none⟩ (.slice A2 n2 c2)) (g+1) A1 e.ap.xs c1):=Hi (G1.out.put (by omega) _ _);have G2:Hid (Got eI (w2.setCell ⟨g,4,none⟩ (.slice A2 n2 c2)) (g+1) A2 e.fa.xs c2):=Hi (G2.out.put (by omega) _ _);have K5_2:=Hi ((by rw[← hC2,Array.getElem?_setIfInBounds_ne (by decide)]:C2[5]?=C1[5]?).trans K5_1.out);have HB2:Hid (Ext B (w2.setCell ⟨g,4,none⟩ (.slice A2 n2 c2))):=Hi ((HB1.out.trans hb).setCell HBG.out _);have MO2:Hid (Got eILt (w2.setCell ⟨g,4,none⟩ (.slice A2 n2 c2)) w.heap.size A4 rs c4):=Hi ((MO1.out.ext hb).butO (But.setCell w2 ⟨g,4,none⟩ _) HOFF.out);have HS2:=Hi hC2;clear hC2 hg0 hb;have cf:(w2.setCell ⟨g,4,none⟩ (.slice A2 n2 c2)).cell? ⟨w.heap.size,5,none⟩=some (.slice e.lA n3 e.lc):=(cell_of_row _ _ 5 _ _ _ HA2.out).trans J5.out;have SL3:=Hi ((H.out.ext HX2.out).log);go_wp2_with fail
 with_reducible refine(cloneAct e.lA e.lc e.log HL3.out _ SL3.out sm3).mono ?_
 rintro e0 w3 hr;obtain⟨A3,c3,rfl,hg0,hb⟩:=hr.got HL3.out (fun _ _=>trivial);clear hr cf kf ff;have HZ3w:=Hi (hb.blockAt HZ2.out);have HC3w:=Hi (hb.blockAt HC2.out);have HA3w:=Hi (hb.blockAt HA2.out);have G3:=Hi (hg0.low (show g+1≤_ from blk_lt HC2.out));have G1:=Hi (G1.out.ext hb);have G2:=Hi (G2.out.ext hb);have kf:w3.cell? ⟨g,5,none⟩=some (.slice e.lA n3 e.lc):=(cell_of_row _ _ 5 _ _ _ HC3w.out).trans K5_2.out;have ff:w3.frozen? ⟨g,5,none⟩=false:=frozen_of_row _ _ _ _ _ HC3w.out;have HX3w:=Hi (HX2.out.trans hb);obtain⟨C3,hC3⟩:∃ C,C2.setIfInBounds 5 (.slice A3 n3 c3)=C:=⟨_,rfl⟩;have HA3:Hid ((w3.setCell ⟨g,5,none⟩ (.slice A3 n3 c3)).heap[w.heap.size]?=some (.cells CE 56 (0,0))):=Hi ((heap_setCell_other _ _ _ _ (by simp;try omega)).trans HA3w.out);have HZ3:Hid ((w3.setCell ⟨g,5,none⟩ (.slice A3 n3 c3)).heap[w.heap.size+1]?=some (.cells #[.slice none 0 0,.int .i64 0,.int .i64 0,.slice none 0 0,.slice none 0 0,.slice none 0 0,.slice none 0 0] 56 (0,0))):=Hi ((heap_setCell_other _ _ _ _ (by simp;try omega)).trans HZ3w.out);have HC3:Hid ((w3.setCell ⟨g,5,none⟩ (.slice A3 n3 c3)).heap[g]?=some (.cells C3 56 (0,0))):=Hi (by rw[← hC3];exact heap_setCell_same _ _ _ _ _ _ HC3w.out);have HX3:Hid (Ext w (w3.setCell ⟨g,5,none⟩ (.slice A3 n3 c3))):=Hi (HX3w.out.setCell (show w.heap.size≤g by omega) _);have G1:Hid (Got eI (w3.setCell ⟨g,5,none⟩ (.slice A3 n3 c3)) (g+1) A1 e.ap.xs c1):=Hi (G1.out.put (by omega) _ _);have G2:Hid (Got eI (w3.setCell ⟨g,5,none⟩ (.slice A3 n3 c3)) (g+1) A2 e.fa.xs c2):=Hi (G2.out.put (by omega) _ _);have G3:Hid (Got eAct (w3.setCell ⟨g,5,none⟩ (.slice A3 n3 c3)) (g+1) A3 e.log c3):=Hi (G3.out.put (by omega) _ _);have HB3:Hid (Ext B (w3.setCell ⟨g,5,none⟩ (.slice A3 n3 c3))):=Hi ((HB2.out.trans hb).setCell HBG.out _);have MO3:Hid (Got eILt (w3.setCell ⟨g,5,none⟩ (.slice A3 n3 c3)) w.heap.size A4 rs c4):=Hi ((MO2.out.ext hb).butO (But.setCell w3 ⟨g,5,none⟩ _) HOFF.out);have HS3:=Hi hC3;clear hC3 hg0 hb;have cv:(w3.setCell ⟨g,5,none⟩ (.slice A3 n3 c3)).cell? ⟨w.heap.size,0,none⟩=some (.slice VA nv e.vc):=(cell_of_row _ _ 0 _ _ _ HA3.out).trans J0.out;have HSZ:Hid (C3.size=7):=Hi (by rw[← HS3.out,← HS2.out,← HS1.out,← HCA.out];rfl);have HS0:Hid (C3[0]?=some (.slice none 0 0)):=Hi (by rw[← HS3.out,← HS2.out,← HS1.out,← HCA.out];rfl);have EN2:=Hi (enters_of Tryz.func43 (by kernel_rfl) rfl);obtain⟨iI,hi,hz,hs,hb⟩:=info_parts infoIt;have HK3:Hid (KEn e w.heap.size g A1 A2 A3 A4 c1 c2 c3 c4 rs (w3.setCell ⟨g,5,none⟩ (.slice A3 n3 c3))):=Hi ⟨G1.out.low (by omega),G2.out.low (by omega),G3.out.low (by omega),MO3.out,G1.out.frm.off (Nat.lt_succ_self _),G2.out.frm.off (Nat.lt_succ_self _),G3.out.frm.off (Nat.lt_succ_self _),HOFF.out⟩;go_wp2;go_loopw [33] (fun i wr=>∃ (k:Nat) (ys:List ItL) (Ar:Option Addr) (cr:Nat),k≤nv∧i=.int .i64 k∧Hid (its ys=its (e.vs.take k))∧Hid (ys.length=k)∧Hid (RowX eIt 39 wr (g+1) (.slice Ar k cr) ys)∧Hid (∀ y∈ys,eIt.From (g+1) y)∧Hid (wr.heap[g]?=some (.cells (C3.setIfInBounds 0 (.slice Ar k cr)) 56 (0,0)))∧Hid (Ext B wr)∧Hid (KEn e w.heap.size g A1 A2 A3 A4 c1 c2 c3 c4 rs wr)) (fun i _=>nv-(intOf i).toNat)
 case atStart=>exact⟨0,[],none,0,by omega,rfl,Hi rfl,Hi rfl,Hi (RowX.nil _ _ _),Hi (fun y hy=>by simp at hy),Hi (by rw[set_self HS0.out];exact HC3.out),HB3,HK3⟩
 case round =>
  obtain⟨k,ys,Ar,cr,hk,rfl,HY,HYL,HROW,HYF,HG,HXB,HK⟩:=hrel;clear cv;by_cases hlt:k<nv
  · obtain⟨x,hx⟩:∃ x,e.vs[k]?=some x:=⟨e.vs[k]'(by rw[HNV.out];exact hlt),List.getElem?_eq_getElem _⟩;obtain⟨b,off,rfl,hbl,hc,hin⟩:=HVS.out.at_ hx;obtain⟨CI,hci,hni,h1i,hki⟩:=itp x;have HC:Hid (wr.rangeAt b (off+k*17) CI.toList):=Hi (HXB.out.range (by rw[← hki];exact hc));have II:=Hi (infoItem hni);have NI:=Hi hni;have OI:=Hi h1i;have HIN:Hid (It.In B x.1 x.2):=Hi hin;have HX:=Hi hx;have HCI:=Hi (fun w h=>bcopyItem_any x.1 x.2 w h (HZI.out x (List.mem_of_getElem? hx)));rw[hci]at HCI;have ki0:(0:Int)≤(k:Int):=(by omega);have ki1:(k:Int)<(nv:Int):=(by omega);clear hx hc hin hci hni h1i hki;have XW:Hid (Ext wr (wr.alloc (.cells CI 39))):=Hi ((Ext.refl _).alloc _);have HCO:Hid ((C3.setIfInBounds 0 (.slice Ar k cr))[0]?=some (.slice Ar k cr)):=Hi (by rw[Array.getElem?_setIfInBounds,if_pos rfl,if_pos (by rw[HSZ.out];omega)]);have HOB:Hid (∀ q,(Value.slice Ar k cr).ownBlock=some q→q<(wr.alloc (.cells CI 39)).heap.size):=Hi (fun q hq=>Nat.lt_of_lt_of_le (own_lt HROW.out.own q hq) XW.out.size);have HBN:Hid (g+1≤(wr.alloc (.cells CI 39)).heap.size):=Hi (blk_lt (XW.out.blockAt HG.out));have HBB:Hid (B.heap.size≤g+1):=Hi (Nat.le_succ_of_le HBG.out);have HGB:Hid (g<g+1):=Hi (Nat.lt_succ_self _);have HLM:Hid (ys.length+1≤maxLen):=Hi (by rw[HYL.out];unfold maxLen;omega);have HLB:Hid ((ys.length+1)*216≤140737488355328):=Hi (by rw[HYL.out];have:=HZV.out;omega);have HFR:=HYF;have HKO:Hid (∀ (u1 u2:World) (q:Nat) (cur:Array Value) (fr:Nat×Nat),u1.heap[q]?=some (.cells cur 39 fr)→But q u1 u2→(KEn.kp e w.heap.size g A1 A2 A3 A4 c1 c2 c3 c4 rs).K u1→(KEn.kp e w.heap.size g A1 A2 A3 A4 c1 c2 c3 c4 rs).K u2):=Hi (fun w w' q cur fr h1 h2 h3=>KEn.ko w w' q cur fr h1 h2 h3);have HKG:Hid (∀ (u1 u2:World),But g u1 u2→(KEn.kp e w.heap.size g A1 A2 A3 A4 c1 c2 c3 c4 rs).K u1→(KEn.kp e w.heap.size g A1 A2 A3 A4 c1 c2 c3 c4 rs).K u2):=Hi (fun w w' h1 h2=>KEn.kg w w' h1 h2);have HROW0:Hid (PRow eIt 39 (wr.alloc (.cells CI 39)).heap.size (g+1) (.slice Ar k cr) ys g (C3.setIfInBounds 0 (.slice Ar k cr)) 56 (KEn.kp e w.heap.size g A1 A2 A3 A4 c1 c2 c3 c4 rs) (Kp.blk wr.heap.size CI 39) (wr.alloc (.cells CI 39))):=Hi ⟨HROW.out.ext XW.out,XW.out.blockAt HG.out,Nat.le_refl _,HK.out.ext XW.out,heap_alloc_new _ _⟩;go_wp2_with (first
     | (with_reducible refine wpList_load_arr rfl 39 (.tmp 35) rfl b (off+k*17) (by with_unfolding_all rfl) CI _ HC.out Tryz.underlying39 rfl II.out ?_)
     | (with_reducible refine wpList_store_new rfl 39 (.tmp 5) (.tmp 36) rfl _ CI 39 (by with_unfolding_all rfl) (by with_unfolding_all rfl) II.out (by with_unfolding_all exact NI.out.symm) OI.out ?_))
    simp only[Act.put];refine region_tb (by kernel_rfl) (by decide +kernel) (cevE g wr.heap.size) ⟨rfl,rfl,rfl⟩ 9 cevD cevC (RG (cevL g ((wr.alloc (.cells CI 39)).heap.size) k cr wr.heap.size Ar ys CI ((C3.setIfInBounds 0 (.slice Ar k cr))) x.1 ((KEn.kp e w.heap.size g A1 A2 A3 A4 c1 c2 c3 c4 rs)))) B (HXB.out.trans XW.out) (fun i h1 h2=>by
    have h3:8≤i:=h1;have h4:i<9:=h2;obtain rfl:i=8:=by omega
    exact PRow.mono ((Ext.refl _).drew) HROW0.out) ?_ ?_
    · intro Tv dd lv U wz i oZ hE ho hlv hd hT;obtain⟨t3,t5,tz⟩:=hE;have hx:=hT.ext;have rX:=RG.ext (cevL_mono g ((wr.alloc (.cells CI 39)).heap.size) k cr wr.heap.size Ar ys CI ((C3.setIfInBounds 0 (.slice Ar k cr))) x.1 ((KEn.kp e w.heap.size g A1 A2 A3 A4 c1 c2 c3 c4 rs)))
      match i,ho,hlv,hd with
      | 0,ho,hlv,hd=>cases oi ho;exact yl1 hT rX ho hd (.pointer (some ⟨g,0,none⟩)) (od dd hT tz t3)
      | 1,ho,hlv,hd =>
       cases oi ho;have hnA:lv 5=false:=by
        cases hA:lv 5 with
        | false=>rfl
        | true=>exact absurd (dep (hT.shut 5 _ rfl hA) 1 (by kernel_rfl)) (by rw[hlv];decide)
       have hrow:PRow eIt 39 ((wr.alloc (.cells CI 39)).heap.size) (g+1) (.slice Ar k cr) ys (g) ((C3.setIfInBounds 0 (.slice Ar k cr))) 56 ((KEn.kp e w.heap.size g A1 A2 A3 A4 c1 c2 c3 c4 rs)) (Kp.blk wr.heap.size CI 39) wz:=hT.facts 8 (by decide) (hT.past 8 (by decide)) (fun c e=>by injection e with e;subst e;exact hnA);exact yk1 hT rX ho hd (.slice Ar k cr) (nw dd hT hd tz 0 37 (.pointer (some ⟨g,0,none⟩))) ((cell_of_row _ _ 0 _ _ _ hrow.2.1).trans HCO.out)
      | 2,ho,hlv,hd =>
       cases oi ho;have v0:=od dd hT tz t5;have hnA:lv 5=false:=by
        cases hA:lv 5 with
        | false=>rfl
        | true=>exact absurd (dep (hT.shut 3 _ rfl (dep (hT.shut 4 _ rfl (dep (hT.shut 5 _ rfl hA) 4 (by kernel_rfl))) 3 (by kernel_rfl))) 2 (by kernel_rfl)) (by rw[hlv];decide)
       have hrow:PRow eIt 39 ((wr.alloc (.cells CI 39)).heap.size) (g+1) (.slice Ar k cr) ys (g) ((C3.setIfInBounds 0 (.slice Ar k cr))) 56 ((KEn.kp e w.heap.size g A1 A2 A3 A4 c1 c2 c3 c4 rs)) (Kp.blk wr.heap.size CI 39) wz:=hT.facts 8 (by decide) (hT.past 8 (by decide)) (fun c e=>by injection e with e;subst e;exact hnA);exact yxe hT rX ho hd (.agg CI) (exec_load_row _ _ rfl wr.heap.size v0 _ _ _ _ hrow.2.2.2.2 Tryz.underlying39 rfl II.out)
      | 3,ho,hlv,hd =>
       cases oi ho;have v0:=nw dd hT hd tz 2 39 (.agg CI);have hnA:lv 5=false:=by
        cases hA:lv 5 with
        | false=>rfl
        | true=>exact absurd (dep (hT.shut 4 _ rfl (dep (hT.shut 5 _ rfl hA) 4 (by kernel_rfl))) 3 (by kernel_rfl)) (by rw[hlv];decide)
       have hrow:PRow eIt 39 ((wr.alloc (.cells CI 39)).heap.size) (g+1) (.slice Ar k cr) ys (g) ((C3.setIfInBounds 0 (.slice Ar k cr))) 56 ((KEn.kp e w.heap.size g A1 A2 A3 A4 c1 c2 c3 c4 rs)) (Kp.blk wr.heap.size CI 39) wz:=hT.facts 8 (by decide) (hT.past 8 (by decide)) (fun c e=>by injection e with e;subst e;exact hnA);refine cl hT rX ho hd (f:=43) (args:=#[.agg CI]) (exec_call1 rfl rfl v0 EN2.out) ?_;refine(HCI.out wz (HIN.out.ext hx)).mono ?_;rintro r w' ⟨⟨L,rfl,h1,h2⟩,hb⟩;exact⟨_,rfl,hb,⟨(x.1,L),rfl,h1,eIt.mono h2 hrow.2.2.1,rfl⟩⟩
      | 4,ho,hlv,hd=>cases oi ho;obtain⟨y0,e0,h2,h3,h4⟩:PNew eIt ((wr.alloc (.cells CI 39)).heap.size) (fun y:ItL=>y.1=x.1) ((fun y:ItL=>It.agg y.1 y.2)) (U 40) wz:=hT.facts 3 (by decide) (dep hd 3 (by kernel_rfl)) (fun c e=>by injection e with e;subst e;exact hlv);have v0:Act.eval ⟨over Tv U,dd⟩ (.tmp 40)=_:=eval_new (t:=Tv) (d:=dd) e0 (by show 40<Tv.size;omega);refine tbw_yield (v:=.slice (some ⟨wz.heap.size,0,none⟩) 1 1) (RG.ext (cevL_mono g ((wr.alloc (.cells CI 39)).heap.size) k cr wr.heap.size Ar ys CI ((C3.setIfInBounds 0 (.slice Ar k cr))) x.1 ((KEn.kp e w.heap.size g A1 A2 A3 A4 c1 c2 c3 c4 rs)))) hT ho hd (wanted_plain rfl) rfl (by decide) (by decide) (exec_buildOne 51 39 (.tmp 40) rfl v0 Tryz.underlying51 hi hz hs (by decide) (by decide) (by simp[It.agg,Value.cells])) ((Ext.refl _).alloc _) (PNew.one (E:=eIt) (val:=(fun y:ItL=>It.agg y.1 y.2)) 39 (by simp[It.agg,Value.cells,eIt,icl,It.cells]) h2 h3 h4)
      | 5,ho,hlv,hd =>
       cases oi ho;have v0:=nw dd hT hd tz 1 38 (.slice Ar k cr);have hnA:lv 5=false:=hlv;have hrow:PRow eIt 39 ((wr.alloc (.cells CI 39)).heap.size) (g+1) (.slice Ar k cr) ys (g) ((C3.setIfInBounds 0 (.slice Ar k cr))) 56 ((KEn.kp e w.heap.size g A1 A2 A3 A4 c1 c2 c3 c4 rs)) (Kp.blk wr.heap.size CI 39) wz:=hT.facts 8 (by decide) (hT.past 8 (by decide)) (fun c e=>by injection e with e;subst e;exact hnA);have h1:POne eIt ((wr.alloc (.cells CI 39)).heap.size) (fun y:ItL=>y.1=x.1) (U 41) wz:=hT.facts 4 (by decide) (dep hd 4 (by kernel_rfl)) (fun c e=>by injection e with e;subst e;exact hlv);obtain⟨y,u',w',hU,hrun,hx2,hP⟩:=hrow.app (P:=Tryz.prog) (t:=51) (ty:=51) Tryz.underlying51 hi hz hs hb rfl (by decide) HKO.out h1 HOB.out HBN.out hx HBB.out HLM.out HLB.out;have v1:Act.eval ⟨over Tv U,dd⟩ (.tmp 41)=_:=eval_new (t:=Tv) (d:=dd) hU (by show 41<Tv.size;omega);refine tb_yield (v:=u') (w':=w') hT ho hd rfl rfl (by decide) (by decide) (exec_append rfl v0 v1 hrun) hx2 hP ?_;intro j hj hji hlj hcj hR
       match j,hj,hR with
       | 0,_,hR=>exact hR
       | 1,_,hR=>exact hR
       | 2,_,hR=>exact hR
       | 3,_,_=>exact absurd (dep hd 4 (by kernel_rfl)) (by rw[(hcj 4 rfl).2];decide)
       | 4,_,_=>exact absurd rfl (hcj 5 rfl).1
       | 5,_,_=>exact absurd rfl hji
       | 6,_,hR=>exact hR
       | 7,_,_=>exact absurd (dep (hT.shut 7 _ rfl hlj) 5 (by kernel_rfl)) (by rw[hlv];decide)
       | 8,_,_=>exact absurd rfl (hcj 5 rfl).1
       | j+9,hj,_=>exact absurd hj (by omega)
      | 6,ho,hlv,hd=>cases oi ho;exact yl1 hT rX ho hd (.pointer (some ⟨g,0,none⟩)) (od dd hT tz t3)
      | 7,ho,hlv,hd =>
       cases oi ho;have v0:=nw dd hT hd tz 6 43 (.pointer (some ⟨g,0,none⟩));obtain⟨y0,A',c',hU,h2,h3,h4,h5,h6⟩:PApp eIt (fun y:ItL=>y.1=x.1) 39 (g+1) ys (g) ((C3.setIfInBounds 0 (.slice Ar k cr))) 56 ((KEn.kp e w.heap.size g A1 A2 A3 A4 c1 c2 c3 c4 rs)) (U 42) wz:=hT.facts 5 (by decide) (dep hd 5 (by kernel_rfl)) (fun c e=>by injection e with e;subst e;exact hlv);have v1:Act.eval ⟨over Tv U,dd⟩ (.tmp 42)=_:=eval_new (t:=Tv) (d:=dd) hU (by show 42<Tv.size;omega);have hc:=(cell_of_row _ _ 0 _ _ _ h5).trans HCO.out;have hfz:=frozen_of_row _ _ 0 _ _ h5;refine tb_store (w':=wz.setCell ⟨g,0,none⟩ (.slice A' (ys.length+1) c')) hT ho hd rfl rfl ?_ (hx.setCell HBG.out _) (PApp.sto rfl h2 h3 h4 h5 h6 HKG.out (by decide) HGB.out HFR.out) ?_
       · generalize Act.eval ⟨over Tv U,dd⟩=ev at *;simp[execOp,v0,v1,go_sem,hc,hfz]
       · intro j hj hji hlj hcj hR
         match j,hj,hR with
         | 0,_,hR=>exact hR
         | 1,_,hR=>exact hR
         | 2,_,hR=>exact hR
         | 3,_,_=>exact absurd (dep (hT.shut 5 _ rfl (dep hd 5 (by kernel_rfl))) 4 (by kernel_rfl)) (by rw[(hcj 4 rfl).2];decide)
         | 4,_,_=>exact absurd (dep hd 5 (by kernel_rfl)) (by rw[(hcj 5 rfl).2];decide)
         | 5,_,_=>exact absurd rfl (hcj 7 rfl).1
         | 6,_,hR=>exact hR
         | 7,_,_=>exact absurd rfl hji
         | 8,_,_=>exact absurd (dep hd 5 (by kernel_rfl)) (by rw[(hcj 5 rfl).2];decide)
         | j+9,hj,_=>exact absurd hj (by omega)
      | i+8,ho,_,_=>exact absurd ho (by simp)
    intro U wz hex hout hfin;have PS:PSto eIt (fun y:ItL=>y.1=x.1) 39 (g+1) ys (g) 0 ((C3.setIfInBounds 0 (.slice Ar k cr))) 56 ((KEn.kp e w.heap.size g A1 A2 A3 A4 c1 c2 c3 c4 rs)) wz:=hfin 7 (by decide) rfl;have XE:=Hi hex;clear hex hfin;rw[over_list];simp(disch:=decide) only[overL,Nat.reduceAdd,hout,Option.getD_none];clear hout;obtain⟨y,A',c',hrow,hfr,hD,hblk,hK⟩:=PS;rw[HYL.out]at hrow hblk;rw[set_set]at hblk;have HY2:Hid (its (ys ++ [y])=its (e.vs.take (k+1))):=Hi (its_next HY.out HX.out hD);have HYL2:Hid ((ys ++ [y]).length=k+1):=Hi (by rw[List.length_append,HYL.out];rfl);have HR2:=Hi hrow;have HF2:Hid (∀ z∈ys ++ [y],eIt.From (g+1) z):=Hi (fun z hz=>by
     rcases List.mem_append.1 hz with hz | hz
     · exact HYF.out z hz
     · rw[List.mem_singleton]at hz;rw[hz];exact hfr)
    have HB2:=Hi hblk;have HK2:=Hi hK;clear hrow hfr hD hblk hK;go_wp2;go_roundw;case rel=>exact⟨k+1,ys ++ [y],A',c',by omega,by go_num,HY2,HYL2,HR2,HF2,HB2,XE,HK2⟩
    case measure=>simp[intOf];omega
  · obtain rfl:k=nv:=by omega
    have HZB:=Hi (HXB.out.blockAt HBZ.out);obtain⟨CF,hcf⟩:∃ C,C3.setIfInBounds 0 (.slice Ar k cr)=C:=⟨_,rfl⟩;rw[hcf]at HG;have HSF:Hid (CF.size=7):=Hi (by rw[← hcf,Array.size_setIfInBounds];exact HSZ.out);have HFIN:Hid (CF=(EntL.cells ⟨Ar,cr,ys,e.st,e.au,⟨A1,c1,e.ap.xs⟩,⟨A2,c2,e.fa.xs⟩,A3,c3,e.log,A4,c4,rs⟩).toArray):=Hi (by rw[← hcf,← HS3.out,← HS2.out,← HS1.out,← HCA.out,← HL1.out,← HL2.out,← HL3.out,← HRL.out,← HYL.out];rfl)
    have H1C:Hid (CF.all (·.oneCell')=true):=Hi (by rw[HFIN.out];simp[EntL.cells,IL.val,Value.oneCell']);have INF:=Hi (infoEn HSF.out);have IZ:Hid ((#[.slice none 0 0,.int .i64 0,.int .i64 0,.slice none 0 0,.slice none 0 0,.slice none 0 0,.slice none 0 0]:Array Value).size=CF.size):=Hi HSF.out.symm;clear hcf;go_wp2_with (first
     | (with_reducible refine wpList_load_row rfl 56 (.tmp 3) rfl (g) (by with_unfolding_all rfl) _ CF _ _ HG.out Tryz.underlying56 rfl INF.out ?_)
     | (with_reducible refine wpList_store_row rfl 56 (.tmp 2) (.tmp 45) rfl (w.heap.size+1) CF (by with_unfolding_all rfl) (by with_unfolding_all rfl) _ _ HZB.out INF.out IZ.out H1C.out ?_))
    refine bodyPost_ret (v:=.agg CF) (results_oneR Tryz.results39 _ _ (w.heap.size+1) _ CF _ _ rfl (setRow_heap _ _ _ _ _ _ HZB.out) Tryz.underlying56 rfl INF.out) rfl ?_;have hb1:=But.setRow (w.heap.size+1) wr CF;have hrow2:RowX eIt 39 (wr.setRow (w.heap.size+1) CF) (g+1) (.slice Ar k cr) ys:=HROW.out.but hb1 (fun q=>by have:=own_ge HROW.out.own _ q;omega) (fun x hx=>eIt.frm (HYF.out x hx) (by omega));have hk2:KEn e w.heap.size g A1 A2 A3 A4 c1 c2 c3 c4 rs (wr.setRow (w.heap.size+1) CF):=HK.out.kt HZB.out (by decide) (by decide) (by decide) hb1;have hrow3:=hrow2;rw[← HYL.out]at hrow3;obtain⟨h1,h2,h3⟩:=hk2.done (by omega) H.out.st H.out.au hrow3 HYF.out (by rw[HY.out,List.take_of_length_le (by rw[HNV.out];exact Nat.le_refl _)]) HRX.out;refine⟨⟨_,by rw[HFIN.out];rfl,h1,h2,h3,⟨?_,hrow3.ins,hrow3.off⟩,hk2.offV hrow3⟩,(HBX.out.trans HXB.out).rowSet (by omega) _⟩;exact own_low' hrow3.own (by omega)
end Bk
set_option maxRecDepth 100000
set_option maxHeartbeats 25600000
open Go.RowKit
namespace Bk
theorem infoGr{CS:Array Value}(h:CS.size=2):(Tryz.prog.info? 24).map (·.size)=some CS.size:=by rw[h];kernel_rfl
def RetGr (w:World)(p q:IL)(n m:Nat)(e:Ending)(w':World):Prop:=∃ (A D:Option Addr) (c d:Nat),e=.returned (.agg #[.slice A n c,.slice D m d])∧Got eI w' w.heap.size A p.xs c∧Got eI w' w.heap.size D q.xs d
def cgrL (n0 n m c d:Nat)(A D:Option Addr)(xs ys:List Int):List (Option Value→World→Prop):=[sv (.pointer (some ⟨n0,0,none⟩)),
 sv (.slice A n c),
 fun u w=>∃ W:Option Addr×Nat,
 u=some (.slice W.1 n W.2)∧Got eI w n0 W.1 xs W.2,
 sv (.pointer (some ⟨n0,1,none⟩)),
 sv (.slice D m d),
 fun u w=>∃ W:Option Addr×Nat,
 u=some (.slice W.1 m W.2)∧Got eI w n0 W.1 ys W.2,
 fun u w=>∃ W:(Option Addr×Nat)×Option Addr×Nat,
 u=some (.agg #[.slice W.1.1 n W.1.2,.slice W.2.1 m W.2.2])∧Got eI w n0 W.1.1 xs W.1.2∧Got eI w n0 W.2.1 ys W.2.2,
 fun _ w=>∃ W:(Option Addr×Nat)×Option Addr×Nat,
 w.heap[n0+1]?=some (.cells #[.slice W.1.1 n W.1.2,.slice W.2.1 m W.2.2] 24 (0,0))∧Got eI w n0 W.1.1 xs W.1.2∧Got eI w n0 W.2.1 ys W.2.2,
 fun _ w=>w.heap[n0+1]?=some (.cells #[.slice none 0 0,.slice none 0 0] 24 (0,0))]
theorem cgrL_mono(n0 n m c d:Nat)(A D:Option Addr)(xs ys:List Int):AllMono (cgrL n0 n m c d A D xs ys):=⟨mono_val _,mono_val _,(fun _ _ _ he h=>h.elim fun W h=>⟨W,h.1,h.2.ext he⟩),mono_val _,mono_val _,(fun _ _ _ he h=>h.elim fun W h=>⟨W,h.1,h.2.ext he⟩),(fun _ _ _ he h=>h.elim fun W h=>⟨W,h.1,h.2.1.ext he,h.2.2.ext he⟩),(fun _ _ _ he h=>h.elim fun W h=>⟨W,he.blockAt h.1,h.2.1.ext he,h.2.2.ext he⟩),(fun _ _ _ he h=>he.blockAt h),trivial⟩
def cgrD:List Nat:=[3,4,5,6,7,8,9,900,901]
def cgrC (j:Nat):Option Nat:=if j=2 then some 6 else if j=5 then some 6 else if j=6 then some 7 else if j=8 then some 7 else none
def cgrE (n0:Nat)(t:Array Value):Prop:=t.getD 1 undef=.pointer (some ⟨n0,0,none⟩)∧t.getD 2 undef=.pointer (some ⟨n0+1,0,none⟩)∧t.size=10

theorem bcopyGrid_any(p q:IL){n m:Nat}(hn:p.xs.length=n)(hm:q.xs.length=m)(w:World)(hp:p.In w)(hq:q.In w)(hz1:n*8≤140737488355328)(hz2:m*8≤140737488355328) :
    Calls Tryz.prog 28 #[.agg #[.slice p.A n p.c,.slice q.A m q.c]] w fun e w'=>RetGr w p q n m e w'∧Ext w w':=by
 have HN:=Hi hn;have HM:=Hi hm;obtain⟨B,hB⟩:∃ B,w.alloc (.cells #[.slice p.A n p.c,.slice q.A m q.c] 24)=B:=⟨_,rfl⟩;have HBX:Hid (Ext w B):=Hi (by rw[← hB];exact(Ext.refl _).alloc _);have HBS:Hid (B.heap.size=w.heap.size+1):=Hi (by rw[← hB];simp);have HBA:Hid (B.heap[w.heap.size]?=some (.cells #[.slice p.A n p.c,.slice q.A m q.c] 24 (0,0))):=Hi (by rw[← hB];exact heap_alloc_new _ _);have HBH:=Hi hB;have CP:Hid (B.cell? ⟨w.heap.size,0,none⟩=some (.slice p.A n p.c)):=Hi (cell_of_row _ _ 0 _ _ _ HBA.out);have CQ:Hid (B.cell? ⟨w.heap.size,1,none⟩=some (.slice q.A m q.c)):=Hi (cell_of_row _ _ 1 _ _ _ HBA.out);have HSP:Hid (SlX eI B p.A p.xs):=Hi (SlX.ofI (hp.1.ext HBX.out) hp.2.2.2);have HSQ:Hid (SlX eI B q.A q.xs):=Hi (SlX.ofI (hq.1.ext HBX.out) hq.2.2.2);have EN:=Hi (enters_of Tryz.func58 (by kernel_rfl) rfl);have IG2:Hid ((Tryz.prog.info? 24).map (·.size)=some 2):=Hi (infoGr (CS:=#[.slice none 0 0,.slice none 0 0]) rfl);have HZ0:Hid ((B.alloc (.cells #[.slice none 0 0,.slice none 0 0] 24)).heap[w.heap.size+1]?=some (.cells #[.slice none 0 0,.slice none 0 0] 24 (0,0))):=Hi (heap_new_at _ _ _ HBS.out.symm);clear hn hm hp hq hB;go_enter Tryz.func28,Tryz.ntmps28
 go_wp2_with fail
 refine region_tb (by kernel_rfl) (by decide +kernel) (cgrE w.heap.size) ⟨rfl,rfl,rfl⟩ 9 cgrD cgrC (RG (cgrL w.heap.size n m p.c q.c p.A q.A p.xs q.xs)) B (by rw[HBH.out];exact(Ext.refl _).alloc _) (fun i h1 h2=>by
     have h3:8≤i:=h1;have h4:i<9:=h2;obtain rfl:i=8:=by omega
     show(World.heap _)[w.heap.size+1]?=_;rw[HBH.out];exact((Ext.refl _).drew).blockAt HZ0.out) ?_ ?_
 · intro Tv dd lv U wz i oZ hE ho hlv hd hT;obtain⟨t1,t2,tz⟩:=hE;have hx:=hT.ext;have rX:=RG.ext (cgrL_mono w.heap.size n m p.c q.c p.A q.A p.xs q.xs)
   match i,ho,hlv,hd with
   | 0,ho,hlv,hd=>cases oi ho;exact yl1 hT rX ho hd (.pointer (some ⟨w.heap.size,0,none⟩)) (od dd hT tz t1)
   | 1,ho,hlv,hd=>cases oi ho;exact yk1 hT rX ho hd (.slice p.A n p.c) (nw dd hT hd tz 0 3 (.pointer (some ⟨w.heap.size,0,none⟩))) (hx.keep CP.out)
   | 2,ho,hlv,hd=>cases oi ho;have v0:=nw dd hT hd tz 1 4 (.slice p.A n p.c);refine cl hT rX ho hd (f:=58) (args:=#[.slice p.A n p.c]) (exec_call1 rfl rfl v0 EN.out) ?_;refine(cloneI _ _ _ HN.out wz (HSP.out.ext hx) hz1).mono ?_;rintro e w' hr;obtain⟨A1,c1,rfl,hg,hb⟩:=hr.got HN.out (fun _ _=>trivial);exact⟨_,rfl,hb,(A1,c1),rfl,hg.low (Nat.le_trans (by rw[HBS.out];omega) hx.size)⟩
   | 3,ho,hlv,hd=>cases oi ho;exact yl1 hT rX ho hd (.pointer (some ⟨w.heap.size,1,none⟩)) (od dd hT tz t1)
   | 4,ho,hlv,hd=>cases oi ho;exact yk1 hT rX ho hd (.slice q.A m q.c) (nw dd hT hd tz 3 6 (.pointer (some ⟨w.heap.size,1,none⟩))) (hx.keep CQ.out)
   | 5,ho,hlv,hd=>cases oi ho;have v0:=nw dd hT hd tz 4 7 (.slice q.A m q.c);refine cl hT rX ho hd (f:=58) (args:=#[.slice q.A m q.c]) (exec_call1 rfl rfl v0 EN.out) ?_;refine(cloneI _ _ _ HM.out wz (HSQ.out.ext hx) hz2).mono ?_;rintro e w' hr;obtain⟨A1,c1,rfl,hg,hb⟩:=hr.got HM.out (fun _ _=>trivial);exact⟨_,rfl,hb,(A1,c1),rfl,hg.low (Nat.le_trans (by rw[HBS.out];omega) hx.size)⟩
   | 6,ho,hlv,hd=>cases oi ho;obtain⟨W,e0,h1⟩:∃ W:Option Addr×Nat,U 5=some (.slice W.1 n W.2)∧Got eI wz w.heap.size W.1 p.xs W.2:=hT.facts 2 (by decide) (dep hd 2 (by kernel_rfl)) (fun c e=>by injection e with e;subst e;exact hlv);have v0:Act.eval ⟨over Tv U,dd⟩ (.tmp 5)=_:=eval_new (t:=Tv) (d:=dd) e0 (by show 5<Tv.size;omega);obtain⟨V,e1,h2⟩:∃ W:Option Addr×Nat,U 8=some (.slice W.1 m W.2)∧Got eI wz w.heap.size W.1 q.xs W.2:=hT.facts 5 (by decide) (dep hd 5 (by kernel_rfl)) (fun c e=>by injection e with e;subst e;exact hlv);have v1:Act.eval ⟨over Tv U,dd⟩ (.tmp 8)=_:=eval_new (t:=Tv) (d:=dd) e1 (by show 8<Tv.size;omega);exact yxe hT rX ho hd (.agg #[.slice W.1 n W.2,.slice V.1 m V.2]) (exec_buildL 24 _ rfl [(0,.slice W.1 n W.2),(1,.slice V.1 m V.2)] (by simp[v0,v1]) _ (by kernel_rfl)) (hR:=⟨(W,V),rfl,h1,h2⟩)
   | 7,ho,hlv,hd =>
    cases oi ho;obtain⟨W,e1,h1,h2⟩:∃ W:(Option Addr×Nat)×Option Addr×Nat,U 9=some (.agg #[.slice W.1.1 n W.1.2,.slice W.2.1 m W.2.2])∧Got eI wz w.heap.size W.1.1 p.xs W.1.2∧Got eI wz w.heap.size W.2.1 q.xs W.2.2:=hT.facts 6 (by decide) (dep hd 6 (by kernel_rfl)) (fun c e=>by injection e with e;subst e;exact hlv);have v1:Act.eval ⟨over Tv U,dd⟩ (.tmp 9)=_:=eval_new (t:=Tv) (d:=dd) e1 (by show 9<Tv.size;omega);have v0:=od dd hT tz t2;have hblk:wz.heap[w.heap.size+1]?=some (.cells #[.slice none 0 0,.slice none 0 0] 24 (0,0)):=hT.facts 8 (by decide) (hT.past 8 (by decide)) (fun c e=>by injection e with e;subst e;exact hlv);have hb9:=But.setRow (w.heap.size+1) wz #[.slice W.1.1 n W.1.2,.slice W.2.1 m W.2.2];refine tb_store (w':=wz.setRow (w.heap.size+1) #[.slice W.1.1 n W.1.2,.slice W.2.1 m W.2.2]) hT ho hd rfl rfl (exec_store_row 24 (.tmp 2) (.tmp 9) rfl (w.heap.size+1) _ v0 v1 24 _ hblk IG2.out rfl (by simp[Value.oneCell'])) (hx.rowSet (by rw[HBS.out];omega) _) ⟨W,setRow_heap _ _ _ _ _ _ hblk,h1.keepT hblk (by decide) (fun _ _=>trivial) hb9,h2.keepT hblk (by decide) (fun _ _=>trivial) hb9⟩ ?_;intro j hj hji hlj hcj hR
    match j,hj,hR with
    | 0,_,hR=>exact hR
    | 1,_,hR=>exact hR
    | 2,_,_=>exact absurd (dep hd 6 (by kernel_rfl)) (by rw[(hcj 6 rfl).2];decide)
    | 3,_,hR=>exact hR
    | 4,_,hR=>exact hR
    | 5,_,_=>exact absurd (dep hd 6 (by kernel_rfl)) (by rw[(hcj 6 rfl).2];decide)
    | 6,_,_=>exact absurd rfl (hcj 7 rfl).1
    | 7,_,_=>exact absurd rfl hji
    | 8,_,_=>exact absurd rfl (hcj 7 rfl).1
    | j+9,hj,_=>exact absurd hj (by omega)
   | i+8,ho,_,_=>exact absurd ho (by simp)
 intro U wz hex hout hfin;obtain⟨W,hblk,h1,h2⟩:=hfin 7 (by decide) rfl;have XE:=Hi hex;clear hex hfin;rw[over_list];simp(disch:=decide) only[overL,Nat.reduceAdd,hout,Option.getD_none];clear hout;go_wp2;refine bodyPost_ret (v:=.agg #[.slice W.1.1 n W.1.2,.slice W.2.1 m W.2.2]) (results_oneR Tryz.results28 _ _ (w.heap.size+1) _ _ _ _ rfl hblk Tryz.underlying24 rfl (infoGr rfl)) rfl ?_;exact⟨⟨W.1.1,W.2.1,W.1.2,W.2.2,rfl,h1,h2⟩,HBX.out.trans XE.out⟩
def ents (xs:List EntL):List Ent:=xs.map (·.ent)
theorem ents_next{xs ys:List EntL}{k:Nat}{x y:EntL}(h:ents ys=ents (xs.take k))(hx:xs[k]?=some x)(hy:y.ent=x.ent):ents (ys ++ [y])=ents (xs.take (k+1)):=by unfold ents at *;rw[List.map_append,h,List.take_add_one,hx];simp[hy]
end Bk
set_option maxRecDepth 100000
set_option maxHeartbeats 3200000
open Go.RowKit
namespace Bk
def RetClO {X:Type}(E:Elt X)(w:World)(n:Nat)(xs:List X)(e:Ending)(w':World):Prop:=∃ A c,e=.returned (.slice A n c)∧RowX E E.T w' w.heap.size (.slice A n c) xs∧Ext w w'
theorem RetClO.of_own{X:Type}{E:Elt X}{w w':World}{n c:Nat}{A:Option Addr}{xs:List X}(hn:xs.length=n)(hs:∀ x∈xs,E.In w x)(hoff:∀ g,w.heap.size≤g→∀ x∈xs,E.Off g x)(ho:w'.ownsRow w.heap.size E.T E.k (.slice A n c) n (xs.map E.enc).flatten)(he:Ext w w'):RetClO E w n xs (.returned (.slice A n c)) w' :=
 ⟨A,c,rfl,⟨by rw[hn];exact ho,fun x hx=>E.ext (hs x hx) he,fun g hg x hx=>hoff g (own_ge ho g hg) x hx⟩,he⟩
theorem cloneOTpc(A:Option Addr)(c:Nat)(xs:List (Tpc)){n:Nat}(hn:xs.length=n)(w:World)(h:SlX eTpc w A xs)(hbig:n*32≤140737488355328) :
    Calls Tryz.prog 59 #[.slice A n c] w (RetClO eTpc w n xs):=by
 have H:=Hi h;have HN:=Hi hn;clear h hn;have q0:∀ (w:World) (a:Option Addr) (n c n' c':Nat),(binOp .eql 26 (.slice a n c) (.slice none n' c')).run Tryz.prog w=.ok (.bool a.isNone) w:=fun w a n c n' c'=>Lib.run_eql_slice_nil w _ _ a n c n' c' Tryz.underlying26;cases A with
 | none =>
  have hx:xs=[]:=by
   rcases H.out.sl with h | ⟨b,off,hA,_⟩
   · simpa using h
   · cases hA
  have h0:n=0:=by rw[← HN.out,hx];rfl
  subst h0;have HX:=Hi hx;clear hx;go_enter Tryz.func59,Tryz.ntmps59
  go_wp2;go_ret;rw[HX.out];exact⟨none,0,rfl,RowX.nil _ _ _,Ext.refl _⟩
 | some a =>
  obtain⟨i0,hi0,hz0,hz1,hz2⟩:=info_parts infoTpc;go_enter Tryz.func59,Tryz.ntmps59
  go_wp2_with (at_builtin;refine wpList_appS rfl _ _ 26 rfl w 41 i0 (.agg #[.string ⟨#[]⟩,.string ⟨#[]⟩]) 2 32 Tryz.underlying26 hi0 hz0 hz1 hz2 rfl (by decide) _ 0 [] rfl (World.ownsRow_made w #[] 0 (Nat.le_refl _) (Nat.zero_le _) (by simp)) ((Ext.refl _).alloc _) (some a) c n (xs.map eTpc.enc) ((List.length_map _).trans HN.out) rfl (H.out.sl.ext ((Ext.refl _).alloc _)) (map_len xs) ?q1 ?q2 ?q3 ?_)
  case q1 =>
   intro c hc;obtain⟨x,-,rfl⟩:=List.mem_map.1 hc;exact eTpc.one x
  case q2=>unfold maxLen;omega
  case q3=>omega
  intro A' c' w' hown hb;go_wp2;go_ret;exact RetClO.of_own HN.out H.out.ins (fun g hg x hx=>eTpc.off (H.out.ins x hx) hg) hown hb
theorem cloneOAst(A:Option Addr)(c:Nat)(xs:List (Ast)){n:Nat}(hn:xs.length=n)(w:World)(h:SlX eAst w A xs)(hbig:n*48≤140737488355328) :
    Calls Tryz.prog 60 #[.slice A n c] w (RetClO eAst w n xs):=by
 have H:=Hi h;have HN:=Hi hn;clear h hn;have q0:∀ (w:World) (a:Option Addr) (n c n' c':Nat),(binOp .eql 27 (.slice a n c) (.slice none n' c')).run Tryz.prog w=.ok (.bool a.isNone) w:=fun w a n c n' c'=>Lib.run_eql_slice_nil w _ _ a n c n' c' Tryz.underlying27;cases A with
 | none =>
  have hx:xs=[]:=by
   rcases H.out.sl with h | ⟨b,off,hA,_⟩
   · simpa using h
   · cases hA
  have h0:n=0:=by rw[← HN.out,hx];rfl
  subst h0;have HX:=Hi hx;clear hx;go_enter Tryz.func60,Tryz.ntmps60
  go_wp2;go_ret;rw[HX.out];exact⟨none,0,rfl,RowX.nil _ _ _,Ext.refl _⟩
 | some a =>
  obtain⟨i0,hi0,hz0,hz1,hz2⟩:=info_parts infoAst;go_enter Tryz.func60,Tryz.ntmps60
  go_wp2_with (at_builtin;refine wpList_appS rfl _ _ 27 rfl w 43 i0 (.agg #[.int .i64 0,.int .i64 0,.string ⟨#[]⟩,.int .i64 0,.int .i64 0]) 5 48 Tryz.underlying27 hi0 hz0 hz1 hz2 rfl (by decide) _ 0 [] rfl (World.ownsRow_made w #[] 0 (Nat.le_refl _) (Nat.zero_le _) (by simp)) ((Ext.refl _).alloc _) (some a) c n (xs.map eAst.enc) ((List.length_map _).trans HN.out) rfl (H.out.sl.ext ((Ext.refl _).alloc _)) (map_len xs) ?q1 ?q2 ?q3 ?_)
  case q1 =>
   intro c hc;obtain⟨x,-,rfl⟩:=List.mem_map.1 hc;exact eAst.one x
  case q2=>unfold maxLen;omega
  case q3=>omega
  intro A' c' w' hown hb;go_wp2;go_ret;exact RetClO.of_own HN.out H.out.ins (fun g hg x hx=>eAst.off (H.out.ins x hx) hg) hown hb
end Bk
set_option maxRecDepth 100000
set_option maxHeartbeats 25600000
open Go.RowKit
namespace Bk
theorem RowX.low{X:Type}{E:Elt X}{T:TypeId}{w:World}{N M:Nat}{v:Value}{xs:List X}(h:RowX E T w N v xs)(hm:M≤N):RowX E T w M v xs:=⟨own_low' h.own hm,h.ins,h.off⟩
theorem RowX.keepT{X:Type}{E:Elt X}{T TQ:TypeId}{w w':World}{N q:Nat}{v:Value}{xs:List X}{cur:Array Value}{fr:Nat×Nat}(h:RowX E T w N v xs)(hq:w.heap[q]?=some (.cells cur TQ fr))(hne:T≠TQ)(ho:∀ x∈xs,E.Off q x)(hb:But q w w'):RowX E T w' N v xs :=
 h.but hb (own_other h.own hq hne) ho
theorem RowX.slx{X:Type}{E:Elt X}{T:TypeId}{w:World}{N n c:Nat}{A:Option Addr}{xs:List X}(h:RowX E T w N (.slice A n c) xs):SlX E w A xs∧xs.length=n∧xs.length≤c∧c≤maxLen:=by obtain⟨A',c',h1,h2,h3,-,h5⟩:=h.sl;injection h1 with h1 h1' h1'';subst h1 h1' h1'';exact⟨h5,rfl,h2,h3⟩
structure EntO (w:World)(e:EntL):Prop where
 inn:e.In w
 row:RowX eIt 39 w 0 (.slice e.vA e.vs.length e.vc) e.vs
 ov:OffV e
def EntL.own (e:EntL):Option Nat:=(Value.slice e.vA e.vs.length e.vc).ownBlock
def eEntO:Elt EntL where
 T:=56
 k:=7
 enc:=EntL.cells
 In w e:=EntO w e
 Off g e:=EntL.Off g e∧e.own≠some g
 From N e:=EntL.From N e∧∀ q,e.own=some q→N≤q
 pos:=by omega
 len _:=rfl
 one x v hv:=eEnt.one x v hv
 ext h he:=⟨h.inn.ext he,h.row.ext he,h.ov⟩
 but h ho hb:=⟨h.inn.but ho.1 hb,h.row.but hb ho.2 (fun x hx=>ho.1.vs.ins x hx),h.ov⟩
 off h hg:=⟨h.inn.off hg,fun e=>by have:=own_lt h.row.own _ e;omega⟩
 frm h hg:=⟨eEnt.frm h.1 hg,fun e=>by have:=h.2 _ e;omega⟩
 mono h hg:=⟨eEnt.mono h.1 hg,fun q e=>Nat.le_trans hg (h.2 q e)⟩
theorem RetEn.own{w w':World}{e:EntL}{r:Ending}(h:RetEn w e r w'):∃ e':EntL,r=.returned e'.agg∧e'.ent=e.ent∧eEntO.In w' e'∧eEntO.From w.heap.size e':=by obtain⟨e',h1,h2,h3,h4,h5,h6⟩:=h;exact⟨e',h1,h2,⟨h3,h5.low (Nat.zero_le _),h6⟩,h4,fun q hq=>own_ge h5.own q hq⟩
def Apart (x y:EntL):Prop:=(∀ q,x.own=some q→eEntO.Off q y)∧(∀ q,y.own=some q→eEntO.Off q x)
def Pw (xs:List EntL):Prop:=xs.Pairwise Apart
def OffR (v:Value)(xs:List EntL):Prop:=∀ x∈xs,∀ q,v.ownBlock=some q→eEntO.Off q x
theorem OffR.app{v:Value}{xs:List EntL}{y:EntL}{w:World}(h:OffR v xs)(hv:∀ q,v.ownBlock=some q→q<w.heap.size)(hf:eEntO.From w.heap.size y):OffR v (xs ++ [y]):=fun x hx q hq=>by
 rcases List.mem_append.1 hx with hx | hx
 · exact h x hx q hq
 · rw[List.mem_singleton]at hx;rw[hx];exact eEntO.frm hf (hv q hq)
theorem Pw.nil:Pw []:=List.Pairwise.nil
theorem apart_new{x y:EntL}{w:World}(hx:eEntO.In w x)(hf:eEntO.From w.heap.size y):Apart x y :=
 ⟨fun q hq=>eEntO.frm hf (own_lt hx.row.own q hq),fun q hq=>eEntO.off hx (hf.2 q hq)⟩
theorem Apart.symm{x y:EntL}(h:Apart x y):Apart y x:=⟨h.2,h.1⟩
theorem Pw.app{xs:List EntL}{y:EntL}{w:World}(h:Pw xs)(hin:∀ x∈xs,eEntO.In w x)(hf:eEntO.From w.heap.size y):Pw (xs ++ [y]) :=
 List.pairwise_append.2 ⟨h,List.pairwise_singleton _ _,fun a ha b hb=>by rw[List.mem_singleton]at hb;rw[hb];exact apart_new (hin a ha) hf⟩
theorem Pw.ins{xs:List EntL}{y:EntL}(h:Pw xs)(hy:∀ x∈xs,Apart x y)(i:Nat):Pw (xs.take i ++ y :: xs.drop i):=by
 have h2:Pw (xs.take i ++ xs.drop i):=by rw[List.take_append_drop];exact h
 obtain⟨h3,h4,h5⟩:=List.pairwise_append.1 h2;refine List.pairwise_append.2 ⟨h3,List.pairwise_cons.2 ⟨fun b hb=>(hy b (List.mem_of_mem_drop hb)).symm,h4⟩,fun a ha b hb=>?_⟩;rcases List.mem_cons.1 hb with rfl | hb
 · exact hy a (List.mem_of_mem_take ha)
 · exact h5 a ha b hb
theorem Pw.at_{xs:List EntL}(h:Pw xs){i j:Nat}{x y:EntL}(hij:i≠j)(hx:xs[i]?=some x)(hy:xs[j]?=some y):Apart x y:=by
 obtain⟨hi,rfl⟩:=List.getElem?_eq_some_iff.1 hx;obtain⟨hj,rfl⟩:=List.getElem?_eq_some_iff.1 hy;have h2:=List.pairwise_iff_getElem.1 h;rcases Nat.lt_or_gt_of_ne hij with h3 | h3
 · exact h2 i j hi hj h3
 · exact(h2 j i hj hi h3).symm
structure KBO (b:BankL)(N g:Nat)(P Q O S E:Option Addr×Nat)(w:World):Prop where
 p:Got eI w N P.1 b.gp.xs P.2
 q:Got eI w N Q.1 b.gq.xs Q.2
 o:RowX eTpc 41 w N (.slice O.1 b.outl.length O.2) b.outl
 s:RowX eAst 43 w N (.slice S.1 b.assets.length S.2) b.assets
 e:Got ePar w N E.1 b.enem E.2
 po:OffX eI g P.1 b.gp.xs
 qo:OffX eI g Q.1 b.gq.xs
 oo:(Value.slice O.1 b.outl.length O.2).ownBlock≠some g
 so:(Value.slice S.1 b.assets.length S.2).ownBlock≠some g
 eo:OffX ePar g E.1 b.enem
theorem KBO.ext{b:BankL}{N g:Nat}{P Q O S E:Option Addr×Nat}{w w':World}(h:KBO b N g P Q O S E w)(he:Ext w w'):KBO b N g P Q O S E w':=⟨h.p.ext he,h.q.ext he,h.o.ext he,h.s.ext he,h.e.ext he,h.po,h.qo,h.oo,h.so,h.eo⟩
theorem KBO.kt{b:BankL}{N g:Nat}{P Q O S E:Option Addr×Nat}{w w':World}{q:Nat}{cur:Array Value}{T:TypeId}{fr:Nat×Nat}(hq:w.heap[q]?=some (.cells cur T fr))(h1:3≠T)(h2:41≠T)(h3:43≠T)(h4:80≠T)(hb:But q w w')(h:KBO b N g P Q O S E w):KBO b N g P Q O S E w' :=
 ⟨h.p.keepT hq h1 (fun _ _=>trivial) hb,h.q.keepT hq h1 (fun _ _=>trivial) hb,h.o.keepT hq h2 (fun _ _=>trivial) hb,h.s.keepT hq h3 (fun _ _=>trivial) hb,h.e.keepT hq h4 (fun _ _=>trivial) hb,h.po,h.qo,h.oo,h.so,h.eo⟩
theorem KBO.kg{b:BankL}{N g:Nat}{P Q O S E:Option Addr×Nat}(w w':World)(hb:But g w w')(h:KBO b N g P Q O S E w):KBO b N g P Q O S E w' :=
 ⟨h.p.butO hb h.po,h.q.butO hb h.qo,h.o.but hb h.oo (fun _ _=>trivial),h.s.but hb h.so (fun _ _=>trivial),h.e.butO hb h.eo,h.po,h.qo,h.oo,h.so,h.eo⟩
def KBO.kp (b:BankL)(N g:Nat)(P Q O S E:Option Addr×Nat):Kp:=⟨KBO b N g P Q O S E,fun h he=>h.ext he⟩
structure OwnBk (N:Nat)(b:BankL)(w:World):Prop where
 now:In64 b.now
 p:Got eI w N b.gp.A b.gp.xs b.gp.c
 q:Got eI w N b.gq.A b.gq.xs b.gq.c
 o:RowX eTpc 41 w N (.slice b.oA b.outl.length b.oc) b.outl
 s:RowX eAst 43 w N (.slice b.aA b.assets.length b.ac) b.assets
 e:RowX eEntO 56 w N (.slice b.eA b.ents.length b.ec) b.ents
 ef:∀ x∈b.ents,eEntO.From N x
 pw:Pw b.ents
 eo:OffR (.slice b.oA b.outl.length b.oc) b.ents
 es:OffR (.slice b.aA b.assets.length b.ac) b.ents
 n:Got ePar w N b.nA b.enem b.nc
theorem OwnBk.in_{N:Nat}{b:BankL}{w:World}(h:OwnBk N b w):b.In w:=by obtain⟨o1,-,o2⟩:=h.o.slx;obtain⟨s1,-,s2⟩:=h.s.slx;obtain⟨e1,-,e2⟩:=h.e.slx;exact⟨h.now,h.p.il,h.q.il,o1,o2,s1,s2,⟨e1.sl,fun x hx=>(e1.ins x hx).inn⟩,e2,h.n.sl,⟨h.n.le,h.n.mx⟩⟩
theorem OwnBk.ext{N:Nat}{b:BankL}{w w':World}(h:OwnBk N b w)(he:Ext w w'):OwnBk N b w':=⟨h.now,h.p.ext he,h.q.ext he,h.o.ext he,h.s.ext he,h.e.ext he,h.ef,h.pw,h.eo,h.es,h.n.ext he⟩
def RetBkO (w:World)(b:BankL)(e:Ending)(w':World):Prop:=∃ b':BankL,e=.returned b'.agg∧b'.bank=b.bank∧OwnBk w.heap.size b' w'

def cboL (n0 np nq no ns ne:Nat)(now:Int)(bb:BankL):List (Option Value→World→Prop):=[sv (.pointer (some ⟨n0,0,none⟩)),
 sv (.int .i64 now),
 sv (.pointer (some ⟨n0,1,none⟩)),
 sv (.agg #[.slice bb.gp.A np bb.gp.c,.slice bb.gq.A nq bb.gq.c]),
 fun u w=>∃ W:(Option Addr×Nat)×(Option Addr×Nat),
 u=some (.agg #[.slice W.1.1 np W.1.2,.slice W.2.1 nq W.2.2])∧Got eI w n0 W.1.1 bb.gp.xs W.1.2∧Got eI w n0 W.2.1 bb.gq.xs W.2.2,
 sv (.pointer (some ⟨n0,3,none⟩)),
 sv (.slice bb.oA no bb.oc),
 fun u w=>∃ W:Option Addr×Nat,
 u=some (.slice W.1 no W.2)∧RowX eTpc 41 w n0 (.slice W.1 no W.2) bb.outl,
 sv (.pointer (some ⟨n0,4,none⟩)),
 sv (.slice bb.aA ns bb.ac),
 fun u w=>∃ W:Option Addr×Nat,
 u=some (.slice W.1 ns W.2)∧RowX eAst 43 w n0 (.slice W.1 ns W.2) bb.assets,
 sv (.pointer (some ⟨n0,6,none⟩)),
 sv (.slice bb.nA ne bb.nc),
 fun u w=>∃ W:Option Addr×Nat,
 u=some (.slice W.1 ne W.2)∧Got ePar w n0 W.1 bb.enem W.2,
 fun u w=>∃ W:(Option Addr×Nat)×(Option Addr×Nat)×(Option Addr×Nat)×(Option Addr×Nat)×(Option Addr×Nat),
 u=some (.agg #[.int .i64 now,.slice W.1.1 np W.1.2,.slice W.2.1.1 nq W.2.1.2,.slice W.2.2.1.1 no W.2.2.1.2,.slice W.2.2.2.1.1 ns W.2.2.2.1.2,.slice none 0 0,.slice W.2.2.2.2.1 ne W.2.2.2.2.2])∧Got eI w n0 W.1.1 bb.gp.xs W.1.2∧Got eI w n0 W.2.1.1 bb.gq.xs W.2.1.2∧RowX eTpc 41 w n0 (.slice W.2.2.1.1 no W.2.2.1.2) bb.outl∧RowX eAst 43 w n0 (.slice W.2.2.2.1.1 ns W.2.2.2.1.2) bb.assets∧Got ePar w n0 W.2.2.2.2.1 bb.enem W.2.2.2.2.2,
 fun u w=>∃ g:Nat,
 u=some (.pointer (some ⟨g,0,none⟩))∧n0+1+1≤g∧w.heap[g]?=some (.cells #[.int .i64 0,.slice none 0 0,.slice none 0 0,.slice none 0 0,.slice none 0 0,.slice none 0 0,.slice none 0 0] 31 (0,0)),
 fun u w=>∃ V:Nat×(Option Addr×Nat)×(Option Addr×Nat)×(Option Addr×Nat)×(Option Addr×Nat)×(Option Addr×Nat),
 u=some (.pointer (some ⟨V.1,0,none⟩))∧n0+1+1≤V.1∧w.heap[V.1]?=some (.cells #[.int .i64 now,.slice V.2.1.1 np V.2.1.2,.slice V.2.2.1.1 nq V.2.2.1.2,.slice V.2.2.2.1.1 no V.2.2.2.1.2,.slice V.2.2.2.2.1.1 ns V.2.2.2.2.1.2,.slice none 0 0,.slice V.2.2.2.2.2.1 ne V.2.2.2.2.2.2] 31 (0,0))∧Got eI w n0 V.2.1.1 bb.gp.xs V.2.1.2∧Got eI w n0 V.2.2.1.1 bb.gq.xs V.2.2.1.2∧RowX eTpc 41 w n0 (.slice V.2.2.2.1.1 no V.2.2.2.1.2) bb.outl∧RowX eAst 43 w n0 (.slice V.2.2.2.2.1.1 ns V.2.2.2.2.1.2) bb.assets∧Got ePar w n0 V.2.2.2.2.2.1 bb.enem V.2.2.2.2.2.2]
theorem cboL_mono(n0 np nq no ns ne:Nat)(now:Int)(bb:BankL):AllMono (cboL n0 np nq no ns ne now bb):=⟨mono_val _,mono_val _,mono_val _,mono_val _,(fun _ _ _ he h=>h.elim fun W h=>⟨W,h.1,h.2.1.ext he,h.2.2.ext he⟩),mono_val _,mono_val _,(fun _ _ _ he h=>h.elim fun W h=>⟨W,h.1,h.2.ext he⟩),mono_val _,mono_val _,(fun _ _ _ he h=>h.elim fun W h=>⟨W,h.1,h.2.ext he⟩),mono_val _,mono_val _,(fun _ _ _ he h=>h.elim fun W h=>⟨W,h.1,h.2.ext he⟩),(fun _ _ _ he h=>h.elim fun W h=>⟨W,h.1,h.2.1.ext he,h.2.2.1.ext he,h.2.2.2.1.ext he,h.2.2.2.2.1.ext he,h.2.2.2.2.2.ext he⟩),(fun _ _ _ he h=>h.elim fun W h=>⟨W,h.1,h.2.1,he.blockAt h.2.2⟩),(fun _ _ _ he h=>h.elim fun W h=>⟨W,h.1,h.2.1,he.blockAt h.2.2.1,h.2.2.2.1.ext he,h.2.2.2.2.1.ext he,h.2.2.2.2.2.1.ext he,h.2.2.2.2.2.2.1.ext he,h.2.2.2.2.2.2.2.ext he⟩),trivial⟩
def cboD:List Nat:=[6,7,8,9,10,11,12,13,14,15,16,17,18,19,20,3,3]
def cboC (j:Nat):Option Nat:=if j=4 then some 14 else if j=7 then some 14 else if j=10 then some 14 else if j=13 then some 14 else if j=14 then some 16 else if j=15 then some 16 else none
def cboE (n0:Nat)(t:Array Value):Prop:=t.getD 1 undef=.pointer (some ⟨n0,0,none⟩)∧t.size=37

def coeL (g N k cr q5:Nat)(Ar:Option Addr)(ys:List EntL)(CI CK:Array Value)(it:Ent)(M:Nat)(K:Kp):List (Option Value→World→Prop):=[sv (.pointer (some ⟨g,5,none⟩)),
 sv (.slice Ar k cr),
 sv (.agg CI),
 fun u w=>PNew eEntO (N) (fun y:EntL=>y.ent=it∧eEntO.From M y) (EntL.agg) u w,
 fun u w=>POne eEntO (N) (fun y:EntL=>y.ent=it∧eEntO.From M y) u w,
 fun u w=>PApp eEntO (fun y:EntL=>y.ent=it∧eEntO.From M y) 56 (g+1) ys (g) (CK) 31 (K) u w,
 sv (.pointer (some ⟨g,5,none⟩)),
 fun _ w=>PSto eEntO (fun y:EntL=>y.ent=it∧eEntO.From M y) 56 (g+1) ys (g) 5 (CK) 31 (K) w,
 fun _ w=>PRow eEntO 56 (N) (g+1) (.slice Ar k cr) ys (g) (CK) 31 (K) (Kp.blk q5 CI 56) w]
theorem coeL_mono(g N k cr q5:Nat)(Ar:Option Addr)(ys:List EntL)(CI CK:Array Value)(it:Ent)(M:Nat)(K:Kp):AllMono (coeL g N k cr q5 Ar ys CI CK it M K):=⟨mono_val _,mono_val _,mono_val _,(fun _ _ _ he h=>PNew.mono he h),(fun _ _ _ he h=>POne.mono he h),(fun _ _ _ he h=>PApp.mono he h),mono_val _,(fun _ _ _ he h=>PSto.mono he h),(fun _ _ _ he h=>PRow.mono he h),trivial⟩
def coeD:List Nat:=[28,29,30,31,32,33,34,900,901]
def coeC (j:Nat):Option Nat:=if j=3 then some 4 else if j=4 then some 5 else if j=5 then some 7 else if j=8 then some 5 else none
def coeE (g q5:Nat)(t:Array Value):Prop:=t.getD 3 undef=.pointer (some ⟨g,0,none⟩)∧t.getD 5 undef=.pointer (some ⟨q5,0,none⟩)∧t.size=37

theorem bcopyO_any(b:BankL)(w:World)(h:b.In w)(hz:BankSz b.bank) :
    Calls Tryz.prog 29 #[b.agg] w fun e w'=>RetBkO w b e w'∧Ext w w':=by
 obtain⟨CBK,hcb,hnb,h1b,hkb⟩:=b.packed;rw[hcb];obtain⟨B,hB⟩:∃ B,(w.alloc (.cells CBK 31)).alloc (.cells #[.int .i64 0,.slice none 0 0,.slice none 0 0,.slice none 0 0,.slice none 0 0,.slice none 0 0,.slice none 0 0] 31)=B:=⟨_,rfl⟩;have HBX:Hid (Ext w B):=Hi (by rw[← hB];exact((Ext.refl _).alloc _).alloc _);have HBS:Hid (B.heap.size=w.heap.size+1+1):=Hi (by rw[← hB];simp);have HBA:Hid (B.heap[w.heap.size]?=some (.cells CBK 31 (0,0))):=Hi (by rw[← hB];exact two_fst' _ _ _);have HBZ:Hid (B.heap[w.heap.size+1]?=some (.cells #[.int .i64 0,.slice none 0 0,.slice none 0 0,.slice none 0 0,.slice none 0 0,.slice none 0 0,.slice none 0 0] 31 (0,0))):=Hi (by rw[← hB];exact heap_new_at _ _ _ (by simp));have HBH:=Hi hB;have H:=Hi h;obtain⟨np,hnp⟩:∃ n,b.gp.xs.length=n:=⟨_,rfl⟩;obtain⟨nq,hnq⟩:∃ n,b.gq.xs.length=n:=⟨_,rfl⟩;obtain⟨no,hno⟩:∃ n,b.outl.length=n:=⟨_,rfl⟩;obtain⟨ns,hns⟩:∃ n,b.assets.length=n:=⟨_,rfl⟩;obtain⟨ne,hne⟩:∃ n,b.enem.length=n:=⟨_,rfl⟩;obtain⟨nv,hnv⟩:∃ n,b.ents.length=n:=⟨_,rfl⟩;have HNP:=Hi hnp;have HNQ:=Hi hnq;have HNO:=Hi hno;have HNS:=Hi hns;have HNE:=Hi hne;have HNV:=Hi hnv;have hz1:np*8≤140737488355328:=by rw[← hnp];exact hz.pts
 have hz2:nq*8≤140737488355328:=by rw[← hnq];exact hz.prior
 have hz3:no*32≤140737488355328:=by rw[← hno];exact hz.outl
 have hz4:ns*48≤140737488355328:=by rw[← hns];exact hz.assets
 have hz5:ne*16≤140737488355328:=by rw[← hne];exact hz.enem
 have HZV:Hid (nv*136≤140737488355328):=Hi (by have:=hz.ents;unfold BankL.bank at this;simp only[List.length_map,hnv]at this;exact this);have HZI:Hid (∀ x∈b.ents,EntSz x.ent):=Hi (fun x hx=>hz.ent x.ent (List.mem_map.2 ⟨x,hx,rfl⟩));have CN0:Hid (B.cell? ⟨w.heap.size,0,none⟩=some (.int .i64 b.now)):=Hi ((cell_of_row _ _ 0 _ _ _ HBA.out).trans (by rw[← hkb];rfl));have CO0:Hid (B.cell? ⟨w.heap.size,3,none⟩=some (.slice b.oA no b.oc)):=Hi ((cell_of_row _ _ 3 _ _ _ HBA.out).trans (by rw[← hkb,← hno];rfl));have CS0:Hid (B.cell? ⟨w.heap.size,4,none⟩=some (.slice b.aA ns b.ac)):=Hi ((cell_of_row _ _ 4 _ _ _ HBA.out).trans (by rw[← hkb,← hns];rfl));have CE0:Hid (B.cell? ⟨w.heap.size,6,none⟩=some (.slice b.nA ne b.nc)):=Hi ((cell_of_row _ _ 6 _ _ _ HBA.out).trans (by rw[← hkb,← hne];rfl));obtain⟨VA,hVA⟩:∃ A,b.eA=A:=⟨_,rfl⟩;have J5:Hid (CBK[5]?=some (.slice VA nv b.ec)):=Hi (by rw[← hkb,← hnv,← hVA];rfl);have HVS:Hid (SlX eEnt B VA b.ents):=Hi (by rw[← hVA];exact h.ents.ext HBX.out);have HRG:Hid (B.rangeAt w.heap.size 1 (#[.slice b.gp.A np b.gp.c,.slice b.gq.A nq b.gq.c]:Array Value).toList):=Hi (fun j v hv=>by
  rw[cell_of_row _ _ (1+j) _ _ _ HBA.out,← hkb];rw[← hnp,← hnq]at hv
  match j,hv with
  | 0,hv=>exact hv
  | 1,hv=>exact hv
  | j+2,hv=>simp at hv)
 have IGR:Hid ((Tryz.prog.info? 24).map (·.size)=some (#[.slice b.gp.A np b.gp.c,.slice b.gq.A nq b.gq.c]:Array Value).size):=Hi (infoGr rfl);have IB7:Hid ((Tryz.prog.info? 31).map (·.size)=some 7):=Hi ((infoBk hnb).trans (by rw[hnb]));have EN1:=Hi (enters_of Tryz.func28 (by kernel_rfl) rfl);have EN2:=Hi (enters_of Tryz.func39 (by kernel_rfl) rfl);have ENTpc:=Hi (enters_of Tryz.func59 (by kernel_rfl) rfl);have ENAst:=Hi (enters_of Tryz.func60 (by kernel_rfl) rfl);have ENPar:=Hi (enters_of Tryz.func61 (by kernel_rfl) rfl);clear hB h hz hnp hnq hno hns hne hnv hVA hcb h1b;go_enter Tryz.func29,Tryz.ntmps29
 go_wp2_with fail
 refine region_tb (by kernel_rfl) (by decide +kernel) (cboE w.heap.size) ⟨rfl,rfl⟩ 17 cboD cboC (RG (cboL w.heap.size np nq no ns ne b.now b)) B (by rw[HBH.out];exact Ext.refl _) (fun i h1 h2=>absurd h2 (Nat.not_lt.2 h1)) ?_ ?_
 · intro Tv dd lv U wz i oZ hE ho hlv hd hT;obtain⟨t1,tz⟩:=hE;have hx:=hT.ext;have rX:=RG.ext (cboL_mono w.heap.size np nq no ns ne b.now b)
   match i,ho,hlv,hd with
   | 0,ho,hlv,hd=>cases oi ho;exact yl1 hT rX ho hd (.pointer (some ⟨w.heap.size,0,none⟩)) (od dd hT tz t1)
   | 1,ho,hlv,hd=>cases oi ho;exact yk1 hT rX ho hd (.int .i64 b.now) (nw dd hT hd tz 0 6 (.pointer (some ⟨w.heap.size,0,none⟩))) (hx.keep CN0.out)
   | 2,ho,hlv,hd=>cases oi ho;exact yl1 hT rX ho hd (.pointer (some ⟨w.heap.size,1,none⟩)) (od dd hT tz t1)
   | 3,ho,hlv,hd=>cases oi ho;have v0:=nw dd hT hd tz 2 8 (.pointer (some ⟨w.heap.size,1,none⟩));exact yxe hT rX ho hd (.agg #[.slice b.gp.A np b.gp.c,.slice b.gq.A nq b.gq.c]) (exec_load_arr _ _ rfl w.heap.size (1) v0 #[.slice b.gp.A np b.gp.c,.slice b.gq.A nq b.gq.c] _ (hx.range HRG.out) Tryz.underlying24 rfl IGR.out)
   | 4,ho,hlv,hd=>cases oi ho;have v0:=nw dd hT hd tz 3 9 (.agg #[.slice b.gp.A np b.gp.c,.slice b.gq.A nq b.gq.c]);refine cl hT rX ho hd (f:=28) (args:=#[.agg #[.slice b.gp.A np b.gp.c,.slice b.gq.A nq b.gq.c]]) (exec_call1 rfl rfl v0 EN1.out) ?_;refine(bcopyGrid_any b.gp b.gq HNP.out HNQ.out wz ((H.out.ext HBX.out).gp.ext hx) ((H.out.ext HBX.out).gq.ext hx) hz1 hz2).mono ?_;rintro e w' ⟨⟨A,D,c,d,rfl,h1,h2⟩,hb⟩;have hle:w.heap.size≤wz.heap.size:=Nat.le_trans (by rw[HBS.out];omega) hx.size;exact⟨_,rfl,hb,((A,c),(D,d)),rfl,h1.low hle,h2.low hle⟩
   | 5,ho,hlv,hd=>cases oi ho;exact yl1 hT rX ho hd (.pointer (some ⟨w.heap.size,3,none⟩)) (od dd hT tz t1)
   | 6,ho,hlv,hd=>cases oi ho;exact yk1 hT rX ho hd (.slice b.oA no b.oc) (nw dd hT hd tz 5 11 (.pointer (some ⟨w.heap.size,3,none⟩))) (hx.keep CO0.out)
   | 7,ho,hlv,hd=>cases oi ho;have v0:=nw dd hT hd tz 6 12 (.slice b.oA no b.oc);refine cl hT rX ho hd (f:=59) (args:=#[.slice b.oA no b.oc]) (exec_call1 rfl rfl v0 ENTpc.out) ?_;refine(cloneOTpc b.oA b.oc b.outl HNO.out wz (((H.out.ext HBX.out).outl).ext hx) hz3).mono ?_;rintro e w' ⟨A1,c1,rfl,hg,hb⟩;exact⟨_,rfl,hb,(A1,c1),rfl,hg.low (Nat.le_trans (by rw[HBS.out];omega) hx.size)⟩
   | 8,ho,hlv,hd=>cases oi ho;exact yl1 hT rX ho hd (.pointer (some ⟨w.heap.size,4,none⟩)) (od dd hT tz t1)
   | 9,ho,hlv,hd=>cases oi ho;exact yk1 hT rX ho hd (.slice b.aA ns b.ac) (nw dd hT hd tz 8 14 (.pointer (some ⟨w.heap.size,4,none⟩))) (hx.keep CS0.out)
   | 10,ho,hlv,hd=>cases oi ho;have v0:=nw dd hT hd tz 9 15 (.slice b.aA ns b.ac);refine cl hT rX ho hd (f:=60) (args:=#[.slice b.aA ns b.ac]) (exec_call1 rfl rfl v0 ENAst.out) ?_;refine(cloneOAst b.aA b.ac b.assets HNS.out wz (((H.out.ext HBX.out).assets).ext hx) hz4).mono ?_;rintro e w' ⟨A1,c1,rfl,hg,hb⟩;exact⟨_,rfl,hb,(A1,c1),rfl,hg.low (Nat.le_trans (by rw[HBS.out];omega) hx.size)⟩
   | 11,ho,hlv,hd=>cases oi ho;exact yl1 hT rX ho hd (.pointer (some ⟨w.heap.size,6,none⟩)) (od dd hT tz t1)
   | 12,ho,hlv,hd=>cases oi ho;exact yk1 hT rX ho hd (.slice b.nA ne b.nc) (nw dd hT hd tz 11 17 (.pointer (some ⟨w.heap.size,6,none⟩))) (hx.keep CE0.out)
   | 13,ho,hlv,hd=>cases oi ho;have v0:=nw dd hT hd tz 12 18 (.slice b.nA ne b.nc);refine cl hT rX ho hd (f:=61) (args:=#[.slice b.nA ne b.nc]) (exec_call1 rfl rfl v0 ENPar.out) ?_;refine(clonePar b.nA b.nc b.enem HNE.out wz (((H.out.ext HBX.out).enem).ext hx) hz5).mono ?_;rintro e w' hr;obtain⟨A1,c1,rfl,hg,hb,hnil⟩:=hr.got' HNE.out (fun _ _=>trivial);exact⟨_,rfl,hb,(A1,c1),rfl,hg.low (Nat.le_trans (by rw[HBS.out];omega) hx.size)⟩
   | 14,ho,hlv,hd=>cases oi ho;have v7:=nw dd hT hd tz 1 7 (.int .i64 b.now);obtain⟨W1,e10,h1,h2⟩:∃ W:(Option Addr×Nat)×(Option Addr×Nat),U 10=some (.agg #[.slice W.1.1 np W.1.2,.slice W.2.1 nq W.2.2])∧Got eI wz w.heap.size W.1.1 b.gp.xs W.1.2∧Got eI wz w.heap.size W.2.1 b.gq.xs W.2.2:=hT.facts 4 (by decide) (dep hd 4 (by kernel_rfl)) (fun c e=>by injection e with e;subst e;exact hlv);have v10:Act.eval ⟨over Tv U,dd⟩ (.tmp 10)=_:=eval_new (t:=Tv) (d:=dd) e10 (by show 10<Tv.size;omega);obtain⟨W3,e13,h3⟩:∃ W:Option Addr×Nat,U 13=some (.slice W.1 no W.2)∧RowX eTpc 41 wz w.heap.size (.slice W.1 no W.2) b.outl:=hT.facts 7 (by decide) (dep hd 7 (by kernel_rfl)) (fun c e=>by injection e with e;subst e;exact hlv);have v13:Act.eval ⟨over Tv U,dd⟩ (.tmp 13)=_:=eval_new (t:=Tv) (d:=dd) e13 (by show 13<Tv.size;omega);obtain⟨W4,e16,h4⟩:∃ W:Option Addr×Nat,U 16=some (.slice W.1 ns W.2)∧RowX eAst 43 wz w.heap.size (.slice W.1 ns W.2) b.assets:=hT.facts 10 (by decide) (dep hd 10 (by kernel_rfl)) (fun c e=>by injection e with e;subst e;exact hlv);have v16:Act.eval ⟨over Tv U,dd⟩ (.tmp 16)=_:=eval_new (t:=Tv) (d:=dd) e16 (by show 16<Tv.size;omega);obtain⟨W5,e19,h5⟩:∃ W:Option Addr×Nat,U 19=some (.slice W.1 ne W.2)∧Got ePar wz w.heap.size W.1 b.enem W.2:=hT.facts 13 (by decide) (dep hd 13 (by kernel_rfl)) (fun c e=>by injection e with e;subst e;exact hlv);have v19:Act.eval ⟨over Tv U,dd⟩ (.tmp 19)=_:=eval_new (t:=Tv) (d:=dd) e19 (by show 19<Tv.size;omega);exact yxe hT rX ho hd (.agg #[.int .i64 b.now,.slice W1.1.1 np W1.1.2,.slice W1.2.1 nq W1.2.2,.slice W3.1 no W3.2,.slice W4.1 ns W4.2,.slice none 0 0,.slice W5.1 ne W5.2]) (exec_buildL 31 _ rfl [(0,.int .i64 b.now),(1,.agg #[.slice W1.1.1 np W1.1.2,.slice W1.2.1 nq W1.2.2]),(2,.slice W3.1 no W3.2),(3,.slice W4.1 ns W4.2),(5,.slice W5.1 ne W5.2)] (by simp[v7,v10,v13,v16,v19]) _ (by kernel_rfl)) (hR:=⟨(W1.1,W1.2,W3,W4,W5),rfl,h1,h2,h3,h4,h5⟩)
   | 15,ho,hlv,hd =>
    cases oi ho;refine tb_extW (v:=.pointer (some ⟨wz.heap.size,0,none⟩)) (w':=wz.alloc (.cells #[.int .i64 0,.slice none 0 0,.slice none 0 0,.slice none 0 0,.slice none 0 0,.slice none 0 0,.slice none 0 0] 31)) (RG.ext (cboL_mono w.heap.size np nq no ns ne b.now b)) hT ho hd rfl rfl (by decide) ?_ ?_ ((Ext.refl _).alloc _) ⟨wz.heap.size,rfl,by have:=hx.size;rw[HBS.out]at this;exact this,heap_alloc_new _ _⟩
    · intro j hj hji hlj
      match j,hj,hlj with
      | 0,_,_=>decide
      | 1,_,_=>decide
      | 2,_,_=>decide
      | 3,_,_=>decide
      | 4,_,_=>decide
      | 5,_,_=>decide
      | 6,_,_=>decide
      | 7,_,_=>decide
      | 8,_,_=>decide
      | 9,_,_=>decide
      | 10,_,_=>decide
      | 11,_,_=>decide
      | 12,_,_=>decide
      | 13,_,_=>decide
      | 14,_,_=>decide
      | 15,_,_=>exact absurd rfl hji
      | 16,_,hlj=>exact absurd (dep (hT.shut 16 _ rfl hlj) 15 (by kernel_rfl)) (by rw[hlv];decide)
      | j+17,hj,_=>exact absurd hj (by omega)
    · generalize Act.eval ⟨over Tv U,dd⟩=ev at *;simp[execOp,go_sem]
   | 16,ho,hlv,hd =>
    cases oi ho;obtain⟨W,e20,h1,h2,h3,h4,h5⟩:∃ W:(Option Addr×Nat)×(Option Addr×Nat)×(Option Addr×Nat)×(Option Addr×Nat)×(Option Addr×Nat),U 20=some (.agg #[.int .i64 b.now,.slice W.1.1 np W.1.2,.slice W.2.1.1 nq W.2.1.2,.slice W.2.2.1.1 no W.2.2.1.2,.slice W.2.2.2.1.1 ns W.2.2.2.1.2,.slice none 0 0,.slice W.2.2.2.2.1 ne W.2.2.2.2.2])∧Got eI wz w.heap.size W.1.1 b.gp.xs W.1.2∧Got eI wz w.heap.size W.2.1.1 b.gq.xs W.2.1.2∧RowX eTpc 41 wz w.heap.size (.slice W.2.2.1.1 no W.2.2.1.2) b.outl∧RowX eAst 43 wz w.heap.size (.slice W.2.2.2.1.1 ns W.2.2.2.1.2) b.assets∧Got ePar wz w.heap.size W.2.2.2.2.1 b.enem W.2.2.2.2.2:=hT.facts 14 (by decide) (dep hd 14 (by kernel_rfl)) (fun c e=>by injection e with e;subst e;exact hlv);have v20:Act.eval ⟨over Tv U,dd⟩ (.tmp 20)=_:=eval_new (t:=Tv) (d:=dd) e20 (by show 20<Tv.size;omega);obtain⟨g,e0,hg,hblk⟩:∃ g:Nat,U 3=some (.pointer (some ⟨g,0,none⟩))∧w.heap.size+1+1≤g∧wz.heap[g]?=some (.cells #[.int .i64 0,.slice none 0 0,.slice none 0 0,.slice none 0 0,.slice none 0 0,.slice none 0 0,.slice none 0 0] 31 (0,0)):=hT.facts 15 (by decide) (dep hd 15 (by kernel_rfl)) (fun c e=>by injection e with e;subst e;exact hlv);have v0:Act.eval ⟨over Tv U,dd⟩ (.tmp 3)=_:=eval_new (t:=Tv) (d:=dd) e0 (by show 3<Tv.size;omega);have hb9:=But.setRow g wz #[.int .i64 b.now,.slice W.1.1 np W.1.2,.slice W.2.1.1 nq W.2.1.2,.slice W.2.2.1.1 no W.2.2.1.2,.slice W.2.2.2.1.1 ns W.2.2.2.1.2,.slice none 0 0,.slice W.2.2.2.2.1 ne W.2.2.2.2.2];refine tb_store (w':=wz.setRow g #[.int .i64 b.now,.slice W.1.1 np W.1.2,.slice W.2.1.1 nq W.2.1.2,.slice W.2.2.1.1 no W.2.2.1.2,.slice W.2.2.2.1.1 ns W.2.2.2.1.2,.slice none 0 0,.slice W.2.2.2.2.1 ne W.2.2.2.2.2]) hT ho hd rfl rfl (exec_store_row 31 (.tmp 3) (.tmp 20) rfl g _ v0 v20 31 _ hblk IB7.out rfl (by simp[Value.oneCell'])) (hx.rowSet (by rw[HBS.out];exact hg) _) ⟨(g,W),e0,hg,setRow_heap _ _ _ _ _ _ hblk,h1.keepT hblk (by decide) (fun _ _=>trivial) hb9,h2.keepT hblk (by decide) (fun _ _=>trivial) hb9,h3.keepT hblk (by decide) (fun _ _=>trivial) hb9,h4.keepT hblk (by decide) (fun _ _=>trivial) hb9,h5.keepT hblk (by decide) (fun _ _=>trivial) hb9⟩ ?_;intro j hj hji hlj hcj hR
    match j,hj,hR with
    | 0,_,hR=>exact hR
    | 1,_,hR=>exact hR
    | 2,_,hR=>exact hR
    | 3,_,hR=>exact hR
    | 4,_,_=>exact absurd (dep hd 14 (by kernel_rfl)) (by rw[(hcj 14 rfl).2];decide)
    | 5,_,hR=>exact hR
    | 6,_,hR=>exact hR
    | 7,_,_=>exact absurd (dep hd 14 (by kernel_rfl)) (by rw[(hcj 14 rfl).2];decide)
    | 8,_,hR=>exact hR
    | 9,_,hR=>exact hR
    | 10,_,_=>exact absurd (dep hd 14 (by kernel_rfl)) (by rw[(hcj 14 rfl).2];decide)
    | 11,_,hR=>exact hR
    | 12,_,hR=>exact hR
    | 13,_,_=>exact absurd (dep hd 14 (by kernel_rfl)) (by rw[(hcj 14 rfl).2];decide)
    | 14,_,_=>exact absurd rfl (hcj 16 rfl).1
    | 15,_,_=>exact absurd rfl (hcj 16 rfl).1
    | 16,_,_=>exact absurd rfl hji
    | j+17,hj,_=>exact absurd hj (by omega)
   | i+17,ho,_,_=>exact absurd ho (by simp)
 intro U wz hex hout hfin;obtain⟨W3,f3,hW3⟩:=hfin 16 (by decide) rfl
 change U 3=_ at f3
 have XE:=Hi hex;clear hex hfin;rw[over_list];simp(disch:=decide) only[overL,Nat.reduceAdd,hout,Option.getD_none];rw[f3];simp only[Option.getD_some];clear hout f3;obtain⟨g,P0,Q0,O0,S0,E0⟩:=W3;obtain⟨hg,hblk,h1,h2,h3,h4,h5⟩:=hW3
 dsimp only at hg hblk h1 h2 h3 h4 h5 ⊢
 obtain⟨C3,hca⟩:∃ C,(#[.int .i64 b.now,.slice P0.1 np P0.2,.slice Q0.1 nq Q0.2,.slice O0.1 no O0.2,.slice S0.1 ns S0.2,.slice none 0 0,.slice E0.1 ne E0.2]:Array Value)=C:=⟨_,rfl⟩;rw[hca]at hblk;have HK0:Hid (KBO b w.heap.size g P0 Q0 O0 S0 E0 wz):=Hi ⟨h1,h2,by rw[HNO.out];exact h3,by rw[HNS.out];exact h4,h5,⟨h1.ty.off hblk (by decide),fun _ _=>trivial⟩,⟨h2.ty.off hblk (by decide),fun _ _=>trivial⟩,by rw[HNO.out];exact own_other h3.own hblk (by decide),by rw[HNS.out];exact own_other h4.own hblk (by decide),⟨h5.ty.off hblk (by decide),fun _ _=>trivial⟩⟩;have HCA3:=Hi hca;have HC3:=Hi hblk;have HB3:=XE;have HBG:Hid (B.heap.size≤g):=Hi (by rw[HBS.out];exact hg);have hv63:nv≤9223372036854775807:=by have:=HZV.out;omega
 have HSZ:Hid (C3.size=7):=Hi (by rw[← hca];rfl);have HS0:Hid (C3[5]?=some (.slice none 0 0)):=Hi (by rw[← hca];rfl);have cv:wz.cell? ⟨w.heap.size,5,none⟩=some (.slice VA nv b.ec):=(cell_of_row _ _ 5 _ _ _ (XE.out.blockAt HBA.out)).trans J5.out;clear hblk h1 h2 h3 h4 h5 hca XE hnb hkb HRG IGR;obtain⟨iI,hi,hz,hs,hb⟩:=info_parts infoEnt;go_wp2;go_loopw [24] (fun i wr=>∃ (k:Nat) (ys:List EntL) (Ar:Option Addr) (cr:Nat),k≤nv∧i=.int .i64 k∧Hid (ents ys=ents (b.ents.take k))∧Hid (ys.length=k)∧Hid (RowX eEntO 56 wr (g+1) (.slice Ar k cr) ys)∧Hid (∀ y∈ys,eEntO.From (g+1) y)∧Hid (Pw ys)∧Hid (OffR (.slice O0.1 b.outl.length O0.2) ys∧OffR (.slice S0.1 b.assets.length S0.2) ys)∧Hid (wr.heap[g]?=some (.cells (C3.setIfInBounds 5 (.slice Ar k cr)) 31 (0,0)))∧Hid (Ext B wr)∧Hid (KBO b w.heap.size g P0 Q0 O0 S0 E0 wr)) (fun i _=>nv-(intOf i).toNat)
 case atStart=>exact⟨0,[],none,0,by omega,rfl,Hi rfl,Hi rfl,Hi (RowX.nil _ _ _),Hi (fun y hy=>by simp at hy),Hi Pw.nil,Hi ⟨fun x hx=>by simp at hx,fun x hx=>by simp at hx⟩,Hi (by rw[set_self HS0.out];exact HC3.out),HB3,HK0⟩
 case round =>
  obtain⟨k,ys,Ar,cr,hk,rfl,HY,HYL,HROW,HYF,HPW,HOS,HG,HXB,HK⟩:=hrel;clear cv;by_cases hlt:k<nv
  · obtain⟨x,hx⟩:∃ x,b.ents[k]?=some x:=⟨b.ents[k]'(by rw[HNV.out];exact hlt),List.getElem?_eq_getElem _⟩;obtain⟨bb,off,rfl,hbl,hc,hin⟩:=HVS.out.at_ hx;obtain⟨CI,hci,hni,h1i,hki⟩:=x.packed;have HC:Hid (wr.rangeAt bb (off+k*7) CI.toList):=Hi (HXB.out.range (by rw[← hki];exact hc));have II:=Hi (infoEn hni);have NI:=Hi hni;have OI:=Hi h1i;have HIN:Hid (x.In B):=Hi hin;have HX:=Hi hx;have HCI:=Hi (fun w h=>bcopyEntry_any x w h (HZI.out x (List.mem_of_getElem? hx)));rw[hci]at HCI;have ki0:(0:Int)≤(k:Int):=(by omega);have ki1:(k:Int)<(nv:Int):=(by omega);clear hx hc hin hci hni h1i hki;have XW:Hid (Ext wr (wr.alloc (.cells CI 56))):=Hi ((Ext.refl _).alloc _);have HCO:Hid ((C3.setIfInBounds 5 (.slice Ar k cr))[5]?=some (.slice Ar k cr)):=Hi (by rw[Array.getElem?_setIfInBounds,if_pos rfl,if_pos (by rw[HSZ.out];omega)]);have HOB:Hid (∀ q,(Value.slice Ar k cr).ownBlock=some q→q<(wr.alloc (.cells CI 56)).heap.size):=Hi (fun q hq=>Nat.lt_of_lt_of_le (own_lt HROW.out.own q hq) XW.out.size);have HBN:Hid (g+1≤(wr.alloc (.cells CI 56)).heap.size):=Hi (blk_lt (XW.out.blockAt HG.out));have HBB:Hid (B.heap.size≤g+1):=Hi (Nat.le_succ_of_le HBG.out);have HGB:Hid (g<g+1):=Hi (Nat.lt_succ_self _);have HLM:Hid (ys.length+1≤maxLen):=Hi (by rw[HYL.out];unfold maxLen;omega);have HLB:Hid ((ys.length+1)*136≤140737488355328):=Hi (by rw[HYL.out];have:=HZV.out;omega);have HFR:=HYF;have HKO:Hid (∀ (u1 u2:World) (q:Nat) (cur:Array Value) (fr:Nat×Nat),u1.heap[q]?=some (.cells cur 56 fr)→But q u1 u2→(KBO.kp b w.heap.size g P0 Q0 O0 S0 E0).K u1→(KBO.kp b w.heap.size g P0 Q0 O0 S0 E0).K u2):=Hi (fun w w' q cur fr h1 h2 h3=>KBO.kt h1 (by decide) (by decide) (by decide) (by decide) h2 h3);have HKG:Hid (∀ (u1 u2:World),But g u1 u2→(KBO.kp b w.heap.size g P0 Q0 O0 S0 E0).K u1→(KBO.kp b w.heap.size g P0 Q0 O0 S0 E0).K u2):=Hi (fun w w' h1 h2=>KBO.kg w w' h1 h2);have HROW0:Hid (PRow eEntO 56 (wr.alloc (.cells CI 56)).heap.size (g+1) (.slice Ar k cr) ys g (C3.setIfInBounds 5 (.slice Ar k cr)) 31 (KBO.kp b w.heap.size g P0 Q0 O0 S0 E0) (Kp.blk wr.heap.size CI 56) (wr.alloc (.cells CI 56))):=Hi ⟨HROW.out.ext XW.out,XW.out.blockAt HG.out,Nat.le_refl _,HK.out.ext XW.out,heap_alloc_new _ _⟩;go_wp2_with (first
     | (with_reducible refine wpList_load_arr rfl 56 (.tmp 26) rfl bb (off+k*7) (by with_unfolding_all rfl) CI _ HC.out Tryz.underlying56 rfl II.out ?_)
     | (with_reducible refine wpList_store_new rfl 56 (.tmp 5) (.tmp 27) rfl _ CI 56 (by with_unfolding_all rfl) (by with_unfolding_all rfl) II.out (by with_unfolding_all exact NI.out.symm) OI.out ?_))
    simp only[Act.put];refine region_tb (by kernel_rfl) (by decide +kernel) (coeE g wr.heap.size) ⟨rfl,rfl,rfl⟩ 9 coeD coeC (RG (coeL g ((wr.alloc (.cells CI 56)).heap.size) k cr wr.heap.size Ar ys CI ((C3.setIfInBounds 5 (.slice Ar k cr))) x.ent wr.heap.size ((KBO.kp b w.heap.size g P0 Q0 O0 S0 E0)))) B (HXB.out.trans XW.out) (fun i h1 h2=>by
    have h3:8≤i:=h1;have h4:i<9:=h2;obtain rfl:i=8:=by omega
    exact PRow.mono ((Ext.refl _).drew) HROW0.out) ?_ ?_
    · intro Tv dd lv U wz i oZ hE ho hlv hd hT;obtain⟨t3,t5,tz⟩:=hE;have hx:=hT.ext;have rX:=RG.ext (coeL_mono g ((wr.alloc (.cells CI 56)).heap.size) k cr wr.heap.size Ar ys CI ((C3.setIfInBounds 5 (.slice Ar k cr))) x.ent wr.heap.size ((KBO.kp b w.heap.size g P0 Q0 O0 S0 E0)))
      match i,ho,hlv,hd with
      | 0,ho,hlv,hd=>cases oi ho;exact yl1 hT rX ho hd (.pointer (some ⟨g,5,none⟩)) (od dd hT tz t3)
      | 1,ho,hlv,hd =>
       cases oi ho;have hnA:lv 5=false:=by
        cases hA:lv 5 with
        | false=>rfl
        | true=>exact absurd (dep (hT.shut 5 _ rfl hA) 1 (by kernel_rfl)) (by rw[hlv];decide)
       have hrow:PRow eEntO 56 ((wr.alloc (.cells CI 56)).heap.size) (g+1) (.slice Ar k cr) ys (g) ((C3.setIfInBounds 5 (.slice Ar k cr))) 31 ((KBO.kp b w.heap.size g P0 Q0 O0 S0 E0)) (Kp.blk wr.heap.size CI 56) wz:=hT.facts 8 (by decide) (hT.past 8 (by decide)) (fun c e=>by injection e with e;subst e;exact hnA);exact yk1 hT rX ho hd (.slice Ar k cr) (nw dd hT hd tz 0 28 (.pointer (some ⟨g,5,none⟩))) ((cell_of_row _ _ 5 _ _ _ hrow.2.1).trans HCO.out)
      | 2,ho,hlv,hd =>
       cases oi ho;have v0:=od dd hT tz t5;have hnA:lv 5=false:=by
        cases hA:lv 5 with
        | false=>rfl
        | true=>exact absurd (dep (hT.shut 3 _ rfl (dep (hT.shut 4 _ rfl (dep (hT.shut 5 _ rfl hA) 4 (by kernel_rfl))) 3 (by kernel_rfl))) 2 (by kernel_rfl)) (by rw[hlv];decide)
       have hrow:PRow eEntO 56 ((wr.alloc (.cells CI 56)).heap.size) (g+1) (.slice Ar k cr) ys (g) ((C3.setIfInBounds 5 (.slice Ar k cr))) 31 ((KBO.kp b w.heap.size g P0 Q0 O0 S0 E0)) (Kp.blk wr.heap.size CI 56) wz:=hT.facts 8 (by decide) (hT.past 8 (by decide)) (fun c e=>by injection e with e;subst e;exact hnA);exact yxe hT rX ho hd (.agg CI) (exec_load_row _ _ rfl wr.heap.size v0 _ _ _ _ hrow.2.2.2.2 Tryz.underlying56 rfl II.out)
      | 3,ho,hlv,hd =>
       cases oi ho;have v0:=nw dd hT hd tz 2 30 (.agg CI);have hnA:lv 5=false:=by
        cases hA:lv 5 with
        | false=>rfl
        | true=>exact absurd (dep (hT.shut 4 _ rfl (dep (hT.shut 5 _ rfl hA) 4 (by kernel_rfl))) 3 (by kernel_rfl)) (by rw[hlv];decide)
       have hrow:PRow eEntO 56 ((wr.alloc (.cells CI 56)).heap.size) (g+1) (.slice Ar k cr) ys (g) ((C3.setIfInBounds 5 (.slice Ar k cr))) 31 ((KBO.kp b w.heap.size g P0 Q0 O0 S0 E0)) (Kp.blk wr.heap.size CI 56) wz:=hT.facts 8 (by decide) (hT.past 8 (by decide)) (fun c e=>by injection e with e;subst e;exact hnA);refine cl hT rX ho hd (f:=39) (args:=#[.agg CI]) (exec_call1 rfl rfl v0 EN2.out) ?_;refine(HCI.out wz (HIN.out.ext hx)).mono ?_;rintro r w' ⟨hr,hb⟩;obtain⟨e',rfl,h1,h2,h3⟩:=hr.own;have hf:=eEntO.mono h3 hrow.2.2.1;exact⟨_,rfl,hb,⟨e',rfl,h2,hf,h1,eEntO.mono hf XW.out.size⟩⟩
      | 4,ho,hlv,hd=>cases oi ho;obtain⟨y0,e0,h2,h3,h4⟩:PNew eEntO ((wr.alloc (.cells CI 56)).heap.size) (fun y:EntL=>y.ent=x.ent∧eEntO.From wr.heap.size y) (EntL.agg) (U 31) wz:=hT.facts 3 (by decide) (dep hd 3 (by kernel_rfl)) (fun c e=>by injection e with e;subst e;exact hlv);have v0:Act.eval ⟨over Tv U,dd⟩ (.tmp 31)=_:=eval_new (t:=Tv) (d:=dd) e0 (by show 31<Tv.size;omega);refine tbw_yield (v:=.slice (some ⟨wz.heap.size,0,none⟩) 1 1) (RG.ext (coeL_mono g ((wr.alloc (.cells CI 56)).heap.size) k cr wr.heap.size Ar ys CI ((C3.setIfInBounds 5 (.slice Ar k cr))) x.ent wr.heap.size ((KBO.kp b w.heap.size g P0 Q0 O0 S0 E0)))) hT ho hd (wanted_plain rfl) rfl (by decide) (by decide) (exec_buildOne 28 56 (.tmp 31) rfl v0 Tryz.underlying28 hi hz hs (by decide) (by decide) (by simp[EntL.agg,Value.cells])) ((Ext.refl _).alloc _) (PNew.one (E:=eEntO) (val:=EntL.agg) 56 (by simp[EntL.agg,Value.cells,eEntO,EntL.cells]) h2 h3 h4)
      | 5,ho,hlv,hd =>
       cases oi ho;have v0:=nw dd hT hd tz 1 29 (.slice Ar k cr);have hnA:lv 5=false:=hlv;have hrow:PRow eEntO 56 ((wr.alloc (.cells CI 56)).heap.size) (g+1) (.slice Ar k cr) ys (g) ((C3.setIfInBounds 5 (.slice Ar k cr))) 31 ((KBO.kp b w.heap.size g P0 Q0 O0 S0 E0)) (Kp.blk wr.heap.size CI 56) wz:=hT.facts 8 (by decide) (hT.past 8 (by decide)) (fun c e=>by injection e with e;subst e;exact hnA);have h1:POne eEntO ((wr.alloc (.cells CI 56)).heap.size) (fun y:EntL=>y.ent=x.ent∧eEntO.From wr.heap.size y) (U 32) wz:=hT.facts 4 (by decide) (dep hd 4 (by kernel_rfl)) (fun c e=>by injection e with e;subst e;exact hlv);obtain⟨y,u',w',hU,hrun,hx2,hP⟩:=hrow.app (P:=Tryz.prog) (t:=28) (ty:=28) Tryz.underlying28 hi hz hs hb rfl (by decide) HKO.out h1 HOB.out HBN.out hx HBB.out HLM.out HLB.out;have v1:Act.eval ⟨over Tv U,dd⟩ (.tmp 32)=_:=eval_new (t:=Tv) (d:=dd) hU (by show 32<Tv.size;omega);refine tb_yield (v:=u') (w':=w') hT ho hd rfl rfl (by decide) (by decide) (exec_append rfl v0 v1 hrun) hx2 hP ?_;intro j hj hji hlj hcj hR
       match j,hj,hR with
       | 0,_,hR=>exact hR
       | 1,_,hR=>exact hR
       | 2,_,hR=>exact hR
       | 3,_,_=>exact absurd (dep hd 4 (by kernel_rfl)) (by rw[(hcj 4 rfl).2];decide)
       | 4,_,_=>exact absurd rfl (hcj 5 rfl).1
       | 5,_,_=>exact absurd rfl hji
       | 6,_,hR=>exact hR
       | 7,_,_=>exact absurd (dep (hT.shut 7 _ rfl hlj) 5 (by kernel_rfl)) (by rw[hlv];decide)
       | 8,_,_=>exact absurd rfl (hcj 5 rfl).1
       | j+9,hj,_=>exact absurd hj (by omega)
      | 6,ho,hlv,hd=>cases oi ho;exact yl1 hT rX ho hd (.pointer (some ⟨g,5,none⟩)) (od dd hT tz t3)
      | 7,ho,hlv,hd =>
       cases oi ho;have v0:=nw dd hT hd tz 6 34 (.pointer (some ⟨g,5,none⟩));obtain⟨y0,A',c',hU,h2,h3,h4,h5,h6⟩:PApp eEntO (fun y:EntL=>y.ent=x.ent∧eEntO.From wr.heap.size y) 56 (g+1) ys (g) ((C3.setIfInBounds 5 (.slice Ar k cr))) 31 ((KBO.kp b w.heap.size g P0 Q0 O0 S0 E0)) (U 33) wz:=hT.facts 5 (by decide) (dep hd 5 (by kernel_rfl)) (fun c e=>by injection e with e;subst e;exact hlv);have v1:Act.eval ⟨over Tv U,dd⟩ (.tmp 33)=_:=eval_new (t:=Tv) (d:=dd) hU (by show 33<Tv.size;omega);have hc:=(cell_of_row _ _ 5 _ _ _ h5).trans HCO.out;have hfz:=frozen_of_row _ _ 5 _ _ h5;refine tb_store (w':=wz.setCell ⟨g,5,none⟩ (.slice A' (ys.length+1) c')) hT ho hd rfl rfl ?_ (hx.setCell HBG.out _) (PApp.sto rfl h2 h3 h4 h5 h6 HKG.out (by decide) HGB.out HFR.out) ?_
       · generalize Act.eval ⟨over Tv U,dd⟩=ev at *;simp[execOp,v0,v1,go_sem,hc,hfz]
       · intro j hj hji hlj hcj hR
         match j,hj,hR with
         | 0,_,hR=>exact hR
         | 1,_,hR=>exact hR
         | 2,_,hR=>exact hR
         | 3,_,_=>exact absurd (dep (hT.shut 5 _ rfl (dep hd 5 (by kernel_rfl))) 4 (by kernel_rfl)) (by rw[(hcj 4 rfl).2];decide)
         | 4,_,_=>exact absurd (dep hd 5 (by kernel_rfl)) (by rw[(hcj 5 rfl).2];decide)
         | 5,_,_=>exact absurd rfl (hcj 7 rfl).1
         | 6,_,hR=>exact hR
         | 7,_,_=>exact absurd rfl hji
         | 8,_,_=>exact absurd (dep hd 5 (by kernel_rfl)) (by rw[(hcj 5 rfl).2];decide)
         | j+9,hj,_=>exact absurd hj (by omega)
      | i+8,ho,_,_=>exact absurd ho (by simp)
    intro U wz hex hout hfin;have PS:PSto eEntO (fun y:EntL=>y.ent=x.ent∧eEntO.From wr.heap.size y) 56 (g+1) ys (g) 5 ((C3.setIfInBounds 5 (.slice Ar k cr))) 31 ((KBO.kp b w.heap.size g P0 Q0 O0 S0 E0)) wz:=hfin 7 (by decide) rfl;have XE:=Hi hex;clear hex hfin;rw[over_list];simp(disch:=decide) only[overL,Nat.reduceAdd,hout,Option.getD_none];clear hout;obtain⟨y,A',c',hrow,hfr,hD,hblk,hK⟩:=PS;rw[HYL.out]at hrow hblk;rw[set_set]at hblk;have HY2:Hid (ents (ys ++ [y])=ents (b.ents.take (k+1))):=Hi (ents_next HY.out HX.out hD.1);have HYL2:Hid ((ys ++ [y]).length=k+1):=Hi (by rw[List.length_append,HYL.out];rfl);have HR2:=Hi hrow;have HF2:Hid (∀ z∈ys ++ [y],eEntO.From (g+1) z):=Hi (fun z hz=>by
     rcases List.mem_append.1 hz with hz | hz
     · exact HYF.out z hz
     · rw[List.mem_singleton]at hz;rw[hz];exact hfr)
    have HP2:=Hi (HPW.out.app HROW.out.ins hD.2);have HOS2:=Hi (And.intro (HOS.out.1.app (own_lt HK.out.o.own) hD.2) (HOS.out.2.app (own_lt HK.out.s.own) hD.2));have HB2:=Hi hblk;have HK2:=Hi hK;clear hrow hfr hD hblk hK;go_wp2;go_roundw;case rel=>exact⟨k+1,ys ++ [y],A',c',by omega,by go_num,HY2,HYL2,HR2,HF2,HP2,HOS2,HB2,XE,HK2⟩
    case measure=>simp[intOf];omega
  · obtain rfl:k=nv:=by omega
    have HZB:=Hi (HXB.out.blockAt HBZ.out);obtain⟨CF,hcf⟩:∃ C,C3.setIfInBounds 5 (.slice Ar k cr)=C:=⟨_,rfl⟩;rw[hcf]at HG;have HSF:Hid (CF.size=7):=Hi (by rw[← hcf,Array.size_setIfInBounds];exact HSZ.out);have HFIN:Hid (CF=(BankL.cells ⟨b.now,⟨P0.1,P0.2,b.gp.xs⟩,⟨Q0.1,Q0.2,b.gq.xs⟩,O0.1,O0.2,b.outl,S0.1,S0.2,b.assets,Ar,cr,ys,E0.1,E0.2,b.enem⟩).toArray):=Hi (by rw[← hcf,← HCA3.out,← HNP.out,← HNQ.out,← HNO.out,← HNS.out,← HNE.out,← HYL.out];rfl)
    have H1C:Hid (CF.all (·.oneCell')=true):=Hi (by rw[HFIN.out];simp[BankL.cells,IL.val,Value.oneCell']);have INF:=Hi (infoBk HSF.out);have IZ:Hid ((#[.int .i64 0,.slice none 0 0,.slice none 0 0,.slice none 0 0,.slice none 0 0,.slice none 0 0,.slice none 0 0]:Array Value).size=CF.size):=Hi HSF.out.symm;clear hcf;go_wp2_with (first
     | (with_reducible refine wpList_load_row rfl 31 (.tmp 3) rfl (g) (by with_unfolding_all rfl) _ CF _ _ HG.out Tryz.underlying31 rfl INF.out ?_)
     | (with_reducible refine wpList_store_row rfl 31 (.tmp 2) (.tmp 36) rfl (w.heap.size+1) CF (by with_unfolding_all rfl) (by with_unfolding_all rfl) _ _ HZB.out INF.out IZ.out H1C.out ?_))
    refine bodyPost_ret (v:=.agg CF) (results_oneR Tryz.results29 _ _ (w.heap.size+1) _ CF _ _ rfl (setRow_heap _ _ _ _ _ _ HZB.out) Tryz.underlying31 rfl INF.out) rfl ?_;have hb1:=But.setRow (w.heap.size+1) wr CF;have hrow2:RowX eEntO 56 (wr.setRow (w.heap.size+1) CF) (g+1) (.slice Ar k cr) ys:=HROW.out.but hb1 (fun q=>by have:=own_ge HROW.out.own _ q;omega) (fun x hx=>eEntO.frm (HYF.out x hx) (by omega));have hk2:KBO b w.heap.size g P0 Q0 O0 S0 E0 (wr.setRow (w.heap.size+1) CF):=HK.out.kt HZB.out (by decide) (by decide) (by decide) (by decide) hb1;rw[HYL.out.symm]at hrow2;refine⟨⟨⟨b.now,⟨P0.1,P0.2,b.gp.xs⟩,⟨Q0.1,Q0.2,b.gq.xs⟩,O0.1,O0.2,b.outl,S0.1,S0.2,b.assets,Ar,cr,ys,E0.1,E0.2,b.enem⟩,by rw[HFIN.out];rfl,?_,⟨H.out.now,hk2.p,hk2.q,hk2.o,hk2.s,hrow2.low (by omega),fun x hx=>eEntO.mono (HYF.out x hx) (by omega),HPW.out,HOS.out.1,HOS.out.2,hk2.e⟩⟩,(HBX.out.trans HXB.out).rowSet (by omega) _⟩;have e1:ents ys=ents b.ents:=(by rw[HY.out,List.take_of_length_le (by rw[HNV.out];exact Nat.le_refl _)]);unfold BankL.bank;unfold ents at e1;simp only;rw[e1]
end Bk
set_option maxRecDepth 100000
set_option maxHeartbeats 12800000
open Go.RowKit
namespace Bk
structure Cmd where
 kind:Int
 user:Int
 roles:Int
 time:Int
 id:Int
 other:Int
 act:Int
 item:It.Item
 topic:Tpc
 asset:Ast
 rows:List (List Int)
structure CmdL where
 kind:Int
 user:Int
 roles:Int
 time:Int
 id:Int
 other:Int
 act:Int
 item:ItL
 topic:Tpc
 asset:Ast
 mA:Option Addr
 mc:Nat
 rows:List IL
def CmdL.cmd (c:CmdL):Cmd:=⟨c.kind,c.user,c.roles,c.time,c.id,c.other,c.act,c.item.1,c.topic,c.asset,c.rows.map (·.xs)⟩
def CmdL.cells (c:CmdL):List Value:=[.int .i64 c.kind,.int .i64 c.user,.int .i64 c.roles,.int .i64 c.time,.int .i64 c.id,.int .i64 c.other,.int .i64 c.act] ++ icl c.item ++ tcl c.topic ++ scl c.asset ++ [.slice c.mA c.rows.length c.mc]
structure CmdL.In (w:World)(c:CmdL):Prop where
 kind:In64 c.kind
 user:In64 c.user
 roles:In64 c.roles
 time:In64 c.time
 id:In64 c.id
 other:In64 c.other
 act:In64 c.act
 item:It.In w c.item.1 c.item.2
 topic:TpcIn c.topic
 asset:AstIn c.asset
 rows:SlX eIL w c.mA c.rows
 mc:c.rows.length≤c.mc∧c.mc≤maxLen
structure CmdL.Off (g:Nat)(c:CmdL):Prop where
 item:ItOff g c.item
 rows:OffX eIL g c.mA c.rows
structure CmdL.From (N:Nat)(c:CmdL):Prop where
 item:ItFrom N c.item
 rows:FromX eIL N c.mA c.rows
theorem CmdL.In.ext{w w':World}{c:CmdL}(h:c.In w)(he:Ext w w'):c.In w':=⟨h.kind,h.user,h.roles,h.time,h.id,h.other,h.act,h.item.ext he,h.topic,h.asset,h.rows.ext he,h.mc⟩
theorem CmdL.In.but{w w':World}{g:Nat}{c:CmdL}(h:c.In w)(ho:c.Off g)(hb:But g w w'):c.In w':=⟨h.kind,h.user,h.roles,h.time,h.id,h.other,h.act,It.In.but h.item ho.item hb,h.topic,h.asset,h.rows.but ho.rows hb,h.mc⟩
theorem CmdL.In.off{w:World}{g:Nat}{c:CmdL}(h:c.In w)(hg:w.heap.size≤g):c.Off g:=⟨It.In.off h.item hg,h.rows.off hg⟩
def eCmd:Elt CmdL where
 T:=48
 k:=32
 enc:=CmdL.cells
 In w c:=c.In w
 Off:=CmdL.Off
 From:=CmdL.From
 pos:=by omega
 len _:=rfl
 one x v hv:=by
  have h:((CmdL.cells x).all (·.oneCell'))=true:=by simp[CmdL.cells,icl,It.cells,tcl,scl,Value.oneCell']
  exact List.all_eq_true.1 h v hv
 ext h he:=h.ext he
 but h ho hb:=h.but ho hb
 off h hg:=h.off hg
 frm h hg:=⟨eIt.frm h.item hg,h.rows.off hg⟩
 mono h hg:=⟨eIt.mono h.item hg,h.rows.mono hg⟩
structure CmdSz (c:Cmd):Prop where
 item:ItSz c.item
 rows:c.rows.length*24≤140737488355328
 row:∀ r∈c.rows,r.length*8≤140737488355328
theorem CmdL.packed(c:CmdL):∃ CS:Array Value,c.cells.toArray=CS∧CS.size=32∧CS.all (·.oneCell')=true:=⟨_,rfl,rfl,by
 rw[Array.all_eq_true'];intro v hv;have hv2:v∈c.cells:=by simpa using hv
 exact eCmd.one c v hv2⟩
theorem infoCm{CS:Array Value}(h:CS.size=32):(Tryz.prog.info? 48).map (·.size)=some CS.size:=by rw[h];kernel_rfl
def hasR (roles m:Int):Bool:=!(Go.bits .and .i64 roles m == 0)
theorem has_any(CC:Array Value)(r m:Int){v:Bool}(hv:hasR r m=v)(h2:CC[2]?=some (.int .i64 r))(w:World):Calls Tryz.prog 62 #[.agg CC,.int .i64 m] w fun e w'=>e=.returned (.bool v)∧Ext w w':=by
 subst hv;have X1:Hid (Ext w (w.alloc (.cells CC 48))):=Hi ((Ext.refl _).alloc _);have c2:(w.alloc (.cells CC 48)).cell? ⟨w.heap.size,2,none⟩=some (.int .i64 r):=(World.cell?_alloc_new _ _ _ _).trans h2;clear h2;go_enter Tryz.func62,Tryz.ntmps62
 go_wp2;go_ret;exact⟨rfl,X1.out⟩
def hasT (o:List Tpc)(s:ByteArray):Bool:=o.any fun t=>t.1.toList == s.toList
theorem hasT_next{o:List Tpc}{s:ByteArray}{k:Nat}{x:Tpc}(h:hasT (o.take k) s=false)(hx:o[k]?=some x)(hn:(x.1.toList == s.toList)=false):hasT (o.take (k+1)) s=false:=by unfold hasT at *;rw[List.take_add_one,hx];simp[h,hn]
theorem hasT_yes{o:List Tpc}{s:ByteArray}{k:Nat}{x:Tpc}(hx:o[k]?=some x)(hn:(x.1.toList == s.toList)=true):hasT o s=true:=by unfold hasT;rw[List.any_eq_true];exact⟨x,List.mem_of_getElem? hx,hn⟩
theorem clT_any(a b s:ByteArray)(q:Nat){v:Bool}(hv:(a.toList == s.toList)=v)(w:World)(hq:w.cell? ⟨q,0,none⟩=some (.string s)) :
    Calls Tryz.prog 95 #[.agg #[.string a,.string b],.pointer (some ⟨q,0,none⟩)] w fun e w'=>e=.returned (.bool v)∧Ext w w':=by
 have HV:=Hi hv;have XA:Hid (Ext w (w.alloc (.cells #[.string a,.string b] 41))):=Hi ((Ext.refl _).alloc _);have cq:=XA.out.keep hq;have c0:(w.alloc (.cells #[.string a,.string b] 41)).cell? ⟨w.heap.size,0,none⟩=some (.string a):=World.cell?_alloc_new _ _ _ _;clear hv hq;go_enter Tryz.func95,Tryz.ntmps95
 go_wp2;go_ret;exact⟨by simp[← HV.out],XA.out⟩
theorem ixT_any(A:Option Addr)(c n:Nat)(xs:List Tpc)(s:ByteArray)(q:Nat)(hn:xs.length=n)(w:World)(h:SlX eTpc w A xs)(hn63:n≤9223372036854775807)(hq:w.cell? ⟨q,0,none⟩=some (.string s)) :
    Calls Tryz.prog 126 #[.slice A n c,.func (.func 95) #[] #[.pointer (some ⟨q,0,none⟩)]] w fun e w'=>(∃ v:Int,e=.returned (.int .i64 v)∧decide (0≤v)=hasT xs s)∧Ext w w':=by
 have H:=Hi h;have HN:=Hi hn;have HQ:=Hi hq;clear h hn hq;go_enter Tryz.func126,Tryz.ntmps126
 go_wp2;go_loopw [8] (fun i wr=>∃ k:Nat,k≤n∧i=.int .i64 k∧Hid (hasT (xs.take k) s=false)∧Hid (Ext w wr)) (fun i _=>n-(intOf i).toNat)
 case atStart=>exact⟨0,by omega,rfl,Hi rfl,Hi (Ext.refl _)⟩
 case round =>
  obtain⟨k,hk,rfl,HF,HE⟩:=hrel;by_cases hlt:k<n
  · obtain⟨x,hx⟩:∃ x,xs[k]?=some x:=⟨xs[k]'(by rw[HN.out];exact hlt),List.getElem?_eq_getElem _⟩;obtain⟨bb,off,rfl,hbl,hc,hin⟩:=(H.out.ext HE.out).at_ hx;have HX:=Hi hx;have HC:Hid (wr.rangeAt bb (off+k*2) (#[.string x.1,.string x.2]:Array Value).toList):=Hi hc;have ki0:(0:Int)≤(k:Int):=(by omega);have ki1:(k:Int)<(n:Int):=(by omega);have IT:Hid ((Tryz.prog.info? 41).map (·.size)=some (#[.string x.1,.string x.2]:Array Value).size):=Hi (by kernel_rfl);clear hx hc hin;obtain⟨u,hu⟩:∃ u,(x.1.toList == s.toList)=u:=⟨_,rfl⟩;have HU:=Hi hu;have K:=Hi (clT_any x.1 x.2 s q hu wr (HE.out.keep HQ.out));clear hu;go_wp2_with (with_reducible refine wpList_load_arr rfl 41 (.tmp 14) rfl bb (off+k*2) (by with_unfolding_all rfl) #[.string x.1,.string x.2] _ HC.out Tryz.underlying41 rfl IT.out ?_)
    with_reducible refine K.out.mono ?_
    rintro e w2 ⟨rfl,hb⟩;have HB:=Hi (HE.out.trans hb);clear hb;cases u with
    | true=>go_wp2;go_ret;exact⟨⟨_,rfl,by rw[hasT_yes HX.out HU.out];simp⟩,HB.out⟩
    | false =>
     go_wp2;go_roundw;case rel=>exact⟨k+1,by omega,by go_num,Hi (hasT_next HF.out HX.out HU.out),HB⟩
     case measure=>simp[intOf];omega
  · obtain rfl:k=n:=by omega
    go_wp2;go_ret;have e1:hasT xs s=false:=by have:=HF.out;rwa [List.take_of_length_le (by rw[HN.out];exact Nat.le_refl _)]at this
    exact⟨⟨_,rfl,by rw[e1];simp⟩,HE.out⟩
theorem cfT_any(A:Option Addr)(c n:Nat)(xs:List Tpc)(s:ByteArray)(q:Nat)(hn:xs.length=n){v:Bool}(hv:hasT xs s=v)(w:World)(h:SlX eTpc w A xs)(hn63:n≤9223372036854775807)(hq:w.cell? ⟨q,0,none⟩=some (.string s)) :
    Calls Tryz.prog 94 #[.slice A n c,.func (.func 95) #[] #[.pointer (some ⟨q,0,none⟩)]] w fun e w'=>e=.returned (.bool v)∧Ext w w':=by
 have K:=Hi (ixT_any A c n xs s q hn w h hn63 hq);subst hv;clear h hn hq;go_enter Tryz.func94,Tryz.ntmps94
 go_wp2_with fail
 with_reducible refine K.out.mono ?_
 rintro e w1 ⟨⟨v,rfl,hd⟩,hb⟩;have HD:=Hi hd;clear hd;go_wp2;go_ret;exact⟨by simp[← HD.out],hb⟩
theorem hasT_any(CB:Array Value)(A:Option Addr)(c n:Nat)(xs:List Tpc)(s:ByteArray)(hn:xs.length=n){v:Bool}(hv:hasT xs s=v)(h3:CB[3]?=some (.slice A n c))(w:World)(h:SlX eTpc w A xs)(hn63:n≤9223372036854775807) :
    Calls Tryz.prog 63 #[.agg CB,.string s] w fun e w'=>e=.returned (.bool v)∧Ext w w':=by
 have X1:Hid (Ext w ((w.alloc (.cells CB 31)).alloc (.cells #[.string s] 9))):=Hi (((Ext.refl _).alloc _).alloc _);have c3:((w.alloc (.cells CB 31)).alloc (.cells #[.string s] 9)).cell? ⟨w.heap.size,3,none⟩=some (.slice A n c):=Ext.keep ((Ext.refl _).alloc _) ((World.cell?_alloc_new _ _ _ _).trans h3);have cq:((w.alloc (.cells CB 31)).alloc (.cells #[.string s] 9)).cell? ⟨w.heap.size+1,0,none⟩=some (.string s):=by rw[cell_of_row _ _ 0 _ _ _ (heap_new_at _ _ _ (by simp))];rfl
 have K:=Hi (cfT_any A c n xs s (w.heap.size+1) hn hv _ (h.ext X1.out) hn63 cq);clear h3 h hn hv cq;go_enter Tryz.func63,Tryz.ntmps63
 go_wp2_with fail
 with_reducible refine K.out.mono ?_
 rintro e w1 ⟨rfl,hb⟩;go_wp2;go_ret;exact⟨rfl,X1.out.trans hb⟩
end Bk
end Go.Proofs.YtfnmgcblhebdbaaGreatDoor
namespace Go.Proofs.YtfnmgcblhebdbaaGreatDoor
open Go.RowKit
namespace Bk
theorem results_ct{P:Program}{fn:Func}{p k1:Tmp}{ty:TypeId}(h:fn.results=#[.cell p ty,.tmp k1])(tmps:Array Value)(w:World)(g:Nat)(t:TypeId)(cs:Array Value)(fr:Nat×Nat)(d:TypeDesc){v1:Value}
    (hp:tmps.getD p undef=.pointer (some ⟨g,0,none⟩)) (hg:w.heap[g]?=some (.cells cs t fr))
    (hu:P.underlying ty=some d) (hd:(match d with | .struct _ | .array _ _=>true | _=>false)=true) (hi:(P.info? ty).map (·.size)=some cs.size) (hk1:tmps.getD k1 undef=v1) :
    (results fn tmps).run P w=.ok (.tuple #[.agg cs,v1]) w:=by
 subst hk1;have hp':tmps[p]?.getD undef=.pointer (some ⟨g,0,none⟩):=by simpa using hp
 simp[results,h,hp',asAddr,run_loadVar_row w g t ty cs fr d hg hu hd hi]
def zItem:It.Item:=⟨0,0,0,⟨#[]⟩,[],[],0,0,[],0,⟨#[]⟩,0,0,0,0,[],0⟩
def zLoc:It.Loc:=⟨none,0,none,0,none,0,none,0⟩
theorem il_nil(w:World):(⟨none,0,[]⟩:IL).In w:=⟨SlI.nil _ _,Nat.le_refl _,Nat.zero_le _,fun x hx=>by simp at hx⟩
theorem zItem_in(w:World):It.In w zItem zLoc:=by
 refine⟨⟨?_,?_,?_,?_,?_,?_,?_,?_,?_,?_,?_,?_,?_,?_,?_,?_,?_,?_,?_,?_,?_⟩,SlS.nil _ _,SlI.nil _ _,SlS.nil _ _,SlI.nil _ _,⟨Nat.le_refl _,Nat.zero_le _⟩,⟨Nat.le_refl _,Nat.zero_le _⟩,⟨Nat.le_refl _,Nat.zero_le _⟩,⟨Nat.le_refl _,Nat.zero_le _⟩⟩
 all_goals first | (unfold In64;decide) | decide | (intro x hx;simp[zItem]at hx)
end Bk
end Go.Proofs.YtfnmgcblhebdbaaGreatDoor
namespace Go.Proofs.YtfnmgcblhebdbaaGreatDoor
set_option maxRecDepth 100000
set_option maxHeartbeats 25600000
open Go.RowKit
namespace Bk
def astR (a:Ast):Bool:=decide (a.id<1) || decide (9999999<a.id) || decide (a.bytes<1) || decide (1048576<a.bytes) || decide (a.frm<0) || decide (9999999<a.frm) || decide (a.unt<0) || decide (9999999<a.unt)
def altOk (s:ByteArray):Bool:=It.allN (fun i=>It.okc false (It.by_ s i)) s.size
def astE (a:Ast):Int:=if astR a=true then 3 else if(decide (a.alt.size<1) || decide (200<a.alt.size))=true then 2 else if altOk a.alt=false then 2 else if a.unt<a.frm then 15 else 0
theorem astE_r{a:Ast}(h:astR a=true):astE a=3:=by unfold astE;rw[if_pos h]
theorem astE_s{a:Ast}(h:astR a=false)(h2:a.alt.size<1∨200<a.alt.size):astE a=2:=by unfold astE;rw[if_neg (by simp[h]),if_pos (by rcases h2 with h2 | h2 <;> simp[h2])]
theorem astE_b{a:Ast}(h:astR a=false)(h2:1≤a.alt.size∧a.alt.size≤200)(h3:altOk a.alt=false):astE a=2:=by unfold astE;rw[if_neg (by simp[h]),if_neg (by rw[Bool.or_eq_true,decide_eq_true_eq,decide_eq_true_eq];omega),if_pos h3]
theorem astE_t{a:Ast}(h:astR a=false)(h2:1≤a.alt.size∧a.alt.size≤200)(h3:altOk a.alt=true):astE a=if a.unt<a.frm then 15 else 0:=by unfold astE;rw[if_neg (by simp[h]),if_neg (by rw[Bool.or_eq_true,decide_eq_true_eq,decide_eq_true_eq];omega),if_neg (by simp[h3])]
theorem astValid_any(a:Ast)(CS:Array Value)(hcs:(scl a).toArray=CS){v:Int}(hv:astE a=v)(w:World):Calls Tryz.prog 65 #[.agg CS] w fun e w'=>e=.returned (.int .i64 v)∧Ext w w':=by
 have HV:=Hi hv;have X1:Hid (Ext w (w.alloc (.cells CS 43))):=Hi ((Ext.refl _).alloc _);have c0:(w.alloc (.cells CS 43)).cell? ⟨w.heap.size,0,none⟩=some (.int .i64 a.id):=by rw[cell_of_row _ _ 0 _ _ _ (heap_alloc_new w _),← hcs];rfl
 have c1:(w.alloc (.cells CS 43)).cell? ⟨w.heap.size,1,none⟩=some (.int .i64 a.bytes):=by rw[cell_of_row _ _ 1 _ _ _ (heap_alloc_new w _),← hcs];rfl
 have c2:(w.alloc (.cells CS 43)).cell? ⟨w.heap.size,2,none⟩=some (.string a.alt):=by rw[cell_of_row _ _ 2 _ _ _ (heap_alloc_new w _),← hcs];rfl
 have c3:(w.alloc (.cells CS 43)).cell? ⟨w.heap.size,3,none⟩=some (.int .i64 a.frm):=by rw[cell_of_row _ _ 3 _ _ _ (heap_alloc_new w _),← hcs];rfl
 have c4:(w.alloc (.cells CS 43)).cell? ⟨w.heap.size,4,none⟩=some (.int .i64 a.unt):=by rw[cell_of_row _ _ 4 _ _ _ (heap_alloc_new w _),← hcs];rfl
 clear hv hcs;go_enter Tryz.func65,Tryz.ntmps65
 by_cases h0:a.id<1
 · have hz:Hid (v=3):=Hi (HV.out.symm.trans (astE_r (by unfold astR;simp[h0])));go_wp2;go_ret;exact⟨by rw[hz.out];rfl,X1.out⟩
 by_cases h1:9999999<a.id
 · have hz:Hid (v=3):=Hi (HV.out.symm.trans (astE_r (by unfold astR;simp[h0,h1])));go_wp2;go_ret;exact⟨by rw[hz.out];rfl,X1.out⟩
 by_cases h2:a.bytes<1
 · have hz:Hid (v=3):=Hi (HV.out.symm.trans (astE_r (by unfold astR;simp[h0,h1,h2])));go_wp2;go_ret;exact⟨by rw[hz.out];rfl,X1.out⟩
 by_cases h3:1048576<a.bytes
 · have hz:Hid (v=3):=Hi (HV.out.symm.trans (astE_r (by unfold astR;simp[h0,h1,h2,h3])));go_wp2;go_ret;exact⟨by rw[hz.out];rfl,X1.out⟩
 by_cases h4:a.frm<0
 · have hz:Hid (v=3):=Hi (HV.out.symm.trans (astE_r (by unfold astR;simp[h0,h1,h2,h3,h4])));go_wp2;go_ret;exact⟨by rw[hz.out];rfl,X1.out⟩
 by_cases h5:9999999<a.frm
 · have hz:Hid (v=3):=Hi (HV.out.symm.trans (astE_r (by unfold astR;simp[h0,h1,h2,h3,h4,h5])));go_wp2;go_ret;exact⟨by rw[hz.out];rfl,X1.out⟩
 by_cases h6:a.unt<0
 · have hz:Hid (v=3):=Hi (HV.out.symm.trans (astE_r (by unfold astR;simp[h0,h1,h2,h3,h4,h5,h6])));go_wp2;go_ret;exact⟨by rw[hz.out];rfl,X1.out⟩
 by_cases h7:9999999<a.unt
 · have hz:Hid (v=3):=Hi (HV.out.symm.trans (astE_r (by unfold astR;simp[h0,h1,h2,h3,h4,h5,h6,h7])));go_wp2;go_ret;exact⟨by rw[hz.out];rfl,X1.out⟩
 have HR:Hid (astR a=false):=Hi (by unfold astR;simp[h0,h1,h2,h3,h4,h5,h6,h7]);by_cases k0:a.alt.size<1
 · have hz:Hid (v=2):=Hi (HV.out.symm.trans (astE_s HR.out (Or.inl k0)));have k0':(a.alt.size:Int)<1:=(by omega);go_wp2;go_ret;exact⟨by rw[hz.out];rfl,X1.out⟩
 by_cases k1:200<a.alt.size
 · have hz:Hid (v=2):=Hi (HV.out.symm.trans (astE_s HR.out (Or.inr k1)));have k0':¬ (a.alt.size:Int)<1:=(by omega);have k1':(200:Int)<(a.alt.size:Int):=(by omega);go_wp2;go_ret;exact⟨by rw[hz.out];rfl,X1.out⟩
 have k0':¬ (a.alt.size:Int)<1:=by omega
 have k1':¬ (200:Int)<(a.alt.size:Int):=by omega
 have HS:Hid (1≤a.alt.size∧a.alt.size≤200):=Hi ⟨by omega,by omega⟩;have hs:a.alt.size≤9223372036854775807:=by omega
 go_wp2;clear h0 h1 h2 h3 h4 h5 h6 h7 k0 k1 k0' k1'
 go_loop [3] (fun i=>∃ k:Nat,k≤a.alt.size∧i=.int .i64 k∧Hid (It.allN (fun i=>It.okc false (It.by_ a.alt i)) k=true)) (fun i=>a.alt.size-(intOf i).toNat)
 case atStart=>exact⟨0,by omega,rfl,Hi rfl⟩
 case round =>
  obtain⟨k,hk,rfl,HA⟩:=hrel;by_cases hlt:k<a.alt.size
  · have hby:=It.by_at a.alt hlt;have HE:Hid ((fun i=>It.okc false (It.by_ a.alt i)) k=false→v=2):=Hi fun g=>HV.out.symm.trans (astE_b HR.out HS.out (It.allN_no hlt g));have HN:Hid ((fun i=>It.okc false (It.by_ a.alt i)) k=true→Hid (It.allN (fun i=>It.okc false (It.by_ a.alt i)) (k+1)=true)):=Hi fun g=>Hi (It.allN_next HA.out g);rcases(show((a.alt[k].toNat:Int)<32)∨(32≤(a.alt[k].toNat:Int)∧126<(a.alt[k].toNat:Int))∨(32≤(a.alt[k].toNat:Int)∧(a.alt[k].toNat:Int)≤126)by omega)with h1 | ⟨h1,h2⟩ | ⟨h1,h2⟩
    · have HF:=Hi (HE.out (by show It.okc false (It.by_ a.alt k)=false;rw[hby];unfold It.okc;simp;omega));clear hby;go_wp2
      all_goals
       go_ret;exact⟨by rw[HF.out];rfl,X1.out⟩
    · have HF:=Hi (HE.out (by show It.okc false (It.by_ a.alt k)=false;rw[hby];unfold It.okc;simp;omega));clear hby;go_wp2
      all_goals
       go_ret;exact⟨by rw[HF.out];rfl,X1.out⟩
    · have HF:=HN.out (by show It.okc false (It.by_ a.alt k)=true;rw[hby];unfold It.okc;simp;omega);clear hby;go_wp2
      all_goals
       go_round
       case rel=>exact⟨k+1,by omega,by go_num,HF⟩
       case measure=>simp[intOf];omega
  · obtain rfl:k=a.alt.size:=by omega
    have HF:=Hi (HV.out.symm.trans (astE_t HR.out HS.out HA.out));by_cases ht:a.unt<a.frm
    · have hz:Hid (v=15):=Hi (by rw[HF.out,if_pos ht]);go_wp2;go_ret;exact⟨by rw[hz.out];rfl,X1.out⟩
    · have hz:Hid (v=0):=Hi (by rw[HF.out,if_neg ht]);go_wp2;go_ret;exact⟨by rw[hz.out];rfl,X1.out⟩
def astF (l:List Ast)(id:Int):Option Ast:=l.find? fun a=>decide (a.id=id)
theorem astF_next{l:List Ast}{id:Int}{k:Nat}{x:Ast}(h:astF (l.take k) id=none)(hx:l[k]?=some x)(hn:x.id≠id):astF (l.take (k+1)) id=none:=by unfold astF at *;rw[List.take_add_one,hx,List.find?_append,h];simp[hn]
theorem astF_yes{l:List Ast}{id:Int}{k:Nat}{x:Ast}(h:astF (l.take k) id=none)(hx:l[k]?=some x)(hn:x.id=id):astF l id=some x:=by
 unfold astF at *;have e:l=l.take k ++ x :: l.drop (k+1):=by rw[List.getElem?_eq_some_iff]at hx;obtain⟨hk,rfl⟩:=hx;rw[List.getElem_cons_drop,List.take_append_drop]
 rw[e,List.find?_append,h];simp[hn]
theorem astp(x:Ast):∃ CS:Array Value,(scl x).toArray=CS∧CS.size=5∧CS.all (·.oneCell')=true∧CS.toList=scl x:=⟨_,rfl,rfl,by simp[scl,Value.oneCell'],rfl⟩
def astG (o:Option Ast):Value:=.agg (match o with | some a=>(scl a).toArray | none=>#[.int .i64 0,.int .i64 0,.string ⟨#[]⟩,.int .i64 0,.int .i64 0])
theorem astFind_any(A:Option Addr)(c n:Nat)(xs:List Ast)(id:Int)(hn:xs.length=n){v:Option Ast}(hv:astF xs id=v)(w:World)(h:SlX eAst w A xs)(hn63:n≤9223372036854775807) :
    Calls Tryz.prog 66 #[.slice A n c,.int .i64 id] w fun e w'=>e=.returned (.tuple #[astG v,.bool v.isSome])∧Ext w w':=by
 have H:=Hi h;have HN:=Hi hn;have HV:=Hi hv;clear h hn hv;have IA:Hid ((Tryz.prog.info? 43).map (·.size)=some 5):=Hi (by kernel_rfl);have X0:Hid (Ext w (w.alloc (.cells #[.int .i64 0,.int .i64 0,.string ⟨#[]⟩,.int .i64 0,.int .i64 0] 43))):=Hi ((Ext.refl _).alloc _);have HZ0:Hid ((w.alloc (.cells #[.int .i64 0,.int .i64 0,.string ⟨#[]⟩,.int .i64 0,.int .i64 0] 43)).heap[w.heap.size]?=some (.cells #[.int .i64 0,.int .i64 0,.string ⟨#[]⟩,.int .i64 0,.int .i64 0] 43 (0,0))):=Hi (heap_alloc_new w _);go_enter Tryz.func66,Tryz.ntmps66
 go_wp2;go_loopw [10] (fun i wr=>∃ k:Nat,k≤n∧i=.int .i64 k∧Hid (astF (xs.take k) id=none)∧Hid (Ext (w.alloc (.cells #[.int .i64 0,.int .i64 0,.string ⟨#[]⟩,.int .i64 0,.int .i64 0] 43)) wr)) (fun i _=>n-(intOf i).toNat)
 case atStart=>exact⟨0,by omega,rfl,Hi rfl,Hi (Ext.refl _)⟩
 case round =>
  obtain⟨k,hk,rfl,HF,HE⟩:=hrel;by_cases hlt:k<n
  · obtain⟨x,hx⟩:∃ x,xs[k]?=some x:=⟨xs[k]'(by rw[HN.out];exact hlt),List.getElem?_eq_getElem _⟩;obtain⟨bb,off,rfl,hbl,hc,hin⟩:=(H.out.ext (X0.out.trans HE.out)).at_ hx;have HX:=Hi hx;obtain⟨CS,hcs,hsz,h1c,hcl⟩:=astp x;have HCS:=Hi hcs;have HSZ:=Hi hsz;have ONE:=Hi h1c;have HC:Hid (wr.rangeAt bb (off+k*5) CS.toList):=Hi (by rw[hcl];exact hc);have II:Hid ((Tryz.prog.info? 43).map (·.size)=some CS.size):=Hi (by rw[hsz];exact IA.out);have NI:Hid ((#[.int .i64 0,.int .i64 0,.string ⟨#[]⟩,.int .i64 0,.int .i64 0]:Array Value).size=CS.size):=Hi hsz.symm;have ki0:(0:Int)≤(k:Int):=(by omega);have ki1:(k:Int)<(n:Int):=(by omega);have XA:Hid (Ext wr (wr.alloc (.cells CS 43))):=Hi ((Ext.refl _).alloc _);have HB:Hid ((wr.alloc (.cells CS 43)).heap[wr.heap.size]?=some (.cells CS 43 (0,0))):=Hi (heap_alloc_new wr _);have c0:(wr.alloc (.cells CS 43)).cell? ⟨wr.heap.size,0,none⟩=some (.int .i64 x.id):=(cell_of_row _ _ 0 _ _ _ HB.out).trans (by rw[← hcs];rfl);have HZ1:=Hi ((HE.out.trans XA.out).blockAt HZ0.out);clear hx hc hin hcs hsz h1c hcl;by_cases he:x.id=id
    · have HH:=Hi he;go_wp2_with (first
       | (with_reducible refine wpList_load_arr rfl 43 (.tmp 12) rfl bb (off+k*5) (by with_unfolding_all rfl) CS _ HC.out Tryz.underlying43 rfl II.out ?_)
       | (with_reducible refine wpList_store_new rfl 43 (.tmp 7) (.tmp 13) rfl _ CS 43 (by with_unfolding_all rfl) (by with_unfolding_all rfl) II.out (by with_unfolding_all exact NI.out) ONE.out ?_)
       | (with_reducible refine wpList_load_row rfl 43 (.tmp 7) rfl (wr.heap.size) (by with_unfolding_all rfl) _ CS _ _ HB.out Tryz.underlying43 rfl II.out ?_)
       | (with_reducible refine wpList_store_row rfl 43 (.tmp 4) (.tmp 18) rfl (w.heap.size) CS (by with_unfolding_all rfl) (by with_unfolding_all rfl) _ _ HZ1.out II.out NI.out ONE.out ?_))
      refine bodyPost_ret (v:=.tuple #[.agg CS,.bool true]) (results_ct Tryz.results66 _ _ (w.heap.size) _ _ _ _ rfl (setRow_heap _ _ _ _ _ _ HZ1.out) Tryz.underlying43 rfl II.out rfl) rfl ?_;have hv2:=HV.out.symm.trans (astF_yes HF.out HX.out HH.out);exact⟨by rw[hv2,← HCS.out];rfl,(X0.out.trans (HE.out.trans XA.out)).rowSet (Nat.le_refl _) _⟩
    · go_wp2_with (first
        | (with_reducible refine wpList_load_arr rfl 43 (.tmp 12) rfl bb (off+k*5) (by with_unfolding_all rfl) CS _ HC.out Tryz.underlying43 rfl II.out ?_)
        | (with_reducible refine wpList_store_new rfl 43 (.tmp 7) (.tmp 13) rfl _ CS 43 (by with_unfolding_all rfl) (by with_unfolding_all rfl) II.out (by with_unfolding_all exact NI.out) ONE.out ?_))
      go_roundw;case rel=>exact⟨k+1,by omega,by go_num,Hi (astF_next HF.out HX.out he),Hi (HE.out.trans XA.out)⟩
      case measure=>simp[intOf];omega
  · obtain rfl:k=n:=by omega
    have hz:Hid (v=none):=Hi (by rw[← HV.out];have:=HF.out;rwa [List.take_of_length_le (by rw[HN.out];exact Nat.le_refl _)]at this);have HZ2:=Hi (HE.out.blockAt HZ0.out);have I5:Hid ((Tryz.prog.info? 43).map (·.size)=some (#[.int .i64 0,.int .i64 0,.string ⟨#[]⟩,.int .i64 0,.int .i64 0]:Array Value).size):=Hi IA.out;have N5:Hid ((#[.int .i64 0,.int .i64 0,.string ⟨#[]⟩,.int .i64 0,.int .i64 0]:Array Value).size=(#[.int .i64 0,.int .i64 0,.string ⟨#[]⟩,.int .i64 0,.int .i64 0]:Array Value).size):=Hi rfl;have O5:Hid ((#[.int .i64 0,.int .i64 0,.string ⟨#[]⟩,.int .i64 0,.int .i64 0]:Array Value).all (·.oneCell')=true):=Hi (by simp[Value.oneCell']);go_wp2_with (with_reducible refine wpList_store_row rfl 43 (.tmp 4) (.tmp 20) rfl (w.heap.size) #[.int .i64 0,.int .i64 0,.string ⟨#[]⟩,.int .i64 0,.int .i64 0] (by with_unfolding_all rfl) (by with_unfolding_all rfl) _ _ HZ2.out I5.out N5.out O5.out ?_)
    refine bodyPost_ret (v:=.tuple #[.agg #[.int .i64 0,.int .i64 0,.string ⟨#[]⟩,.int .i64 0,.int .i64 0],.bool false]) (results_ct Tryz.results66 _ _ (w.heap.size) _ _ _ _ rfl (setRow_heap _ _ _ _ _ _ HZ2.out) Tryz.underlying43 rfl I5.out rfl) rfl ?_;exact⟨by rw[hz.out];rfl,(X0.out.trans HE.out).rowSet (Nat.le_refl _) _⟩
def astU (a:Ast)(day:Int):Int:=if astE a≠0 then astE a else if day<a.frm∨a.unt<day then 17 else 0
theorem astUse_any(a:Ast)(CS:Array Value)(hcs:(scl a).toArray=CS)(day:Int){v:Int}(hv:astU a day=v)(w:World):Calls Tryz.prog 134 #[.agg CS,.int .i64 day] w fun e w'=>e=.returned (.int .i64 v)∧Ext w w':=by
 have HV:=Hi hv;have X1:Hid (Ext w (w.alloc (.cells CS 43))):=Hi ((Ext.refl _).alloc _);have HB:Hid ((w.alloc (.cells CS 43)).heap[w.heap.size]?=some (.cells CS 43 (0,0))):=Hi (heap_alloc_new w _);have II:Hid ((Tryz.prog.info? 43).map (·.size)=some CS.size):=Hi (by rw[← hcs];kernel_rfl);have C3:Hid (CS[3]?=some (.int .i64 a.frm)):=Hi (by rw[← hcs];rfl);have C4:Hid (CS[4]?=some (.int .i64 a.unt)):=Hi (by rw[← hcs];rfl);obtain⟨u,hu⟩:∃ u,astE a=u:=⟨_,rfl⟩;have HU:=Hi hu;have K:=Hi (astValid_any a CS hcs hu);clear hv hcs hu;go_enter Tryz.func134,Tryz.ntmps134
 go_wp2_with (with_reducible refine wpList_load_row rfl 43 (.tmp 2) rfl (w.heap.size) (by with_unfolding_all rfl) _ CS _ _ HB.out Tryz.underlying43 rfl II.out ?_)
 with_reducible refine(K.out _).mono ?_
 rintro e w1 ⟨rfl,hb⟩;have HX:=Hi (X1.out.trans hb);have HB1:=hb.blockAt HB.out;have c3:w1.cell? ⟨w.heap.size,3,none⟩=some (.int .i64 a.frm):=(cell_of_row _ _ 3 _ _ _ HB1).trans C3.out;have c4:w1.cell? ⟨w.heap.size,4,none⟩=some (.int .i64 a.unt):=(cell_of_row _ _ 4 _ _ _ HB1).trans C4.out;clear hb HB1;by_cases h0:u=0
 · by_cases h1:day<a.frm
   · have hz:Hid (v=17):=Hi (by rw[← HV.out];unfold astU;rw[HU.out,if_neg (by simp[h0]),if_pos (Or.inl h1)]);go_wp2;go_ret;exact⟨by rw[hz.out];rfl,HX.out⟩
   by_cases h2:a.unt<day
   · have hz:Hid (v=17):=Hi (by rw[← HV.out];unfold astU;rw[HU.out,if_neg (by simp[h0]),if_pos (Or.inr h2)]);go_wp2;go_ret;exact⟨by rw[hz.out];rfl,HX.out⟩
   · have hz:Hid (v=0):=Hi (by rw[← HV.out];unfold astU;rw[HU.out,if_neg (by simp[h0]),if_neg (fun h=>h.elim h1 h2)]);go_wp2;go_ret;exact⟨by rw[hz.out];rfl,HX.out⟩
 · have hz:Hid (v=u):=Hi (by rw[← HV.out];unfold astU;rw[HU.out,if_pos h0]);go_wp2;go_ret;exact⟨by rw[hz.out];rfl,HX.out⟩
end Bk
set_option maxRecDepth 100000
set_option maxHeartbeats 12800000
open Go.RowKit
namespace Bk
namespace Gv
def incA (l:List Int)(i:Nat):Bool:=decide (i=0) || decide (l.getD (i-1) 0<l.getD i 0)
def inc (l:List Int):Bool:=It.allN (incA l) l.length
def ptA (pt pr:List Int)(i:Nat):Bool:=It.wi (pt.getD i 0) (-1000) 1000 && It.wi (pr.getD i 0) 1 1000
def gridE (pt pr:List Int):Int:=if 21<pt.length then 5 else if pt.length=0 then 20 else if pr.length≠pt.length then 1 else if It.allN (ptA pt pr) pt.length=false then 3 else if inc pt=false then 23 else 0
theorem gridE_1{pt pr:List Int}(h:21<pt.length):gridE pt pr=5:=by unfold gridE;rw[if_pos h]
theorem gridE_2{pt pr:List Int}(h:pt.length=0):gridE pt pr=20:=by unfold gridE;rw[if_neg (by omega),if_pos h]
theorem gridE_3{pt pr:List Int}(h1:pt.length≤21)(h2:pt.length≠0)(h:pr.length≠pt.length):gridE pt pr=1:=by unfold gridE;rw[if_neg (by omega),if_neg h2,if_pos h]
theorem gridE_4{pt pr:List Int}(h1:pt.length≤21)(h2:pt.length≠0)(h3:pr.length=pt.length)(h:It.allN (ptA pt pr) pt.length=false):gridE pt pr=3:=by unfold gridE;rw[if_neg (by omega),if_neg h2,if_neg (by omega),if_pos h]
theorem gridE_5{pt pr:List Int}(h1:pt.length≤21)(h2:pt.length≠0)(h3:pr.length=pt.length)(h4:It.allN (ptA pt pr) pt.length=true):gridE pt pr=if inc pt=false then 23 else 0:=by unfold gridE;rw[if_neg (by omega),if_neg h2,if_neg (by omega),if_neg (by rw[h4];simp)]
theorem ptA_at{pt pr:List Int}{i:Nat}{x y:Int}(hx:pt[i]?=some x)(hy:pr[i]?=some y):ptA pt pr i=(It.wi x (-1000) 1000 && It.wi y 1 1000):=by unfold ptA;rw[List.getD_eq_getElem?_getD,List.getD_eq_getElem?_getD,hx,hy];rfl
end Gv
theorem kgrid_any(A:Option Addr)(c:Nat)(A':Option Addr)(c':Nat)(pt pr:List Int){n m:Nat}(hn:pt.length=n)(hm:pr.length=m){v:Int}(hv:Gv.gridE pt pr=v)(w:World)(h:SlI w A pt)(h':SlI w A' pr)(hl:n≤9223372036854775807)(hl':m≤9223372036854775807) :
    Calls Tryz.prog 27 #[.agg #[.slice A n c,.slice A' m c']] w fun e w'=>e=.returned (.int .i64 v)∧Ext w w':=by
 have H:=Hi h;have H':=Hi h';have HN:=Hi hn;have HM:=Hi hm;have HV:=Hi hv;have X0:Ext w (w.alloc (.cells #[.slice A n c,.slice A' m c'] 24)):=(Ext.refl _).alloc _;clear h h' hn hm hv;by_cases h21:21<n
 · have HF:Hid (v=5):=Hi (by rw[← HV.out];exact Gv.gridE_1 (by rw[HN.out];exact h21));go_enter Tryz.func27,Tryz.ntmps27
   go_wp2;go_ret;exact⟨ret_int HF.out.symm,X0⟩
 by_cases hn0:n=0
 · have HF:Hid (v=20):=Hi (by rw[← HV.out];exact Gv.gridE_2 (by rw[HN.out];exact hn0));have t0:((n:Int) == 0)=true:=(by rw[hn0];rfl);clear hn0;go_enter Tryz.func27,Tryz.ntmps27
   go_wp2;go_ret;exact⟨ret_int HF.out.symm,X0⟩
 have t0:((n:Int) == 0)=false:=by rw[beq_eq_false_iff_ne];omega
 by_cases hnm:m=n;case neg =>
  have HF:Hid (v=1):=Hi (by rw[← HV.out];exact Gv.gridE_3 (by rw[HN.out];omega) (by rw[HN.out];exact hn0) (by rw[HN.out,HM.out];exact hnm));have t1:((m:Int) != (n:Int))=true:=by rw[bne_iff_ne];omega
  clear hnm hn0;go_enter Tryz.func27,Tryz.ntmps27
  go_wp2;go_ret;exact⟨ret_int HF.out.symm,X0⟩
 subst hnm;have t1:((m:Int) != (m:Int))=false:=by simp
 have HP:=Hi (And.intro (show pt.length≤21 by rw[HN.out];omega) (And.intro (show pt.length≠0 by rw[HN.out];exact hn0) (show pr.length=pt.length by rw[HN.out,HM.out])));have m21:m≤21:=by omega
 clear hn0 h21;obtain⟨w0,hw0⟩:∃ w0,w.alloc (.cells #[.slice A m c,.slice A' m c'] 24)=w0:=⟨_,rfl⟩;have b0:w0.cell? ⟨w.heap.size,0,none⟩=some (.slice A m c):=by rw[← hw0,World.cell?_alloc_new];rfl
 have b1:w0.cell? ⟨w.heap.size,1,none⟩=some (.slice A' m c'):=by rw[← hw0,World.cell?_alloc_new];rfl
 have HB:=Hi (And.intro b0 b1);have HX0:Hid (Ext w w0):=Hi (by rw[← hw0];exact X0);have HW0:=Hi hw0;clear b0 b1 X0 hw0;go_enter Tryz.func27,Tryz.ntmps27
 go_wp2;rw[HW0.out];go_loopw [24] (fun i wr=>∃ k:Nat,k≤m∧i=.int .i64 k∧Hid (It.allN (Gv.ptA pt pr) k=true)∧Hid (Ext w0 wr)) (fun i _=>m-(intOf i).toNat)
 case atStart=>exact⟨0,by omega,rfl,Hi rfl,Hi (Ext.refl _)⟩
 case round =>
  obtain⟨k,hk,rfl,HA,HE⟩:=hrel;have c0:=HE.out.keep HB.out.1;have c1:=HE.out.keep HB.out.2;by_cases hlt:k<m
  · have HS:=HX0.out.trans HE.out;obtain⟨b,off,x,rfl,hb,hx,x0⟩:=(H.out.ext HS).at_ (i:=k) (by rw[HN.out];exact hlt);obtain⟨b',off',y,rfl,hb',hy,y0⟩:=(H'.out.ext HS).at_ (i:=k) (by rw[HM.out];exact hlt);have HPA:=Hi (Gv.ptA_at hx hy);have ki0:(0:Int)≤(k:Int):=(by omega);have ki1:(k:Int)<(m:Int):=(by omega);have HBD:Hid (It.wi x (-1000) 1000=false∨It.wi y 1 1000=false→v=3):=Hi (fun h=>by rw[← HV.out];refine Gv.gridE_4 HP.out.1 HP.out.2.1 HP.out.2.2 (It.allN_no (k:=k) (by rw[HN.out];exact hlt) ?_);rw[HPA.out];rcases h with h | h <;> rw[h] <;> simp)
    clear hx hy HS;rcases(show x < -1000∨(-1000≤x∧1000<x)∨(-1000≤x∧x≤1000∧y<1)∨(-1000≤x∧x≤1000∧1≤y∧1000<y)∨(-1000≤x∧x≤1000∧1≤y∧y≤1000)by omega)with h1 | ⟨h1,h2⟩ | ⟨h1,h2,h3⟩ | ⟨h1,h2,h3,h4⟩ | ⟨h1,h2,h3,h4⟩
    · have HF:Hid (v=3):=Hi (HBD.out (Or.inl (by unfold It.wi;simp;omega)));go_wp2;go_ret;exact⟨ret_int HF.out.symm,HX0.out.trans HE.out⟩
    · have HF:Hid (v=3):=Hi (HBD.out (Or.inl (by unfold It.wi;simp;omega)));go_wp2;go_ret;exact⟨ret_int HF.out.symm,HX0.out.trans HE.out⟩
    · have HF:Hid (v=3):=Hi (HBD.out (Or.inr (by unfold It.wi;simp;omega)));go_wp2;go_ret;exact⟨ret_int HF.out.symm,HX0.out.trans HE.out⟩
    · have HF:Hid (v=3):=Hi (HBD.out (Or.inr (by unfold It.wi;simp;omega)));go_wp2;go_ret;exact⟨ret_int HF.out.symm,HX0.out.trans HE.out⟩
    · have HAN:Hid (It.allN (Gv.ptA pt pr) (k+1)=true):=Hi (It.allN_next HA.out (by rw[HPA.out];unfold It.wi;simp;omega));go_wp2;go_roundw;case rel=>exact⟨k+1,by omega,by go_num,HAN,HE⟩
      case measure=>simp[intOf];omega
  · obtain rfl:m=k:=by omega
    have HF5:Hid (v=if Gv.inc pt=false then 23 else 0):=Hi (by rw[← HV.out,Gv.gridE_5 HP.out.1 HP.out.2.1 HP.out.2.2 (by rw[HN.out];exact HA.out)]);clear HA;go_wp2;clear c0 c1;go_loopw [5] (fun i wr=>∃ k:Nat,(k+1≤m∨k=0)∧i=.int .i64 (k+1)∧Hid (It.allN (Gv.incA pt) (k+1)=true)∧Hid (Ext w0 wr)) (fun i _=>m+1-(intOf i).toNat)
    case atStart=>exact⟨0,by omega,rfl,Hi rfl,HE⟩
    case round =>
     clear HE hk;obtain⟨k,hk,rfl,HA,HE⟩:=hrel;have c0:=HE.out.keep HB.out.1;by_cases hlt:k+1<m
     · have HS:=HX0.out.trans HE.out;obtain⟨b,off,x,rfl,hb,hx,hc⟩:=(H.out.ext HS).at_ (i:=k+1) (by rw[HN.out];exact hlt);obtain⟨b',off',y,e',hb',hy,hc'⟩:=(H.out.ext HS).at_ (i:=k) (by rw[HN.out];omega);obtain⟨rfl,rfl⟩:b=b'∧off=off':=by cases e';exact⟨rfl,rfl⟩
       have hra:Gv.incA pt (k+1)=decide (y<x):=by unfold Gv.incA;rw[Nat.add_sub_cancel,List.getD_eq_getElem?_getD,List.getD_eq_getElem?_getD,hx,hy];simp
       have HR:=Hi hra;have ki0:(0:Int)≤(k:Int):=(by omega);have ki1:(k:Int)+1<(m:Int):=(by omega);clear hra hx hy e' HS;by_cases hxy:x≤y
       · have HF:Hid (v=23):=Hi (by have hinc:Gv.inc pt=false:=It.allN_no (k:=k+1) (by rw[HN.out];exact hlt) (by rw[HR.out];simp;omega);rw[HF5.out,if_pos hinc])
         go_wp2_with fail
         go_quiet (fail)
         go_wp2;go_ret;exact⟨ret_int HF.out.symm,(HX0.out.trans HE.out).drewN _⟩
       · have HF:Hid (It.allN (Gv.incA pt) (k+1+1)=true):=Hi (It.allN_next HA.out (by rw[HR.out];simp;omega));have hxy':y<x:=(by omega);clear hxy;go_wp2_with fail
         go_quiet (fail)
         go_wp2;go_roundw;case rel=>exact⟨k+1,by omega,by go_num,HF,Hi (HE.out.drewN _)⟩
         case measure=>simp[intOf];omega
     · have HF:Hid (v=0):=Hi (by
         rw[HF5.out,if_neg ?_];have:Gv.inc pt=true:=by
          unfold Gv.inc;rw[HN.out];rcases Nat.eq_zero_or_pos m with h0 | h0
          · rw[h0];rfl
          · rw[show m=k+1 by omega];exact HA.out
         rw[this];simp)
       have hlt':¬ (k:Int)+1<(m:Int):=(by omega);clear hk;go_wp2;go_ret;exact⟨ret_int HF.out.symm,HX0.out.trans HE.out⟩
def nBank (p q:List Int):Bank:=⟨0,p,q,[],[],[],[]⟩
def zBankL:BankL:=⟨0,⟨none,0,[]⟩,⟨none,0,[]⟩,none,0,[],none,0,[],none,0,[],none,0,[]⟩
theorem zBankL_in(w:World):zBankL.In w:=⟨by unfold In64 zBankL;decide,il_nil w,il_nil w,SlX.nil _ _,⟨Nat.le_refl _,Nat.zero_le _⟩,SlX.nil _ _,⟨Nat.le_refl _,Nat.zero_le _⟩,SlX.nil _ _,⟨Nat.le_refl _,Nat.zero_le _⟩,SlX.nil _ _,⟨Nat.le_refl _,Nat.zero_le _⟩⟩
def RetBE (N:Nat)(bk:Bank)(er:Int)(r:Ending)(w':World):Prop:=∃ b':BankL,r=.returned (.tuple #[b'.agg,.int .i64 er])∧b'.bank=bk∧b'.In w'∧b'.From N∧(bk.outl=[]→b'.oA=none∧b'.oc=0)
theorem bNew_any(p q:IL){n m:Nat}(hn:p.xs.length=n)(hm:q.xs.length=m){v:Int}(hv:Gv.gridE p.xs q.xs=v)(w:World)(hp:p.In w)(hq:q.In w)(hz1:n*8≤140737488355328)(hz2:m*8≤140737488355328) :
    Calls Tryz.prog 8 #[.agg #[.slice p.A n p.c,.slice q.A m q.c]] w fun r w'=>RetBE w.heap.size (if v=0 then nBank p.xs q.xs else zBankL.bank) v r w'∧Ext w w':=by
 obtain⟨CG,hcg⟩:∃ C,(#[.slice p.A n p.c,.slice q.A m q.c]:Array Value)=C:=⟨_,rfl⟩;have HGV:=Hi (fun(W:World) (h:Ext w W)=>kgrid_any p.A p.c q.A q.c p.xs q.xs hn hm hv W (hp.1.ext h) (hq.1.ext h) (by omega) (by omega));have HCG:=Hi (fun(W:World) (h:Ext w W)=>bcopyGrid_any p q hn hm W (hp.ext h) (hq.ext h) hz1 hz2);rw[hcg]at HGV HCG ⊢;have HN:=Hi hn;have HM:=Hi hm;obtain⟨W0,hW0⟩:∃ W,(w.alloc (.cells CG 24)).alloc (.cells #[.int .i64 0,.slice none 0 0,.slice none 0 0,.slice none 0 0,.slice none 0 0,.slice none 0 0,.slice none 0 0] 31)=W:=⟨_,rfl⟩;have HX0:Hid (Ext w W0):=Hi (by rw[← hW0];exact((Ext.refl _).alloc _).alloc _);have HB0:Hid (W0.heap[w.heap.size]?=some (.cells CG 24 (0,0))):=Hi (by rw[← hW0];exact two_fst' _ _ _);have HZ0:Hid (W0.heap[w.heap.size+1]?=some (.cells #[.int .i64 0,.slice none 0 0,.slice none 0 0,.slice none 0 0,.slice none 0 0,.slice none 0 0,.slice none 0 0] 31 (0,0))):=Hi (by rw[← hW0];exact heap_new_at _ _ _ (by simp));have HWH:=Hi hW0;have IG:=Hi (infoGr (CS:=CG) (by rw[← hcg];rfl));have INZ:Hid ((Tryz.prog.info? 31).map (·.size)=some (#[.int .i64 0,.slice none 0 0,.slice none 0 0,.slice none 0 0,.slice none 0 0,.slice none 0 0,.slice none 0 0]:Array Value).size):=Hi (infoBk rfl);obtain⟨BK,hBK⟩:∃ B,(if v=0 then nBank p.xs q.xs else zBankL.bank)=B:=⟨_,rfl⟩;have HBY:Hid (v=0→BK=nBank p.xs q.xs):=Hi (fun h=>by rw[← hBK,if_pos h]);have HBN:Hid (v≠0→BK=zBankL.bank):=Hi (fun h=>by rw[← hBK,if_neg h]);rw[hBK];clear hn hm hv hp hq hW0 hcg hBK;go_enter Tryz.func8,Tryz.ntmps8
 go_wp2_with (with_reducible refine wpList_load_row rfl 24 (.tmp 1) rfl (w.heap.size) (by with_unfolding_all rfl) _ CG _ _ (two_fst' w _ _) Tryz.underlying24 rfl IG.out ?_)
 rw[HWH.out];with_reducible refine(HGV.out W0 HX0.out).mono ?_
 rintro r w1 ⟨rfl,hb1⟩;have HX1:=Hi (HX0.out.trans hb1);have HB1:=Hi (hb1.blockAt HB0.out);have HZ1:=Hi (hb1.blockAt HZ0.out);clear hb1 HB0 HZ0;by_cases h0:v=0;case neg =>
  have t0:(v != 0)=true:=by rw[bne_iff_ne];exact h0
  have HF:=Hi (HBN.out h0);clear h0;go_wp2_with (with_reducible refine wpList_store_row rfl 31 (.tmp 2) (.tmp 9) rfl (w.heap.size+1) #[.int .i64 0,.slice none 0 0,.slice none 0 0,.slice none 0 0,.slice none 0 0,.slice none 0 0,.slice none 0 0] (by with_unfolding_all rfl) (by with_unfolding_all rfl) _ _ HZ1.out INZ.out rfl (by simp[Value.oneCell']) ?_)
  refine bodyPost_ret (v:=.tuple #[.agg #[.int .i64 0,.slice none 0 0,.slice none 0 0,.slice none 0 0,.slice none 0 0,.slice none 0 0,.slice none 0 0],.int .i64 v]) (results_ct Tryz.results8 _ _ (w.heap.size+1) _ _ _ _ rfl (setRow_heap _ _ _ _ _ _ HZ1.out) Tryz.underlying31 rfl INZ.out rfl) rfl ?_;exact⟨⟨zBankL,rfl,HF.out.symm,zBankL_in _,⟨Or.inl rfl,Or.inl rfl,FromX.nil _ _,FromX.nil _ _,FromX.nil _ _,FromX.nil _ _⟩,fun _=>⟨rfl,rfl⟩⟩,HX1.out.rowSet (by omega) _⟩
 subst h0;have HF:=Hi (HBY.out rfl);go_wp2_with (with_reducible refine wpList_load_row rfl 24 (.tmp 1) rfl (w.heap.size) (by with_unfolding_all rfl) _ CG _ _ HB1.out Tryz.underlying24 rfl IG.out ?_)
 with_reducible refine(HCG.out w1 HX1.out).mono ?_
 rintro r w2 ⟨⟨A,D,c,d,rfl,h1,h2⟩,hb2⟩;have HX2:=Hi (HX1.out.trans hb2);have HZ2:=Hi (hb2.blockAt HZ1.out);have K1:=Hi h1;have K2:=Hi h2;have INF:Hid ((Tryz.prog.info? 31).map (·.size)=some (#[.int .i64 0,.slice A n c,.slice D m d,.slice none 0 0,.slice none 0 0,.slice none 0 0,.slice none 0 0]:Array Value).size):=Hi (infoBk rfl);clear hb2 h1 h2;go_wp2_with (with_reducible refine wpList_store_row rfl 31 (.tmp 2) (.tmp 13) rfl (w.heap.size+1) #[.int .i64 0,.slice A n c,.slice D m d,.slice none 0 0,.slice none 0 0,.slice none 0 0,.slice none 0 0] (by with_unfolding_all rfl) (by with_unfolding_all rfl) _ _ HZ2.out INF.out rfl (by simp[Value.oneCell']) ?_)
 refine bodyPost_ret (v:=.tuple #[.agg #[.int .i64 0,.slice A n c,.slice D m d,.slice none 0 0,.slice none 0 0,.slice none 0 0,.slice none 0 0],.int .i64 0]) (results_ct Tryz.results8 _ _ (w.heap.size+1) _ _ _ _ rfl (setRow_heap _ _ _ _ _ _ HZ2.out) Tryz.underlying31 rfl INF.out rfl) rfl ?_;have hb9:=But.setRow (w.heap.size+1) w2 #[.int .i64 0,.slice A n c,.slice D m d,.slice none 0 0,.slice none 0 0,.slice none 0 0,.slice none 0 0];have k1:=K1.out.keepT HZ2.out (by decide) (fun _ _=>trivial) hb9;have k2:=K2.out.keepT HZ2.out (by decide) (fun _ _=>trivial) hb9;refine⟨⟨⟨0,⟨A,c,p.xs⟩,⟨D,d,q.xs⟩,none,0,[],none,0,[],none,0,[],none,0,[]⟩,?_,HF.out.symm,⟨(by unfold In64;decide:In64 0),k1.il,k2.il,SlX.nil _ _,⟨Nat.le_refl _,Nat.zero_le _⟩,SlX.nil _ _,⟨Nat.le_refl _,Nat.zero_le _⟩,SlX.nil _ _,⟨Nat.le_refl _,Nat.zero_le _⟩,SlX.nil _ _,⟨Nat.le_refl _,Nat.zero_le _⟩⟩,⟨K1.out.frm.a.mono HX1.out.size,K2.out.frm.a.mono HX1.out.size,FromX.nil _ _,FromX.nil _ _,FromX.nil _ _,FromX.nil _ _⟩,fun _=>⟨rfl,rfl⟩⟩,HX2.out.rowSet (by omega) _⟩;rw[← HN.out,← HM.out];rfl
end Bk
set_option maxRecDepth 100000
set_option maxHeartbeats 25600000
open Go.RowKit
namespace Bk
theorem wpList_load_arr_w{P:Program}{ops:Array Oper}{rest:List Oper}{op:Oper}{a:Act}{w:World}{Q:Exit→Act→World→Prop}(hw:Region.wanted op (yielded ops a.tmps)=true)(ty:TypeId)(x:Operand)(ho:op.op=.load ty x)
    (b o:Nat) (hx:a.eval x=.pointer (some ⟨b,o,none⟩)) (CS:Array Value) (d:TypeDesc) (hc:w.rangeAt b o CS.toList)
    (hu:P.underlying ty=some d) (hd:d.isRow=true) (hi:(P.info? ty).map (·.size)=some CS.size)
    (h:wpList P ops Q rest (a.put op.dst (.agg CS)) w):wpList P ops Q (op :: rest) a w :=
 Go.BigFrame.wpList_want hw fun _ hK=>wp_load_mid ty x ho b o hx CS.toList d hc hu hd (by simpa using hi) (hK _ _ h)
theorem rxs_at{l:List IL}{k:Nat}{x:IL}(h:l[k]?=some x):(rxs l)[k]?=some x.xs:=by unfold rxs;rw[List.getElem?_map,h];rfl
theorem rxs_len(l:List IL):(rxs l).length=l.length:=List.length_map _
theorem range_of{w:World}{b:Nat}{CC:Array Value}{t:TypeId}{fr:Nat×Nat}(hb:w.heap[b]?=some (.cells CC t fr))(o:Nat){l:List Value}(h:∀ j v,l[j]?=some v→CC[o+j]?=some v):w.rangeAt b o l:=fun j v hv=>by rw[cell_of_row w b (o+j) CC t fr hb];exact h j v hv
def smmL (n0 kk b1 o1 b2 o2 n c d:Nat)(vx vy:Value)(bq:Bool):List (Option Value→World→Prop):=sl [.pointer (some ⟨n0,0,none⟩),.slice (some ⟨b1,o1,none⟩) n c,.int .i64 (kk:Int),.pointer (some ⟨b1,o1+kk,none⟩),vx,.pointer (some ⟨n0+1,0,none⟩),.slice (some ⟨b2,o2,none⟩) n d,.int .i64 (kk:Int),.pointer (some ⟨b2,o2+kk,none⟩),vy,.bool bq,.bool (!bq)]
def smmD:List Nat:=[20,21,22,23,24,25,26,27,28,29,30,31]
def smmE (n0 kk:Nat)(t:Array Value):Prop:=t.getD 2 undef=.pointer (some ⟨n0,0,none⟩)∧t.getD 3 undef=.pointer (some ⟨n0+1,0,none⟩)∧t.getD 5 undef=.int .i64 (kk:Int)∧t.size=32

theorem rsameModel_any(A:Option Addr)(c:Nat)(rows:List IL)(B:Option Addr)(d:Nat)(rows':List IL){n m:Nat}(hn:rows.length=n)(hm:rows'.length=m){v:Bool}(hv:v=true↔rxs rows=rxs rows')(hl:n≤9223372036854775807)(w:World)(ha:SlX eIL w A rows)(hb:SlX eIL w B rows')(ht:v=true:=by rfl) :
    Calls Tryz.prog 46 #[.agg #[.slice A n c],.agg #[.slice B m d]] w fun e w'=>e=.returned (.bool v)∧Ext w w':=by
 have HA:=Hi ha;have HB:=Hi hb;have HN:=Hi hn;have HM:=Hi hm;have HV:=Hi hv;have HT:Hid (rxs rows=rxs rows'):=Hi (hv.1 ht);clear ht;have EN:=Hi (enters_of Tryz.func37 (by kernel_rfl) rfl);obtain⟨W0,hW0⟩:∃ W,(w.alloc (.cells #[.slice A n c] 46)).alloc (.cells #[.slice B m d] 46)=W:=⟨_,rfl⟩;have X0:Hid (Ext w W0):=Hi (by rw[← hW0];exact((Ext.refl _).alloc _).alloc _);have B0:Hid (W0.heap[w.heap.size]?=some (.cells #[.slice A n c] 46 (0,0))):=Hi (by rw[← hW0];exact two_fst' _ _ _);have B1:Hid (W0.heap[w.heap.size+1]?=some (.cells #[.slice B m d] 46 (0,0))):=Hi (by rw[← hW0];exact heap_new_at _ _ _ (by simp));have HW:=Hi hW0;have CA:Hid (W0.cell? ⟨w.heap.size,0,none⟩=some (.slice A n c)):=Hi (cell_of_row _ _ 0 _ _ _ B0.out);have CB:Hid (W0.cell? ⟨w.heap.size+1,0,none⟩=some (.slice B m d)):=Hi (cell_of_row _ _ 0 _ _ _ B1.out);have ca:((w.alloc (.cells #[.slice A n c] 46)).alloc (.cells #[.slice B m d] 46)).cell? ⟨w.heap.size,0,none⟩=some (.slice A n c):=by rw[HW.out];exact CA.out
 have cb:((w.alloc (.cells #[.slice A n c] 46)).alloc (.cells #[.slice B m d] 46)).cell? ⟨w.heap.size+1,0,none⟩=some (.slice B m d):=by rw[HW.out];exact CB.out
 clear ha hb hn hm hv hW0;have hnm:n=m:=Classical.byContradiction fun hnm=>(fun e=>hnm (by rw[← HN.out,← HM.out,← rxs_len rows,e,rxs_len])) HT.out;subst hnm;have hl':((n:Int) != (n:Int))=false:=by simp
 go_enter Tryz.func46,Tryz.ntmps46
 go_wp2;go_loopw [5] (fun i wr=>∃ k:Nat,k≤n∧i=.int .i64 k∧Hid (∀ j,j<k→(rxs rows)[j]?=(rxs rows')[j]?)∧Hid (Ext W0 wr)) (fun i _=>n-(intOf i).toNat)
 case atStart=>exact⟨0,by omega,rfl,Hi (fun j hj=>absurd hj (by omega)),Hi (by rw[HW.out];exact Ext.refl _)⟩
 case round =>
  clear ca cb;obtain⟨k,hk,rfl,HALL,HE⟩:=hrel;have ca:=HE.out.keep CA.out;have cb:=HE.out.keep CB.out;by_cases hlt:k<n
  · obtain⟨x,hx⟩:∃ x,rows[k]?=some x:=⟨rows[k]'(by rw[HN.out];exact hlt),List.getElem?_eq_getElem _⟩;obtain⟨y,hy⟩:∃ x,rows'[k]?=some x:=⟨rows'[k]'(by rw[HM.out];exact hlt),List.getElem?_eq_getElem _⟩;obtain⟨b1,o1,rfl,hb1,hc1,hi1⟩:=(HA.out.ext (X0.out.trans HE.out)).at_ hx;obtain⟨b2,o2,rfl,hb2,hc2,hi2⟩:=(HB.out.ext (X0.out.trans HE.out)).at_ hy;obtain⟨p,hp⟩:∃ p,x.xs.length=p:=⟨_,rfl⟩;obtain⟨q,hq⟩:∃ q,y.xs.length=q:=⟨_,rfl⟩;have cx:wr.cell? ⟨b1,o1+k,none⟩=some (.slice x.A p x.c):=(by rw[← hp];have:=hc1 0 _ rfl;simpa[eIL,IL.val]using this);have cy:wr.cell? ⟨b2,o2+k,none⟩=some (.slice y.A q y.c):=(by rw[← hq];have:=hc2 0 _ rfl;simpa[eIL,IL.val]using this);have CX:=Hi cx;have CY:=Hi cy;have CA:=Hi ca;have CB:=Hi cb;have ki0:(0:Int)≤(k:Int):=(by omega);have ki1:(k:Int)<(n:Int):=(by omega);have KI:=Hi (And.intro ki0 ki1);have HX:=Hi (rxs_at hx);have HY:=Hi (rxs_at hy);have HP:=Hi hp;have HQ:=Hi hq;have hp63:p≤9223372036854775807:=by have:=hi1.2;unfold maxLen at this;omega
    have I1:Hid (SlI wr x.A x.xs):=Hi hi1.1;have I2:Hid (SlI wr y.A y.xs):=Hi hi2.1;clear hx hy hc1 hc2 hi1 hi2 hp hq cx cy;have hxy:x.xs=y.xs:=Classical.byContradiction fun hxy=>(ne_at HX.out HY.out hxy) HT.out
    · have HF:=Hi (all_next HX.out HY.out hxy HALL.out);have K:=Hi (fun wz (hx:Ext wr wz)=>rints_any x.A x.c x.xs y.A y.c y.xs HP.out HQ.out (tr hxy) hp63 wz (I1.out.ext hx) (I2.out.ext hx));clear hxy;go_wp2_with fail
      refine region_tb (by kernel_rfl) (by decide +kernel) (smmE w.heap.size k) ⟨rfl,rfl,rfl,rfl⟩ 12 smmD (fun _=>none) (RG (smmL w.heap.size k b1 o1 b2 o2 n c d ((.slice x.A p x.c)) ((.slice y.A q y.c)) true)) wr (Ext.refl _) (fun i h1 h2=>absurd h2 (Nat.not_lt.2 h1)) ?_ ?_
      · intro Tv dd lv U wz i oZ hE ho hlv hd hT;obtain⟨t2,t3,t5,tz⟩:=hE;have hx:=hT.ext;have rX:=RG.ext (l:=smmL w.heap.size k b1 o1 b2 o2 n c d ((.slice x.A p x.c)) ((.slice y.A q y.c)) true) (sl_mono _)
        match i,ho,hlv,hd with
        | 0,ho,hlv,hd=>cases oi ho;exact yl1 hT rX ho hd (.pointer (some ⟨w.heap.size,0,none⟩)) (od dd hT tz t2)
        | 1,ho,hlv,hd=>cases oi ho;exact yk1 hT rX ho hd (.slice (some ⟨b1,o1,none⟩) n c) (nw dd hT hd tz 0 20 (.pointer (some ⟨w.heap.size,0,none⟩))) (hx.keep CA.out)
        | 2,ho,hlv,hd=>cases oi ho;exact yl1 hT rX ho hd (.int .i64 (k:Int)) (od dd hT tz t5)
        | 3,ho,hlv,hd=>cases oi ho;exact yk2 hT rX ho hd (.pointer (some ⟨b1,o1+k,none⟩)) (nw dd hT hd tz 1 21 (.slice (some ⟨b1,o1,none⟩) n c)) (nw dd hT hd tz 2 22 (.int .i64 (k:Int))) KI.out
        | 4,ho,hlv,hd=>cases oi ho;exact yk1 hT rX ho hd (.slice x.A p x.c) (nw dd hT hd tz 3 23 (.pointer (some ⟨b1,o1+k,none⟩))) (hx.keep CX.out)
        | 5,ho,hlv,hd=>cases oi ho;exact yl1 hT rX ho hd (.pointer (some ⟨w.heap.size+1,0,none⟩)) (od dd hT tz t3)
        | 6,ho,hlv,hd=>cases oi ho;exact yk1 hT rX ho hd (.slice (some ⟨b2,o2,none⟩) n d) (nw dd hT hd tz 5 25 (.pointer (some ⟨w.heap.size+1,0,none⟩))) (hx.keep CB.out)
        | 7,ho,hlv,hd=>cases oi ho;exact yl1 hT rX ho hd (.int .i64 (k:Int)) (od dd hT tz t5)
        | 8,ho,hlv,hd=>cases oi ho;exact yk2 hT rX ho hd (.pointer (some ⟨b2,o2+k,none⟩)) (nw dd hT hd tz 6 26 (.slice (some ⟨b2,o2,none⟩) n d)) (nw dd hT hd tz 7 27 (.int .i64 (k:Int))) KI.out
        | 9,ho,hlv,hd=>cases oi ho;exact yk1 hT rX ho hd (.slice y.A q y.c) (nw dd hT hd tz 8 28 (.pointer (some ⟨b2,o2+k,none⟩))) (hx.keep CY.out)
        | 10,ho,hlv,hd=>cases oi ho;have v0:=nw dd hT hd tz 4 24 ((.slice x.A p x.c));have v1:=nw dd hT hd tz 9 29 ((.slice y.A q y.c));refine cl hT rX ho hd (f:=37) (args:=#[(.slice x.A p x.c),(.slice y.A q y.c)]) (exec_call2 rfl rfl v0 v1 EN.out) ?_;refine(K.out wz hx).mono ?_;rintro e w' ⟨rfl,hb⟩;exact⟨_,rfl,hb,rfl⟩
        | 11,ho,hlv,hd=>cases oi ho;exact yl1 hT rX ho hd (.bool (!true)) (nw dd hT hd tz 10 30 (.bool true))
        | i+12,ho,_,_=>exact absurd ho (by simp)
      intro U wz hex hout hfin;have f31:U 31=some (.bool (!true)):=hfin 11 (by decide) rfl;have XE:=Hi hex;clear hex hfin;rw[over_list];simp(disch:=decide) only[overL,Nat.reduceAdd,hout,Option.getD_none];rw[f31];simp only[Option.getD_some];clear hout f31;go_wp2;go_roundw;case rel=>exact⟨k+1,by omega,by go_num,HF,Hi (HE.out.trans XE.out)⟩
      case measure=>simp[intOf];omega
  · obtain rfl:k=n:=by omega
    have HF:=Hi (yes_eq HV.out (all_eq ((rxs_len _).trans HN.out) ((rxs_len _).trans HM.out) HALL.out));go_wp2;go_ret;exact⟨ret_bool HF.out.symm,X0.out.trans HE.out⟩
theorem rsameReview_any(x y:RvL){v:Bool}(hv:v=true↔x.rc=y.rc)(w:World)(hx:x.In w)(hy:y.In w)(ht:v=true:=by rfl) :
    Calls Tryz.prog 45 #[x.agg,y.agg] w fun e w'=>e=.returned (.bool v)∧Ext w w':=by
 obtain⟨CA,hca,hna,-,hka⟩:=x.packed;obtain⟨CB,hcb,hnb,-,hkb⟩:=y.packed;rw[hca,hcb];have HV:=Hi hv;have HT:Hid (x.rc=y.rc):=Hi (hv.1 ht);clear ht;have HX:=Hi hx;have HY:=Hi hy;obtain⟨n1,hn1⟩:∃ n,x.ap.xs.length=n:=⟨_,rfl⟩;obtain⟨n2,hn2⟩:∃ n,x.fa.xs.length=n:=⟨_,rfl⟩;obtain⟨n3,hn3⟩:∃ n,x.log.length=n:=⟨_,rfl⟩;obtain⟨m1,hm1⟩:∃ n,y.ap.xs.length=n:=⟨_,rfl⟩;obtain⟨m2,hm2⟩:∃ n,y.fa.xs.length=n:=⟨_,rfl⟩;obtain⟨m3,hm3⟩:∃ n,y.log.length=n:=⟨_,rfl⟩;have J0:Hid (CA[0]?=some (.int .i64 x.st)∧CB[0]?=some (.int .i64 y.st)):=Hi ⟨by rw[← hka];rfl,by rw[← hkb];rfl⟩;have J1:Hid (CA[1]?=some (.int .i64 x.au)∧CB[1]?=some (.int .i64 y.au)):=Hi ⟨by rw[← hka];rfl,by rw[← hkb];rfl⟩;have J2:Hid (CA[2]?=some (.slice x.ap.A n1 x.ap.c)∧CB[2]?=some (.slice y.ap.A m1 y.ap.c)):=Hi ⟨by rw[← hka,← hn1];rfl,by rw[← hkb,← hm1];rfl⟩;have J3:Hid (CA[3]?=some (.slice x.fa.A n2 x.fa.c)∧CB[3]?=some (.slice y.fa.A m2 y.fa.c)):=Hi ⟨by rw[← hka,← hn2];rfl,by rw[← hkb,← hm2];rfl⟩;obtain⟨LA,hLA⟩:∃ A,x.lA=A:=⟨_,rfl⟩;obtain⟨LB,hLB⟩:∃ A,y.lA=A:=⟨_,rfl⟩;have J4:Hid (CA[4]?=some (.slice LA n3 x.lc)∧CB[4]?=some (.slice LB m3 y.lc)):=Hi ⟨by rw[← hka,← hn3,← hLA];rfl,by rw[← hkb,← hm3,← hLB];rfl⟩;have hl1:n1≤9223372036854775807:=by have:=hx.ap.2;unfold maxLen at this;omega
 have hl2:n2≤9223372036854775807:=by have:=hx.fa.2;unfold maxLen at this;omega
 have hl3:n3≤9223372036854775807:=by have:=hx.lc;unfold maxLen at this;omega
 have HL1:Hid (SlX eAct w LA x.log):=Hi (by rw[← hLA];exact hx.log);have HL2:Hid (SlX eAct w LB y.log):=Hi (by rw[← hLB];exact hy.log);have HN1:=Hi hn1;have HN2:=Hi hn2;have HN3:=Hi hn3;have HM1:=Hi hm1;have HM2:=Hi hm2;have HM3:=Hi hm3;obtain⟨W0,hW0⟩:∃ W,(w.alloc (.cells CA 54)).alloc (.cells CB 54)=W:=⟨_,rfl⟩;have X0:Hid (Ext w W0):=Hi (by rw[← hW0];exact((Ext.refl _).alloc _).alloc _);have HA0:Hid (W0.heap[w.heap.size]?=some (.cells CA 54 (0,0))):=Hi (by rw[← hW0];exact two_fst' _ _ _);have HB0:Hid (W0.heap[w.heap.size+1]?=some (.cells CB 54 (0,0))):=Hi (by rw[← hW0];exact heap_new_at _ _ _ (by simp));have HW:=Hi hW0;have ca0:((w.alloc (.cells CA 54)).alloc (.cells CB 54)).cell? ⟨w.heap.size,0,none⟩=some (.int .i64 x.st):=by rw[HW.out];exact(cell_of_row _ _ 0 _ _ _ HA0.out).trans J0.out.1
 have cb0:((w.alloc (.cells CA 54)).alloc (.cells CB 54)).cell? ⟨w.heap.size+1,0,none⟩=some (.int .i64 y.st):=by rw[HW.out];exact(cell_of_row _ _ 0 _ _ _ HB0.out).trans J0.out.2
 have ca1:((w.alloc (.cells CA 54)).alloc (.cells CB 54)).cell? ⟨w.heap.size,1,none⟩=some (.int .i64 x.au):=by rw[HW.out];exact(cell_of_row _ _ 1 _ _ _ HA0.out).trans J1.out.1
 have cb1:((w.alloc (.cells CA 54)).alloc (.cells CB 54)).cell? ⟨w.heap.size+1,1,none⟩=some (.int .i64 y.au):=by rw[HW.out];exact(cell_of_row _ _ 1 _ _ _ HB0.out).trans J1.out.2
 have ca2:((w.alloc (.cells CA 54)).alloc (.cells CB 54)).cell? ⟨w.heap.size,2,none⟩=some (.slice x.ap.A n1 x.ap.c):=by rw[HW.out];exact(cell_of_row _ _ 2 _ _ _ HA0.out).trans J2.out.1
 have cb2:((w.alloc (.cells CA 54)).alloc (.cells CB 54)).cell? ⟨w.heap.size+1,2,none⟩=some (.slice y.ap.A m1 y.ap.c):=by rw[HW.out];exact(cell_of_row _ _ 2 _ _ _ HB0.out).trans J2.out.2
 clear hv hx hy hca hcb hna hnb hka hkb hn1 hn2 hn3 hm1 hm2 hm3 hLA hLB hW0;go_enter Tryz.func45,Tryz.ntmps45
 have hq:x.st=y.st:=Classical.byContradiction fun hq=>(fun e=>hq (congrArg Rev.Rec.st e)) HT.out;have Q0:=Hi hq;have t0:(x.st != y.st)=false:=by rw[hq];simp
 clear hq;have hq:x.au=y.au:=Classical.byContradiction fun hq=>(fun e=>hq (congrArg Rev.Rec.au e)) HT.out;have Q1:=Hi hq;have t1:(x.au != y.au)=false:=by rw[hq];simp
 clear hq;have hq:x.ap.xs=y.ap.xs:=Classical.byContradiction fun hq=>(fun e=>hq (congrArg Rev.Rec.ap e)) HT.out;have Q2:=Hi hq;have K:=Hi (rints_any x.ap.A x.ap.c x.ap.xs y.ap.A y.ap.c y.ap.xs HN1.out HM1.out (tr hq) hl1 W0 (HX.out.ext X0.out).ap.1 (HY.out.ext X0.out).ap.1);clear hq;go_wp2_with fail
 rw[HW.out];with_reducible refine K.out.mono ?_
 rintro e w1 ⟨rfl,hb⟩;have X1:=Hi (X0.out.trans hb);have HA1:=Hi (hb.blockAt HA0.out);have HB1:=Hi (hb.blockAt HB0.out);clear hb K ca0 cb0 ca1 cb1 ca2 cb2 t0 t1 X0 HA0 HB0;have ca3:w1.cell? ⟨w.heap.size,3,none⟩=some (.slice x.fa.A n2 x.fa.c):=(cell_of_row _ _ 3 _ _ _ HA1.out).trans J3.out.1;have cb3:w1.cell? ⟨w.heap.size+1,3,none⟩=some (.slice y.fa.A m2 y.fa.c):=(cell_of_row _ _ 3 _ _ _ HB1.out).trans J3.out.2;have hq:x.fa.xs=y.fa.xs:=Classical.byContradiction fun hq=>(fun e=>hq (congrArg Rev.Rec.fa e)) HT.out;have Q3:=Hi hq;have K:=Hi (rints_any x.fa.A x.fa.c x.fa.xs y.fa.A y.fa.c y.fa.xs HN2.out HM2.out (tr hq) hl2 w1 (HX.out.ext X1.out).fa.1 (HY.out.ext X1.out).fa.1);clear hq;go_wp2_with fail
 with_reducible refine K.out.mono ?_
 rintro e w2 ⟨rfl,hb⟩;have X2:=Hi (X1.out.trans hb);have HA2:=Hi (hb.blockAt HA1.out);have HB2:=Hi (hb.blockAt HB1.out);clear hb K ca3 cb3 X1 HA1 HB1;have ca4:w2.cell? ⟨w.heap.size,4,none⟩=some (.slice LA n3 x.lc):=(cell_of_row _ _ 4 _ _ _ HA2.out).trans J4.out.1;have cb4:w2.cell? ⟨w.heap.size+1,4,none⟩=some (.slice LB m3 y.lc):=(cell_of_row _ _ 4 _ _ _ HB2.out).trans J4.out.2;have hnm:n3=m3:=Classical.byContradiction fun hnm=>(fun e=>hnm (by rw[← HN3.out,← HM3.out];exact congrArg (fun r:Rev.Rec=>r.log.length) e)) HT.out;subst hnm;have hl':((n3:Int) != (n3:Int))=false:=by simp
 have CA4:=Hi ca4;have CB4:=Hi cb4;go_wp2;go_loopw [5] (fun i wr=>∃ k:Nat,k≤n3∧i=.int .i64 k∧Hid (∀ j,j<k→x.log[j]?=y.log[j]?)∧Hid (Ext w2 wr)) (fun i _=>n3-(intOf i).toNat)
 case atStart=>exact⟨0,by omega,rfl,Hi (fun j hj=>absurd hj (by omega)),Hi (Ext.refl _)⟩
 case round =>
  clear ca4 cb4;obtain⟨k,hk,rfl,HALL,HE⟩:=hrel;have ca4:=HE.out.keep CA4.out;have cb4:=HE.out.keep CB4.out;by_cases hlt:k<n3
  · obtain⟨a,ha⟩:∃ a,x.log[k]?=some a:=⟨x.log[k]'(by rw[HN3.out];exact hlt),List.getElem?_eq_getElem _⟩;obtain⟨b,hb⟩:∃ a,y.log[k]?=some a:=⟨y.log[k]'(by rw[HM3.out];exact hlt),List.getElem?_eq_getElem _⟩;obtain⟨b1,o1,rfl,hb1,hc1,-⟩:=(HL1.out.ext (X2.out.trans HE.out)).at_ ha;obtain⟨b2,o2,rfl,hb2,hc2,-⟩:=(HL2.out.ext (X2.out.trans HE.out)).at_ hb;have x0:wr.cell? ⟨b1,o1+k*4,none⟩=some (.int .i64 a.kind):=hc1 0 _ rfl;have x1:wr.cell? ⟨b1,o1+k*4+1,none⟩=some (.int .i64 a.user):=hc1 1 _ rfl;have x2:wr.cell? ⟨b1,o1+k*4+2,none⟩=some (.int .i64 a.roles):=hc1 2 _ rfl;have x3:wr.cell? ⟨b1,o1+k*4+3,none⟩=some (.int .i64 a.time):=hc1 3 _ rfl;have y0:wr.cell? ⟨b2,o2+k*4,none⟩=some (.int .i64 b.kind):=hc2 0 _ rfl;have y1:wr.cell? ⟨b2,o2+k*4+1,none⟩=some (.int .i64 b.user):=hc2 1 _ rfl;have y2:wr.cell? ⟨b2,o2+k*4+2,none⟩=some (.int .i64 b.roles):=hc2 2 _ rfl;have y3:wr.cell? ⟨b2,o2+k*4+3,none⟩=some (.int .i64 b.time):=hc2 3 _ rfl;have ki0:(0:Int)≤(k:Int):=(by omega);have ki1:(k:Int)<(n3:Int):=(by omega);have HP:=Hi ha;have HQ:=Hi hb;clear ha hb hc1 hc2;have hab:a=b:=Classical.byContradiction fun hab=>(fun e=>ne_at HP.out HQ.out hab (congrArg Rev.Rec.log e)) HT.out
    · have HF:=Hi (all_next HP.out HQ.out hab HALL.out);subst hab;go_wp2;go_quiet (fail)
      go_wp2;go_roundw;case rel=>exact⟨k+1,by omega,by go_num,HF,Hi (HE.out.drewN _)⟩
      case measure=>simp[intOf];omega
  · obtain rfl:k=n3:=by omega
    have HF:=Hi (yes_eq HV.out (by have h1:=Q0.out;have h2:=Q1.out;have h3:=Q2.out;have h4:=Q3.out;have h5:=all_eq HN3.out HM3.out HALL.out;unfold RvL.rc;rw[h1,h2,h3,h4,h5]))
    go_wp2;go_ret;exact⟨ret_bool HF.out.symm,X2.out.trans HE.out⟩
def smeL (n0 kk b1 o1 b2 o2 n c d:Nat)(vx vy:Value)(bq:Bool):List (Option Value→World→Prop):=sl [.pointer (some ⟨n0,0,none⟩),.slice (some ⟨b1,o1,none⟩) n c,.int .i64 (kk:Int),.pointer (some ⟨b1,o1+kk*17,none⟩),vx,.pointer (some ⟨n0+1,0,none⟩),.slice (some ⟨b2,o2,none⟩) n d,.int .i64 (kk:Int),.pointer (some ⟨b2,o2+kk*17,none⟩),vy,.bool bq,.bool (!bq)]
def smeD:List Nat:=[36,37,38,39,40,41,42,43,44,45,46,47]
def smeE (n0 kk:Nat)(t:Array Value):Prop:=t.getD 2 undef=.pointer (some ⟨n0,0,none⟩)∧t.getD 3 undef=.pointer (some ⟨n0+1,0,none⟩)∧t.getD 5 undef=.int .i64 (kk:Int)∧t.size=48

theorem rsameEntry_any(x y:EntL){v:Bool}(hv:v=true↔x.ent=y.ent)(w:World)(hx:x.In w)(hy:y.In w)(ht:v=true:=by rfl) :
    Calls Tryz.prog 23 #[x.agg,y.agg] w fun e w'=>e=.returned (.bool v)∧Ext w w':=by
 obtain⟨CA,hca,hna,-,hka⟩:=x.packed;obtain⟨CB,hcb,hnb,-,hkb⟩:=y.packed;rw[hca,hcb];obtain⟨CRA,hra,hnra,-,hkra⟩:=x.rv.packed;obtain⟨CRB,hrb,hnrb,-,hkrb⟩:=y.rv.packed;have HV:=Hi hv;have HT:Hid (x.ent=y.ent):=Hi (hv.1 ht);clear ht;have HX:=Hi hx;have HY:=Hi hy;obtain⟨n,hn⟩:∃ n,x.vs.length=n:=⟨_,rfl⟩;obtain⟨m,hm⟩:∃ n,y.vs.length=n:=⟨_,rfl⟩;obtain⟨nr,hnr⟩:∃ n,x.rows.length=n:=⟨_,rfl⟩;obtain⟨mr,hmr⟩:∃ n,y.rows.length=n:=⟨_,rfl⟩;obtain⟨VA,hVA⟩:∃ A,x.vA=A:=⟨_,rfl⟩;obtain⟨VB,hVB⟩:∃ A,y.vA=A:=⟨_,rfl⟩;have J0:Hid (CA[0]?=some (.slice VA n x.vc)∧CB[0]?=some (.slice VB m y.vc)):=Hi ⟨by rw[← hka,← hn,← hVA];rfl,by rw[← hkb,← hm,← hVB];rfl⟩;have hl1:n≤9223372036854775807:=by have:=hx.vc;unfold maxLen at this;omega
 have hl2:nr≤9223372036854775807:=by have:=hx.rc;unfold maxLen at this;omega
 have HS1:Hid (SlX eIt w VA x.vs):=Hi (by rw[← hVA];exact hx.vs);have HS2:Hid (SlX eIt w VB y.vs):=Hi (by rw[← hVB];exact hy.vs);have HN:=Hi hn;have HM:=Hi hm;have HNR:=Hi hnr;have HMR:=Hi hmr;have EN:=Hi (enters_of Tryz.func14 (by kernel_rfl) rfl);obtain⟨W0,hW0⟩:∃ W,(w.alloc (.cells CA 56)).alloc (.cells CB 56)=W:=⟨_,rfl⟩;have X0:Hid (Ext w W0):=Hi (by rw[← hW0];exact((Ext.refl _).alloc _).alloc _);have HA0:Hid (W0.heap[w.heap.size]?=some (.cells CA 56 (0,0))):=Hi (by rw[← hW0];exact two_fst' _ _ _);have HB0:Hid (W0.heap[w.heap.size+1]?=some (.cells CB 56 (0,0))):=Hi (by rw[← hW0];exact heap_new_at _ _ _ (by simp));have HW:=Hi hW0;have RR1:Hid (∀ (W:World),W.heap[w.heap.size]?=some (.cells CA 56 (0,0))→W.rangeAt w.heap.size 1 CRA.toList∧W.rangeAt w.heap.size 6 (#[.slice x.rA nr x.rc]:Array Value).toList):=Hi (fun W hW=>⟨range_of hW 1 (fun j v h=>by
     rw[← hkra]at h;rw[← hka]
     match j,h with
     | 0,h=>exact h
     | 1,h=>exact h
     | 2,h=>exact h
     | 3,h=>exact h
     | 4,h=>exact h
     | j+5,h=>simp[RvL.cells]at h),range_of hW 6 (fun j v h=>by
     rw[← hnr]at h;rw[← hka]
     match j,h with
     | 0,h=>exact h
     | j+1,h=>simp at h)⟩)
 have RR2:Hid (∀ (W:World),W.heap[w.heap.size+1]?=some (.cells CB 56 (0,0))→W.rangeAt (w.heap.size+1) 1 CRB.toList∧W.rangeAt (w.heap.size+1) 6 (#[.slice y.rA mr y.rc]:Array Value).toList):=Hi (fun W hW=>⟨range_of hW 1 (fun j v h=>by
     rw[← hkrb]at h;rw[← hkb]
     match j,h with
     | 0,h=>exact h
     | 1,h=>exact h
     | 2,h=>exact h
     | 3,h=>exact h
     | 4,h=>exact h
     | j+5,h=>simp[RvL.cells]at h),range_of hW 6 (fun j v h=>by
     rw[← hmr]at h;rw[← hkb]
     match j,h with
     | 0,h=>exact h
     | j+1,h=>simp at h)⟩)
 have HRV:=Hi (fun(hv:x.rv.rc=y.rv.rc) (W:World) (h:Ext w W)=>rsameReview_any x.rv y.rv (tr hv) W (RvL.In.ext ⟨hx.st,hx.au,hx.ap,hx.fa,hx.log,hx.lc⟩ h) (RvL.In.ext ⟨hy.st,hy.au,hy.ap,hy.fa,hy.log,hy.lc⟩ h));rw[hra,hrb]at HRV;have HMD:=Hi (fun(hv:rxs x.rows=rxs y.rows) (W:World) (h:Ext w W)=>rsameModel_any x.rA x.rc x.rows y.rA y.rc y.rows hnr hmr (tr hv) hl2 W (hx.rows.ext h) (hy.rows.ext h));have IRA:=Hi (infoRev hnra);have IRB:=Hi (infoRev hnrb);have IMA:Hid ((Tryz.prog.info? 46).map (·.size)=some (#[.slice x.rA nr x.rc]:Array Value).size):=Hi (infoMd rfl);have IMB:Hid ((Tryz.prog.info? 46).map (·.size)=some (#[.slice y.rA mr y.rc]:Array Value).size):=Hi (infoMd rfl);have RA1:Hid (((w.alloc (.cells CA 56)).alloc (.cells CB 56)).rangeAt w.heap.size 1 CRA.toList):=Hi (by rw[HW.out];exact(RR1.out _ HA0.out).1);have RB1:Hid (((w.alloc (.cells CA 56)).alloc (.cells CB 56)).rangeAt (w.heap.size+1) 1 CRB.toList):=Hi (by rw[HW.out];exact(RR2.out _ HB0.out).1);have ca0:((w.alloc (.cells CA 56)).alloc (.cells CB 56)).cell? ⟨w.heap.size,0,none⟩=some (.slice VA n x.vc):=by rw[HW.out];exact(cell_of_row _ _ 0 _ _ _ HA0.out).trans J0.out.1
 have cb0:((w.alloc (.cells CA 56)).alloc (.cells CB 56)).cell? ⟨w.heap.size+1,0,none⟩=some (.slice VB m y.vc):=by rw[HW.out];exact(cell_of_row _ _ 0 _ _ _ HB0.out).trans J0.out.2
 clear hv hx hy hca hcb hna hnb hka hkb hra hrb hnra hnrb hkra hkrb hn hm hnr hmr hVA hVB hW0;go_enter Tryz.func23,Tryz.ntmps23
 have hnm:n=m:=Classical.byContradiction fun hnm=>(fun e=>hnm (by rw[← HN.out,← HM.out];have:=congrArg (fun r:Ent=>r.vers.length) e;simpa[EntL.ent]using this)) HT.out;subst hnm;have hl':((n:Int) != (n:Int))=false:=by simp
 have hq:x.rv.rc=y.rv.rc:=Classical.byContradiction fun hq=>(fun e=>hq (congrArg Ent.rev e)) HT.out;have Q1:=Hi hq;have K:=Hi (HRV.out hq W0 X0.out);clear hq;go_wp2_with (first
  | (refine wpList_load_arr_w rfl 54 (.tmp 14) rfl w.heap.size 1 rfl CRA _ RA1.out Tryz.underlying54 rfl IRA.out ?_)
  | (refine wpList_load_arr_w rfl 54 (.tmp 16) rfl (w.heap.size+1) 1 rfl CRB _ RB1.out Tryz.underlying54 rfl IRB.out ?_))
 rw[HW.out];with_reducible refine K.out.mono ?_
 rintro e w1 ⟨rfl,hb⟩;have X1:=Hi (X0.out.trans hb);have HA1:=Hi (hb.blockAt HA0.out);have HB1:=Hi (hb.blockAt HB0.out);have MA1:=Hi (RR1.out _ HA1.out).2;have MB1:=Hi (RR2.out _ HB1.out).2;clear hb K ca0 cb0 X0 HA0 HB0 RA1 RB1;have hq:rxs x.rows=rxs y.rows:=Classical.byContradiction fun hq=>(fun e=>hq (congrArg Ent.rows e)) HT.out;have Q2:=Hi hq;have K:=Hi (HMD.out hq w1 X1.out);clear hq;go_wp2_with (first
  | (refine wpList_load_arr_w rfl 46 (.tmp 22) rfl w.heap.size 6 rfl #[.slice x.rA nr x.rc] _ MA1.out Tryz.underlying46 rfl IMA.out ?_)
  | (refine wpList_load_arr_w rfl 46 (.tmp 24) rfl (w.heap.size+1) 6 rfl #[.slice y.rA mr y.rc] _ MB1.out Tryz.underlying46 rfl IMB.out ?_))
 with_reducible refine K.out.mono ?_
 rintro e w2 ⟨rfl,hb⟩;have X2:=Hi (X1.out.trans hb);have CA:Hid (w2.cell? ⟨w.heap.size,0,none⟩=some (.slice VA n x.vc)):=Hi ((cell_of_row _ _ 0 _ _ _ (hb.blockAt HA1.out)).trans J0.out.1);have CB:Hid (w2.cell? ⟨w.heap.size+1,0,none⟩=some (.slice VB n y.vc)):=Hi ((cell_of_row _ _ 0 _ _ _ (hb.blockAt HB1.out)).trans J0.out.2);clear hb K X1 HA1 HB1 MA1 MB1;go_wp2;go_loopw [5] (fun i wr=>∃ k:Nat,k≤n∧i=.int .i64 k∧Hid (∀ j,j<k→(x.vs.map (·.1))[j]?=(y.vs.map (·.1))[j]?)∧Hid (Ext w2 wr)) (fun i _=>n-(intOf i).toNat)
 case atStart=>exact⟨0,by omega,rfl,Hi (fun j hj=>absurd hj (by omega)),Hi (Ext.refl _)⟩
 case round =>
  obtain⟨k,hk,rfl,HALL,HE⟩:=hrel;have ca:=HE.out.keep CA.out;have cb:=HE.out.keep CB.out;by_cases hlt:k<n
  · obtain⟨p,hp⟩:∃ p,x.vs[k]?=some p:=⟨x.vs[k]'(by rw[HN.out];exact hlt),List.getElem?_eq_getElem _⟩;obtain⟨q,hq⟩:∃ p,y.vs[k]?=some p:=⟨y.vs[k]'(by rw[HM.out];exact hlt),List.getElem?_eq_getElem _⟩;obtain⟨b1,o1,rfl,hb1,hc1,hi1⟩:=(HS1.out.ext (X2.out.trans HE.out)).at_ hp;obtain⟨b2,o2,rfl,hb2,hc2,hi2⟩:=(HS2.out.ext (X2.out.trans HE.out)).at_ hq;obtain⟨C1,hc1a,hn1,-,hk1⟩:=itp p;obtain⟨C2,hc2a,hn2,-,hk2⟩:=itp q;have RA:Hid (wr.rangeAt b1 (o1+k*17) C1.toList):=Hi (by rw[← hk1];exact hc1);have RB:Hid (wr.rangeAt b2 (o2+k*17) C2.toList):=Hi (by rw[← hk2];exact hc2);have I1:=Hi (infoItem hn1);have I2:=Hi (infoItem hn2);have CA:=Hi ca;have CB:=Hi cb;have ki0:(0:Int)≤(k:Int):=(by omega);have ki1:(k:Int)<(n:Int):=(by omega);have KI:=Hi (And.intro ki0 ki1);have HP:Hid ((x.vs.map (·.1))[k]?=some p.1):=Hi (by rw[List.getElem?_map,hp];rfl);have HQ:Hid ((y.vs.map (·.1))[k]?=some q.1):=Hi (by rw[List.getElem?_map,hq];rfl);have G1:Hid (It.In wr p.1 p.2):=Hi hi1;have G2:Hid (It.In wr q.1 q.2):=Hi hi2;have KK:=Hi (fun(hv:p.1=q.1) (wz:World) (hx:Ext wr wz)=>rsameItem_any p q (tr hv) wz (G1.out.ext hx) (G2.out.ext hx));rw[hc1a,hc2a]at KK;clear hp hq hc1 hc2 hi1 hi2 hc1a hc2a hn1 hn2 hk1 hk2;have hpq:p.1=q.1:=Classical.byContradiction fun hpq=>(fun e=>ne_at HP.out HQ.out hpq (congrArg Ent.vers e)) HT.out
    · have HF:=Hi (all_next HP.out HQ.out hpq HALL.out);have K:=Hi (KK.out hpq);clear hpq;go_wp2_with fail
      refine region_tb (by kernel_rfl) (by decide +kernel) (smeE w.heap.size k) ⟨rfl,rfl,rfl,rfl⟩ 12 smeD (fun _=>none) (RG (smeL w.heap.size k b1 o1 b2 o2 n x.vc y.vc (.agg C1) (.agg C2) true)) wr (Ext.refl _) (fun i h1 h2=>absurd h2 (Nat.not_lt.2 h1)) ?_ ?_
      · intro Tv dd lv U wz i oZ hE ho hlv hd hT;obtain⟨t2,t3,t5,tz⟩:=hE;have hx:=hT.ext;have rX:=RG.ext (l:=smeL w.heap.size k b1 o1 b2 o2 n x.vc y.vc (.agg C1) (.agg C2) true) (sl_mono _)
        match i,ho,hlv,hd with
        | 0,ho,hlv,hd=>cases oi ho;exact yl1 hT rX ho hd (.pointer (some ⟨w.heap.size,0,none⟩)) (od dd hT tz t2)
        | 1,ho,hlv,hd=>cases oi ho;exact yk1 hT rX ho hd (.slice (some ⟨b1,o1,none⟩) n x.vc) (nw dd hT hd tz 0 36 (.pointer (some ⟨w.heap.size,0,none⟩))) (hx.keep CA.out)
        | 2,ho,hlv,hd=>cases oi ho;exact yl1 hT rX ho hd (.int .i64 (k:Int)) (od dd hT tz t5)
        | 3,ho,hlv,hd=>cases oi ho;exact yk2 hT rX ho hd (.pointer (some ⟨b1,o1+k*17,none⟩)) (nw dd hT hd tz 1 37 (.slice (some ⟨b1,o1,none⟩) n x.vc)) (nw dd hT hd tz 2 38 (.int .i64 (k:Int))) KI.out
        | 4,ho,hlv,hd=>cases oi ho;have v0:=nw dd hT hd tz 3 39 (.pointer (some ⟨b1,o1+k*17,none⟩));exact yxe hT rX ho hd (.agg C1) (exec_load_arr _ _ rfl b1 (o1+k*17) v0 C1 _ (hx.range RA.out) Tryz.underlying39 rfl I1.out)
        | 5,ho,hlv,hd=>cases oi ho;exact yl1 hT rX ho hd (.pointer (some ⟨w.heap.size+1,0,none⟩)) (od dd hT tz t3)
        | 6,ho,hlv,hd=>cases oi ho;exact yk1 hT rX ho hd (.slice (some ⟨b2,o2,none⟩) n y.vc) (nw dd hT hd tz 5 41 (.pointer (some ⟨w.heap.size+1,0,none⟩))) (hx.keep CB.out)
        | 7,ho,hlv,hd=>cases oi ho;exact yl1 hT rX ho hd (.int .i64 (k:Int)) (od dd hT tz t5)
        | 8,ho,hlv,hd=>cases oi ho;exact yk2 hT rX ho hd (.pointer (some ⟨b2,o2+k*17,none⟩)) (nw dd hT hd tz 6 42 (.slice (some ⟨b2,o2,none⟩) n y.vc)) (nw dd hT hd tz 7 43 (.int .i64 (k:Int))) KI.out
        | 9,ho,hlv,hd=>cases oi ho;have v0:=nw dd hT hd tz 8 44 (.pointer (some ⟨b2,o2+k*17,none⟩));exact yxe hT rX ho hd (.agg C2) (exec_load_arr _ _ rfl b2 (o2+k*17) v0 C2 _ (hx.range RB.out) Tryz.underlying39 rfl I2.out)
        | 10,ho,hlv,hd=>cases oi ho;have v0:=nw dd hT hd tz 4 40 (.agg C1);have v1:=nw dd hT hd tz 9 45 (.agg C2);refine cl hT rX ho hd (f:=14) (args:=#[.agg C1,.agg C2]) (exec_call2 rfl rfl v0 v1 EN.out) ?_;refine(K.out wz hx).mono ?_;rintro e w' ⟨rfl,hb⟩;exact⟨_,rfl,hb,rfl⟩
        | 11,ho,hlv,hd=>cases oi ho;exact yl1 hT rX ho hd (.bool (!true)) (nw dd hT hd tz 10 46 (.bool true))
        | i+12,ho,_,_=>exact absurd ho (by simp)
      intro U wz hex hout hfin;have f47:U 47=some (.bool (!true)):=hfin 11 (by decide) rfl;have XE:=Hi hex;clear hex hfin;rw[over_list];simp(disch:=decide) only[overL,Nat.reduceAdd,hout,Option.getD_none];rw[f47];simp only[Option.getD_some];clear hout f47;go_wp2;go_roundw;case rel=>exact⟨k+1,by omega,by go_num,HF,Hi (HE.out.trans XE.out)⟩
      case measure=>simp[intOf];omega
  · obtain rfl:k=n:=by omega
    have HF:=Hi (yes_eq HV.out (by have h1:=Q1.out;have h2:=Q2.out;have h3:=all_eq (n:=k) (by rw[List.length_map];exact HN.out) (by rw[List.length_map];exact HM.out) HALL.out;unfold EntL.ent;unfold rxs at h2;rw[h2,h3];exact congrArg (fun r:Rev.Rec=>(⟨_,r,_⟩:Ent)) h1))
    go_wp2;go_ret;exact⟨ret_bool HF.out.symm,X2.out.trans HE.out⟩
end Bk
set_option maxRecDepth 100000
set_option maxHeartbeats 12800000
open Go.RowKit
namespace Bk
theorem cut_any(A:Option Addr)(c n:Nat){m:Nat}(hm:min n 40=m)(w:World)(hc:n≤c)(h63:c≤9223372036854775807) :
    Calls Tryz.prog 10 #[.slice A n c] w fun e w'=>e=.returned (.slice A m c)∧w=w':=by
 by_cases h:(40:Int)<(n:Int)
 · obtain rfl:m=40:=by omega
   have h1:40≤c:=(by omega);have h2:(40:Int)≤(c:Int):=(by omega);clear hm;go_enter Tryz.func10,Tryz.ntmps10
   go_wp2;go_ret;exact⟨rfl,rfl⟩
 · obtain rfl:m=n:=by omega
   clear hm;go_enter Tryz.func10,Tryz.ntmps10
   go_wp2;go_ret;exact⟨rfl,rfl⟩
theorem sl_take{w:World}{k:Nat}{A:Option Addr}{xs:List (List Value)}(h:Sl w k A xs)(n:Nat):Sl w k A (xs.take n):=by
 rcases h with rfl | ⟨b,off,hA,hb,hc⟩
 · exact Or.inl (by simp)
 · exact Or.inr ⟨b,off,hA,hb,fun i cs hi=>by
     rw[List.getElem?_take]at hi;split at hi
     · exact hc i cs hi
     · cases hi⟩
theorem SlX.take{X:Type}{E:Elt X}{w:World}{A:Option Addr}{xs:List X}(h:SlX E w A xs)(n:Nat):SlX E w A (xs.take n) :=
 ⟨by rw[List.map_take];exact sl_take h.sl n,fun x hx=>h.ins x (List.take_subset _ _ hx)⟩
end Bk
end Go.Proofs.YtfnmgcblhebdbaaGreatDoor
namespace Go.Proofs.YtfnmgcblhebdbaaGreatDoor
open Go.RowKit
namespace Bk
theorem sl_drop{w:World}{k:Nat}{A:Option Addr}{xs:List (List Value)}(h:Sl w k A xs)(n:Nat):Sl w k (A.map fun x=>x.add (n*k)) (xs.drop n):=by
 rcases h with rfl | ⟨b,off,rfl,hb,hc⟩
 · exact Or.inl (by simp)
 · exact Or.inr ⟨b,off+n*k,by rw[Option.map_some];congr 1;unfold Addr.add;split <;> simp_all,hb,fun i cs hi j v hj=>by rw[List.getElem?_drop]at hi;have h:=hc (n+i) cs hi j v hj;rw[show off+n*k+(i*k+j)=off+((n+i)*k+j)by rw[Nat.add_mul];omega];exact h⟩
theorem SlX.drop{X:Type}{E:Elt X}{w:World}{A:Option Addr}{xs:List X}(h:SlX E w A xs)(n:Nat):SlX E w (A.map fun x=>x.add (n*E.k)) (xs.drop n) :=
 ⟨by rw[List.map_drop];exact sl_drop h.sl n,fun x hx=>h.ins x (List.drop_subset _ _ hx)⟩
end Bk
end Go.Proofs.YtfnmgcblhebdbaaGreatDoor
