/- Items, entries and banks as they lie in memory. No conditions. -/
import Derived.Test.YtfnmgcblhebdbaaGreatDoorZ6
import Derived.Test.YtfnmgcblhebdbaaGreatDoorZ7
import Derived.Test.YtfnmgcblhebdbaaGreatDoorZ4
namespace Go.Proofs.YtfnmgcblhebdbaaGreatDoor
open Go.RowKit
namespace Bk
def eS:Elt ByteArray where
 T:=9
 k:=1
 enc x:=[.string x]
 In _ _:=True
 Off _ _:=True
 From _ _:=True
 pos:=by omega
 len _:=rfl
 one x v hv := by obtain rfl : v = .string x := by simpa using hv
                  rfl
 ext h _:=h
 but h _ _:=h
 off _ _:=trivial
 frm _ _:=trivial
 mono _ _:=trivial
def acl (a:Rev.Act):List Value:=[.int .i64 a.kind,.int .i64 a.user,.int .i64 a.roles,.int .i64 a.time]
def ActIn (a:Rev.Act):Prop:=In64 a.kind∧In64 a.user∧In64 a.roles∧In64 a.time
def eFlat {X:Type}(T:TypeId)(k:Nat)(enc:X→List Value)(In:X→Prop)(pos:0<k)(len:∀ x,(enc x).length=k)(one:∀ x,∀ v∈enc x,v.oneCell'=true):Elt X where
 T:=T
 k:=k
 enc:=enc
 In _ x:=In x
 Off _ _:=True
 From _ _:=True
 pos:=pos
 len:=len
 one:=one
 ext h _:=h
 but h _ _:=h
 off _ _:=trivial
 frm _ _:=trivial
 mono _ _:=trivial
def eAct:Elt Rev.Act:=eFlat 116 4 acl ActIn (by omega) (fun _=>rfl) (fun x v hv=>by simp[acl]at hv;rcases hv with rfl | rfl | rfl | rfl <;> rfl)
def tcl (t:Tpc):List Value:=[.string t.1,.string t.2]
def TpcIn (t:Tpc):Prop:=t.1.size≤140737488351232∧t.2.size≤140737488351232
def eTpc:Elt Tpc:=eFlat 41 2 tcl TpcIn (by omega) (fun _=>rfl) (fun x v hv=>by simp[tcl]at hv;rcases hv with rfl | rfl <;> rfl)
def scl (a:Ast):List Value:=[.int .i64 a.id,.int .i64 a.bytes,.string a.alt,.int .i64 a.frm,.int .i64 a.unt]
def AstIn (a:Ast):Prop:=a.alt.size≤140737488351232∧In64 a.id∧In64 a.bytes∧In64 a.frm∧In64 a.unt
def eAst:Elt Ast:=eFlat 43 5 scl AstIn (by omega) (fun _=>rfl) (fun x v hv=>by simp[scl]at hv;rcases hv with rfl | rfl | rfl | rfl | rfl <;> rfl)
def pcl (p:Int×Int):List Value:=[.int .i64 p.1,.int .i64 p.2]
def ParIn (p:Int×Int):Prop:=In64 p.1∧In64 p.2
def ePar:Elt (Int×Int):=eFlat 80 2 pcl ParIn (by omega) (fun _=>rfl) (fun x v hv=>by simp[pcl]at hv;rcases hv with rfl | rfl <;> rfl)

abbrev ItL:=It.Item×It.Loc
def icl (x:ItL):List Value:=It.cells x.1 x.2
structure ItOff (g:Nat)(x:ItL):Prop where
 o:OffA g x.2.oA x.1.opts.length
 c:OffA g x.2.cA x.1.chs.length
 t:OffA g x.2.tA x.1.texts.length
 s:OffA g x.2.sA x.1.assets.length
structure ItFrom (N:Nat)(x:ItL):Prop where
 o:FromA N x.2.oA x.1.opts.length
 c:FromA N x.2.cA x.1.chs.length
 t:FromA N x.2.tA x.1.texts.length
 s:FromA N x.2.sA x.1.assets.length
theorem It.In.but{w w':World}{g:Nat}{x:ItL}(h:It.In w x.1 x.2)(ho:ItOff g x)(hb:But g w w'):It.In w' x.1 x.2 :=
 ⟨h.ok,Sl.but h.o hb (by rw[List.length_map];exact ho.o),Sl.but h.c hb (by rw[List.length_map];exact ho.c),Sl.but h.t hb (by rw[List.length_map];exact ho.t),Sl.but h.s hb (by rw[List.length_map];exact ho.s),h.oc,h.cc,h.tc,h.sc⟩
theorem It.In.off{w:World}{g:Nat}{x:ItL}(h:It.In w x.1 x.2)(hg:w.heap.size≤g):ItOff g x :=
 ⟨by have:=Sl.offA h.o hg;rwa [List.length_map]at this,by have:=Sl.offA h.c hg;rwa [List.length_map]at this,by have:=Sl.offA h.t hg;rwa [List.length_map]at this,by have:=Sl.offA h.s hg;rwa [List.length_map]at this⟩
def eIt:Elt ItL where
 T:=39
 k:=17
 enc:=icl
 In w x:=It.In w x.1 x.2
 Off:=ItOff
 From:=ItFrom
 pos:=by omega
 len _:=rfl
 one x v hv:=by
  have h:((icl x).all (·.oneCell'))=true:=by simp[icl,It.cells,Value.oneCell']
  exact List.all_eq_true.1 h v hv
 ext h he:=h.ext he
 but h ho hb:=It.In.but h ho hb
 off h hg:=It.In.off h hg
 frm h hg:=⟨h.o.off hg,h.c.off hg,h.t.off hg,h.s.off hg⟩
 mono h hg:=⟨h.o.mono hg,h.c.mono hg,h.t.mono hg,h.s.mono hg⟩

structure EntL where
 vA:Option Addr
 vc:Nat
 vs:List ItL
 st:Int
 au:Int
 ap:IL
 fa:IL
 lA:Option Addr
 lc:Nat
 log:List Rev.Act
 rA:Option Addr
 rc:Nat
 rows:List IL
def EntL.ent (e:EntL):Ent:=⟨e.vs.map (·.1),⟨e.st,e.au,e.ap.xs,e.fa.xs,e.log⟩,e.rows.map (·.xs)⟩
def EntL.cells (e:EntL):List Value:=[.slice e.vA e.vs.length e.vc,.int .i64 e.st,.int .i64 e.au,e.ap.val,e.fa.val,.slice e.lA e.log.length e.lc,.slice e.rA e.rows.length e.rc]
def EntL.agg (e:EntL):Value:=.agg #[.slice e.vA e.vs.length e.vc,.int .i64 e.st,.int .i64 e.au,e.ap.val,e.fa.val,.slice e.lA e.log.length e.lc,.slice e.rA e.rows.length e.rc]
structure EntL.In (w:World)(e:EntL):Prop where
 vs:SlX eIt w e.vA e.vs
 vc:e.vs.length≤e.vc∧e.vc≤maxLen
 st:In64 e.st
 au:In64 e.au
 ap:e.ap.In w
 fa:e.fa.In w
 log:SlX eAct w e.lA e.log
 lc:e.log.length≤e.lc∧e.lc≤maxLen
 rows:SlX eIL w e.rA e.rows
 rc:e.rows.length≤e.rc∧e.rc≤maxLen
structure EntL.Off (g:Nat)(e:EntL):Prop where
 vs:OffX eIt g e.vA e.vs
 ap:eIL.Off g e.ap
 fa:eIL.Off g e.fa
 log:OffX eAct g e.lA e.log
 rows:OffX eIL g e.rA e.rows
structure EntL.From (N:Nat)(e:EntL):Prop where
 vs:FromX eIt N e.vA e.vs
 ap:eIL.From N e.ap
 fa:eIL.From N e.fa
 log:FromX eAct N e.lA e.log
 rows:FromX eIL N e.rA e.rows
theorem EntL.In.ext{w w':World}{e:EntL}(h:e.In w)(he:Ext w w'):e.In w':=⟨h.vs.ext he,h.vc,h.st,h.au,h.ap.ext he,h.fa.ext he,h.log.ext he,h.lc,h.rows.ext he,h.rc⟩
theorem EntL.In.but{w w':World}{g:Nat}{e:EntL}(h:e.In w)(ho:e.Off g)(hb:But g w w'):e.In w' :=
 ⟨h.vs.but ho.vs hb,h.vc,h.st,h.au,eIL.but h.ap ho.ap hb,eIL.but h.fa ho.fa hb,h.log.but ho.log hb,h.lc,h.rows.but ho.rows hb,h.rc⟩
theorem EntL.In.off{w:World}{g:Nat}{e:EntL}(h:e.In w)(hg:w.heap.size≤g):e.Off g:=⟨h.vs.off hg,eIL.off h.ap hg,eIL.off h.fa hg,h.log.off hg,h.rows.off hg⟩
def eEnt:Elt EntL where
 T:=56
 k:=7
 enc:=EntL.cells
 In w e:=e.In w
 Off:=EntL.Off
 From:=EntL.From
 pos:=by omega
 len _:=rfl
 one x v hv:=by
  have h:((EntL.cells x).all (·.oneCell'))=true:=by simp[EntL.cells,IL.val,Value.oneCell']
  exact List.all_eq_true.1 h v hv
 ext h he:=h.ext he
 but h ho hb:=h.but ho hb
 off h hg:=h.off hg
 frm h hg:=⟨h.vs.off hg,eIL.frm h.ap hg,eIL.frm h.fa hg,h.log.off hg,h.rows.off hg⟩
 mono h hg:=⟨h.vs.mono hg,eIL.mono h.ap hg,eIL.mono h.fa hg,h.log.mono hg,h.rows.mono hg⟩
theorem EntL.packed(e:EntL):∃ CS:Array Value,e.agg=.agg CS∧CS.size=7∧CS.all (·.oneCell')=true∧e.cells.toArray=CS:=⟨_,rfl,rfl,by simp[IL.val,Value.oneCell'],rfl⟩
theorem itp(x:ItL):∃ CS:Array Value,It.agg x.1 x.2=.agg CS∧CS.size=17∧CS.all (·.oneCell')=true∧(icl x).toArray=CS:=⟨_,rfl,rfl,by simp[Value.oneCell'],rfl⟩

structure RvL where
 st:Int
 au:Int
 ap:IL
 fa:IL
 lA:Option Addr
 lc:Nat
 log:List Rev.Act
def RvL.rc (r:RvL):Rev.Rec:=⟨r.st,r.au,r.ap.xs,r.fa.xs,r.log⟩
def RvL.cells (r:RvL):List Value:=[.int .i64 r.st,.int .i64 r.au,r.ap.val,r.fa.val,.slice r.lA r.log.length r.lc]
def RvL.agg (r:RvL):Value:=.agg #[.int .i64 r.st,.int .i64 r.au,r.ap.val,r.fa.val,.slice r.lA r.log.length r.lc]
structure RvL.In (w:World)(r:RvL):Prop where
 st:In64 r.st
 au:In64 r.au
 ap:r.ap.In w
 fa:r.fa.In w
 log:SlX eAct w r.lA r.log
 lc:r.log.length≤r.lc∧r.lc≤maxLen
structure RvL.From (N:Nat)(r:RvL):Prop where
 ap:eIL.From N r.ap
 fa:eIL.From N r.fa
 log:FromX eAct N r.lA r.log
theorem RvL.In.ext{w w':World}{r:RvL}(h:r.In w)(he:Ext w w'):r.In w':=⟨h.st,h.au,h.ap.ext he,h.fa.ext he,h.log.ext he,h.lc⟩
theorem RvL.packed(r:RvL):∃ CS:Array Value,r.agg=.agg CS∧CS.size=5∧CS.all (·.oneCell')=true∧r.cells.toArray=CS:=⟨_,rfl,rfl,by simp[IL.val,Value.oneCell'],rfl⟩
def EntL.rv (e:EntL):RvL:=⟨e.st,e.au,e.ap,e.fa,e.lA,e.lc,e.log⟩
structure BankL where
 now:Int
 gp:IL
 gq:IL
 oA:Option Addr
 oc:Nat
 outl:List Tpc
 aA:Option Addr
 ac:Nat
 assets:List Ast
 eA:Option Addr
 ec:Nat
 ents:List EntL
 nA:Option Addr
 nc:Nat
 enem:List (Int×Int)
def BankL.bank (b:BankL):Bank:=⟨b.now,b.gp.xs,b.gq.xs,b.outl,b.assets,b.ents.map (·.ent),b.enem⟩
def BankL.cells (b:BankL):List Value:=[.int .i64 b.now,b.gp.val,b.gq.val,.slice b.oA b.outl.length b.oc,.slice b.aA b.assets.length b.ac,.slice b.eA b.ents.length b.ec,.slice b.nA b.enem.length b.nc]
def BankL.agg (b:BankL):Value:=.agg #[.int .i64 b.now,b.gp.val,b.gq.val,.slice b.oA b.outl.length b.oc,.slice b.aA b.assets.length b.ac,.slice b.eA b.ents.length b.ec,.slice b.nA b.enem.length b.nc]
structure BankL.In (w:World)(b:BankL):Prop where
 now:In64 b.now
 gp:b.gp.In w
 gq:b.gq.In w
 outl:SlX eTpc w b.oA b.outl
 oc:b.outl.length≤b.oc∧b.oc≤maxLen
 assets:SlX eAst w b.aA b.assets
 ac:b.assets.length≤b.ac∧b.ac≤maxLen
 ents:SlX eEnt w b.eA b.ents
 ec:b.ents.length≤b.ec∧b.ec≤maxLen
 enem:SlX ePar w b.nA b.enem
 nc:b.enem.length≤b.nc∧b.nc≤maxLen
theorem BankL.In.ext{w w':World}{b:BankL}(h:b.In w)(he:Ext w w'):b.In w':=⟨h.now,h.gp.ext he,h.gq.ext he,h.outl.ext he,h.oc,h.assets.ext he,h.ac,h.ents.ext he,h.ec,h.enem.ext he,h.nc⟩
theorem BankL.packed(b:BankL):∃ CS:Array Value,b.agg=.agg CS∧CS.size=7∧CS.all (·.oneCell')=true∧b.cells.toArray=CS:=⟨_,rfl,rfl,by simp[IL.val,Value.oneCell'],rfl⟩
def ItSz (x:It.Item):Prop:=x.opts.length*16≤140737488355328∧x.chs.length*8≤140737488355328∧x.texts.length*16≤140737488355328∧x.assets.length*8≤140737488355328
structure EntSz (e:Ent):Prop where
 vs:e.vers.length*216≤140737488355328
 its:∀ x∈e.vers,ItSz x
 ap:e.rev.ap.length*8≤140737488355328
 fa:e.rev.fa.length*8≤140737488355328
 log:e.rev.log.length*32≤140737488355328
 rows:e.rows.length*24≤140737488355328
 row:∀ r∈e.rows,r.length*8≤140737488355328
structure BankSz (b:Bank):Prop where
 pts:b.pts.length*8≤140737488355328
 prior:b.prior.length*8≤140737488355328
 outl:b.outl.length*32≤140737488355328
 assets:b.assets.length*48≤140737488355328
 ents:b.ents.length*136≤140737488355328
 ent:∀ e∈b.ents,EntSz e
 enem:b.enem.length*16≤140737488355328
end Bk
end Go.Proofs.YtfnmgcblhebdbaaGreatDoor
namespace Go.Proofs.YtfnmgcblhebdbaaGreatDoor
set_option maxRecDepth 100000
set_option maxHeartbeats 3200000
open Go.RowKit
namespace Bk
def RetCl {X:Type}(E:Elt X)(A0:Option Addr)(w:World)(n:Nat)(xs:List X)(e:Ending)(w':World):Prop:=∃ A c,e=.returned (.slice A n c)∧(A0=none→A=none∧c=0)∧n≤c∧c≤maxLen∧FromA w.heap.size A n∧SlX E w' A xs∧TyA E.T w' A n∧Ext w w'
theorem RetCl.of_own{X:Type}{E:Elt X}{w w':World}{n c:Nat}{A A0:Option Addr}(h0:A0≠none){xs:List X}(hn:xs.length=n)(hs:∀ x∈xs,E.In w x)(ho:w'.ownsRow w.heap.size E.T E.k (.slice A n c) n (xs.map E.enc).flatten)(he:Ext w w'):RetCl E A0 w n xs (.returned (.slice A n c)) w':=by obtain⟨A2,c2,h1,h2,h3,h4⟩:=Sl.of_own (xs:=xs.map E.enc) (map_len xs) ((List.length_map _).trans hn) ho;rw[List.length_map,hn]at h1 h2;cases h1;refine⟨A,c,rfl,fun h=>absurd h h0,h2,h3,Or.inr fun a ha=>?_,⟨h4,fun x hx=>E.ext (hs x hx) he⟩,TyA.of_own ho,he⟩;refine own_ge ho a.block ?_;rw[ha];rfl
theorem infoI:(Tryz.prog.info? 3).map (fun i=>(i.zero,i.size,i.bytes))=some (some (.int .i64 0),1,8):=by kernel_rfl
theorem infoS:(Tryz.prog.info? 9).map (fun i=>(i.zero,i.size,i.bytes))=some (some (.string ⟨#[]⟩),1,16):=by kernel_rfl
theorem infoAct:(Tryz.prog.info? 116).map (fun i=>(i.zero,i.size,i.bytes))=some (some (.agg #[.int .i64 0,.int .i64 0,.int .i64 0,.int .i64 0]),4,32):=by kernel_rfl
theorem infoTpc:(Tryz.prog.info? 41).map (fun i=>(i.zero,i.size,i.bytes))=some (some (.agg #[.string ⟨#[]⟩,.string ⟨#[]⟩]),2,32):=by kernel_rfl
theorem infoAst:(Tryz.prog.info? 43).map (fun i=>(i.zero,i.size,i.bytes))=some (some (.agg #[.int .i64 0,.int .i64 0,.string ⟨#[]⟩,.int .i64 0,.int .i64 0]),5,48):=by kernel_rfl
theorem infoPar:(Tryz.prog.info? 80).map (fun i=>(i.zero,i.size,i.bytes))=some (some (.agg #[.int .i64 0,.int .i64 0]),2,16):=by kernel_rfl
theorem infoIt:(Tryz.prog.info? 39).map (fun i=>(i.zero,i.size,i.bytes))=some (some (.agg #[.int .i64 0,.int .i64 0,.int .i64 0,.string ⟨#[]⟩,.slice none 0 0,.slice none 0 0,.int .i64 0,.int .i64 0,.slice none 0 0,.int .i64 0,.string ⟨#[]⟩,.int .i64 0,.int .i64 0,.int .i64 0,.int .i64 0,.slice none 0 0,.int .i64 0]),17,216):=by kernel_rfl
theorem infoEnt:(Tryz.prog.info? 56).map (fun i=>(i.zero,i.size,i.bytes))=some (some (.agg #[.slice none 0 0,.int .i64 0,.int .i64 0,.slice none 0 0,.slice none 0 0,.slice none 0 0,.slice none 0 0]),7,136):=by kernel_rfl
theorem infoIL:(Tryz.prog.info? 22).map (fun i=>(i.zero,i.size,i.bytes))=some (some (.slice none 0 0),1,24):=by kernel_rfl
theorem cloneI(A:Option Addr)(c:Nat)(xs:List (Int)){n:Nat}(hn:xs.length=n)(w:World)(h:SlX eI w A xs)(hbig:n*8≤140737488355328) :
    Calls Tryz.prog 58 #[.slice A n c] w (RetCl eI A w n xs):=by
 have H:=Hi h;have HN:=Hi hn;clear h hn;have q0:∀ (w:World) (a:Option Addr) (n c n' c':Nat),(binOp .eql 22 (.slice a n c) (.slice none n' c')).run Tryz.prog w=.ok (.bool a.isNone) w:=fun w a n c n' c'=>Lib.run_eql_slice_nil w _ _ a n c n' c' Tryz.underlying22;cases A with
 | none =>
  have hx:xs=[]:=by
   rcases H.out.sl with h | ⟨b,off,hA,_⟩
   · simpa using h
   · cases hA
  have h0:n=0:=by rw[← HN.out,hx];rfl
  subst h0;have HX:=Hi hx;clear hx;go_enter Tryz.func58,Tryz.ntmps58
  go_wp2;go_ret;rw[HX.out];exact⟨none,0,rfl,fun _=>⟨rfl,rfl⟩,Nat.le_refl _,Nat.zero_le _,Or.inl rfl,SlX.nil _ _,Or.inl rfl,Ext.refl _⟩
 | some a =>
  obtain⟨i0,hi0,hz0,hz1,hz2⟩:=info_parts infoI;go_enter Tryz.func58,Tryz.ntmps58
  go_wp2_with (at_builtin;refine wpList_appS rfl _ _ 22 rfl w 3 i0 (.int .i64 0) 1 8 Tryz.underlying22 hi0 hz0 hz1 hz2 rfl (by decide) _ 0 [] rfl (World.ownsRow_made w #[] 0 (Nat.le_refl _) (Nat.zero_le _) (by simp)) ((Ext.refl _).alloc _) (some a) c n (xs.map eI.enc) ((List.length_map _).trans HN.out) rfl (H.out.sl.ext ((Ext.refl _).alloc _)) (map_len xs) ?q1 ?q2 ?q3 ?_)
  case q1 =>
   intro c hc;obtain⟨x,-,rfl⟩:=List.mem_map.1 hc;exact eI.one x
  case q2=>unfold maxLen;omega
  case q3=>omega
  intro A' c' w' hown hb;go_wp2;go_ret;exact RetCl.of_own (by simp) HN.out H.out.ins hown hb
theorem cloneS(A:Option Addr)(c:Nat)(xs:List (ByteArray)){n:Nat}(hn:xs.length=n)(w:World)(h:SlX eS w A xs)(hbig:n*16≤140737488355328) :
    Calls Tryz.prog 84 #[.slice A n c] w (RetCl eS A w n xs):=by
 have H:=Hi h;have HN:=Hi hn;clear h hn;have q0:∀ (w:World) (a:Option Addr) (n c n' c':Nat),(binOp .eql 37 (.slice a n c) (.slice none n' c')).run Tryz.prog w=.ok (.bool a.isNone) w:=fun w a n c n' c'=>Lib.run_eql_slice_nil w _ _ a n c n' c' Tryz.underlying37;cases A with
 | none =>
  have hx:xs=[]:=by
   rcases H.out.sl with h | ⟨b,off,hA,_⟩
   · simpa using h
   · cases hA
  have h0:n=0:=by rw[← HN.out,hx];rfl
  subst h0;have HX:=Hi hx;clear hx;go_enter Tryz.func84,Tryz.ntmps84
  go_wp2;go_ret;rw[HX.out];exact⟨none,0,rfl,fun _=>⟨rfl,rfl⟩,Nat.le_refl _,Nat.zero_le _,Or.inl rfl,SlX.nil _ _,Or.inl rfl,Ext.refl _⟩
 | some a =>
  obtain⟨i0,hi0,hz0,hz1,hz2⟩:=info_parts infoS;go_enter Tryz.func84,Tryz.ntmps84
  go_wp2_with (at_builtin;refine wpList_appS rfl _ _ 37 rfl w 9 i0 (.string ⟨#[]⟩) 1 16 Tryz.underlying37 hi0 hz0 hz1 hz2 rfl (by decide) _ 0 [] rfl (World.ownsRow_made w #[] 0 (Nat.le_refl _) (Nat.zero_le _) (by simp)) ((Ext.refl _).alloc _) (some a) c n (xs.map eS.enc) ((List.length_map _).trans HN.out) rfl (H.out.sl.ext ((Ext.refl _).alloc _)) (map_len xs) ?q1 ?q2 ?q3 ?_)
  case q1 =>
   intro c hc;obtain⟨x,-,rfl⟩:=List.mem_map.1 hc;exact eS.one x
  case q2=>unfold maxLen;omega
  case q3=>omega
  intro A' c' w' hown hb;go_wp2;go_ret;exact RetCl.of_own (by simp) HN.out H.out.ins hown hb
theorem cloneAct(A:Option Addr)(c:Nat)(xs:List (Rev.Act)){n:Nat}(hn:xs.length=n)(w:World)(h:SlX eAct w A xs)(hbig:n*32≤140737488355328) :
    Calls Tryz.prog 81 #[.slice A n c] w (RetCl eAct A w n xs):=by
 have H:=Hi h;have HN:=Hi hn;clear h hn;have q0:∀ (w:World) (a:Option Addr) (n c n' c':Nat),(binOp .eql 52 (.slice a n c) (.slice none n' c')).run Tryz.prog w=.ok (.bool a.isNone) w:=fun w a n c n' c'=>Lib.run_eql_slice_nil w _ _ a n c n' c' Tryz.underlying52;cases A with
 | none =>
  have hx:xs=[]:=by
   rcases H.out.sl with h | ⟨b,off,hA,_⟩
   · simpa using h
   · cases hA
  have h0:n=0:=by rw[← HN.out,hx];rfl
  subst h0;have HX:=Hi hx;clear hx;go_enter Tryz.func81,Tryz.ntmps81
  go_wp2;go_ret;rw[HX.out];exact⟨none,0,rfl,fun _=>⟨rfl,rfl⟩,Nat.le_refl _,Nat.zero_le _,Or.inl rfl,SlX.nil _ _,Or.inl rfl,Ext.refl _⟩
 | some a =>
  obtain⟨i0,hi0,hz0,hz1,hz2⟩:=info_parts infoAct;go_enter Tryz.func81,Tryz.ntmps81
  go_wp2_with (at_builtin;refine wpList_appS rfl _ _ 52 rfl w 116 i0 (.agg #[.int .i64 0,.int .i64 0,.int .i64 0,.int .i64 0]) 4 32 Tryz.underlying52 hi0 hz0 hz1 hz2 rfl (by decide) _ 0 [] rfl (World.ownsRow_made w #[] 0 (Nat.le_refl _) (Nat.zero_le _) (by simp)) ((Ext.refl _).alloc _) (some a) c n (xs.map eAct.enc) ((List.length_map _).trans HN.out) rfl (H.out.sl.ext ((Ext.refl _).alloc _)) (map_len xs) ?q1 ?q2 ?q3 ?_)
  case q1 =>
   intro c hc;obtain⟨x,-,rfl⟩:=List.mem_map.1 hc;exact eAct.one x
  case q2=>unfold maxLen;omega
  case q3=>omega
  intro A' c' w' hown hb;go_wp2;go_ret;exact RetCl.of_own (by simp) HN.out H.out.ins hown hb
theorem clonePar(A:Option Addr)(c:Nat)(xs:List (Int×Int)){n:Nat}(hn:xs.length=n)(w:World)(h:SlX ePar w A xs)(hbig:n*16≤140737488355328) :
    Calls Tryz.prog 61 #[.slice A n c] w (RetCl ePar A w n xs):=by
 have H:=Hi h;have HN:=Hi hn;clear h hn;have q0:∀ (w:World) (a:Option Addr) (n c n' c':Nat),(binOp .eql 29 (.slice a n c) (.slice none n' c')).run Tryz.prog w=.ok (.bool a.isNone) w:=fun w a n c n' c'=>Lib.run_eql_slice_nil w _ _ a n c n' c' Tryz.underlying29;cases A with
 | none =>
  have hx:xs=[]:=by
   rcases H.out.sl with h | ⟨b,off,hA,_⟩
   · simpa using h
   · cases hA
  have h0:n=0:=by rw[← HN.out,hx];rfl
  subst h0;have HX:=Hi hx;clear hx;go_enter Tryz.func61,Tryz.ntmps61
  go_wp2;go_ret;rw[HX.out];exact⟨none,0,rfl,fun _=>⟨rfl,rfl⟩,Nat.le_refl _,Nat.zero_le _,Or.inl rfl,SlX.nil _ _,Or.inl rfl,Ext.refl _⟩
 | some a =>
  obtain⟨i0,hi0,hz0,hz1,hz2⟩:=info_parts infoPar;go_enter Tryz.func61,Tryz.ntmps61
  go_wp2_with (at_builtin;refine wpList_appS rfl _ _ 29 rfl w 80 i0 (.agg #[.int .i64 0,.int .i64 0]) 2 16 Tryz.underlying29 hi0 hz0 hz1 hz2 rfl (by decide) _ 0 [] rfl (World.ownsRow_made w #[] 0 (Nat.le_refl _) (Nat.zero_le _) (by simp)) ((Ext.refl _).alloc _) (some a) c n (xs.map ePar.enc) ((List.length_map _).trans HN.out) rfl (H.out.sl.ext ((Ext.refl _).alloc _)) (map_len xs) ?q1 ?q2 ?q3 ?_)
  case q1 =>
   intro c hc;obtain⟨x,-,rfl⟩:=List.mem_map.1 hc;exact ePar.one x
  case q2=>unfold maxLen;omega
  case q3=>omega
  intro A' c' w' hown hb;go_wp2;go_ret;exact RetCl.of_own (by simp) HN.out H.out.ins hown hb
end Bk
set_option maxRecDepth 100000
set_option maxHeartbeats 12800000
open Go.RowKit
namespace Bk
theorem results_oneR{P:Program}{fn:Func}{p:Tmp}{ty:TypeId}(h:fn.results=#[.cell p ty])(tmps:Array Value)(w:World)(g:Nat)(t:TypeId)(cs:Array Value)(fr:Nat×Nat)(d:TypeDesc)
    (hp:tmps.getD p undef=.pointer (some ⟨g,0,none⟩)) (hg:w.heap[g]?=some (.cells cs t fr))
    (hu:P.underlying ty=some d) (hd:(match d with | .struct _ | .array _ _=>true | _=>false)=true) (hi:(P.info? ty).map (·.size)=some cs.size) :
    (results fn tmps).run P w=.ok (.agg cs) w:=results_cell_row h tmps w g t cs fr d hp hg hu hd hi
structure Got {X:Type}(E:Elt X)(W:World)(N:Nat)(A:Option Addr)(xs:List X)(c:Nat):Prop where
 sl:SlX E W A xs
 frm:FromX E N A xs
 le:xs.length≤c
 mx:c≤maxLen
 ty:TyA E.T W A xs.length
theorem Got.ext{X:Type}{E:Elt X}{W W':World}{N:Nat}{A:Option Addr}{xs:List X}{c:Nat}(h:Got E W N A xs c)(he:Ext W W'):Got E W' N A xs c:=⟨h.sl.ext he,h.frm,h.le,h.mx,h.ty.ext he⟩
theorem Got.but{X:Type}{E:Elt X}{W W':World}{N g:Nat}{A:Option Addr}{xs:List X}{c:Nat}(h:Got E W N A xs c)(hb:But g W W')(hg:g<N):Got E W' N A xs c:=⟨h.sl.but (h.frm.off hg) hb,h.frm,h.le,h.mx,h.ty.but hb (h.frm.off hg).a⟩
theorem Got.butO{X:Type}{E:Elt X}{W W':World}{N g:Nat}{A:Option Addr}{xs:List X}{c:Nat}(h:Got E W N A xs c)(hb:But g W W')(ho:OffX E g A xs):Got E W' N A xs c:=⟨h.sl.but ho hb,h.frm,h.le,h.mx,h.ty.but hb ho.a⟩
theorem Got.put{X:Type}{E:Elt X}{W:World}{N g:Nat}{A:Option Addr}{xs:List X}{c:Nat}(h:Got E W N A xs c)(hg:g<N)(o:Nat)(v:Value):Got E (W.setCell ⟨g,o,none⟩ v) N A xs c:=h.but (But.setCell W ⟨g,o,none⟩ v) hg
theorem Got.low{X:Type}{E:Elt X}{W:World}{N M:Nat}{A:Option Addr}{xs:List X}{c:Nat}(h:Got E W N A xs c)(hm:M≤N):Got E W M A xs c:=⟨h.sl,h.frm.mono hm,h.le,h.mx,h.ty⟩
theorem Got.il{W:World}{N:Nat}{A:Option Addr}{xs:List Int}{c:Nat}(h:Got eI W N A xs c):(⟨A,c,xs⟩:IL).In W:=⟨h.sl.sl,h.le,h.mx,h.sl.ins⟩
theorem RetCl.got{X:Type}{E:Elt X}{A0:Option Addr}{w w':World}{n:Nat}{xs:List X}{e:Ending}(h:RetCl E A0 w n xs e w')(hn:xs.length=n)(hE:∀ N x,E.From N x):∃ A c,e=.returned (.slice A n c)∧Got E w' w.heap.size A xs c∧Ext w w':=by subst hn;obtain⟨A,c,h1,-,h2,h3,h4,h5,h7,h6⟩:=h;exact⟨A,c,h1,⟨h5,⟨h4,fun x _=>hE _ x⟩,h2,h3,h7⟩,h6⟩
theorem RetCl.got'{X:Type}{E:Elt X}{A0:Option Addr}{w w':World}{n:Nat}{xs:List X}{e:Ending}(h:RetCl E A0 w n xs e w')(hn:xs.length=n)(hE:∀ N x,E.From N x):∃ A c,e=.returned (.slice A n c)∧Got E w' w.heap.size A xs c∧Ext w w'∧(A0=none→A=none∧c=0):=by subst hn;obtain⟨A,c,h1,h0,h2,h3,h4,h5,h7,h6⟩:=h;exact⟨A,c,h1,⟨h5,⟨h4,fun x _=>hE _ x⟩,h2,h3,h7⟩,h6,h0⟩
theorem blk_lt{w:World}{g:Nat}{o:Obj}(h:w.heap[g]?=some o):g<w.heap.size:=(Array.getElem?_eq_some_iff.1 h).1
theorem two_fst'(w:World)(o1 o2:Obj):((w.alloc o1).alloc o2).heap[w.heap.size]?=some o1:=((Ext.refl (w.alloc o1)).alloc o2).blockAt (heap_alloc_new w o1)
theorem SlX.ofI{w:World}{A:Option Addr}{xs:List Int}(h:SlI w A xs)(hi:∀ x∈xs,In64 x):SlX eI w A xs:=⟨h,hi⟩
theorem SlX.ofS{w:World}{A:Option Addr}{xs:List ByteArray}(h:SlS w A xs):SlX eS w A xs:=⟨h,fun _ _=>trivial⟩
theorem wpList_store_newN{P:Program}{ops:Array Oper}{rest:List Oper}{op:Oper}{a:Act}{w:World}{Q:Exit→Act→World→Prop}(hgd:op.guard=none)(ty:TypeId)(x y:Operand)(ho:op.op=.store ty x y)
    (N:Nat) (hN:w.heap.size=N) (c CS:Array Value) (t:TypeId) (hx:a.eval x=.pointer (some ⟨N,0,none⟩)) (hy:a.eval y=.agg CS)
    (hi:(P.info? ty).map (·.size)=some CS.size) (hz:c.size=CS.size) (h1:CS.all (·.oneCell')=true)
    (h:wpList P ops Q rest (a.put op.dst undef) (w.alloc (.cells CS t))):wpList P ops Q (op :: rest) a (w.alloc (.cells c t)):=by
 subst hN;exact wpList_store_new hgd ty x y ho c CS t hx hy hi hz h1 h
theorem set4_it(it:It.Item)(L:It.Loc)(A1 A2 A3 A4:Option Addr)(c1 c2 c3 c4:Nat) :
    ((((It.cells it L).toArray.setIfInBounds 4 (.slice A1 it.opts.length c1)).setIfInBounds 5 (.slice A2 it.chs.length c2)).setIfInBounds 8 (.slice A3 it.texts.length c3)).setIfInBounds 15 (.slice A4 it.assets.length c4)=(It.cells it ⟨A1,c1,A2,c2,A3,c3,A4,c4⟩).toArray:=rfl
theorem infoItem{CS:Array Value}(h:CS.size=17):(Tryz.prog.info? 39).map (·.size)=some CS.size:=by rw[h];kernel_rfl
theorem infoRev{CS:Array Value}(h:CS.size=5):(Tryz.prog.info? 54).map (·.size)=some CS.size:=by rw[h];kernel_rfl
def RetIt (w:World)(it:It.Item)(e:Ending)(w':World):Prop:=∃ L,e=.returned (It.agg it L)∧It.In w' it L∧ItFrom w.heap.size (it,L)
theorem bcopyItem_any(it:It.Item)(L:It.Loc)(w:World)(h:It.In w it L)(hz:ItSz it) :
    Calls Tryz.prog 43 #[It.agg it L] w fun e w'=>RetIt w it e w'∧Ext w w':=by
 obtain⟨CA,hca,hna,h1a,hka⟩:=itp (it,L);rw[hca];obtain⟨sm1,sm2,sm3,sm4⟩:=hz;have J4:Hid (CA[4]?=some (.slice L.oA it.opts.length L.oc)):=Hi (by rw[← hka];rfl);have J5:Hid (CA[5]?=some (.slice L.cA it.chs.length L.cc)):=Hi (by rw[← hka];rfl);have J8:Hid (CA[8]?=some (.slice L.tA it.texts.length L.tc)):=Hi (by rw[← hka];rfl);have J15:Hid (CA[15]?=some (.slice L.sA it.assets.length L.sc)):=Hi (by rw[← hka];rfl);obtain⟨n1,hn1⟩:∃ n,it.opts.length=n:=⟨_,rfl⟩;rw[hn1]at J4 sm1;have HL1:=Hi hn1;obtain⟨n2,hn2⟩:∃ n,it.chs.length=n:=⟨_,rfl⟩;rw[hn2]at J5 sm2;have HL2:=Hi hn2;obtain⟨n3,hn3⟩:∃ n,it.texts.length=n:=⟨_,rfl⟩;rw[hn3]at J8 sm3;have HL3:=Hi hn3;obtain⟨n4,hn4⟩:∃ n,it.assets.length=n:=⟨_,rfl⟩;rw[hn4]at J15 sm4;have HL4:=Hi hn4;clear hn1 hn2 hn3 hn4;have HA0:Hid ((((w.alloc (.cells CA 39)).alloc (.cells #[.int .i64 0,.int .i64 0,.int .i64 0,.string ⟨#[]⟩,.slice none 0 0,.slice none 0 0,.int .i64 0,.int .i64 0,.slice none 0 0,.int .i64 0,.string ⟨#[]⟩,.int .i64 0,.int .i64 0,.int .i64 0,.int .i64 0,.slice none 0 0,.int .i64 0] 39)).alloc (.cells CA 39)).heap[w.heap.size]?=some (.cells CA 39 (0,0))):=Hi ((((Ext.refl _).alloc _).alloc _).blockAt (heap_alloc_new w _));have HZ0:Hid ((((w.alloc (.cells CA 39)).alloc (.cells #[.int .i64 0,.int .i64 0,.int .i64 0,.string ⟨#[]⟩,.slice none 0 0,.slice none 0 0,.int .i64 0,.int .i64 0,.slice none 0 0,.int .i64 0,.string ⟨#[]⟩,.int .i64 0,.int .i64 0,.int .i64 0,.int .i64 0,.slice none 0 0,.int .i64 0] 39)).alloc (.cells CA 39)).heap[w.heap.size+1]?=some (.cells #[.int .i64 0,.int .i64 0,.int .i64 0,.string ⟨#[]⟩,.slice none 0 0,.slice none 0 0,.int .i64 0,.int .i64 0,.slice none 0 0,.int .i64 0,.string ⟨#[]⟩,.int .i64 0,.int .i64 0,.int .i64 0,.int .i64 0,.slice none 0 0,.int .i64 0] 39 (0,0))):=Hi (((Ext.refl _).alloc _).blockAt (heap_new_at _ _ _ (by simp)));have HC0:Hid ((((w.alloc (.cells CA 39)).alloc (.cells #[.int .i64 0,.int .i64 0,.int .i64 0,.string ⟨#[]⟩,.slice none 0 0,.slice none 0 0,.int .i64 0,.int .i64 0,.slice none 0 0,.int .i64 0,.string ⟨#[]⟩,.int .i64 0,.int .i64 0,.int .i64 0,.int .i64 0,.slice none 0 0,.int .i64 0] 39)).alloc (.cells CA 39)).heap[w.heap.size+1+1]?=some (.cells CA 39 (0,0))):=Hi (heap_new_at _ _ _ (by simp));have HX0:Hid (Ext w (((w.alloc (.cells CA 39)).alloc (.cells #[.int .i64 0,.int .i64 0,.int .i64 0,.string ⟨#[]⟩,.slice none 0 0,.slice none 0 0,.int .i64 0,.int .i64 0,.slice none 0 0,.int .i64 0,.string ⟨#[]⟩,.int .i64 0,.int .i64 0,.int .i64 0,.int .i64 0,.slice none 0 0,.int .i64 0] 39)).alloc (.cells CA 39))):=Hi ((((Ext.refl _).alloc _).alloc _).alloc _);have K4_0:=J4;have K5_0:=J5;have K8_0:=J8;have K15_0:=J15;obtain⟨iI,hiI,hzI,hsI,hbI⟩:=info_parts infoI;obtain⟨iS,hiS,hzS,hsS,hbS⟩:=info_parts infoS;have H:=Hi h;have HKA:=Hi hka;have HNA:=Hi hna;have H1A:=Hi h1a;have IA:=Hi (infoItem hna);clear h hca hka hna h1a;go_enter Tryz.func43,Tryz.ntmps43
 have cf:(((w.alloc (.cells CA 39)).alloc (.cells #[.int .i64 0,.int .i64 0,.int .i64 0,.string ⟨#[]⟩,.slice none 0 0,.slice none 0 0,.int .i64 0,.int .i64 0,.slice none 0 0,.int .i64 0,.string ⟨#[]⟩,.int .i64 0,.int .i64 0,.int .i64 0,.int .i64 0,.slice none 0 0,.int .i64 0] 39)).alloc (.cells CA 39)).cell? ⟨w.heap.size,4,none⟩=some (.slice L.oA n1 L.oc):=(cell_of_row _ _ 4 _ _ _ HA0.out).trans J4.out;have SL1:=Hi (SlX.ofS (H.out.ext HX0.out).o);go_wp2_with (first | (with_reducible refine wpList_load_row rfl 39 (.tmp 1) rfl (w.heap.size) (by with_unfolding_all rfl) _ CA _ _ (two_fst' w _ _) Tryz.underlying39 rfl IA.out ?_) | (with_reducible refine wpList_store_newN rfl 39 (.tmp 3) (.tmp 4) rfl (w.heap.size+1+1) (by simp) _ CA 39 (by with_unfolding_all rfl) (by with_unfolding_all rfl) IA.out (by with_unfolding_all exact HNA.out.symm) H1A.out ?_))
 with_reducible refine(cloneS L.oA L.oc it.opts HL1.out _ SL1.out sm1).mono ?_
 rintro e w1 hr;obtain⟨A1,c1,rfl,hg,hb⟩:=hr.got HL1.out (fun _ _=>trivial);clear hr cf;have HZ1w:=Hi (hb.blockAt HZ0.out);have HC1w:=Hi (hb.blockAt HC0.out);have HA1w:=Hi (hb.blockAt HA0.out);have G1:=Hi (hg.low (show w.heap.size+1+1+1≤_ from blk_lt HC0.out));have kf:w1.cell? ⟨w.heap.size+1+1,4,none⟩=some (.slice L.oA n1 L.oc):=(cell_of_row _ _ 4 _ _ _ HC1w.out).trans K4_0.out;have ff:w1.frozen? ⟨w.heap.size+1+1,4,none⟩=false:=frozen_of_row _ _ _ _ _ HC1w.out;have HX1w:=Hi (HX0.out.trans hb);obtain⟨C1,hC1⟩:∃ C,CA.setIfInBounds 4 (.slice A1 n1 c1)=C:=⟨_,rfl⟩;have HA1:Hid ((w1.setCell ⟨w.heap.size+1+1,4,none⟩ (.slice A1 n1 c1)).heap[w.heap.size]?=some (.cells CA 39 (0,0))):=Hi ((heap_setCell_other _ _ _ _ (by simp;try omega)).trans HA1w.out);have HZ1:Hid ((w1.setCell ⟨w.heap.size+1+1,4,none⟩ (.slice A1 n1 c1)).heap[w.heap.size+1]?=some (.cells #[.int .i64 0,.int .i64 0,.int .i64 0,.string ⟨#[]⟩,.slice none 0 0,.slice none 0 0,.int .i64 0,.int .i64 0,.slice none 0 0,.int .i64 0,.string ⟨#[]⟩,.int .i64 0,.int .i64 0,.int .i64 0,.int .i64 0,.slice none 0 0,.int .i64 0] 39 (0,0))):=Hi ((heap_setCell_other _ _ _ _ (by simp;try omega)).trans HZ1w.out);have HC1:Hid ((w1.setCell ⟨w.heap.size+1+1,4,none⟩ (.slice A1 n1 c1)).heap[w.heap.size+1+1]?=some (.cells C1 39 (0,0))):=Hi (by rw[← hC1];exact heap_setCell_same _ _ _ _ _ _ HC1w.out);have HX1:Hid (Ext w (w1.setCell ⟨w.heap.size+1+1,4,none⟩ (.slice A1 n1 c1))):=Hi (HX1w.out.setCell (show w.heap.size≤w.heap.size+1+1 by omega) _);have G1:Hid (Got eS (w1.setCell ⟨w.heap.size+1+1,4,none⟩ (.slice A1 n1 c1)) (w.heap.size+1+1+1) A1 it.opts c1):=Hi (G1.out.put (by omega) _ _);have K5_1:=Hi ((by rw[← hC1,Array.getElem?_setIfInBounds_ne (by decide)]:C1[5]?=CA[5]?).trans K5_0.out);have K8_1:=Hi ((by rw[← hC1,Array.getElem?_setIfInBounds_ne (by decide)]:C1[8]?=CA[8]?).trans K8_0.out);have K15_1:=Hi ((by rw[← hC1,Array.getElem?_setIfInBounds_ne (by decide)]:C1[15]?=CA[15]?).trans K15_0.out);have HS1:=Hi hC1;clear hC1 hg hb;have cf:(w1.setCell ⟨w.heap.size+1+1,4,none⟩ (.slice A1 n1 c1)).cell? ⟨w.heap.size,5,none⟩=some (.slice L.cA n2 L.cc):=(cell_of_row _ _ 5 _ _ _ HA1.out).trans J5.out;have SL2:=Hi (SlX.ofI (H.out.ext HX1.out).c H.out.ok.chs);go_wp2_with fail
 with_reducible refine(cloneI L.cA L.cc it.chs HL2.out _ SL2.out sm2).mono ?_
 rintro e w2 hr;obtain⟨A2,c2,rfl,hg,hb⟩:=hr.got HL2.out (fun _ _=>trivial);clear hr cf kf ff;have HZ2w:=Hi (hb.blockAt HZ1.out);have HC2w:=Hi (hb.blockAt HC1.out);have HA2w:=Hi (hb.blockAt HA1.out);have G2:=Hi (hg.low (show w.heap.size+1+1+1≤_ from blk_lt HC1.out));have G1:=Hi (G1.out.ext hb);have kf:w2.cell? ⟨w.heap.size+1+1,5,none⟩=some (.slice L.cA n2 L.cc):=(cell_of_row _ _ 5 _ _ _ HC2w.out).trans K5_1.out;have ff:w2.frozen? ⟨w.heap.size+1+1,5,none⟩=false:=frozen_of_row _ _ _ _ _ HC2w.out;have HX2w:=Hi (HX1.out.trans hb);obtain⟨C2,hC2⟩:∃ C,C1.setIfInBounds 5 (.slice A2 n2 c2)=C:=⟨_,rfl⟩;have HA2:Hid ((w2.setCell ⟨w.heap.size+1+1,5,none⟩ (.slice A2 n2 c2)).heap[w.heap.size]?=some (.cells CA 39 (0,0))):=Hi ((heap_setCell_other _ _ _ _ (by simp;try omega)).trans HA2w.out);have HZ2:Hid ((w2.setCell ⟨w.heap.size+1+1,5,none⟩ (.slice A2 n2 c2)).heap[w.heap.size+1]?=some (.cells #[.int .i64 0,.int .i64 0,.int .i64 0,.string ⟨#[]⟩,.slice none 0 0,.slice none 0 0,.int .i64 0,.int .i64 0,.slice none 0 0,.int .i64 0,.string ⟨#[]⟩,.int .i64 0,.int .i64 0,.int .i64 0,.int .i64 0,.slice none 0 0,.int .i64 0] 39 (0,0))):=Hi ((heap_setCell_other _ _ _ _ (by simp;try omega)).trans HZ2w.out);have HC2:Hid ((w2.setCell ⟨w.heap.size+1+1,5,none⟩ (.slice A2 n2 c2)).heap[w.heap.size+1+1]?=some (.cells C2 39 (0,0))):=Hi (by rw[← hC2];exact heap_setCell_same _ _ _ _ _ _ HC2w.out);have HX2:Hid (Ext w (w2.setCell ⟨w.heap.size+1+1,5,none⟩ (.slice A2 n2 c2))):=Hi (HX2w.out.setCell (show w.heap.size≤w.heap.size+1+1 by omega) _);have G1:Hid (Got eS (w2.setCell ⟨w.heap.size+1+1,5,none⟩ (.slice A2 n2 c2)) (w.heap.size+1+1+1) A1 it.opts c1):=Hi (G1.out.put (by omega) _ _);have G2:Hid (Got eI (w2.setCell ⟨w.heap.size+1+1,5,none⟩ (.slice A2 n2 c2)) (w.heap.size+1+1+1) A2 it.chs c2):=Hi (G2.out.put (by omega) _ _);have K8_2:=Hi ((by rw[← hC2,Array.getElem?_setIfInBounds_ne (by decide)]:C2[8]?=C1[8]?).trans K8_1.out);have K15_2:=Hi ((by rw[← hC2,Array.getElem?_setIfInBounds_ne (by decide)]:C2[15]?=C1[15]?).trans K15_1.out);have HS2:=Hi hC2;clear hC2 hg hb;have cf:(w2.setCell ⟨w.heap.size+1+1,5,none⟩ (.slice A2 n2 c2)).cell? ⟨w.heap.size,8,none⟩=some (.slice L.tA n3 L.tc):=(cell_of_row _ _ 8 _ _ _ HA2.out).trans J8.out;have SL3:=Hi (SlX.ofS (H.out.ext HX2.out).t);go_wp2_with fail
 with_reducible refine(cloneS L.tA L.tc it.texts HL3.out _ SL3.out sm3).mono ?_
 rintro e w3 hr;obtain⟨A3,c3,rfl,hg,hb⟩:=hr.got HL3.out (fun _ _=>trivial);clear hr cf kf ff;have HZ3w:=Hi (hb.blockAt HZ2.out);have HC3w:=Hi (hb.blockAt HC2.out);have HA3w:=Hi (hb.blockAt HA2.out);have G3:=Hi (hg.low (show w.heap.size+1+1+1≤_ from blk_lt HC2.out));have G1:=Hi (G1.out.ext hb);have G2:=Hi (G2.out.ext hb);have kf:w3.cell? ⟨w.heap.size+1+1,8,none⟩=some (.slice L.tA n3 L.tc):=(cell_of_row _ _ 8 _ _ _ HC3w.out).trans K8_2.out;have ff:w3.frozen? ⟨w.heap.size+1+1,8,none⟩=false:=frozen_of_row _ _ _ _ _ HC3w.out;have HX3w:=Hi (HX2.out.trans hb);obtain⟨C3,hC3⟩:∃ C,C2.setIfInBounds 8 (.slice A3 n3 c3)=C:=⟨_,rfl⟩;have HA3:Hid ((w3.setCell ⟨w.heap.size+1+1,8,none⟩ (.slice A3 n3 c3)).heap[w.heap.size]?=some (.cells CA 39 (0,0))):=Hi ((heap_setCell_other _ _ _ _ (by simp;try omega)).trans HA3w.out);have HZ3:Hid ((w3.setCell ⟨w.heap.size+1+1,8,none⟩ (.slice A3 n3 c3)).heap[w.heap.size+1]?=some (.cells #[.int .i64 0,.int .i64 0,.int .i64 0,.string ⟨#[]⟩,.slice none 0 0,.slice none 0 0,.int .i64 0,.int .i64 0,.slice none 0 0,.int .i64 0,.string ⟨#[]⟩,.int .i64 0,.int .i64 0,.int .i64 0,.int .i64 0,.slice none 0 0,.int .i64 0] 39 (0,0))):=Hi ((heap_setCell_other _ _ _ _ (by simp;try omega)).trans HZ3w.out);have HC3:Hid ((w3.setCell ⟨w.heap.size+1+1,8,none⟩ (.slice A3 n3 c3)).heap[w.heap.size+1+1]?=some (.cells C3 39 (0,0))):=Hi (by rw[← hC3];exact heap_setCell_same _ _ _ _ _ _ HC3w.out);have HX3:Hid (Ext w (w3.setCell ⟨w.heap.size+1+1,8,none⟩ (.slice A3 n3 c3))):=Hi (HX3w.out.setCell (show w.heap.size≤w.heap.size+1+1 by omega) _);have G1:Hid (Got eS (w3.setCell ⟨w.heap.size+1+1,8,none⟩ (.slice A3 n3 c3)) (w.heap.size+1+1+1) A1 it.opts c1):=Hi (G1.out.put (by omega) _ _);have G2:Hid (Got eI (w3.setCell ⟨w.heap.size+1+1,8,none⟩ (.slice A3 n3 c3)) (w.heap.size+1+1+1) A2 it.chs c2):=Hi (G2.out.put (by omega) _ _);have G3:Hid (Got eS (w3.setCell ⟨w.heap.size+1+1,8,none⟩ (.slice A3 n3 c3)) (w.heap.size+1+1+1) A3 it.texts c3):=Hi (G3.out.put (by omega) _ _);have K15_3:=Hi ((by rw[← hC3,Array.getElem?_setIfInBounds_ne (by decide)]:C3[15]?=C2[15]?).trans K15_2.out);have HS3:=Hi hC3;clear hC3 hg hb;have cf:(w3.setCell ⟨w.heap.size+1+1,8,none⟩ (.slice A3 n3 c3)).cell? ⟨w.heap.size,15,none⟩=some (.slice L.sA n4 L.sc):=(cell_of_row _ _ 15 _ _ _ HA3.out).trans J15.out;have SL4:=Hi (SlX.ofI (H.out.ext HX3.out).s H.out.ok.assets);go_wp2_with fail
 with_reducible refine(cloneI L.sA L.sc it.assets HL4.out _ SL4.out sm4).mono ?_
 rintro e w4 hr;obtain⟨A4,c4,rfl,hg,hb⟩:=hr.got HL4.out (fun _ _=>trivial);clear hr cf kf ff;have HZ4w:=Hi (hb.blockAt HZ3.out);have HC4w:=Hi (hb.blockAt HC3.out);have HA4w:=Hi (hb.blockAt HA3.out);have G4:=Hi (hg.low (show w.heap.size+1+1+1≤_ from blk_lt HC3.out));have G1:=Hi (G1.out.ext hb);have G2:=Hi (G2.out.ext hb);have G3:=Hi (G3.out.ext hb);have kf:w4.cell? ⟨w.heap.size+1+1,15,none⟩=some (.slice L.sA n4 L.sc):=(cell_of_row _ _ 15 _ _ _ HC4w.out).trans K15_3.out;have ff:w4.frozen? ⟨w.heap.size+1+1,15,none⟩=false:=frozen_of_row _ _ _ _ _ HC4w.out;have HX4w:=Hi (HX3.out.trans hb);obtain⟨C4,hC4⟩:∃ C,C3.setIfInBounds 15 (.slice A4 n4 c4)=C:=⟨_,rfl⟩;have HA4:Hid ((w4.setCell ⟨w.heap.size+1+1,15,none⟩ (.slice A4 n4 c4)).heap[w.heap.size]?=some (.cells CA 39 (0,0))):=Hi ((heap_setCell_other _ _ _ _ (by simp;try omega)).trans HA4w.out);have HZ4:Hid ((w4.setCell ⟨w.heap.size+1+1,15,none⟩ (.slice A4 n4 c4)).heap[w.heap.size+1]?=some (.cells #[.int .i64 0,.int .i64 0,.int .i64 0,.string ⟨#[]⟩,.slice none 0 0,.slice none 0 0,.int .i64 0,.int .i64 0,.slice none 0 0,.int .i64 0,.string ⟨#[]⟩,.int .i64 0,.int .i64 0,.int .i64 0,.int .i64 0,.slice none 0 0,.int .i64 0] 39 (0,0))):=Hi ((heap_setCell_other _ _ _ _ (by simp;try omega)).trans HZ4w.out);have HC4:Hid ((w4.setCell ⟨w.heap.size+1+1,15,none⟩ (.slice A4 n4 c4)).heap[w.heap.size+1+1]?=some (.cells C4 39 (0,0))):=Hi (by rw[← hC4];exact heap_setCell_same _ _ _ _ _ _ HC4w.out);have HX4:Hid (Ext w (w4.setCell ⟨w.heap.size+1+1,15,none⟩ (.slice A4 n4 c4))):=Hi (HX4w.out.setCell (show w.heap.size≤w.heap.size+1+1 by omega) _);have G1:Hid (Got eS (w4.setCell ⟨w.heap.size+1+1,15,none⟩ (.slice A4 n4 c4)) (w.heap.size+1+1+1) A1 it.opts c1):=Hi (G1.out.put (by omega) _ _);have G2:Hid (Got eI (w4.setCell ⟨w.heap.size+1+1,15,none⟩ (.slice A4 n4 c4)) (w.heap.size+1+1+1) A2 it.chs c2):=Hi (G2.out.put (by omega) _ _);have G3:Hid (Got eS (w4.setCell ⟨w.heap.size+1+1,15,none⟩ (.slice A4 n4 c4)) (w.heap.size+1+1+1) A3 it.texts c3):=Hi (G3.out.put (by omega) _ _);have G4:Hid (Got eI (w4.setCell ⟨w.heap.size+1+1,15,none⟩ (.slice A4 n4 c4)) (w.heap.size+1+1+1) A4 it.assets c4):=Hi (G4.out.put (by omega) _ _);have HS4:=Hi hC4;clear hC4 hg hb;have HSZ:Hid (C4.size=17):=Hi (by rw[← HS4.out,← HS3.out,← HS2.out,← HS1.out];simp only[Array.size_setIfInBounds];exact HNA.out);have HFIN:Hid (C4=(It.cells it ⟨A1,c1,A2,c2,A3,c3,A4,c4⟩).toArray):=Hi (by rw[← HS4.out,← HS3.out,← HS2.out,← HS1.out,← HKA.out,← HL1.out,← HL2.out,← HL3.out,← HL4.out];exact set4_it it L A1 A2 A3 A4 c1 c2 c3 c4)
 have H1C:Hid (C4.all (·.oneCell')=true):=Hi (by rw[HFIN.out];simp[It.cells,Value.oneCell']);have INF:=Hi (infoItem HSZ.out);have IZ:Hid ((#[.int .i64 0,.int .i64 0,.int .i64 0,.string ⟨#[]⟩,.slice none 0 0,.slice none 0 0,.int .i64 0,.int .i64 0,.slice none 0 0,.int .i64 0,.string ⟨#[]⟩,.int .i64 0,.int .i64 0,.int .i64 0,.int .i64 0,.slice none 0 0,.int .i64 0]:Array Value).size=C4.size):=Hi HSZ.out.symm;go_wp2_with (first
  | (with_reducible refine wpList_load_row rfl 39 (.tmp 3) rfl (w.heap.size+1+1) (by with_unfolding_all rfl) _ C4 _ _ HC4.out Tryz.underlying39 rfl INF.out ?_)
  | (with_reducible refine wpList_store_row rfl 39 (.tmp 2) (.tmp 21) rfl (w.heap.size+1) C4 (by with_unfolding_all rfl) (by with_unfolding_all rfl) _ _ HZ4.out INF.out IZ.out H1C.out ?_))
 refine bodyPost_ret (v:=.agg C4) (results_oneR Tryz.results43 _ _ (w.heap.size+1) _ C4 _ _ rfl (setRow_heap _ _ _ _ _ _ HZ4.out) Tryz.underlying39 rfl INF.out) rfl ?_;have XF:Ext w ((w4.setCell ⟨w.heap.size+1+1,15,none⟩ (.slice A4 n4 c4)).setRow (w.heap.size+1) C4):=HX4.out.rowSet (by omega) _;have hlt:w.heap.size+1<w.heap.size+1+1+1:=by omega
 have hb:=But.setRow (w.heap.size+1) (w4.setCell ⟨w.heap.size+1+1,15,none⟩ (.slice A4 n4 c4)) C4;refine⟨⟨⟨A1,c1,A2,c2,A3,c3,A4,c4⟩,?_,?_,?_⟩,XF⟩
 · rw[HFIN.out];rfl
 · have k1:=G1.out.but hb hlt;have k2:=G2.out.but hb hlt;have k3:=G3.out.but hb hlt;have k4:=G4.out.but hb hlt;exact⟨H.out.ok,k1.sl.sl,k2.sl.sl,k3.sl.sl,k4.sl.sl,⟨k1.le,k1.mx⟩,⟨k2.le,k2.mx⟩,⟨k3.le,k3.mx⟩,⟨k4.le,k4.mx⟩⟩
 · have hl:w.heap.size≤w.heap.size+1+1+1:=(by omega);exact⟨(G1.out.low hl).frm.a,(G2.out.low hl).frm.a,(G3.out.low hl).frm.a,(G4.out.low hl).frm.a⟩
end Bk
end Go.Proofs.YtfnmgcblhebdbaaGreatDoor
namespace Go.Proofs.YtfnmgcblhebdbaaGreatDoor
open Go.RowKit
namespace Bk
structure BankL.Off (g:Nat)(b:BankL):Prop where
 gp:eIL.Off g b.gp
 gq:eIL.Off g b.gq
 outl:OffX eTpc g b.oA b.outl
 assets:OffX eAst g b.aA b.assets
 ents:OffX eEnt g b.eA b.ents
 enem:OffX ePar g b.nA b.enem
structure BankL.From (N:Nat)(b:BankL):Prop where
 gp:eIL.From N b.gp
 gq:eIL.From N b.gq
 outl:FromX eTpc N b.oA b.outl
 assets:FromX eAst N b.aA b.assets
 ents:FromX eEnt N b.eA b.ents
 enem:FromX ePar N b.nA b.enem
theorem BankL.From.off{N g:Nat}{b:BankL}(h:b.From N)(hg:g<N):b.Off g:=⟨eIL.frm h.gp hg,eIL.frm h.gq hg,h.outl.off hg,h.assets.off hg,h.ents.off hg,h.enem.off hg⟩
theorem BankL.From.mono{N M:Nat}{b:BankL}(h:b.From N)(hg:M≤N):b.From M:=⟨eIL.mono h.gp hg,eIL.mono h.gq hg,h.outl.mono hg,h.assets.mono hg,h.ents.mono hg,h.enem.mono hg⟩
theorem BankL.In.but{w w':World}{g:Nat}{b:BankL}(h:b.In w)(ho:b.Off g)(hb:But g w w'):b.In w' :=
 ⟨h.now,eIL.but h.gp ho.gp hb,eIL.but h.gq ho.gq hb,h.outl.but ho.outl hb,h.oc,h.assets.but ho.assets hb,h.ac,h.ents.but ho.ents hb,h.ec,h.enem.but ho.enem hb,h.nc⟩
theorem BankL.In.off{w:World}{g:Nat}{b:BankL}(h:b.In w)(hg:w.heap.size≤g):b.Off g:=⟨eIL.off h.gp hg,eIL.off h.gq hg,h.outl.off hg,h.assets.off hg,h.ents.off hg,h.enem.off hg⟩
end Bk
end Go.Proofs.YtfnmgcblhebdbaaGreatDoor
namespace Go.Proofs.YtfnmgcblhebdbaaGreatDoor
set_option maxRecDepth 100000
set_option maxHeartbeats 12800000
open Go.RowKit
namespace Bk
structure ItTy (w:World)(x:ItL):Prop where
 o:TyA 9 w x.2.oA x.1.opts.length
 c:TyA 3 w x.2.cA x.1.chs.length
 t:TyA 9 w x.2.tA x.1.texts.length
 s:TyA 3 w x.2.sA x.1.assets.length
theorem ItTy.ext{w w':World}{x:ItL}(h:ItTy w x)(he:Ext w w'):ItTy w' x:=⟨h.o.ext he,h.c.ext he,h.t.ext he,h.s.ext he⟩
theorem ItTy.off{w:World}{x:ItL}{q:Nat}{cur:Array Value}{T:TypeId}{fr:Nat×Nat}(h:ItTy w x)(hq:w.heap[q]?=some (.cells cur T fr))(h1:9≠T)(h2:3≠T):ItOff q x:=⟨h.o.off hq h1,h.c.off hq h2,h.t.off hq h1,h.s.off hq h2⟩
def RetItT (w:World)(it:It.Item)(e:Ending)(w':World):Prop:=∃ L,e=.returned (It.agg it L)∧It.In w' it L∧ItFrom w.heap.size (it,L)∧ItTy w' (it,L)
theorem bcopyItemT_any(it:It.Item)(L:It.Loc)(w:World)(h:It.In w it L)(hz:ItSz it) :
    Calls Tryz.prog 43 #[It.agg it L] w fun e w'=>RetItT w it e w'∧Ext w w':=by
 obtain⟨CA,hca,hna,h1a,hka⟩:=itp (it,L);rw[hca];obtain⟨sm1,sm2,sm3,sm4⟩:=hz;have J4:Hid (CA[4]?=some (.slice L.oA it.opts.length L.oc)):=Hi (by rw[← hka];rfl);have J5:Hid (CA[5]?=some (.slice L.cA it.chs.length L.cc)):=Hi (by rw[← hka];rfl);have J8:Hid (CA[8]?=some (.slice L.tA it.texts.length L.tc)):=Hi (by rw[← hka];rfl);have J15:Hid (CA[15]?=some (.slice L.sA it.assets.length L.sc)):=Hi (by rw[← hka];rfl);obtain⟨n1,hn1⟩:∃ n,it.opts.length=n:=⟨_,rfl⟩;rw[hn1]at J4 sm1;have HL1:=Hi hn1;obtain⟨n2,hn2⟩:∃ n,it.chs.length=n:=⟨_,rfl⟩;rw[hn2]at J5 sm2;have HL2:=Hi hn2;obtain⟨n3,hn3⟩:∃ n,it.texts.length=n:=⟨_,rfl⟩;rw[hn3]at J8 sm3;have HL3:=Hi hn3;obtain⟨n4,hn4⟩:∃ n,it.assets.length=n:=⟨_,rfl⟩;rw[hn4]at J15 sm4;have HL4:=Hi hn4;clear hn1 hn2 hn3 hn4;have HA0:Hid ((((w.alloc (.cells CA 39)).alloc (.cells #[.int .i64 0,.int .i64 0,.int .i64 0,.string ⟨#[]⟩,.slice none 0 0,.slice none 0 0,.int .i64 0,.int .i64 0,.slice none 0 0,.int .i64 0,.string ⟨#[]⟩,.int .i64 0,.int .i64 0,.int .i64 0,.int .i64 0,.slice none 0 0,.int .i64 0] 39)).alloc (.cells CA 39)).heap[w.heap.size]?=some (.cells CA 39 (0,0))):=Hi ((((Ext.refl _).alloc _).alloc _).blockAt (heap_alloc_new w _));have HZ0:Hid ((((w.alloc (.cells CA 39)).alloc (.cells #[.int .i64 0,.int .i64 0,.int .i64 0,.string ⟨#[]⟩,.slice none 0 0,.slice none 0 0,.int .i64 0,.int .i64 0,.slice none 0 0,.int .i64 0,.string ⟨#[]⟩,.int .i64 0,.int .i64 0,.int .i64 0,.int .i64 0,.slice none 0 0,.int .i64 0] 39)).alloc (.cells CA 39)).heap[w.heap.size+1]?=some (.cells #[.int .i64 0,.int .i64 0,.int .i64 0,.string ⟨#[]⟩,.slice none 0 0,.slice none 0 0,.int .i64 0,.int .i64 0,.slice none 0 0,.int .i64 0,.string ⟨#[]⟩,.int .i64 0,.int .i64 0,.int .i64 0,.int .i64 0,.slice none 0 0,.int .i64 0] 39 (0,0))):=Hi (((Ext.refl _).alloc _).blockAt (heap_new_at _ _ _ (by simp)));have HC0:Hid ((((w.alloc (.cells CA 39)).alloc (.cells #[.int .i64 0,.int .i64 0,.int .i64 0,.string ⟨#[]⟩,.slice none 0 0,.slice none 0 0,.int .i64 0,.int .i64 0,.slice none 0 0,.int .i64 0,.string ⟨#[]⟩,.int .i64 0,.int .i64 0,.int .i64 0,.int .i64 0,.slice none 0 0,.int .i64 0] 39)).alloc (.cells CA 39)).heap[w.heap.size+1+1]?=some (.cells CA 39 (0,0))):=Hi (heap_new_at _ _ _ (by simp));have HX0:Hid (Ext w (((w.alloc (.cells CA 39)).alloc (.cells #[.int .i64 0,.int .i64 0,.int .i64 0,.string ⟨#[]⟩,.slice none 0 0,.slice none 0 0,.int .i64 0,.int .i64 0,.slice none 0 0,.int .i64 0,.string ⟨#[]⟩,.int .i64 0,.int .i64 0,.int .i64 0,.int .i64 0,.slice none 0 0,.int .i64 0] 39)).alloc (.cells CA 39))):=Hi ((((Ext.refl _).alloc _).alloc _).alloc _);have K4_0:=J4;have K5_0:=J5;have K8_0:=J8;have K15_0:=J15;obtain⟨iI,hiI,hzI,hsI,hbI⟩:=info_parts infoI;obtain⟨iS,hiS,hzS,hsS,hbS⟩:=info_parts infoS;have H:=Hi h;have HKA:=Hi hka;have HNA:=Hi hna;have H1A:=Hi h1a;have IA:=Hi (infoItem hna);clear h hca hka hna h1a;go_enter Tryz.func43,Tryz.ntmps43
 have cf:(((w.alloc (.cells CA 39)).alloc (.cells #[.int .i64 0,.int .i64 0,.int .i64 0,.string ⟨#[]⟩,.slice none 0 0,.slice none 0 0,.int .i64 0,.int .i64 0,.slice none 0 0,.int .i64 0,.string ⟨#[]⟩,.int .i64 0,.int .i64 0,.int .i64 0,.int .i64 0,.slice none 0 0,.int .i64 0] 39)).alloc (.cells CA 39)).cell? ⟨w.heap.size,4,none⟩=some (.slice L.oA n1 L.oc):=(cell_of_row _ _ 4 _ _ _ HA0.out).trans J4.out;have SL1:=Hi (SlX.ofS (H.out.ext HX0.out).o);go_wp2_with (first | (with_reducible refine wpList_load_row rfl 39 (.tmp 1) rfl (w.heap.size) (by with_unfolding_all rfl) _ CA _ _ (two_fst' w _ _) Tryz.underlying39 rfl IA.out ?_) | (with_reducible refine wpList_store_newN rfl 39 (.tmp 3) (.tmp 4) rfl (w.heap.size+1+1) (by simp) _ CA 39 (by with_unfolding_all rfl) (by with_unfolding_all rfl) IA.out (by with_unfolding_all exact HNA.out.symm) H1A.out ?_))
 with_reducible refine(cloneS L.oA L.oc it.opts HL1.out _ SL1.out sm1).mono ?_
 rintro e w1 hr;obtain⟨A1,c1,rfl,hg,hb⟩:=hr.got HL1.out (fun _ _=>trivial);clear hr cf;have HZ1w:=Hi (hb.blockAt HZ0.out);have HC1w:=Hi (hb.blockAt HC0.out);have HA1w:=Hi (hb.blockAt HA0.out);have G1:=Hi (hg.low (show w.heap.size+1+1+1≤_ from blk_lt HC0.out));have kf:w1.cell? ⟨w.heap.size+1+1,4,none⟩=some (.slice L.oA n1 L.oc):=(cell_of_row _ _ 4 _ _ _ HC1w.out).trans K4_0.out;have ff:w1.frozen? ⟨w.heap.size+1+1,4,none⟩=false:=frozen_of_row _ _ _ _ _ HC1w.out;have HX1w:=Hi (HX0.out.trans hb);obtain⟨C1,hC1⟩:∃ C,CA.setIfInBounds 4 (.slice A1 n1 c1)=C:=⟨_,rfl⟩;have HA1:Hid ((w1.setCell ⟨w.heap.size+1+1,4,none⟩ (.slice A1 n1 c1)).heap[w.heap.size]?=some (.cells CA 39 (0,0))):=Hi ((heap_setCell_other _ _ _ _ (by simp;try omega)).trans HA1w.out);have HZ1:Hid ((w1.setCell ⟨w.heap.size+1+1,4,none⟩ (.slice A1 n1 c1)).heap[w.heap.size+1]?=some (.cells #[.int .i64 0,.int .i64 0,.int .i64 0,.string ⟨#[]⟩,.slice none 0 0,.slice none 0 0,.int .i64 0,.int .i64 0,.slice none 0 0,.int .i64 0,.string ⟨#[]⟩,.int .i64 0,.int .i64 0,.int .i64 0,.int .i64 0,.slice none 0 0,.int .i64 0] 39 (0,0))):=Hi ((heap_setCell_other _ _ _ _ (by simp;try omega)).trans HZ1w.out);have HC1:Hid ((w1.setCell ⟨w.heap.size+1+1,4,none⟩ (.slice A1 n1 c1)).heap[w.heap.size+1+1]?=some (.cells C1 39 (0,0))):=Hi (by rw[← hC1];exact heap_setCell_same _ _ _ _ _ _ HC1w.out);have HX1:Hid (Ext w (w1.setCell ⟨w.heap.size+1+1,4,none⟩ (.slice A1 n1 c1))):=Hi (HX1w.out.setCell (show w.heap.size≤w.heap.size+1+1 by omega) _);have G1:Hid (Got eS (w1.setCell ⟨w.heap.size+1+1,4,none⟩ (.slice A1 n1 c1)) (w.heap.size+1+1+1) A1 it.opts c1):=Hi (G1.out.put (by omega) _ _);have K5_1:=Hi ((by rw[← hC1,Array.getElem?_setIfInBounds_ne (by decide)]:C1[5]?=CA[5]?).trans K5_0.out);have K8_1:=Hi ((by rw[← hC1,Array.getElem?_setIfInBounds_ne (by decide)]:C1[8]?=CA[8]?).trans K8_0.out);have K15_1:=Hi ((by rw[← hC1,Array.getElem?_setIfInBounds_ne (by decide)]:C1[15]?=CA[15]?).trans K15_0.out);have HS1:=Hi hC1;clear hC1 hg hb;have cf:(w1.setCell ⟨w.heap.size+1+1,4,none⟩ (.slice A1 n1 c1)).cell? ⟨w.heap.size,5,none⟩=some (.slice L.cA n2 L.cc):=(cell_of_row _ _ 5 _ _ _ HA1.out).trans J5.out;have SL2:=Hi (SlX.ofI (H.out.ext HX1.out).c H.out.ok.chs);go_wp2_with fail
 with_reducible refine(cloneI L.cA L.cc it.chs HL2.out _ SL2.out sm2).mono ?_
 rintro e w2 hr;obtain⟨A2,c2,rfl,hg,hb⟩:=hr.got HL2.out (fun _ _=>trivial);clear hr cf kf ff;have HZ2w:=Hi (hb.blockAt HZ1.out);have HC2w:=Hi (hb.blockAt HC1.out);have HA2w:=Hi (hb.blockAt HA1.out);have G2:=Hi (hg.low (show w.heap.size+1+1+1≤_ from blk_lt HC1.out));have G1:=Hi (G1.out.ext hb);have kf:w2.cell? ⟨w.heap.size+1+1,5,none⟩=some (.slice L.cA n2 L.cc):=(cell_of_row _ _ 5 _ _ _ HC2w.out).trans K5_1.out;have ff:w2.frozen? ⟨w.heap.size+1+1,5,none⟩=false:=frozen_of_row _ _ _ _ _ HC2w.out;have HX2w:=Hi (HX1.out.trans hb);obtain⟨C2,hC2⟩:∃ C,C1.setIfInBounds 5 (.slice A2 n2 c2)=C:=⟨_,rfl⟩;have HA2:Hid ((w2.setCell ⟨w.heap.size+1+1,5,none⟩ (.slice A2 n2 c2)).heap[w.heap.size]?=some (.cells CA 39 (0,0))):=Hi ((heap_setCell_other _ _ _ _ (by simp;try omega)).trans HA2w.out);have HZ2:Hid ((w2.setCell ⟨w.heap.size+1+1,5,none⟩ (.slice A2 n2 c2)).heap[w.heap.size+1]?=some (.cells #[.int .i64 0,.int .i64 0,.int .i64 0,.string ⟨#[]⟩,.slice none 0 0,.slice none 0 0,.int .i64 0,.int .i64 0,.slice none 0 0,.int .i64 0,.string ⟨#[]⟩,.int .i64 0,.int .i64 0,.int .i64 0,.int .i64 0,.slice none 0 0,.int .i64 0] 39 (0,0))):=Hi ((heap_setCell_other _ _ _ _ (by simp;try omega)).trans HZ2w.out);have HC2:Hid ((w2.setCell ⟨w.heap.size+1+1,5,none⟩ (.slice A2 n2 c2)).heap[w.heap.size+1+1]?=some (.cells C2 39 (0,0))):=Hi (by rw[← hC2];exact heap_setCell_same _ _ _ _ _ _ HC2w.out);have HX2:Hid (Ext w (w2.setCell ⟨w.heap.size+1+1,5,none⟩ (.slice A2 n2 c2))):=Hi (HX2w.out.setCell (show w.heap.size≤w.heap.size+1+1 by omega) _);have G1:Hid (Got eS (w2.setCell ⟨w.heap.size+1+1,5,none⟩ (.slice A2 n2 c2)) (w.heap.size+1+1+1) A1 it.opts c1):=Hi (G1.out.put (by omega) _ _);have G2:Hid (Got eI (w2.setCell ⟨w.heap.size+1+1,5,none⟩ (.slice A2 n2 c2)) (w.heap.size+1+1+1) A2 it.chs c2):=Hi (G2.out.put (by omega) _ _);have K8_2:=Hi ((by rw[← hC2,Array.getElem?_setIfInBounds_ne (by decide)]:C2[8]?=C1[8]?).trans K8_1.out);have K15_2:=Hi ((by rw[← hC2,Array.getElem?_setIfInBounds_ne (by decide)]:C2[15]?=C1[15]?).trans K15_1.out);have HS2:=Hi hC2;clear hC2 hg hb;have cf:(w2.setCell ⟨w.heap.size+1+1,5,none⟩ (.slice A2 n2 c2)).cell? ⟨w.heap.size,8,none⟩=some (.slice L.tA n3 L.tc):=(cell_of_row _ _ 8 _ _ _ HA2.out).trans J8.out;have SL3:=Hi (SlX.ofS (H.out.ext HX2.out).t);go_wp2_with fail
 with_reducible refine(cloneS L.tA L.tc it.texts HL3.out _ SL3.out sm3).mono ?_
 rintro e w3 hr;obtain⟨A3,c3,rfl,hg,hb⟩:=hr.got HL3.out (fun _ _=>trivial);clear hr cf kf ff;have HZ3w:=Hi (hb.blockAt HZ2.out);have HC3w:=Hi (hb.blockAt HC2.out);have HA3w:=Hi (hb.blockAt HA2.out);have G3:=Hi (hg.low (show w.heap.size+1+1+1≤_ from blk_lt HC2.out));have G1:=Hi (G1.out.ext hb);have G2:=Hi (G2.out.ext hb);have kf:w3.cell? ⟨w.heap.size+1+1,8,none⟩=some (.slice L.tA n3 L.tc):=(cell_of_row _ _ 8 _ _ _ HC3w.out).trans K8_2.out;have ff:w3.frozen? ⟨w.heap.size+1+1,8,none⟩=false:=frozen_of_row _ _ _ _ _ HC3w.out;have HX3w:=Hi (HX2.out.trans hb);obtain⟨C3,hC3⟩:∃ C,C2.setIfInBounds 8 (.slice A3 n3 c3)=C:=⟨_,rfl⟩;have HA3:Hid ((w3.setCell ⟨w.heap.size+1+1,8,none⟩ (.slice A3 n3 c3)).heap[w.heap.size]?=some (.cells CA 39 (0,0))):=Hi ((heap_setCell_other _ _ _ _ (by simp;try omega)).trans HA3w.out);have HZ3:Hid ((w3.setCell ⟨w.heap.size+1+1,8,none⟩ (.slice A3 n3 c3)).heap[w.heap.size+1]?=some (.cells #[.int .i64 0,.int .i64 0,.int .i64 0,.string ⟨#[]⟩,.slice none 0 0,.slice none 0 0,.int .i64 0,.int .i64 0,.slice none 0 0,.int .i64 0,.string ⟨#[]⟩,.int .i64 0,.int .i64 0,.int .i64 0,.int .i64 0,.slice none 0 0,.int .i64 0] 39 (0,0))):=Hi ((heap_setCell_other _ _ _ _ (by simp;try omega)).trans HZ3w.out);have HC3:Hid ((w3.setCell ⟨w.heap.size+1+1,8,none⟩ (.slice A3 n3 c3)).heap[w.heap.size+1+1]?=some (.cells C3 39 (0,0))):=Hi (by rw[← hC3];exact heap_setCell_same _ _ _ _ _ _ HC3w.out);have HX3:Hid (Ext w (w3.setCell ⟨w.heap.size+1+1,8,none⟩ (.slice A3 n3 c3))):=Hi (HX3w.out.setCell (show w.heap.size≤w.heap.size+1+1 by omega) _);have G1:Hid (Got eS (w3.setCell ⟨w.heap.size+1+1,8,none⟩ (.slice A3 n3 c3)) (w.heap.size+1+1+1) A1 it.opts c1):=Hi (G1.out.put (by omega) _ _);have G2:Hid (Got eI (w3.setCell ⟨w.heap.size+1+1,8,none⟩ (.slice A3 n3 c3)) (w.heap.size+1+1+1) A2 it.chs c2):=Hi (G2.out.put (by omega) _ _);have G3:Hid (Got eS (w3.setCell ⟨w.heap.size+1+1,8,none⟩ (.slice A3 n3 c3)) (w.heap.size+1+1+1) A3 it.texts c3):=Hi (G3.out.put (by omega) _ _);have K15_3:=Hi ((by rw[← hC3,Array.getElem?_setIfInBounds_ne (by decide)]:C3[15]?=C2[15]?).trans K15_2.out);have HS3:=Hi hC3;clear hC3 hg hb;have cf:(w3.setCell ⟨w.heap.size+1+1,8,none⟩ (.slice A3 n3 c3)).cell? ⟨w.heap.size,15,none⟩=some (.slice L.sA n4 L.sc):=(cell_of_row _ _ 15 _ _ _ HA3.out).trans J15.out;have SL4:=Hi (SlX.ofI (H.out.ext HX3.out).s H.out.ok.assets);go_wp2_with fail
 with_reducible refine(cloneI L.sA L.sc it.assets HL4.out _ SL4.out sm4).mono ?_
 rintro e w4 hr;obtain⟨A4,c4,rfl,hg,hb⟩:=hr.got HL4.out (fun _ _=>trivial);clear hr cf kf ff;have HZ4w:=Hi (hb.blockAt HZ3.out);have HC4w:=Hi (hb.blockAt HC3.out);have HA4w:=Hi (hb.blockAt HA3.out);have G4:=Hi (hg.low (show w.heap.size+1+1+1≤_ from blk_lt HC3.out));have G1:=Hi (G1.out.ext hb);have G2:=Hi (G2.out.ext hb);have G3:=Hi (G3.out.ext hb);have kf:w4.cell? ⟨w.heap.size+1+1,15,none⟩=some (.slice L.sA n4 L.sc):=(cell_of_row _ _ 15 _ _ _ HC4w.out).trans K15_3.out;have ff:w4.frozen? ⟨w.heap.size+1+1,15,none⟩=false:=frozen_of_row _ _ _ _ _ HC4w.out;have HX4w:=Hi (HX3.out.trans hb);obtain⟨C4,hC4⟩:∃ C,C3.setIfInBounds 15 (.slice A4 n4 c4)=C:=⟨_,rfl⟩;have HA4:Hid ((w4.setCell ⟨w.heap.size+1+1,15,none⟩ (.slice A4 n4 c4)).heap[w.heap.size]?=some (.cells CA 39 (0,0))):=Hi ((heap_setCell_other _ _ _ _ (by simp;try omega)).trans HA4w.out);have HZ4:Hid ((w4.setCell ⟨w.heap.size+1+1,15,none⟩ (.slice A4 n4 c4)).heap[w.heap.size+1]?=some (.cells #[.int .i64 0,.int .i64 0,.int .i64 0,.string ⟨#[]⟩,.slice none 0 0,.slice none 0 0,.int .i64 0,.int .i64 0,.slice none 0 0,.int .i64 0,.string ⟨#[]⟩,.int .i64 0,.int .i64 0,.int .i64 0,.int .i64 0,.slice none 0 0,.int .i64 0] 39 (0,0))):=Hi ((heap_setCell_other _ _ _ _ (by simp;try omega)).trans HZ4w.out);have HC4:Hid ((w4.setCell ⟨w.heap.size+1+1,15,none⟩ (.slice A4 n4 c4)).heap[w.heap.size+1+1]?=some (.cells C4 39 (0,0))):=Hi (by rw[← hC4];exact heap_setCell_same _ _ _ _ _ _ HC4w.out);have HX4:Hid (Ext w (w4.setCell ⟨w.heap.size+1+1,15,none⟩ (.slice A4 n4 c4))):=Hi (HX4w.out.setCell (show w.heap.size≤w.heap.size+1+1 by omega) _);have G1:Hid (Got eS (w4.setCell ⟨w.heap.size+1+1,15,none⟩ (.slice A4 n4 c4)) (w.heap.size+1+1+1) A1 it.opts c1):=Hi (G1.out.put (by omega) _ _);have G2:Hid (Got eI (w4.setCell ⟨w.heap.size+1+1,15,none⟩ (.slice A4 n4 c4)) (w.heap.size+1+1+1) A2 it.chs c2):=Hi (G2.out.put (by omega) _ _);have G3:Hid (Got eS (w4.setCell ⟨w.heap.size+1+1,15,none⟩ (.slice A4 n4 c4)) (w.heap.size+1+1+1) A3 it.texts c3):=Hi (G3.out.put (by omega) _ _);have G4:Hid (Got eI (w4.setCell ⟨w.heap.size+1+1,15,none⟩ (.slice A4 n4 c4)) (w.heap.size+1+1+1) A4 it.assets c4):=Hi (G4.out.put (by omega) _ _);have HS4:=Hi hC4;clear hC4 hg hb;have HSZ:Hid (C4.size=17):=Hi (by rw[← HS4.out,← HS3.out,← HS2.out,← HS1.out];simp only[Array.size_setIfInBounds];exact HNA.out);have HFIN:Hid (C4=(It.cells it ⟨A1,c1,A2,c2,A3,c3,A4,c4⟩).toArray):=Hi (by rw[← HS4.out,← HS3.out,← HS2.out,← HS1.out,← HKA.out,← HL1.out,← HL2.out,← HL3.out,← HL4.out];exact set4_it it L A1 A2 A3 A4 c1 c2 c3 c4)
 have H1C:Hid (C4.all (·.oneCell')=true):=Hi (by rw[HFIN.out];simp[It.cells,Value.oneCell']);have INF:=Hi (infoItem HSZ.out);have IZ:Hid ((#[.int .i64 0,.int .i64 0,.int .i64 0,.string ⟨#[]⟩,.slice none 0 0,.slice none 0 0,.int .i64 0,.int .i64 0,.slice none 0 0,.int .i64 0,.string ⟨#[]⟩,.int .i64 0,.int .i64 0,.int .i64 0,.int .i64 0,.slice none 0 0,.int .i64 0]:Array Value).size=C4.size):=Hi HSZ.out.symm;go_wp2_with (first
  | (with_reducible refine wpList_load_row rfl 39 (.tmp 3) rfl (w.heap.size+1+1) (by with_unfolding_all rfl) _ C4 _ _ HC4.out Tryz.underlying39 rfl INF.out ?_)
  | (with_reducible refine wpList_store_row rfl 39 (.tmp 2) (.tmp 21) rfl (w.heap.size+1) C4 (by with_unfolding_all rfl) (by with_unfolding_all rfl) _ _ HZ4.out INF.out IZ.out H1C.out ?_))
 refine bodyPost_ret (v:=.agg C4) (results_oneR Tryz.results43 _ _ (w.heap.size+1) _ C4 _ _ rfl (setRow_heap _ _ _ _ _ _ HZ4.out) Tryz.underlying39 rfl INF.out) rfl ?_;have XF:Ext w ((w4.setCell ⟨w.heap.size+1+1,15,none⟩ (.slice A4 n4 c4)).setRow (w.heap.size+1) C4):=HX4.out.rowSet (by omega) _;have hlt:w.heap.size+1<w.heap.size+1+1+1:=by omega
 have hb:=But.setRow (w.heap.size+1) (w4.setCell ⟨w.heap.size+1+1,15,none⟩ (.slice A4 n4 c4)) C4;refine⟨⟨⟨A1,c1,A2,c2,A3,c3,A4,c4⟩,?_,?_,?_,?_⟩,XF⟩
 · rw[HFIN.out];rfl
 · have k1:=G1.out.but hb hlt;have k2:=G2.out.but hb hlt;have k3:=G3.out.but hb hlt;have k4:=G4.out.but hb hlt;exact⟨H.out.ok,k1.sl.sl,k2.sl.sl,k3.sl.sl,k4.sl.sl,⟨k1.le,k1.mx⟩,⟨k2.le,k2.mx⟩,⟨k3.le,k3.mx⟩,⟨k4.le,k4.mx⟩⟩
 · have hl:w.heap.size≤w.heap.size+1+1+1:=(by omega);exact⟨(G1.out.low hl).frm.a,(G2.out.low hl).frm.a,(G3.out.low hl).frm.a,(G4.out.low hl).frm.a⟩
 · have k1:=G1.out.but hb hlt;have k2:=G2.out.but hb hlt;have k3:=G3.out.but hb hlt;have k4:=G4.out.but hb hlt;exact⟨k1.ty,k2.ty,k3.ty,k4.ty⟩
end Bk
set_option maxRecDepth 100000
set_option maxHeartbeats 12800000
open Go.RowKit
namespace Bk
theorem strT{a b:ByteArray}(h:a=b):(a.toList == b.toList)=true:=by rw[h];simp
theorem strF{a b:ByteArray}(h:a≠b):(a.toList == b.toList)=false:=by rw[beq_eq_false_iff_ne];intro e;rw[ByteArray.toList_eq,ByteArray.toList_eq]at e;apply h;cases a;cases b;simp at e;simpa using e
theorem no_eq{P:Prop}{v:Bool}(hv:v=true↔P)(h:¬ P):v=false:=by cases v with | false=>rfl | true=>exact absurd (hv.1 rfl) h
theorem yes_eq{P:Prop}{v:Bool}(hv:v=true↔P)(h:P):v=true:=hv.2 h
theorem tr{P:Prop}(h:P):true=true↔P:=⟨fun _=>h,fun _=>rfl⟩
theorem fa{P:Prop}(h:¬ P):false=true↔P:=⟨fun e=>(by cases e),fun p=>absurd p h⟩
theorem all_eq{α:Type}{a b:List α}{n:Nat}(hn:a.length=n)(hm:b.length=n)(h:∀ j,j<n→a[j]?=b[j]?):a=b:=by
 apply List.ext_getElem?;intro j;rcases Nat.lt_or_ge j n with g | g
 · exact h j g
 · rw[List.getElem?_eq_none (by omega),List.getElem?_eq_none (by omega)]
theorem all_next{α:Type}{a b:List α}{k:Nat}{x y:α}(hx:a[k]?=some x)(hy:b[k]?=some y)(he:x=y)(h:∀ j,j<k→a[j]?=b[j]?):∀ j,j<k+1→a[j]?=b[j]?:=fun j hj=>by
 rcases Nat.lt_or_ge j k with g | g
 · exact h j g
 · obtain rfl:j=k:=by omega
   rw[hx,hy,he]
theorem ne_at{α:Type}{a b:List α}{k:Nat}{x y:α}(hx:a[k]?=some x)(hy:b[k]?=some y)(he:x≠y):¬ a=b:=fun e=>by rw[e,hy]at hx;injection hx with hx;exact he hx.symm
theorem SlS.at_'{w:World}{A:Option Addr}{xs:List ByteArray}(h:SlS w A xs){i:Nat}{x:ByteArray}(hx:xs[i]?=some x):∃ b off,A=some ⟨b,off,none⟩∧b<w.heap.size∧w.cell? ⟨b,off+i,none⟩=some (.string x):=by obtain⟨b,off,hA,hb,hc⟩:=Sl.at_ (i:=i) (cs:=[.string x]) h (by simp[hx]);refine⟨b,off,hA,hb,?_⟩;have:=hc 0 _ rfl;simpa using this
theorem SlI.at_'{w:World}{A:Option Addr}{xs:List Int}(h:SlI w A xs){i:Nat}{x:Int}(hx:xs[i]?=some x):∃ b off,A=some ⟨b,off,none⟩∧b<w.heap.size∧w.cell? ⟨b,off+i,none⟩=some (.int .i64 x):=by obtain⟨b,off,hA,hb,hc⟩:=Sl.at_ (i:=i) (cs:=[.int .i64 x]) h (by simp[hx]);refine⟨b,off,hA,hb,?_⟩;have:=hc 0 _ rfl;simpa using this
theorem rints_any(A:Option Addr)(c:Nat)(a:List Int)(B:Option Addr)(d:Nat)(b:List Int){n m:Nat}(hn:a.length=n)(hm:b.length=m){v:Bool}(hv:v=true↔a=b)(hl:n≤9223372036854775807)(w:World)(ha:SlI w A a)(hb:SlI w B b)(ht:v=true:=by rfl) :
    Calls Tryz.prog 37 #[.slice A n c,.slice B m d] w fun e w'=>e=.returned (.bool v)∧Ext w w':=by
 have HA:=Hi ha;have HB:=Hi hb;have HN:=Hi hn;have HM:=Hi hm;have HV:=Hi hv;have HT:Hid (a=b):=Hi (hv.1 ht);clear ht;clear ha hb hn hm hv;have hnm:n=m:=Classical.byContradiction fun hnm=>(fun e=>hnm (by rw[← HN.out,← HM.out,e])) HT.out;subst hnm;have hl':((n:Int) != (n:Int))=false:=by simp
 go_enter Tryz.func37,Tryz.ntmps37
 go_wp2;go_loopw [5] (fun i wr=>∃ k:Nat,k≤n∧i=.int .i64 k∧Hid (∀ j,j<k→a[j]?=b[j]?)∧Hid (Ext w wr)) (fun i _=>n-(intOf i).toNat)
 case atStart=>exact⟨0,by omega,rfl,Hi (fun j hj=>absurd hj (by omega)),Hi (Ext.refl _)⟩
 case round =>
  obtain⟨k,hk,rfl,HALL,HE⟩:=hrel;by_cases hlt:k<n
  · obtain⟨x,hx⟩:∃ x,a[k]?=some x:=⟨a[k]'(by rw[HN.out];exact hlt),List.getElem?_eq_getElem _⟩;obtain⟨y,hy⟩:∃ x,b[k]?=some x:=⟨b[k]'(by rw[HM.out];exact hlt),List.getElem?_eq_getElem _⟩;obtain⟨ba,oa,rfl,hba,cx⟩:=SlI.at_' (HA.out.ext HE.out) hx;obtain⟨bb,ob,rfl,hbb,cy⟩:=SlI.at_' (HB.out.ext HE.out) hy;have ki0:(0:Int)≤(k:Int):=(by omega);have ki1:(k:Int)<(n:Int):=(by omega);have HX:=Hi hx;have HY:=Hi hy;clear hx hy;have hxy:x=y:=Classical.byContradiction fun hxy=>(ne_at HX.out HY.out hxy) HT.out
    · have t0:(x != y)=false:=(by rw[hxy];simp);have HF:=Hi (all_next HX.out HY.out hxy HALL.out);clear hxy;go_wp2;go_quiet (fail)
      go_wp2;go_roundw;case rel=>exact⟨k+1,by omega,by go_num,HF,Hi (HE.out.drewN _)⟩
      case measure=>simp[intOf];omega
  · obtain rfl:k=n:=by omega
    have HF:=Hi (yes_eq HV.out (all_eq HN.out HM.out HALL.out));go_wp2;go_ret;exact⟨ret_bool HF.out.symm,HE.out⟩
theorem rtexts_any(A:Option Addr)(c:Nat)(a:List ByteArray)(B:Option Addr)(d:Nat)(b:List ByteArray){n m:Nat}(hn:a.length=n)(hm:b.length=m){v:Bool}(hv:v=true↔a=b)(hl:n≤9223372036854775807)(w:World)(ha:SlS w A a)(hb:SlS w B b)(ht:v=true:=by rfl) :
    Calls Tryz.prog 40 #[.slice A n c,.slice B m d] w fun e w'=>e=.returned (.bool v)∧Ext w w':=by
 have HA:=Hi ha;have HB:=Hi hb;have HN:=Hi hn;have HM:=Hi hm;have HV:=Hi hv;have HT:Hid (a=b):=Hi (hv.1 ht);clear ht;clear ha hb hn hm hv;have hnm:n=m:=Classical.byContradiction fun hnm=>(fun e=>hnm (by rw[← HN.out,← HM.out,e])) HT.out;subst hnm;have hl':((n:Int) != (n:Int))=false:=by simp
 go_enter Tryz.func40,Tryz.ntmps40
 go_wp2;go_loopw [5] (fun i wr=>∃ k:Nat,k≤n∧i=.int .i64 k∧Hid (∀ j,j<k→a[j]?=b[j]?)∧Hid (Ext w wr)) (fun i _=>n-(intOf i).toNat)
 case atStart=>exact⟨0,by omega,rfl,Hi (fun j hj=>absurd hj (by omega)),Hi (Ext.refl _)⟩
 case round =>
  obtain⟨k,hk,rfl,HALL,HE⟩:=hrel;by_cases hlt:k<n
  · obtain⟨x,hx⟩:∃ x,a[k]?=some x:=⟨a[k]'(by rw[HN.out];exact hlt),List.getElem?_eq_getElem _⟩;obtain⟨y,hy⟩:∃ x,b[k]?=some x:=⟨b[k]'(by rw[HM.out];exact hlt),List.getElem?_eq_getElem _⟩;obtain⟨ba,oa,rfl,hba,cx⟩:=SlS.at_' (HA.out.ext HE.out) hx;obtain⟨bb,ob,rfl,hbb,cy⟩:=SlS.at_' (HB.out.ext HE.out) hy;have ki0:(0:Int)≤(k:Int):=(by omega);have ki1:(k:Int)<(n:Int):=(by omega);have HX:=Hi hx;have HY:=Hi hy;clear hx hy;have hxy:x=y:=Classical.byContradiction fun hxy=>(ne_at HX.out HY.out hxy) HT.out
    · have t0:=strT hxy;have HF:=Hi (all_next HX.out HY.out hxy HALL.out);clear hxy;go_wp2;go_quiet (fail)
      go_wp2;go_roundw;case rel=>exact⟨k+1,by omega,by go_num,HF,Hi (HE.out.drewN _)⟩
      case measure=>simp[intOf];omega
  · obtain rfl:k=n:=by omega
    have HF:=Hi (yes_eq HV.out (all_eq HN.out HM.out HALL.out));go_wp2;go_ret;exact⟨ret_bool HF.out.symm,HE.out⟩
theorem item_ext{a b:It.Item}(h0:a.id=b.id)(h1:a.ver=b.ver)(h2:a.kind=b.kind)(h3:a.stem=b.stem)(h4:a.opts=b.opts)(h5:a.chs=b.chs)(h6:a.value=b.value)(h7:a.tol=b.tol)(h8:a.texts=b.texts)(h9:a.pts=b.pts)(h10:a.cont=b.cont)(h11:a.fam=b.fam)(h12:a.set_=b.set_)(h13:a.wrd=b.wrd)(h14:a.sec=b.sec)(h15:a.assets=b.assets)(h16:a.rub=b.rub):a=b:=by cases a;cases b;simp only at *;subst h0 h1 h2 h3 h4 h5 h6 h7 h8 h9 h10 h11 h12 h13 h14 h15 h16;rfl
theorem rsameItem_any(x y:ItL){v:Bool}(hv:v=true↔x.1=y.1)(w:World)(hx:It.In w x.1 x.2)(hy:It.In w y.1 y.2)(ht:v=true:=by rfl) :
    Calls Tryz.prog 14 #[It.agg x.1 x.2,It.agg y.1 y.2] w fun e w'=>e=.returned (.bool v)∧Ext w w':=by
 obtain⟨CA,hca,hna,-,hka⟩:=itp x;obtain⟨CB,hcb,hnb,-,hkb⟩:=itp y;rw[hca,hcb];have HV:=Hi hv;have HT:Hid (x.1=y.1):=Hi (hv.1 ht);clear ht;have HX:=Hi hx;have HY:=Hi hy;have X_0:Hid (Ext w ((w.alloc (.cells CA 39)).alloc (.cells CB 39))):=Hi (((Ext.refl _).alloc _).alloc _);have HA_0:Hid (((w.alloc (.cells CA 39)).alloc (.cells CB 39)).heap[w.heap.size]?=some (.cells CA 39 (0,0))):=Hi (two_fst' _ _ _);have HB_0:Hid (((w.alloc (.cells CA 39)).alloc (.cells CB 39)).heap[w.heap.size+1]?=some (.cells CB 39 (0,0))):=Hi (heap_new_at _ _ _ (by simp));have JA0:Hid (CA[0]?=some (.int .i64 x.1.id)):=Hi (by rw[← hka];rfl);have JB0:Hid (CB[0]?=some (.int .i64 y.1.id)):=Hi (by rw[← hkb];rfl);have JA1:Hid (CA[1]?=some (.int .i64 x.1.ver)):=Hi (by rw[← hka];rfl);have JB1:Hid (CB[1]?=some (.int .i64 y.1.ver)):=Hi (by rw[← hkb];rfl);have JA2:Hid (CA[2]?=some (.int .i64 x.1.kind)):=Hi (by rw[← hka];rfl);have JB2:Hid (CB[2]?=some (.int .i64 y.1.kind)):=Hi (by rw[← hkb];rfl);have JA3:Hid (CA[3]?=some (.string x.1.stem)):=Hi (by rw[← hka];rfl);have JB3:Hid (CB[3]?=some (.string y.1.stem)):=Hi (by rw[← hkb];rfl);obtain⟨n4,hn4⟩:∃ n,x.1.opts.length=n:=⟨_,rfl⟩;obtain⟨m4,hm4⟩:∃ n,y.1.opts.length=n:=⟨_,rfl⟩;have JA4:Hid (CA[4]?=some (.slice x.2.oA n4 x.2.oc)):=Hi (by rw[← hka,← hn4];rfl);have JB4:Hid (CB[4]?=some (.slice y.2.oA m4 y.2.oc)):=Hi (by rw[← hkb,← hm4];rfl);have hl4:n4≤9223372036854775807:=by have:=hx.oc;unfold maxLen at this;omega
 have HNA4:=Hi hn4;have HNB4:=Hi hm4;clear hn4 hm4;obtain⟨n5,hn5⟩:∃ n,x.1.chs.length=n:=⟨_,rfl⟩;obtain⟨m5,hm5⟩:∃ n,y.1.chs.length=n:=⟨_,rfl⟩;have JA5:Hid (CA[5]?=some (.slice x.2.cA n5 x.2.cc)):=Hi (by rw[← hka,← hn5];rfl);have JB5:Hid (CB[5]?=some (.slice y.2.cA m5 y.2.cc)):=Hi (by rw[← hkb,← hm5];rfl);have hl5:n5≤9223372036854775807:=by have:=hx.cc;unfold maxLen at this;omega
 have HNA5:=Hi hn5;have HNB5:=Hi hm5;clear hn5 hm5;have JA6:Hid (CA[6]?=some (.int .i64 x.1.value)):=Hi (by rw[← hka];rfl);have JB6:Hid (CB[6]?=some (.int .i64 y.1.value)):=Hi (by rw[← hkb];rfl);have JA7:Hid (CA[7]?=some (.int .i64 x.1.tol)):=Hi (by rw[← hka];rfl);have JB7:Hid (CB[7]?=some (.int .i64 y.1.tol)):=Hi (by rw[← hkb];rfl);obtain⟨n8,hn8⟩:∃ n,x.1.texts.length=n:=⟨_,rfl⟩;obtain⟨m8,hm8⟩:∃ n,y.1.texts.length=n:=⟨_,rfl⟩;have JA8:Hid (CA[8]?=some (.slice x.2.tA n8 x.2.tc)):=Hi (by rw[← hka,← hn8];rfl);have JB8:Hid (CB[8]?=some (.slice y.2.tA m8 y.2.tc)):=Hi (by rw[← hkb,← hm8];rfl);have hl8:n8≤9223372036854775807:=by have:=hx.tc;unfold maxLen at this;omega
 have HNA8:=Hi hn8;have HNB8:=Hi hm8;clear hn8 hm8;have JA9:Hid (CA[9]?=some (.int .i64 x.1.pts)):=Hi (by rw[← hka];rfl);have JB9:Hid (CB[9]?=some (.int .i64 y.1.pts)):=Hi (by rw[← hkb];rfl);have JA10:Hid (CA[10]?=some (.string x.1.cont)):=Hi (by rw[← hka];rfl);have JB10:Hid (CB[10]?=some (.string y.1.cont)):=Hi (by rw[← hkb];rfl);have JA11:Hid (CA[11]?=some (.int .i64 x.1.fam)):=Hi (by rw[← hka];rfl);have JB11:Hid (CB[11]?=some (.int .i64 y.1.fam)):=Hi (by rw[← hkb];rfl);have JA12:Hid (CA[12]?=some (.int .i64 x.1.set_)):=Hi (by rw[← hka];rfl);have JB12:Hid (CB[12]?=some (.int .i64 y.1.set_)):=Hi (by rw[← hkb];rfl);have JA13:Hid (CA[13]?=some (.int .i64 x.1.wrd)):=Hi (by rw[← hka];rfl);have JB13:Hid (CB[13]?=some (.int .i64 y.1.wrd)):=Hi (by rw[← hkb];rfl);have JA14:Hid (CA[14]?=some (.int .i64 x.1.sec)):=Hi (by rw[← hka];rfl);have JB14:Hid (CB[14]?=some (.int .i64 y.1.sec)):=Hi (by rw[← hkb];rfl);obtain⟨n15,hn15⟩:∃ n,x.1.assets.length=n:=⟨_,rfl⟩;obtain⟨m15,hm15⟩:∃ n,y.1.assets.length=n:=⟨_,rfl⟩;have JA15:Hid (CA[15]?=some (.slice x.2.sA n15 x.2.sc)):=Hi (by rw[← hka,← hn15];rfl);have JB15:Hid (CB[15]?=some (.slice y.2.sA m15 y.2.sc)):=Hi (by rw[← hkb,← hm15];rfl);have hl15:n15≤9223372036854775807:=by have:=hx.sc;unfold maxLen at this;omega
 have HNA15:=Hi hn15;have HNB15:=Hi hm15;clear hn15 hm15;have JA16:Hid (CA[16]?=some (.int .i64 x.1.rub)):=Hi (by rw[← hka];rfl);have JB16:Hid (CB[16]?=some (.int .i64 y.1.rub)):=Hi (by rw[← hkb];rfl);clear hv hx hy hca hcb hna hnb hka hkb;go_enter Tryz.func14,Tryz.ntmps14
 have ca0:((w.alloc (.cells CA 39)).alloc (.cells CB 39)).cell? ⟨w.heap.size,0,none⟩=some (.int .i64 x.1.id):=(cell_of_row _ _ 0 _ _ _ HA_0.out).trans JA0.out;have cb0:((w.alloc (.cells CA 39)).alloc (.cells CB 39)).cell? ⟨w.heap.size+1,0,none⟩=some (.int .i64 y.1.id):=(cell_of_row _ _ 0 _ _ _ HB_0.out).trans JB0.out;have ca1:((w.alloc (.cells CA 39)).alloc (.cells CB 39)).cell? ⟨w.heap.size,1,none⟩=some (.int .i64 x.1.ver):=(cell_of_row _ _ 1 _ _ _ HA_0.out).trans JA1.out;have cb1:((w.alloc (.cells CA 39)).alloc (.cells CB 39)).cell? ⟨w.heap.size+1,1,none⟩=some (.int .i64 y.1.ver):=(cell_of_row _ _ 1 _ _ _ HB_0.out).trans JB1.out;have ca2:((w.alloc (.cells CA 39)).alloc (.cells CB 39)).cell? ⟨w.heap.size,2,none⟩=some (.int .i64 x.1.kind):=(cell_of_row _ _ 2 _ _ _ HA_0.out).trans JA2.out;have cb2:((w.alloc (.cells CA 39)).alloc (.cells CB 39)).cell? ⟨w.heap.size+1,2,none⟩=some (.int .i64 y.1.kind):=(cell_of_row _ _ 2 _ _ _ HB_0.out).trans JB2.out;have ca3:((w.alloc (.cells CA 39)).alloc (.cells CB 39)).cell? ⟨w.heap.size,3,none⟩=some (.string x.1.stem):=(cell_of_row _ _ 3 _ _ _ HA_0.out).trans JA3.out;have cb3:((w.alloc (.cells CA 39)).alloc (.cells CB 39)).cell? ⟨w.heap.size+1,3,none⟩=some (.string y.1.stem):=(cell_of_row _ _ 3 _ _ _ HB_0.out).trans JB3.out;have ca4:((w.alloc (.cells CA 39)).alloc (.cells CB 39)).cell? ⟨w.heap.size,4,none⟩=some (.slice x.2.oA n4 x.2.oc):=(cell_of_row _ _ 4 _ _ _ HA_0.out).trans JA4.out;have cb4:((w.alloc (.cells CA 39)).alloc (.cells CB 39)).cell? ⟨w.heap.size+1,4,none⟩=some (.slice y.2.oA m4 y.2.oc):=(cell_of_row _ _ 4 _ _ _ HB_0.out).trans JB4.out;have hq:x.1.id=y.1.id:=Classical.byContradiction fun hq=>(fun e=>hq (by rw[e])) HT.out;have Q0:=Hi hq;have t0:(x.1.id != y.1.id)=false:=by rw[hq];simp
 clear hq;have hq:x.1.ver=y.1.ver:=Classical.byContradiction fun hq=>(fun e=>hq (by rw[e])) HT.out;have Q1:=Hi hq;have t1:(x.1.ver != y.1.ver)=false:=by rw[hq];simp
 clear hq;have hq:x.1.kind=y.1.kind:=Classical.byContradiction fun hq=>(fun e=>hq (by rw[e])) HT.out;have Q2:=Hi hq;have t2:(x.1.kind != y.1.kind)=false:=by rw[hq];simp
 clear hq;have hq:x.1.stem=y.1.stem:=Classical.byContradiction fun hq=>(fun e=>hq (by rw[e])) HT.out;have Q3:=Hi hq;have t3:=strT hq;clear hq;have hq:x.1.opts=y.1.opts:=Classical.byContradiction fun hq=>(fun e=>hq (by rw[e])) HT.out;have Q4:=Hi hq;have K:=Hi (rtexts_any x.2.oA x.2.oc x.1.opts y.2.oA y.2.oc y.1.opts HNA4.out HNB4.out (tr hq) hl4 ((w.alloc (.cells CA 39)).alloc (.cells CB 39)) (HX.out.ext X_0.out).o (HY.out.ext X_0.out).o);clear hq;go_wp2_with fail
 with_reducible refine K.out.mono ?_
 rintro e w1 ⟨rfl,hb⟩;have X_1:=Hi (X_0.out.trans hb);have HA_1:=Hi (hb.blockAt HA_0.out);have HB_1:=Hi (hb.blockAt HB_0.out);clear hb K X_0 HA_0 HB_0 ca0 cb0 ca1 cb1 ca2 cb2 ca3 cb3 ca4 cb4 t0 t1 t2 t3;have ca5:w1.cell? ⟨w.heap.size,5,none⟩=some (.slice x.2.cA n5 x.2.cc):=(cell_of_row _ _ 5 _ _ _ HA_1.out).trans JA5.out;have cb5:w1.cell? ⟨w.heap.size+1,5,none⟩=some (.slice y.2.cA m5 y.2.cc):=(cell_of_row _ _ 5 _ _ _ HB_1.out).trans JB5.out;have hq:x.1.chs=y.1.chs:=Classical.byContradiction fun hq=>(fun e=>hq (by rw[e])) HT.out;have Q5:=Hi hq;have K:=Hi (rints_any x.2.cA x.2.cc x.1.chs y.2.cA y.2.cc y.1.chs HNA5.out HNB5.out (tr hq) hl5 w1 (HX.out.ext X_1.out).c (HY.out.ext X_1.out).c);clear hq;go_wp2_with fail
 with_reducible refine K.out.mono ?_
 rintro e w2 ⟨rfl,hb⟩;have X_2:=Hi (X_1.out.trans hb);have HA_2:=Hi (hb.blockAt HA_1.out);have HB_2:=Hi (hb.blockAt HB_1.out);clear hb K X_1 HA_1 HB_1 ca5 cb5;have ca6:w2.cell? ⟨w.heap.size,6,none⟩=some (.int .i64 x.1.value):=(cell_of_row _ _ 6 _ _ _ HA_2.out).trans JA6.out;have cb6:w2.cell? ⟨w.heap.size+1,6,none⟩=some (.int .i64 y.1.value):=(cell_of_row _ _ 6 _ _ _ HB_2.out).trans JB6.out;have ca7:w2.cell? ⟨w.heap.size,7,none⟩=some (.int .i64 x.1.tol):=(cell_of_row _ _ 7 _ _ _ HA_2.out).trans JA7.out;have cb7:w2.cell? ⟨w.heap.size+1,7,none⟩=some (.int .i64 y.1.tol):=(cell_of_row _ _ 7 _ _ _ HB_2.out).trans JB7.out;have ca8:w2.cell? ⟨w.heap.size,8,none⟩=some (.slice x.2.tA n8 x.2.tc):=(cell_of_row _ _ 8 _ _ _ HA_2.out).trans JA8.out;have cb8:w2.cell? ⟨w.heap.size+1,8,none⟩=some (.slice y.2.tA m8 y.2.tc):=(cell_of_row _ _ 8 _ _ _ HB_2.out).trans JB8.out;have hq:x.1.value=y.1.value:=Classical.byContradiction fun hq=>(fun e=>hq (by rw[e])) HT.out;have Q6:=Hi hq;have t6:(x.1.value != y.1.value)=false:=by rw[hq];simp
 clear hq;have hq:x.1.tol=y.1.tol:=Classical.byContradiction fun hq=>(fun e=>hq (by rw[e])) HT.out;have Q7:=Hi hq;have t7:(x.1.tol != y.1.tol)=false:=by rw[hq];simp
 clear hq;have hq:x.1.texts=y.1.texts:=Classical.byContradiction fun hq=>(fun e=>hq (by rw[e])) HT.out;have Q8:=Hi hq;have K:=Hi (rtexts_any x.2.tA x.2.tc x.1.texts y.2.tA y.2.tc y.1.texts HNA8.out HNB8.out (tr hq) hl8 w2 (HX.out.ext X_2.out).t (HY.out.ext X_2.out).t);clear hq;go_wp2_with fail
 with_reducible refine K.out.mono ?_
 rintro e w3 ⟨rfl,hb⟩;have X_3:=Hi (X_2.out.trans hb);have HA_3:=Hi (hb.blockAt HA_2.out);have HB_3:=Hi (hb.blockAt HB_2.out);clear hb K X_2 HA_2 HB_2 ca6 cb6 ca7 cb7 ca8 cb8 t6 t7;have ca9:w3.cell? ⟨w.heap.size,9,none⟩=some (.int .i64 x.1.pts):=(cell_of_row _ _ 9 _ _ _ HA_3.out).trans JA9.out;have cb9:w3.cell? ⟨w.heap.size+1,9,none⟩=some (.int .i64 y.1.pts):=(cell_of_row _ _ 9 _ _ _ HB_3.out).trans JB9.out;have ca10:w3.cell? ⟨w.heap.size,10,none⟩=some (.string x.1.cont):=(cell_of_row _ _ 10 _ _ _ HA_3.out).trans JA10.out;have cb10:w3.cell? ⟨w.heap.size+1,10,none⟩=some (.string y.1.cont):=(cell_of_row _ _ 10 _ _ _ HB_3.out).trans JB10.out;have ca11:w3.cell? ⟨w.heap.size,11,none⟩=some (.int .i64 x.1.fam):=(cell_of_row _ _ 11 _ _ _ HA_3.out).trans JA11.out;have cb11:w3.cell? ⟨w.heap.size+1,11,none⟩=some (.int .i64 y.1.fam):=(cell_of_row _ _ 11 _ _ _ HB_3.out).trans JB11.out;have ca12:w3.cell? ⟨w.heap.size,12,none⟩=some (.int .i64 x.1.set_):=(cell_of_row _ _ 12 _ _ _ HA_3.out).trans JA12.out;have cb12:w3.cell? ⟨w.heap.size+1,12,none⟩=some (.int .i64 y.1.set_):=(cell_of_row _ _ 12 _ _ _ HB_3.out).trans JB12.out;have ca13:w3.cell? ⟨w.heap.size,13,none⟩=some (.int .i64 x.1.wrd):=(cell_of_row _ _ 13 _ _ _ HA_3.out).trans JA13.out;have cb13:w3.cell? ⟨w.heap.size+1,13,none⟩=some (.int .i64 y.1.wrd):=(cell_of_row _ _ 13 _ _ _ HB_3.out).trans JB13.out;have ca14:w3.cell? ⟨w.heap.size,14,none⟩=some (.int .i64 x.1.sec):=(cell_of_row _ _ 14 _ _ _ HA_3.out).trans JA14.out;have cb14:w3.cell? ⟨w.heap.size+1,14,none⟩=some (.int .i64 y.1.sec):=(cell_of_row _ _ 14 _ _ _ HB_3.out).trans JB14.out;have ca15:w3.cell? ⟨w.heap.size,15,none⟩=some (.slice x.2.sA n15 x.2.sc):=(cell_of_row _ _ 15 _ _ _ HA_3.out).trans JA15.out;have cb15:w3.cell? ⟨w.heap.size+1,15,none⟩=some (.slice y.2.sA m15 y.2.sc):=(cell_of_row _ _ 15 _ _ _ HB_3.out).trans JB15.out;have hq:x.1.pts=y.1.pts:=Classical.byContradiction fun hq=>(fun e=>hq (by rw[e])) HT.out;have Q9:=Hi hq;have t9:(x.1.pts != y.1.pts)=false:=by rw[hq];simp
 clear hq;have hq:x.1.cont=y.1.cont:=Classical.byContradiction fun hq=>(fun e=>hq (by rw[e])) HT.out;have Q10:=Hi hq;have t10:=strT hq;clear hq;have hq:x.1.fam=y.1.fam:=Classical.byContradiction fun hq=>(fun e=>hq (by rw[e])) HT.out;have Q11:=Hi hq;have t11:(x.1.fam == y.1.fam)=true:=by rw[hq];simp
 clear hq;have hq:x.1.set_=y.1.set_:=Classical.byContradiction fun hq=>(fun e=>hq (by rw[e])) HT.out;have Q12:=Hi hq;have t12:(x.1.set_ == y.1.set_)=true:=by rw[hq];simp
 clear hq;have hq:x.1.wrd=y.1.wrd:=Classical.byContradiction fun hq=>(fun e=>hq (by rw[e])) HT.out;have Q13:=Hi hq;have t13:(x.1.wrd == y.1.wrd)=true:=by rw[hq];simp
 clear hq;have hq:x.1.sec=y.1.sec:=Classical.byContradiction fun hq=>(fun e=>hq (by rw[e])) HT.out;have Q14:=Hi hq;have t14:(x.1.sec == y.1.sec)=true:=by rw[hq];simp
 clear hq;have hq:x.1.assets=y.1.assets:=Classical.byContradiction fun hq=>(fun e=>hq (by rw[e])) HT.out;have Q15:=Hi hq;have K:=Hi (rints_any x.2.sA x.2.sc x.1.assets y.2.sA y.2.sc y.1.assets HNA15.out HNB15.out (tr hq) hl15 w3 (HX.out.ext X_3.out).s (HY.out.ext X_3.out).s);clear hq;go_wp2_with fail
 with_reducible refine K.out.mono ?_
 rintro e w4 ⟨rfl,hb⟩;have X_4:=Hi (X_3.out.trans hb);have HA_4:=Hi (hb.blockAt HA_3.out);have HB_4:=Hi (hb.blockAt HB_3.out);clear hb K X_3 HA_3 HB_3 ca9 cb9 ca10 cb10 ca11 cb11 ca12 cb12 ca13 cb13 ca14 cb14 ca15 cb15 t9 t10 t11 t12 t13 t14;have ca16:w4.cell? ⟨w.heap.size,16,none⟩=some (.int .i64 x.1.rub):=(cell_of_row _ _ 16 _ _ _ HA_4.out).trans JA16.out;have cb16:w4.cell? ⟨w.heap.size+1,16,none⟩=some (.int .i64 y.1.rub):=(cell_of_row _ _ 16 _ _ _ HB_4.out).trans JB16.out;have hq:x.1.rub=y.1.rub:=Classical.byContradiction fun hq=>(fun e=>hq (by rw[e])) HT.out;have Q16:=Hi hq;have t16:(x.1.rub == y.1.rub)=true:=by rw[hq];simp
 clear hq;have HF:=Hi (yes_eq HV.out (item_ext Q0.out Q1.out Q2.out Q3.out Q4.out Q5.out Q6.out Q7.out Q8.out Q9.out Q10.out Q11.out Q12.out Q13.out Q14.out Q15.out Q16.out));go_wp2;go_ret;exact⟨ret_bool HF.out.symm,X_4.out⟩
end Bk
end Go.Proofs.YtfnmgcblhebdbaaGreatDoor
