/- A new entry: one version, a record, no model. Conditions: those of each theorem. -/
import Derived.Test.YtfnmgcblhebdbaaGreatDoorZ23
import Derived.Test.YtfnmgcblhebdbaaGreatDoorZ8
import Derived.Test.YtfnmgcblhebdbaaGreatDoorZ18
import Derived.Test.YtfnmgcblhebdbaaGreatDoorZ24
namespace Go.Proofs.YtfnmgcblhebdbaaGreatDoor
open Go.RowKit
namespace Bk
def EntL.one (p:Nat)(l:ItL)(r:RvL):EntL:=⟨some ⟨p,0,none⟩,1,[l],r.st,r.au,r.ap,r.fa,r.lA,r.lc,r.log,none,0,[]⟩
theorem one_ent(p:Nat)(l:ItL)(r:RvL):(EntL.one p l r).ent=⟨[l.1],r.rc,[]⟩:=rfl
theorem one_own(p:Nat)(l:ItL)(r:RvL):(EntL.one p l r).own=some p:=rfl
theorem one_in{wb w:World}{p:Nat}{l:ItL}{r:RvL}(hr:r.In wb)(hx:Ext wb w)(hp:wb.heap.size≤p)(hb:w.heap[p]?=some (.cells (icl l).toArray 39 (0,0)))(hi:It.In w l.1 l.2)(ho:ItOff p l):EntO w (EntL.one p l r):=by
 have hsl:Sl w 17 (some ⟨p,0,none⟩) [icl l]:=Or.inr ⟨p,0,rfl,blk_lt hb,fun j cs hj q v hq=>by
  cases j with
  | zero =>
   obtain rfl:icl l=cs:=by simpa using hj
   simp only[Nat.zero_mul,Nat.zero_add];exact(cell_of_row _ _ q _ _ _ hb).trans (by simpa using hq)
  | succ j=>simp at hj⟩
 have hrow:RowX eIt 39 w 0 (.slice (some ⟨p,0,none⟩) 1 1) [l]:=by
  refine⟨⟨by simp[eIt.len],Or.inr ⟨p,1,_,rfl,Nat.zero_le _,hb,Nat.le_refl _,by unfold maxLen;omega,by show(icl l).toArray.size=1*17;rfl,by show(icl l).toArray.toList.take (1*17)=_;rfl⟩⟩,fun x hx=>?_,fun g hg x hx=>?_⟩
  · rw[List.mem_singleton]at hx;subst hx;exact hi
  · rw[List.mem_singleton]at hx;subst hx;injection hg with hg;subst hg;exact ho
 have hri:=hr.ext hx;refine⟨⟨⟨hsl,fun x hx=>?_⟩,⟨Nat.le_refl _,by show 1≤maxLen;unfold maxLen;omega⟩,hri.st,hri.au,hri.ap,hri.fa,hri.log,hri.lc,SlX.nil _ _,⟨Nat.le_refl _,Nat.zero_le _⟩⟩,hrow,fun q hq=>?_⟩
 · change x∈[l]at hx
   rw[List.mem_singleton]at hx;subst hx;exact hi
 · rw[show(Value.slice (EntL.one p l r).vA (EntL.one p l r).vs.length (EntL.one p l r).vc).ownBlock=some p from rfl]at hq;injection hq with hq;subst hq;exact⟨eIL.off hr.ap hp,eIL.off hr.fa hp,hr.log.off hp,⟨Or.inl rfl,fun x hx=>by cases hx⟩⟩
theorem one_from{M N p:Nat}{l:ItL}{r:RvL}(hf:r.From M)(hN:M≤N)(hl:ItFrom N l)(hp:N≤p):eEntO.From M (EntL.one p l r) :=
 ⟨⟨⟨Or.inr fun a ha=>by injection ha with ha;subst ha;exact Nat.le_trans hN hp,fun x hx=>by
     change x∈[l]at hx
     rw[List.mem_singleton]at hx;subst hx;exact eIt.mono hl hN⟩,hf.ap,hf.fa,hf.log,⟨Or.inl rfl,fun x hx=>by cases hx⟩⟩,fun q hq=>by
  rw[one_own]at hq;injection hq with hq;omega⟩
def PNI (N:Nat)(it:It.Item)(u:Option Value)(w:World):Prop:=∃ L,u=some (It.agg it L)∧It.In w it L∧ItFrom N (it,L)∧ItTy w (it,L)
theorem PNI.mono{N:Nat}{it:It.Item}{u:Option Value}{w w':World}(he:Ext w w')(h:PNI N it u w):PNI N it u w':=h.elim fun L h=>⟨L,h.1,h.2.1.ext he,h.2.2.1,h.2.2.2.ext he⟩
def PON (N:Nat)(it:It.Item)(u:Option Value)(w:World):Prop:=∃ (L:It.Loc) (p:Nat),u=some (.slice (some ⟨p,0,none⟩) 1 1)∧N≤p∧w.heap[p]?=some (.cells (icl (it,L)).toArray 39 (0,0))∧It.In w it L∧ItFrom N (it,L)∧ItTy w (it,L)
theorem PON.mono{N:Nat}{it:It.Item}{u:Option Value}{w w':World}(he:Ext w w')(h:PON N it u w):PON N it u w':=by obtain⟨L,p,h1,h2,h3,h4,h5,h6⟩:=h;exact⟨L,p,h1,h2,he.blockAt h3,h4.ext he,h5,h6.ext he⟩
theorem PON.made{N:Nat}{it:It.Item}{L:It.Loc}{w:World}(hN:N≤w.heap.size)(h1:It.In w it L)(h2:ItFrom N (it,L))(h3:ItTy w (it,L)):PON N it (some (.slice (some ⟨w.heap.size,0,none⟩) 1 1)) (w.alloc (.cells (It.agg it L).cells 39)) :=
 ⟨L,w.heap.size,rfl,hN,heap_alloc_new _ _,h1.ext ((Ext.refl _).alloc _),h2,h3.ext ((Ext.refl _).alloc _)⟩
def OffT (w:World)(y:EntL):Prop:=∀ (q:Nat) (cur:Array Value) (fr:Nat×Nat),w.heap[q]?=some (.cells cur 56 fr)→eEntO.Off q y
theorem OffT.ext{w w':World}{y:EntL}(h:OffT w y)(hy:EntO w y)(he:Ext w w'):OffT w' y:=fun q cur fr hq=>by
 rcases Nat.lt_or_ge q w.heap.size with h1 | h1
 · obtain⟨o,ho⟩:∃ o,w.heap[q]?=some o:=⟨w.heap[q],Array.getElem?_eq_getElem h1⟩;have h2:=he.blockAt ho;rw[hq]at h2;injection h2 with h2;exact h q cur fr (by rw[ho,← h2])
 · exact eEntO.off hy h1
theorem one_offT{wb w:World}{p:Nat}{l:ItL}{r:RvL}(hr:RvT wb r)(hx:Ext wb w)(hb:w.heap[p]?=some (.cells (icl l).toArray 39 (0,0)))(ht:ItTy w l):OffT w (EntL.one p l r):=fun q cur fr hq=>by
 have hpq:p≠q:=fun e=>by rw[← e,hb]at hq;injection hq with hq;injection hq with _ hq;exact absurd hq (by decide)
 have h:=hr.ext hx;refine⟨⟨⟨Or.inr fun a ha=>by injection ha with ha;subst ha;exact hpq,fun x hx=>?_⟩,h.ap.off hq (by decide),h.fa.off hq (by decide),⟨h.log.off hq (by decide),fun _ _=>trivial⟩,⟨Or.inl rfl,fun x hx=>by cases hx⟩⟩,fun e=>?_⟩
 · change x∈[l]at hx
   rw[List.mem_singleton]at hx;subst hx;exact ht.off hq (by decide) (by decide)
 · rw[one_own]at e;injection e with e;exact hpq e
def PNE (M:Nat)(E:Ent)(u:Option Value)(w:World):Prop:=∃ y:EntL,u=some y.agg∧EntO w y∧eEntO.From M y∧y.ent=E∧OffT w y
theorem PNE.mono{M:Nat}{E:Ent}{u:Option Value}{w w':World}(he:Ext w w')(h:PNE M E u w):PNE M E u w':=h.elim fun y h=>⟨y,h.1,eEntO.ext h.2.1 he,h.2.2.1,h.2.2.2.1,h.2.2.2.2.ext h.2.1 he⟩
def PEB (M:Nat)(E:Ent)(u:Option Value)(w:World):Prop:=∃ V:Nat×EntL,u=some (.pointer (some ⟨V.1,0,none⟩))∧M≤V.1∧w.heap[V.1]?=some (.cells V.2.cells.toArray 56 (0,0))∧EntO w V.2∧eEntO.From M V.2∧V.2.ent=E
theorem PEB.mono{M:Nat}{E:Ent}{u:Option Value}{w w':World}(he:Ext w w')(h:PEB M E u w):PEB M E u w':=h.elim fun V h=>⟨V,h.1,h.2.1,he.blockAt h.2.2.1,eEntO.ext h.2.2.2.1 he,h.2.2.2.2⟩
theorem wp_gen{P:Program}{c:Code}{Q:Exit→Act→World→Prop}{a:Act}{w:World}(h:∀ w',w'=w→c.wp P Q a w'):c.wp P Q a w:=h w rfl
theorem entInfo(y:EntL):(Tryz.prog.info? 56).map (·.size)=some y.cells.toArray.size:=by show _=some 7;kernel_rfl
theorem entOne(y:EntL):y.cells.toArray.all (·.oneCell')=true:=by simp[EntL.cells,IL.val,Value.oneCell']
def nmb (e:Ent):Int:=(num e).getD 0
def entK (es:List Ent)(id:Int):Nat:=(es.takeWhile fun e=>decide (nmb e<id)).length
theorem entK_le(es:List Ent)(id:Int):entK es id≤es.length:=(List.takeWhile_sublist _).length_le
def entI (es:List Ent)(id:Int)(e:Ent):List Ent:=es.take (entK es id) ++ e :: es.drop (entK es id)
def VerOk (b:BankL):Prop:=∀ x∈b.ents,0<x.vs.length
theorem itS{w:World}{it:It.Item}{L:It.Loc}(h:It.In w it L):SlX eI w L.sA it.assets:=SlX.ofI h.s h.ok.assets
theorem numb_any(e:EntL)(w:World)(h:e.In w)(hp:0<e.vs.length){v:Int}(hv:nmb e.ent=v) :
    Calls Tryz.prog 71 #[e.agg] w fun r w'=>r=.returned (.int .i64 v)∧Ext w w':=by
 obtain⟨x,hx⟩:∃ x,e.vs[e.vs.length-1]?=some x:=⟨e.vs[e.vs.length-1]'(by omega),List.getElem?_eq_getElem _⟩;have h1:=num_last (e:=e) rfl hx;refine number_any e w h hp ?_;rw[h1];unfold nmb at hv;rw[h1]at hv;exact congrArg some hv
def crtE (b:Bank)(c:Cmd)(rf:Int):Int×List Ent :=
 if hasR c.roles 1=false then(9,b.ents)else if It.vld c.item≠0 then(It.vld c.item,b.ents)else if c.item.ver≠1 then(18,b.ents)
 else if(fnd b.ents c.item.id).isSome=true then(7,b.ents)else if 200≤b.ents.length then(5,b.ents)
 else if rf≠0 then(rf,b.ents)else if Rev.newE c.user≠0 then(Rev.newE c.user,b.ents)
 else(0,entI b.ents c.item.id ⟨[c.item],Rev.newR c.user,[]⟩)
end Bk
namespace Bk
def eEntN:Elt EntL:=eFlat 56 7 EntL.cells (fun _=>True) (by omega) (fun _=>rfl) (fun x v hv=>eEnt.one x v hv)
def EntL.withV (e:EntL)(A:Option Addr)(c:Nat)(vs:List ItL):EntL:={ e with vA:=A,vc:=c,vs:=vs }
structure MidV (N g:Nat)(CB:Array Value)(b:BankL)(q k:Nat)(y:EntL)(w:World):Prop where
 row:w.heap[g]?=some (.cells CB 31 (0,0))
 now:In64 b.now
 p:Got eI w N b.gp.A b.gp.xs b.gp.c
 qq:Got eI w N b.gq.A b.gq.xs b.gq.c
 o:RowX eTpc 41 w N (.slice b.oA b.outl.length b.oc) b.outl
 s:RowX eAst 43 w N (.slice b.aA b.assets.length b.ac) b.assets
 n:Got ePar w N b.nA b.enem b.nc
 own:w.ownsRow N 56 7 (.slice (some ⟨q,0,none⟩) b.ents.length b.ec) b.ents.length (b.ents.map EntL.cells).flatten
 ins:∀ (j:Nat) (x:EntL),j≠k→b.ents[j]?=some x→EntO w x
 inx:EntO w y
 eq:b.eA=some ⟨q,0,none⟩
 offs:∀ x∈b.ents.set k y,eEntO.Off q x
 frm:∀ x∈b.ents.set k y,eEntO.From N x
 pw:Pw (b.ents.set k y)
 eo:OffR (.slice b.oA b.outl.length b.oc) (b.ents.set k y)
 es:OffR (.slice b.aA b.assets.length b.ac) (b.ents.set k y)
 off:∀ x∈b.ents.set k y,eEntO.Off g x
theorem MidV.ext{N g:Nat}{CB:Array Value}{b:BankL}{q k:Nat}{y:EntL}{w w':World}(h:MidV N g CB b q k y w)(he:Ext w w'):MidV N g CB b q k y w' :=
 ⟨he.blockAt h.row,h.now,h.p.ext he,h.qq.ext he,h.o.ext he,h.s.ext he,h.n.ext he,own_ext h.own he,fun j x hj hx=>eEntO.ext (h.ins j x hj hx) he,eEntO.ext h.inx he,h.eq,h.offs,h.frm,h.pw,h.eo,h.es,h.off⟩
theorem MidV.sto{N g:Nat}{CB:Array Value}{b:BankL}{q k:Nat}{x:EntL}{A:Option Addr}{c:Nat}{vs:List ItL}{w:World}(h:MidV N g CB b q k (x.withV A c vs) w)(hk:b.ents[k]?=some x) :
    Nm N g CB (b.setE b.eA b.ec (b.ents.set k (x.withV A c vs))) (w.setCells q (k*7) [.slice A vs.length c]):=by
 have hb:But q w (w.setCells q (k*7) [.slice A vs.length c]):=But.setCells q _ _ w;obtain⟨cur,hqb⟩:=own_block h.own q rfl;have hrow:RowX eEntN 56 w N (.slice (some ⟨q,0,none⟩) b.ents.length b.ec) b.ents:=⟨h.own,fun _ _=>trivial,fun _ _ _ _=>trivial⟩;have h3:=hrow.put (E:=eEntN) (o:=0) (e':=x.withV A c vs) (vs:=[.slice A vs.length c]) hk trivial trivial (by show 0+1≤7;omega) (fun r v h1 h2 hv=>by
  have h2:r<1:=by simpa using h2
  obtain rfl:r=0:=by omega
  exact hv) (fun r v h1 hv=>by
  have h1:r<0∨0+1≤r:=h1;obtain⟨r,rfl⟩:∃ m,r=m+1:=⟨r-1,by omega⟩;exact hv)
 have hlen:(b.ents.set k (x.withV A c vs)).length=b.ents.length:=List.length_set;refine⟨KeepB.but hqb hb _ _ _ _ (by decide) h.row,⟨h.now,h.p.keepT hqb (by decide) (fun _ _=>trivial) hb,h.qq.keepT hqb (by decide) (fun _ _=>trivial) hb,h.o.keepT hqb (by decide) (fun _ _=>trivial) hb,h.s.keepT hqb (by decide) (fun _ _=>trivial) hb,?_,h.frm,h.pw,h.eo,h.es,h.n.keepT hqb (by decide) (fun _ _=>trivial) hb⟩,h.off⟩;show RowX eEntO _ _ N (.slice b.eA (b.ents.set k (x.withV A c vs)).length b.ec) (b.ents.set k (x.withV A c vs));rw[h.eq,hlen];refine⟨h3.own,fun z hz=>?_,fun z hz y hy=>?_⟩
 · obtain⟨j,hj⟩:=List.getElem?_of_mem hz;have ho:=h.offs z hz;by_cases hjk:j=k
   · subst hjk;rw[List.getElem?_set_self (List.getElem?_eq_some_iff.1 hk).1]at hj;injection hj with hj;subst hj;exact eEntO.but h.inx ho hb
   · rw[List.getElem?_set_ne (fun e=>hjk e.symm)]at hj;exact eEntO.but (h.ins j z hjk hj) ho hb
 · injection hz with hz;subst hz;exact h.offs y hy
theorem off_withV{M H z:Nat}{x:EntL}{A:Option Addr}{n c:Nat}{y:ItL}(hz:z<M)(hM:M≤H)(hx:eEntO.Off z x)(hy:ItFrom M y)(hat:(Value.slice A n c).ownBlock=x.own∨(Value.slice A n c).ownBlock=some H):eEntO.Off z (x.withV A c (x.vs ++ [y])):=by
 have hA:∀ a,A=some a→a.block≠z:=fun a ha e=>by
  subst ha;rcases hat with h | h
  · have h2:x.own=some a.block:=h.symm;exact hx.2 (by rw[h2,e])
  · injection h with h;omega
 refine⟨⟨⟨Or.inr hA,fun t ht=>?_⟩,hx.1.ap,hx.1.fa,hx.1.log,hx.1.rows⟩,fun e=>?_⟩
 · rcases List.mem_append.1 ht with ht | ht
   · exact hx.1.vs.ins t ht
   · rw[List.mem_singleton]at ht;subst ht;exact eIt.frm hy hz
 · cases A with
   | none=>cases e
   | some a=>injection e with e;exact hA a rfl e
theorem Nm.appV{N g k q:Nat}{CB:Array Value}{b:BankL}{wM w w':World}{x:EntL}{y:ItL}{A:Option Addr}{c:Nat}(hM:Nm N g CB b wM)(hxt:Ext wM w)(hN:N≤wM.heap.size)(hq:b.eA=some ⟨q,0,none⟩)(hk:b.ents[k]?=some x)
    (hyf:ItFrom wM.heap.size y) (hrow:RowX eIt 39 w' 0 (.slice A (x.vs.length+1) c) (x.vs ++ [y])) (hgr:w.grownBy w' x.own) (hat:(Value.slice A (x.vs.length+1) c).ownBlock=x.own∨(Value.slice A (x.vs.length+1) c).ownBlock=some w.heap.size) :
    MidV N g CB b q k (x.withV A c (x.vs ++ [y])) w':=by
 have h:=hM.ext hxt;have hmem:=List.mem_of_getElem? hk;have hsz:=hxt.size;have hof:∀ z,z<wM.heap.size→eEntO.Off z x→eEntO.Off z (x.withV A c (x.vs ++ [y])):=fun z hz h1=>off_withV hz hsz h1 hyf hat;have hqe:(Value.slice b.eA b.ents.length b.ec).ownBlock=some q:=by rw[hq];rfl
 have hmm:∀ {p:EntL→Prop},(∀ x∈b.ents,p x)→p (x.withV A c (x.vs ++ [y]))→∀ z∈b.ents.set k (x.withV A c (x.vs ++ [y])),p z:=fun ha hb z hz=>(List.mem_or_eq_of_mem_set hz).elim (ha z) (fun e=>e ▸ hb);have hax:∀ a,A=some a→x.own=some a.block∨a.block=w.heap.size:=fun a ha=>by
  subst ha;rcases hat with e | e
  · exact Or.inl e.symm
  · injection e with e;exact Or.inr e
 have hEx:=h.own.e.ins x hmem;obtain⟨hs1,-,hs3,hs4⟩:=hrow.slx;have hle:(x.vs ++ [y]).length=x.vs.length+1:=by simp
 -- the parts of x
 have hparts:x.ap.In w'∧x.fa.In w'∧SlX eAct w' x.lA x.log∧SlX eIL w' x.rA x.rows:=by
  cases hv:x.own with
  | none=>rw[hv]at hgr;have he:=grown_none hgr;exact⟨hEx.inn.ap.ext he,hEx.inn.fa.ext he,hEx.inn.log.ext he,hEx.inn.rows.ext he⟩
  | some p=>rw[hv]at hgr;have hb:=But.grown hgr;obtain⟨g1,g2,g3,g4⟩:=hEx.ov p hv;exact⟨eIL.but hEx.inn.ap g1 hb,eIL.but hEx.inn.fa g2 hb,hEx.inn.log.but g3 hb,hEx.inn.rows.but g4 hb⟩
 have hinx:EntO w' (x.withV A c (x.vs ++ [y])):=by
  refine⟨⟨hs1,⟨hs3,hs4⟩,hEx.inn.st,hEx.inn.au,hparts.1,hparts.2.1,hparts.2.2.1,hEx.inn.lc,hparts.2.2.2,hEx.inn.rc⟩,?_,fun z hz=>?_⟩
  · show RowX eIt _ _ 0 (.slice A (x.vs ++ [y]).length c) (x.vs ++ [y]);rw[hle];exact hrow
  · have hz2:(Value.slice A (x.vs.length+1) c).ownBlock=some z:=by
      cases A with
      | none=>cases hz
      | some a=>exact hz
    rcases hat with e | e
    · exact hEx.ov z (e.symm.trans hz2)
    · rw[hz2]at e;injection e with e;have hle2:w.heap.size≤z:=(by omega);exact⟨eIL.off hEx.inn.ap hle2,eIL.off hEx.inn.fa hle2,hEx.inn.log.off hle2,hEx.inn.rows.off hle2⟩
 have hfx:=h.own.ef x hmem;have hfrm:eEntO.From N (x.withV A c (x.vs ++ [y])):=by
  have hA:∀ a,A=some a→N≤a.block:=fun a ha=>by
   rcases hax a ha with e | e
   · exact hfx.2 _ e
   · omega
  refine⟨⟨⟨Or.inr hA,fun t ht=>?_⟩,hfx.1.ap,hfx.1.fa,hfx.1.log,hfx.1.rows⟩,fun z hz=>?_⟩
  · rcases List.mem_append.1 ht with ht | ht
    · exact hfx.1.vs.ins t ht
    · rw[List.mem_singleton]at ht;subst ht;exact eIt.mono hyf hN
  · cases A with
    | none=>cases hz
    | some a=>injection hz with hz;rw[← hz];exact hA a rfl
 have hap:∀ (j:Nat) (z:EntL),j≠k→b.ents[j]?=some z→Apart z (x.withV A c (x.vs ++ [y])):=fun j z hj hz=>by
  have h1:=h.own.pw.at_ hj hz hk;have hzin:=hM.own.e.ins z (List.mem_of_getElem? hz);refine⟨fun p hp=>hof p (own_lt hzin.row.own p hp) (h1.1 p hp),fun p hp=>?_⟩;have hp2:(Value.slice A (x.vs.length+1) c).ownBlock=some p:=by
   cases A with
   | none=>cases hp
   | some a=>exact hp
  rcases hat with e | e
  · exact h1.2 p (e.symm.trans hp2)
  · rw[hp2]at e;injection e with e;exact eEntO.off (h.own.e.ins z (List.mem_of_getElem? hz)) (by omega)
 have hst:=h.own.pw.set hap;have hoq:=hmm (p:=fun z=>eEntO.Off q z) (fun z hz=>h.own.e.off q hqe z hz) (hof q (own_lt hM.own.e.own q hqe) (h.own.e.off q hqe x hmem));have hof2:=hmm (p:=fun z=>eEntO.Off g z) h.off (hof g (blk_lt hM.row) (h.off x hmem));have heo2:OffR (.slice b.oA b.outl.length b.oc) (b.ents.set k (x.withV A c (x.vs ++ [y]))):=hmm (p:=fun z=>∀ q,(Value.slice b.oA b.outl.length b.oc).ownBlock=some q→eEntO.Off q z) h.own.eo (fun z hz=>hof z (own_lt hM.own.o.own z hz) (h.own.eo x hmem z hz));have hes2:OffR (.slice b.aA b.assets.length b.ac) (b.ents.set k (x.withV A c (x.vs ++ [y]))):=hmm (p:=fun z=>∀ q,(Value.slice b.aA b.assets.length b.ac).ownBlock=some q→eEntO.Off q z) h.own.es (fun z hz=>hof z (own_lt hM.own.s.own z hz) (h.own.es x hmem z hz));have hown:=h.own.e.own;rw[hq]at hown;cases hv:x.own with
 | none=>rw[hv]at hgr;have he:=grown_none hgr;exact⟨he.blockAt h.row,h.own.now,h.own.p.ext he,h.own.q.ext he,h.own.o.ext he,h.own.s.ext he,h.own.n.ext he,own_ext hown he,fun j z _ hz=>eEntO.ext (h.own.e.ins z (List.mem_of_getElem? hz)) he,hinx,hq,hoq,hmm h.own.ef hfrm,hst,heo2,hes2,hof2⟩
 | some p =>
  rw[hv]at hgr;have hb:=But.grown hgr;obtain⟨cur,hpb⟩:=own_block hEx.row.own p hv;exact⟨KeepB.but hpb hb _ _ _ _ (by decide) h.row,h.own.now,h.own.p.keepT hpb (by decide) (fun _ _=>trivial) hb,h.own.q.keepT hpb (by decide) (fun _ _=>trivial) hb,h.own.o.keepT hpb (by decide) (fun _ _=>trivial) hb,h.own.s.keepT hpb (by decide) (fun _ _=>trivial) hb,h.own.n.keepT hpb (by decide) (fun _ _=>trivial) hb,
   own_grown hown hgr (fun z hz e=>own_other hown hpb (by decide) (by rw[hz];exact e.symm)),fun j z hj hz=>eEntO.but (h.own.e.ins z (List.mem_of_getElem? hz)) ((h.own.pw.at_ hj hz hk).2 p hv) hb,hinx,hq,hoq,hmm h.own.ef hfrm,hst,heo2,hes2,hof2⟩
end Bk
end Go.Proofs.YtfnmgcblhebdbaaGreatDoor
