/- What bank.Apply answers, in plain words; how a bank grows. No conditions. -/
import Derived.Test.YtfnmgcblhebdbaaGreatDoorZ36
import Derived.Test.YtfnmgcblhebdbaaGreatDoorZ41
import Derived.Test.YtfnmgcblhebdbaaGreatDoorZ42
import Derived.Test.YtfnmgcblhebdbaaGreatDoorZ5
import Derived.Test.YtfnmgcblhebdbaaGreatDoorZ29
import Derived.Test.YtfnmgcblhebdbaaGreatDoorZ12
import Derived.Test.YtfnmgcblhebdbaaGreatDoorZ14
namespace Go.Proofs.YtfnmgcblhebdbaaGreatDoor
namespace Bk
def zB:Bank:=⟨0,[],[],[],[],[],[]⟩
def subE (b:Bank)(c:Cmd):Int×Bank :=
 if c.kind=1 then((adT b c.roles c.topic).1,{ b with outl:=(adT b c.roles c.topic).2 })
 else if c.kind=2 then((adA b c.roles c.asset).1,{ b with assets:=(adA b c.roles c.asset).2 })
 else if c.kind=3 then((crtE b c (refE b c.item.cont c.item.assets c.time)).1,{ b with ents:=(crtE b c (refE b c.item.cont c.item.assets c.time)).2 })
 else if c.kind=4 then((rvsE b c (refE b c.item.cont c.item.assets c.time)).1,{ b with ents:=(rvsE b c (refE b c.item.cont c.item.assets c.time)).2 })
 else if c.kind=5 then((actE b c).1,{ b with ents:=(actE b c).2 })
 else if c.kind=6∨c.kind=7 then((relE b c).1,{ b with enem:=(relE b c).2 })
 else((setE b c).1,{ b with ents:=(setE b c).2 })
def aplE (b:Bank)(c:Cmd):Int×Bank :=
 if c.kind<1∨8<c.kind then(1,zB)else if c.user<1∨9999999<c.user∨c.time<0∨1099511627776<c.time then(3,zB)
 else if c.time<b.now then(15,zB)else if(subE b c).1≠0 then((subE b c).1,zB)else(0,{ (subE b c).2 with now:=c.time })
structure EntI (n:Nat)(e:Ent):Prop where
 v0:0<e.vers.length
 vn:e.vers.length≤n
 its:∀ x∈e.vers,ItSz x
 ap:e.rev.ap.length≤n
 fa:e.rev.fa.length≤n
 log:e.rev.log.length≤n
 rows:e.rows.length*24≤140737488355328
 row:∀ r∈e.rows,r.length*8≤140737488355328
structure Inv (n:Nat)(b:Bank):Prop where
 pts:b.pts.length*8≤140737488355328
 prior:b.prior.length*8≤140737488355328
 outl:b.outl.length≤n
 assets:b.assets.length≤n
 ents:b.ents.length≤n
 ent:∀ e∈b.ents,EntI n e
 enem:b.enem.length≤n
theorem EntI.up{n:Nat}{e:Ent}(h:EntI n e):EntI (n+1) e:=⟨h.v0,Nat.le_succ_of_le h.vn,h.its,Nat.le_succ_of_le h.ap,Nat.le_succ_of_le h.fa,Nat.le_succ_of_le h.log,h.rows,h.row⟩
theorem Inv.sz{n:Nat}{b:Bank}(h:Inv n b)(hn:n≤1000):BankSz b:=by
 have h1:=h.outl;have h2:=h.assets;have h3:=h.ents;have h4:=h.enem;exact⟨h.pts,h.prior,by omega,by omega,by omega,fun e he=>by have g:=h.ent e he;have g1:=g.vn;have g2:=g.ap;have g3:=g.fa;have g4:=g.log;exact⟨by omega,g.its,by omega,by omega,by omega,g.rows,g.row⟩,by omega⟩
theorem Inv.set{n:Nat}{es:List Ent}{k:Nat}{e:Ent}(h:∀ x∈es,EntI n x)(he:EntI (n+1) e):∀ x∈es.set k e,EntI (n+1) x:=fun x hx=>(List.mem_or_eq_of_mem_set hx).elim (fun hx=>(h x hx).up) (fun e1=>e1 ▸ he)
theorem fnd_ent{n:Nat}{b:Bank}(h:∀ x∈b.ents,EntI n x){k:Nat}{e:Ent}(he:b.ents[k]?=some e):EntI n e:=h e (List.mem_of_getElem? he)
theorem applyR_len(r:Rev.Rec)(a:Rev.Act):(Rev.applyR r a).ap.length≤r.ap.length+1∧(Rev.applyR r a).fa.length≤r.fa.length+1∧(Rev.applyR r a).log.length≤r.log.length+1:=by
 unfold Rev.applyR;split
 · refine⟨(Rev.next_len r a).1,(Rev.next_len r a).2,?_⟩;rw[Rev.next_log];simp
 · refine⟨?_,?_,?_⟩ <;> simp[Rev.zero]
theorem EntI.rev{n:Nat}{e:Ent}(h:EntI n e)(a:Rev.Act):EntI (n+1) { e with rev:=Rev.applyR e.rev a }:=by obtain⟨h1,h2,h3⟩:=applyR_len e.rev a;have g2:=h.ap;have g3:=h.fa;have g4:=h.log;exact⟨h.v0,Nat.le_succ_of_le h.vn,h.its,by show(Rev.applyR e.rev a).ap.length≤n+1;omega,by show(Rev.applyR e.rev a).fa.length≤n+1;omega,by show(Rev.applyR e.rev a).log.length≤n+1;omega,h.rows,h.row⟩
theorem EntI.ver{n:Nat}{e:Ent}(hn:e.vers.length≤n)(hi:∀ x∈e.vers,ItSz x)(ha:e.rev.ap.length≤n+1)(hf:e.rev.fa.length≤n+1)(hl:e.rev.log.length≤n+1)(hr:e.rows.length*24≤140737488355328)(hw:∀ r∈e.rows,r.length*8≤140737488355328)(mj:Bool){it:It.Item}(hit:ItSz it):EntI (n+1) (rvsF mj it e):=by
 refine⟨by show 0<(e.vers ++ [it]).length;simp,by show(e.vers ++ [it]).length≤n+1;rw[List.length_append];simpa using hn,fun x hx=>?_,ha,hf,hl,?_,fun r hr2=>?_⟩
 · rcases List.mem_append.1 hx with hx | hx
   · exact hi x hx
   · rw[List.mem_singleton]at hx;rw[hx];exact hit
 · show(if mj then[]else e.rows).length*24≤_;cases mj
   · exact hr
   · exact Nat.zero_le _
 · cases mj
   · exact hw r hr2
   · cases hr2
theorem EntI.vers{n:Nat}{e:Ent}(h:EntI n e)(mj:Bool){it:It.Item}(hit:ItSz it):EntI (n+1) (rvsF mj it e):=EntI.ver h.vn h.its (Nat.le_succ_of_le h.ap) (Nat.le_succ_of_le h.fa) (Nat.le_succ_of_le h.log) h.rows h.row mj hit
theorem rvsG_inv{n:Nat}{es:List Ent}{c:Cmd}{k:Nat}{e:Ent}{l:It.Item}(h:∀ x∈es,EntI n x)(he:EntI n e)(hz:ItSz c.item):∀ x∈(rvsG es c k e l).2,EntI (n+1) x:=by
 have hup:∀ x∈es,EntI (n+1) x:=fun x hx=>(h x hx).up;have hr:=he.rev ⟨9,c.user,c.roles,c.time⟩;unfold rvsG;split
 · split
   · exact Inv.set h (he.vers _ hz)
   · exact hup
 · split
   · split
     · exact hup
     · exact Inv.set h (EntI.ver (e:={ e with rev:=Rev.applyR e.rev ⟨9,c.user,c.roles,c.time⟩ }) he.vn he.its hr.ap hr.fa hr.log hr.rows hr.row true hz)
   · split
     · exact hup
     · exact Inv.set h (he.vers _ hz)
theorem rvsG_len(es:List Ent)(c:Cmd)(k:Nat)(e:Ent)(l:It.Item):(rvsG es c k e l).2.length=es.length:=by
 unfold rvsG
 repeat' split
 all_goals simp
theorem newR_nil(u:Int):(Rev.newR u).ap=[]∧(Rev.newR u).fa=[]∧(Rev.newR u).log=[]:=by unfold Rev.newR;split <;> exact⟨rfl,rfl,rfl⟩
theorem relC_len(b:Bank)(c:Cmd):(relC b c).2.length≤b.enem.length+1:=by
 unfold relC;split
 · unfold En.remE;split
   · exact Nat.zero_le _
   · refine Nat.le_trans (List.length_filter_le _ _) ?_;have:=En.normE_len b.enem;omega
 · unfold En.addE
   repeat' split
   all_goals try exact Nat.zero_le _
   refine Nat.le_trans (En.normE_len _) ?_;have:=En.normE_len b.enem;rw[List.length_append];show(En.normE b.enem).length+1≤_;omega
theorem subE_inv{n:Nat}{b:Bank}{c:Cmd}(h:Inv n b)(hc:CmdSz c):Inv (n+1) (subE b c).2:=by
 have hup:∀ x∈b.ents,EntI (n+1) x:=fun x hx=>(h.ent x hx).up;have hE:∀ es:List Ent,es.length≤n+1→(∀ x∈es,EntI (n+1) x)→Inv (n+1) { b with ents:=es }:=fun es h1 h2=>⟨h.pts,h.prior,Nat.le_succ_of_le h.outl,Nat.le_succ_of_le h.assets,h1,h2,Nat.le_succ_of_le h.enem⟩;have hl:=Nat.le_succ_of_le h.ents;unfold subE;split
 · refine⟨h.pts,h.prior,?_,Nat.le_succ_of_le h.assets,hl,hup,Nat.le_succ_of_le h.enem⟩;show(adT b c.roles c.topic).2.length≤n+1;have:=h.outl;unfold adT
   repeat' split
   · show b.outl.length≤_;omega
   · show b.outl.length≤_;omega
   · show(topI b.outl c.topic).length≤_;unfold topI;rw[ins_len b.outl c.topic (topK_le _ _)];omega
 · split
   · refine⟨h.pts,h.prior,Nat.le_succ_of_le h.outl,?_,hl,hup,Nat.le_succ_of_le h.enem⟩;show(adA b c.roles c.asset).2.length≤n+1;have:=h.assets;unfold adA
     repeat' split
     · show b.assets.length≤_;omega
     · show b.assets.length≤_;omega
     · show b.assets.length≤_;omega
     · show b.assets.length≤_;omega
     · show(astI b.assets c.asset).length≤_;unfold astI;rw[ins_len b.assets c.asset (astK_le _ _)];omega
   · split
     · unfold crtE;have he:=h.ents
       repeat' split
       all_goals try exact hE _ hl hup
       refine hE _ ?_ fun x hx=>?_
       · show(entI b.ents c.item.id _).length≤n+1;unfold entI;rw[ins_len b.ents _ (entK_le _ _)];omega
       · rcases mem_ins hx with hx | rfl
         · exact hup x hx
         · refine⟨Nat.zero_lt_one,by show 1≤n+1;omega,fun y hy=>?_,?_,?_,?_,by show 0*24≤_;omega,fun r hr=>by cases hr⟩
           · rw[List.mem_singleton]at hy;rw[hy];exact hc.item
           · show(Rev.newR c.user).ap.length≤_;rw[(newR_nil _).1];exact Nat.zero_le _
           · show(Rev.newR c.user).fa.length≤_;rw[(newR_nil _).2.1];exact Nat.zero_le _
           · show(Rev.newR c.user).log.length≤_;rw[(newR_nil _).2.2];exact Nat.zero_le _
     · split
       · refine hE _ ?_ ?_
         · unfold rvsE
           repeat' split
           all_goals try exact hl
           rw[rvsG_len];exact hl
         · unfold rvsE
           repeat' split
           all_goals try exact hup
           rename_i e he _ _ _ _ _ _
           exact rvsG_inv h.ent (fnd_ent h.ent (by assumption)) hc.item
       · split
         · refine hE _ ?_ ?_
           · unfold actE
             repeat' split
             all_goals try exact hl
             all_goals simpa using hl
           · unfold actE
             repeat' split
             all_goals try exact hup
             exact Inv.set h.ent ((fnd_ent h.ent (by assumption)).rev _)
         · split
           · refine⟨h.pts,h.prior,Nat.le_succ_of_le h.outl,Nat.le_succ_of_le h.assets,hl,hup,?_⟩;show(relE b c).2.length≤n+1;have h1:=h.enem;have h2:=relC_len b c;unfold relE
             repeat' split
             all_goals first | exact Nat.le_succ_of_le h.enem | (show(relC b c).2.length≤n+1;omega)
           · refine hE _ ?_ ?_
             · unfold setE
               repeat' split
               all_goals try exact hl
               all_goals simpa using hl
             · unfold setE
               repeat' split
               all_goals try exact hup
               have he:=fnd_ent h.ent (by assumption);exact Inv.set h.ent ⟨he.v0,Nat.le_succ_of_le he.vn,he.its,Nat.le_succ_of_le he.ap,Nat.le_succ_of_le he.fa,Nat.le_succ_of_le he.log,hc.rows,hc.row⟩
theorem aplE_inv{n:Nat}{b:Bank}{c:Cmd}(h:Inv n b)(hc:CmdSz c)(h0:(aplE b c).1=0):Inv (n+1) (aplE b c).2:=by
 have hs:=subE_inv h hc;unfold aplE at h0 ⊢;split
 · rename_i g;rw[if_pos g]at h0;cases h0
 · rename_i g;rw[if_neg g]at h0
   split
   · rename_i g2;rw[if_pos g2]at h0;cases h0
   · rename_i g2;rw[if_neg g2]at h0
     split
     · rename_i g3;rw[if_pos g3]at h0;cases h0
     · rename_i g3;rw[if_neg g3]at h0
       split
       · rename_i g4;rw[if_pos g4]at h0;exact absurd h0 g4
       · exact⟨hs.pts,hs.prior,hs.outl,hs.assets,hs.ents,hs.ent,hs.enem⟩
end Bk
namespace Bk
def nums (es:List Ent):List (Option Int):=es.map num
def Stays (x y:Ent):Prop:=num y=num x∧x.vers <+: y.vers
theorem Stays.refl(x:Ent):Stays x x:=⟨rfl,List.prefix_rfl⟩
def KeepsE (es fs:List Ent):Prop:=∀ x∈es,∃ y∈fs,Stays x y
theorem keeps_set{es:List Ent}{k:Nat}{e e':Ent}(he:es[k]?=some e)(h:Stays e e'):KeepsE es (es.set k e'):=fun x hx=>by
 obtain⟨i,hi⟩:=List.mem_iff_getElem?.1 hx;by_cases hk:k=i
 · subst hk;rw[he]at hi;injection hi with hi;subst hi;have hl:=(List.getElem?_eq_some_iff.1 he).1;exact⟨e',List.mem_iff_getElem?.2 ⟨k,by rw[List.getElem?_set_self hl]⟩,h⟩
 · exact⟨x,List.mem_iff_getElem?.2 ⟨i,by rw[List.getElem?_set_ne hk];exact hi⟩,Stays.refl x⟩
theorem fnd_no{es:List Ent}{id:Int}(h:¬ (fnd es id).isSome=true):some id ∉ nums es:=fun hm=>by obtain⟨e,he,hn⟩:=List.mem_map.1 hm;refine h ?_;unfold fnd;rw[List.findIdx?_isSome,List.any_eq_true];exact⟨e,he,decide_eq_true hn⟩
theorem ins_perm(es:List Ent)(k:Nat)(e:Ent):(es.take k ++ e :: es.drop k).Perm (e :: es):=by refine List.perm_middle.trans ?_;rw[List.take_append_drop]
theorem keeps_ins(es:List Ent)(k:Nat)(e:Ent):KeepsE es (es.take k ++ e :: es.drop k):=fun x hx=>⟨x,(ins_perm es k e).mem_iff.2 (List.mem_cons_of_mem _ hx),Stays.refl x⟩
theorem num_rvsF(mj:Bool)(it:It.Item)(e:Ent):num (rvsF mj it e)=some it.id:=by unfold num rvsF;show((e.vers ++ [it])[(e.vers ++ [it]).length-1]?).map (·.id)=some it.id;rw[List.length_append];simp
theorem stays_rev{e:Ent}{l it:It.Item}(hl:e.vers[e.vers.length-1]?=some l)(hid:it.id=l.id)(r:Rev.Rec)(mj:Bool):Stays e (rvsF mj it { e with rev:=r }) :=
 ⟨by rw[num_rvsF,hid];unfold num;rw[hl];rfl,List.prefix_append _ _⟩
theorem succ_id{a b:It.Item}(h:It.succ a b=0):b.id=a.id:=by
 unfold It.succ at h;split at h
 · rename_i h2;exact absurd h h2
 · split at h
   · cases h
   · rename_i h2;exact Decidable.of_not_not h2
theorem Inv.new{p q:List Int}(hp:p.length*8≤140737488355328)(hq:q.length*8≤140737488355328):Inv 0 (nBank p q):=⟨hp,hq,Nat.le_refl _,Nat.le_refl _,Nat.le_refl _,fun e he=>(by cases he),Nat.le_refl _⟩
end Bk
namespace Bk
def MdlV (np:Nat)(e:Ent)(l:It.Item):Prop:=(e.rows.length≠0→suitE np l.kind l.pts e.rows=0)∧(e.rows.length=0→e.rev.st=5∨e.rev.st=6→l.kind=6)
structure EntV (outl:List Tpc)(np:Nat)(e:Ent):Prop where
 v1:∃ x r,e.vers=x :: r∧It.vld x=0∧x.ver=1
 suc:∀ k x y,e.vers[k]?=some x→e.vers[k+1]?=some y→It.succ x y=0
 lst:∃ l,e.vers[e.vers.length-1]?=some l∧hasT outl l.cont=true∧MdlV np e l
 rev:Rev.replayR e.rev.au e.rev.log=(e.rev,e.rev.log.length,0)
structure Vb (b:Bank):Prop where
 now:0≤b.now∧b.now≤1099511627776
 grid:Gv.gridE b.pts b.prior=0
 outl:ctE b.outl=0
 an:b.assets.length≤200
 av:∀ a∈b.assets,astE a=0
 as_:b.assets.Pairwise fun x y=>x.id<y.id
 en:b.ents.length≤200
 ent:∀ e∈b.ents,EntV b.outl b.pts.length e
 es:b.ents.Pairwise fun x y=>nmb x<nmb y
 rn:En.Nrm b.enem
 rl:b.enem.length≤400
 rf:∀ p∈b.enem,(fnd b.ents p.1).isSome=true∧(fnd b.ents p.2).isSome=true
theorem take_while{X:Type}(p:X→Bool):∀ l:List X,l.take (l.takeWhile p).length=l.takeWhile p
 | []=>rfl
 | a :: l=>by
  rw[List.takeWhile_cons];split
  · rw[List.length_cons,List.take_succ_cons,take_while p l]
  · rfl
theorem drop_while{X:Type}(p:X→Bool):∀ l:List X,l.drop (l.takeWhile p).length=l.dropWhile p
 | []=>rfl
 | a :: l=>by
  rw[List.takeWhile_cons,List.dropWhile_cons];split
  · rw[List.length_cons,List.drop_succ_cons,drop_while p l]
  · rfl
theorem ins_sorted{X:Type}(f:X→Int)(x:X):∀ (l:List X),l.Pairwise (fun a b=>f a<f b)→(∀ y∈l,f y≠f x)→(l.takeWhile (fun y=>decide (f y<f x)) ++ x :: l.dropWhile (fun y=>decide (f y<f x))).Pairwise fun a b=>f a<f b
 | [],_,_=>List.pairwise_singleton _ _
 | a :: l,h,hn=>by
  rw[List.pairwise_cons]at h;rw[List.takeWhile_cons,List.dropWhile_cons];by_cases ha:f a<f x
  · rw[if_pos (decide_eq_true ha),if_pos (decide_eq_true ha),List.cons_append,List.pairwise_cons];refine⟨fun y hy=>?_,ins_sorted f x l h.2 fun y hy=>hn y (List.mem_cons_of_mem _ hy)⟩;rcases List.mem_append.1 hy with hy | hy
    · exact h.1 y ((List.takeWhile_sublist _).subset hy)
    · rcases List.mem_cons.1 hy with rfl | hy
      · exact ha
      · exact h.1 y ((List.dropWhile_sublist _).subset hy)
  · rw[if_neg (by simpa using ha),if_neg (by simpa using ha),List.nil_append,List.pairwise_cons];have h2:=hn a (List.mem_cons_self);refine⟨fun y hy=>?_,List.pairwise_cons.2 h⟩;rcases List.mem_cons.1 hy with rfl | hy
    · omega
    · have:=h.1 y hy;omega
theorem ins_sorted_at{X:Type}(f:X→Int)(x:X){l:List X}{k:Nat}(hk:(l.takeWhile fun y=>decide (f y<f x)).length=k)(h:l.Pairwise fun a b=>f a<f b)(hn:∀ y∈l,f y≠f x):(l.take k ++ x :: l.drop k).Pairwise fun a b=>f a<f b:=by subst hk;rw[take_while,drop_while];exact ins_sorted f x l h hn
theorem hasT_ins{o:List Tpc}{t:Tpc}{s:ByteArray}(k:Nat)(h:hasT o s=true):hasT (o.take k ++ t :: o.drop k) s=true:=by unfold hasT at *;rw[← List.take_append_drop k o,List.any_append,Bool.or_eq_true]at h;rw[List.any_append,List.any_cons];rcases h with h | h <;> simp[h]
theorem EntV.outl{o o2:List Tpc}{np:Nat}{e:Ent}(h:EntV o np e)(ho:∀ s,hasT o s=true→hasT o2 s=true):EntV o2 np e :=
 ⟨h.v1,h.suc,h.lst.elim fun l hl=>⟨l,hl.1,ho _ hl.2.1,hl.2.2⟩,h.rev⟩
theorem EntV.num{o:List Tpc}{np:Nat}{e:Ent}(h:EntV o np e):num e=some (nmb e):=by obtain⟨l,hl,-⟩:=h.lst;unfold nmb Bk.num;rw[hl];rfl
theorem fnd_mem{es:List Ent}{id:Int}:(fnd es id).isSome=true↔some id∈nums es:=by
 constructor
 · intro h;obtain⟨k,hk⟩:=Option.isSome_iff_exists.1 h;obtain⟨e,he,hn⟩:=fnd_at hk;exact List.mem_map.2 ⟨e,List.mem_of_getElem? he,hn⟩
 · intro h;by_cases hs:(fnd es id).isSome=true
   · exact hs
   · exact absurd h (fnd_no hs)
theorem keeps_fnd{es fs:List Ent}(h:KeepsE es fs){id:Int}(hf:(fnd es id).isSome=true):(fnd fs id).isSome=true:=by rw[fnd_mem]at hf ⊢;obtain⟨e,he,hn⟩:=List.mem_map.1 hf;obtain⟨y,hy,h1,-⟩:=h e he;exact List.mem_map.2 ⟨y,hy,by rw[h1,hn]⟩
theorem Vb.set{b:Bank}(h:Vb b){k:Nat}{e e':Ent}(he:b.ents[k]?=some e)(hs:Stays e e')(hv:EntV b.outl b.pts.length e'):Vb { b with ents:=b.ents.set k e' }:=by
 have hk:=keeps_set he hs;refine⟨h.now,h.grid,h.outl,h.an,h.av,h.as_,?_,?_,?_,h.rn,h.rl,fun p hp=>⟨keeps_fnd hk (h.rf p hp).1,keeps_fnd hk (h.rf p hp).2⟩⟩
 · show(b.ents.set k e').length≤200;rw[List.length_set];exact h.en
 · intro x hx;rcases List.mem_or_eq_of_mem_set hx with hx | rfl
   · exact h.ent x hx
   · exact hv
 · show(b.ents.set k e').Pairwise _;have h1:(b.ents.map nmb).Pairwise (· < ·):=List.pairwise_map.2 h.es;have h2:(b.ents.set k e').map nmb=b.ents.map nmb:=by
    refine List.ext_getElem? fun i=>?_;rw[List.getElem?_map,List.getElem?_map];by_cases hi:k=i
    · subst hi;rw[List.getElem?_set_self (List.getElem?_eq_some_iff.1 he).1,he];show some (nmb e')=some (nmb e);unfold nmb;rw[hs.1]
    · rw[List.getElem?_set_ne hi]
   rw[← h2]at h1;exact List.pairwise_map.1 h1
theorem last_snoc(l:List It.Item)(x:It.Item):(l ++ [x])[(l ++ [x]).length-1]?=some x:=by rw[List.length_append];simp
theorem major_same{a b:It.Item}(h:It.major a b=false):a.kind=b.kind∧a.pts=b.pts:=by rw[It.major_eq]at h;simp only[Bool.or_eq_false_iff,Bool.not_eq_false']at h;obtain⟨⟨⟨⟨⟨⟨⟨⟨h1,_⟩,_⟩,_⟩,_⟩,_⟩,_⟩,h2⟩,_⟩:=h;exact⟨eq_of_beq h1,eq_of_beq h2⟩
theorem EntV.vers{o:List Tpc}{np:Nat}{e:Ent}(h:EntV o np e){l it:It.Item}(hl:e.vers[e.vers.length-1]?=some l)(hs:It.succ l it=0)(ht:hasT o it.cont=true){r:Rev.Rec}(hr:Rev.replayR r.au r.log=(r,r.log.length,0))(mj:Bool)(hm:MdlV np (rvsF mj it { e with rev:=r }) it):EntV o np (rvsF mj it { e with rev:=r }):=by
 refine⟨?_,fun k x y hx hy=>?_,⟨it,last_snoc _ _,ht,hm⟩,hr⟩
 · obtain⟨x,t,h1,h2,h3⟩:=h.v1;exact⟨x,t ++ [it],by show e.vers ++ [it]=_;rw[h1];rfl,h2,h3⟩
 · have hx':(e.vers ++ [it])[k]?=some x:=hx;have hy':(e.vers ++ [it])[k+1]?=some y:=hy;have hlen:=(List.getElem?_eq_some_iff.1 hy').1;rw[List.length_append,List.length_singleton]at hlen;rcases Nat.lt_or_ge (k+1) e.vers.length with g | g
   · rw[List.getElem?_append_left (by omega)]at hx';rw[List.getElem?_append_left g]at hy';exact h.suc k x y hx' hy'
   · have hk:k=e.vers.length-1:=(by omega);rw[List.getElem?_append_left (by omega),hk,hl]at hx';rw[show k+1=e.vers.length by omega,List.getElem?_append_right (Nat.le_refl _),Nat.sub_self]at hy';injection hx' with hx';injection hy' with hy';rw[← hx',← hy'];exact hs
theorem replay_start{au:Int}(h:Rev.newE au=0):Rev.replayR au []=(Rev.start au,0,0):=by unfold Rev.replayR;rw[if_pos h];rfl
theorem replay_next{r:Rev.Rec}{a:Rev.Act}(h:Rev.replayR r.au r.log=(r,r.log.length,0))(ha:Rev.allowedE r a=0):Rev.replayR (Rev.applyR r a).au (Rev.applyR r a).log=(Rev.applyR r a,(Rev.applyR r a).log.length,0):=by
 have e1:Rev.applyR r a=Rev.next r a:=by unfold Rev.applyR;rw[if_pos ha]
 rw[e1,Rev.next_au,Rev.next_log];unfold Rev.replayR at h ⊢;by_cases hn:Rev.newE r.au=0
 · rw[if_pos hn]at h ⊢;rw[Rev.goR_append [a] h (fun _=>rfl),Rev.goR_yes ha,Rev.goR,List.length_append];rfl
 · rw[if_neg hn]at h;injection h with _ h2;injection h2 with _ h3;exact absurd h3 hn
theorem rows_some{np:Nat}{k p:Int}{rows:List (List Int)}(h:suitE np k p rows=0):rows.length≠0:=by
 intro h0;unfold suitE at h;split at h
 · cases h
 · split at h
   · rename_i h2;exact h2 h
   · rename_i h2
     have h3:=Decidable.of_not_not h2;unfold Rw.mdlE at h3;split at h3
     · cases h3
     · rename_i h4
       omega
theorem next_st{r:Rev.Rec}{a:Rev.Act}(ha:Rev.allowedE r a=0)(hs:(Rev.next r a).st=5∨(Rev.next r a).st=6):a.kind=5∨r.st=5∨r.st=6:=by
 obtain⟨k1,k2,-⟩:=Rev.allowed_zero ha;obtain⟨-,hp,-⟩:=Rev.allowed_more ha;obtain⟨k,u,ro,t⟩:=a;simp only at k1 k2 hp ⊢;rcases Rev.kind_cases k1 k2 with rfl | rfl | rfl | rfl | rfl | rfl | rfl | rfl | rfl
 · rw[Rev.next_1]at hs;rcases hs with hs | hs <;> cases hs
 · rw[Rev.next_2]at hs;simp only at hs;split at hs
   · rcases hs with hs | hs <;> cases hs
   · exact Or.inr hs
 · rw[Rev.next_3]at hs;rcases hs with hs | hs <;> cases hs
 · rw[Rev.next_4]at hs;rcases hs with hs | hs <;> cases hs
 · exact Or.inl rfl
 · have:r.st=5:=by simpa[Rev.poss]using hp
   exact Or.inr (Or.inl this)
 · have:r.st=6:=by simpa[Rev.poss]using hp
   exact Or.inr (Or.inr this)
 · rw[Rev.next_8]at hs;rcases hs with hs | hs <;> cases hs
 · rw[Rev.next_9]at hs;rcases hs with hs | hs <;> cases hs
theorem Vb.topic{b:Bank}(h:Vb b){ro:Int}{t:Tpc}(h0:(adT b ro t).1=0):Vb { b with outl:=(adT b ro t).2 }:=by
 unfold adT at h0 ⊢;split
 · rename_i g;rw[if_pos g]at h0;cases h0
 · rename_i g;rw[if_neg g]at h0
   split
   · rename_i g2;rw[if_pos g2]at h0;cases h0
   · rename_i g2;rw[if_neg g2]at h0
     exact⟨h.now,h.grid,h0,h.an,h.av,h.as_,h.en,fun e he=>(h.ent e he).outl fun s hs=>hasT_ins _ hs,h.es,h.rn,h.rl,h.rf⟩
theorem astF_no{l:List Ast}{id:Int}(h:¬ (astF l id).isSome=true):∀ a∈l,a.id≠id:=by intro a ha e;refine h ?_;unfold astF;rw[List.find?_isSome];exact⟨a,ha,decide_eq_true e⟩
theorem Vb.asset{b:Bank}(h:Vb b){ro:Int}{a:Ast}(h0:(adA b ro a).1=0):Vb { b with assets:=(adA b ro a).2 }:=by
 unfold adA at h0 ⊢;split
 · rename_i g;rw[if_pos g]at h0;cases h0
 · rename_i g;rw[if_neg g]at h0
   split
   · rename_i g2;rw[if_pos g2]at h0;exact absurd h0 g2
   · rename_i g2;rw[if_neg g2]at h0
     split
     · rename_i g3;rw[if_pos g3]at h0;cases h0
     · rename_i g3;rw[if_neg g3]at h0
       split
       · rename_i g4;rw[if_pos g4]at h0;cases h0
       · rename_i g4
         refine⟨h.now,h.grid,h.outl,?_,?_,?_,h.en,h.ent,h.es,h.rn,h.rl,h.rf⟩
         · show(astI b.assets a).length≤200;unfold astI;rw[ins_len b.assets a (astK_le _ _)];omega
         · intro x hx;rcases mem_ins hx with hx | rfl
           · exact h.av x hx
           · exact Decidable.of_not_not g2
         · exact ins_sorted_at (fun a:Ast=>a.id) a rfl h.as_ (astF_no g3)
theorem Vb.create{b:Bank}(h:Vb b){c:Cmd}(h0:(crtE b c (refE b c.item.cont c.item.assets c.time)).1=0):Vb { b with ents:=(crtE b c (refE b c.item.cont c.item.assets c.time)).2 }:=by
 unfold crtE at h0 ⊢;split
 · rename_i g;rw[if_pos g]at h0;cases h0
 rename_i g;rw[if_neg g]at h0
 split
 · rename_i g2;rw[if_pos g2]at h0;exact absurd h0 g2
 rename_i g2;rw[if_neg g2]at h0
 split
 · rename_i g3;rw[if_pos g3]at h0;cases h0
 rename_i g3;rw[if_neg g3]at h0
 split
 · rename_i g4;rw[if_pos g4]at h0;cases h0
 rename_i g4;rw[if_neg g4]at h0
 split
 · rename_i g5;rw[if_pos g5]at h0;cases h0
 rename_i g5;rw[if_neg g5]at h0
 split
 · rename_i g6;rw[if_pos g6]at h0;exact absurd h0 g6
 rename_i g6;rw[if_neg g6]at h0
 split
 · rename_i g7;rw[if_pos g7]at h0;exact absurd h0 g7
 rename_i g7
 have hk:=keeps_ins b.ents (entK b.ents c.item.id) ⟨[c.item],Rev.newR c.user,[]⟩;have hn0:=Decidable.of_not_not g7;have hr:Rev.newR c.user=Rev.start c.user:=by
  unfold Rev.newR;unfold Rev.newE at hn0;split
  · rename_i g8;rw[if_pos g8]at hn0;cases hn0
  · rfl
 refine⟨h.now,h.grid,h.outl,h.an,h.av,h.as_,?_,?_,?_,h.rn,h.rl,fun p hp=>⟨keeps_fnd hk (h.rf p hp).1,keeps_fnd hk (h.rf p hp).2⟩⟩
 · show(entI b.ents c.item.id _).length≤200;unfold entI;rw[ins_len b.ents _ (entK_le _ _)];omega
 · intro x hx;rcases mem_ins hx with hx | rfl
   · exact h.ent x hx
   · refine⟨⟨c.item,[],rfl,Decidable.of_not_not g2,Decidable.of_not_not g3⟩,fun k x y hx hy=>?_,⟨c.item,rfl,?_,fun e=>absurd rfl e,fun _ hs=>?_⟩,?_⟩
     · have:=(List.getElem?_eq_some_iff.1 hy).1;exact absurd (show k+1<1 from this) (by omega)
     · have hz:=Decidable.of_not_not g6;unfold refE at hz;split at hz
       · cases hz
       · rename_i g8;simpa using g8
     · rw[hr]at hs;rcases hs with hs | hs <;> cases hs
     · show Rev.replayR (Rev.newR c.user).au (Rev.newR c.user).log=_;rw[hr];exact replay_start hn0
 · refine ins_sorted_at nmb ⟨[c.item],Rev.newR c.user,[]⟩ rfl h.es fun y hy e=>?_;refine fnd_no g4 (List.mem_map.2 ⟨y,hy,?_⟩);rw[(h.ent y hy).num,e];rfl
theorem Vb.rvsG{b:Bank}(h:Vb b){c:Cmd}{k:Nat}{e:Ent}{l:It.Item}(he:b.ents[k]?=some e)(hl:e.vers[e.vers.length-1]?=some l)(hs:It.succ l c.item=0)(ht:hasT b.outl c.item.cont=true)(h0:(rvsG b.ents c k e l).1=0):Vb { b with ents:=(rvsG b.ents c k e l).2 }:=by
 have hv:=h.ent e (List.mem_of_getElem? he);have hid:=succ_id hs;have hm:MdlV b.pts.length e l:=by obtain⟨l2,h1,-,h2⟩:=hv.lst;rw[hl]at h1;injection h1 with h1;rw[h1];exact h2
 have hmin:It.major l c.item=false→MdlV b.pts.length (rvsF false c.item e) c.item:=fun hj=>by
  obtain⟨e1,e2⟩:=major_same hj;refine⟨fun hr=>?_,fun hr hst=>?_⟩
  · rw[← e1,← e2];exact hm.1 hr
  · rw[← e1];exact hm.2 hr hst
 have hset:∀ (r:Rev.Rec) (mj:Bool),Rev.replayR r.au r.log=(r,r.log.length,0)→MdlV b.pts.length (rvsF mj c.item { e with rev:=r }) c.item→Vb { b with ents:=b.ents.set k (rvsF mj c.item { e with rev:=r }) }:=fun r mj hr hmm =>
  h.set he (stays_rev hl hid r mj) (hv.vers hl hs ht hr mj hmm)
 unfold Bk.rvsG at h0 ⊢;split
 · rename_i g;rw[if_pos g]at h0
   split
   · refine hset e.rev _ hv.rev ⟨fun hr=>?_,fun hr hst=>?_⟩
     · cases hj:It.major l c.item with
       | true=>rw[hj]at hr;exact absurd rfl hr
       | false=>rw[hj]at hr;exact(hmin hj).1 hr
     · have hst':e.rev.st=5∨e.rev.st=6:=hst;omega
   · rename_i g2;rw[if_neg g2]at h0;cases h0
 · rename_i g;rw[if_neg g]at h0
   split
   · rename_i g2;rw[if_pos g2]at h0
     split
     · rename_i g3;rw[if_pos g3]at h0;exact absurd h0 g3
     · rename_i g3
       have ha:=Decidable.of_not_not g3;refine hset _ true (replay_next hv.rev ha) ⟨fun hr=>absurd rfl hr,fun _ hst=>?_⟩;have hst':(Rev.applyR e.rev ⟨9,c.user,c.roles,c.time⟩).st=5∨(Rev.applyR e.rev ⟨9,c.user,c.roles,c.time⟩).st=6:=hst;unfold Rev.applyR at hst';rw[if_pos ha,Rev.next_9]at hst';rcases hst' with h1 | h1 <;> cases h1
   · rename_i g2;rw[if_neg g2]at h0
     have hj:It.major l c.item=false:=(by simpa using g2);split
     · rename_i g3;rw[if_pos g3]at h0;cases h0
     · first
         | exact hset e.rev false hv.rev (hmin hj)
         | (rw[hj];exact hset e.rev false hv.rev (hmin hj))
theorem Vb.revise{b:Bank}(h:Vb b){c:Cmd}(h0:(rvsE b c (refE b c.item.cont c.item.assets c.time)).1=0):Vb { b with ents:=(rvsE b c (refE b c.item.cont c.item.assets c.time)).2 }:=by
 by_cases hr:hasR c.roles 1=true;case neg=>unfold rvsE at h0;rw[if_pos (by simpa using hr)]at h0;cases h0
 cases hf:fnd b.ents c.item.id with
 | none=>rw[rvsE_none hr hf]at h0;cases h0
 | some k =>
  obtain⟨e,he,hn⟩:=fnd_at hf;obtain⟨l,hl,-,-⟩:=num_some hn;rw[rvsE_some hr hf he hl]at h0 ⊢;split
  · rename_i g;rw[if_pos g]at h0;exact absurd h0 g
  · rename_i g;rw[if_neg g]at h0
    split
    · rename_i g2;rw[if_pos g2]at h0;exact absurd h0 g2
    · rename_i g2;rw[if_neg g2]at h0
      refine h.rvsG he hl (Decidable.of_not_not g) ?_ h0;have hz:=Decidable.of_not_not g2;unfold refE at hz;split at hz
      · cases hz
      · rename_i g8;simpa using g8
theorem Vb.act{b:Bank}(h:Vb b){c:Cmd}(h0:(actE b c).1=0):Vb { b with ents:=(actE b c).2 }:=by
 unfold actE at h0 ⊢;cases hf:fnd b.ents c.id with
 | none=>rw[hf]at h0;cases h0
 | some k =>
  obtain⟨e,he,hn⟩:=fnd_at hf;obtain⟨l,hl,-,-⟩:=num_some hn;simp only[hf,he,hl]at h0 ⊢;split
  · rename_i g;rw[if_pos g]at h0;cases h0
  · rename_i g;rw[if_neg g]at h0
    split
    · rename_i g2;rw[if_pos g2]at h0;exact absurd h0 g2
    · rename_i g2
      have ha:=Decidable.of_not_not g2;have hv:=h.ent e (List.mem_of_getElem? he);refine h.set he ⟨rfl,List.prefix_rfl⟩ ⟨hv.v1,hv.suc,?_,replay_next hv.rev ha⟩;obtain⟨l2,h1,h2,h3⟩:=hv.lst;rw[hl]at h1;injection h1 with h1;subst h1;refine⟨l,hl,h2,h3.1,fun hr0 hst=>?_⟩;have hst':(Rev.applyR e.rev ⟨c.act,c.user,c.roles,c.time⟩).st=5∨(Rev.applyR e.rev ⟨c.act,c.user,c.roles,c.time⟩).st=6:=hst;unfold Rev.applyR at hst';rw[if_pos ha]at hst';rcases next_st ha hst' with hk | hk
      · have hr1:e.rows.length=0:=hr0;have hk':c.act=5:=hk;by_cases h6:l.kind=6
        · exact h6
        · exact absurd ⟨hk',h6,hr1⟩ g
      · exact h3.2 hr0 hk
theorem Vb.model{b:Bank}(h:Vb b){c:Cmd}(h0:(setE b c).1=0):Vb { b with ents:=(setE b c).2 }:=by
 unfold setE at h0 ⊢;split
 · rename_i g;rw[if_pos g]at h0;cases h0
 rename_i g;rw[if_neg g]at h0
 cases hf:fnd b.ents c.id with
 | none=>rw[hf]at h0;cases h0
 | some k =>
  obtain⟨e,he,hn⟩:=fnd_at hf;obtain⟨l,hl,-,-⟩:=num_some hn;simp only[hf,he,hl]at h0 ⊢;split
  · rename_i g;rw[if_pos g]at h0;cases h0
  · rename_i g;rw[if_neg g]at h0
    split
    · rename_i g2;rw[if_pos g2]at h0;exact absurd h0 g2
    · rename_i g2
      have hs:=Decidable.of_not_not g2;have hv:=h.ent e (List.mem_of_getElem? he);refine h.set he ⟨rfl,List.prefix_rfl⟩ ⟨hv.v1,hv.suc,?_,hv.rev⟩;obtain⟨l2,h1,h2,h3⟩:=hv.lst;rw[hl]at h1;injection h1 with h1;subst h1;exact⟨l,hl,h2,fun _=>hs,fun hr0 _=>absurd hr0 (rows_some hs)⟩
theorem Vb.relate{b:Bank}(h:Vb b){c:Cmd}(h0:(relE b c).1=0):Vb { b with enem:=(relE b c).2 }:=by
 have hE:∀ l:List (Int×Int),En.Nrm l→l.length≤400→(∀ p∈l,(fnd b.ents p.1).isSome=true∧(fnd b.ents p.2).isSome=true)→Vb { b with enem:=l }:=fun l h1 h2 h3 =>
  ⟨h.now,h.grid,h.outl,h.an,h.av,h.as_,h.en,h.ent,h.es,h1,h2,h3⟩
 unfold relE at h0 ⊢;split
 · rename_i g;rw[if_pos g]at h0;cases h0
 rename_i g;rw[if_neg g]at h0
 split
 · rename_i g2;rw[if_pos g2]at h0;cases h0
 rename_i g2;rw[if_neg g2]at h0
 split
 · rename_i g3;rw[if_pos g3]at h0;exact absurd h0 g3
 rename_i g3
 have hz:=Decidable.of_not_not g3;have hsame:=h.rn.same;have f1:(fnd b.ents c.id).isSome=true:=by
  cases hf:fnd b.ents c.id with
  | none=>exact absurd (Or.inl (by rw[hf];rfl)) g2
  | some k=>rfl
 have f2:(fnd b.ents c.other).isSome=true:=by
  cases hf:fnd b.ents c.other with
  | none=>exact absurd (Or.inr (by rw[hf];rfl)) g2
  | some k=>rfl
 show Vb { b with enem:=(relC b c).2 };unfold relC at hz ⊢;split
 · rename_i g4
   rw[if_pos g4]at hz;unfold En.remE at hz ⊢;split
   · rename_i g5;rw[if_pos g5]at hz;cases hz
   · show Vb { b with enem:=En.delE (En.normE b.enem) _ };rw[hsame];exact hE _ (h.rn.del _) (Nat.le_trans (List.length_filter_le _ _) h.rl) fun p hp=>h.rf p (List.mem_filter.1 hp).1
 · rename_i g4
   rw[if_neg g4]at hz;unfold En.addE at hz ⊢;split
   · rename_i g5;rw[if_pos g5]at hz;cases hz
   rename_i g5;rw[if_neg g5]at hz
   split
   · rename_i g6;rw[if_pos g6]at hz;cases hz
   rename_i g6;rw[if_neg g6]at hz
   split
   · rename_i g7;rw[if_pos g7]at hz;cases hz
   rename_i g7;rw[if_neg g7]at hz
   split
   · rename_i g8;rw[if_pos g8]at hz;cases hz
   rename_i g8
   show Vb { b with enem:=En.normE (En.normE b.enem ++ [En.ordP (c.id,c.other)]) };refine hE _ (En.Nrm.of _) ?_ fun p hp=>?_
   · refine Nat.le_trans (En.normE_len _) ?_;rw[List.length_append,List.length_singleton];omega
   · obtain⟨q,hq,-,rfl⟩:=En.normE_from hp;have hq2:(fnd b.ents q.1).isSome=true∧(fnd b.ents q.2).isSome=true:=by
      rcases List.mem_append.1 hq with hq | hq
      · rw[hsame]at hq;exact h.rf q hq
      · rw[List.mem_singleton]at hq;subst hq;show(fnd b.ents (min c.id c.other)).isSome=true∧(fnd b.ents (max c.id c.other)).isSome=true;rcases Int.le_total c.id c.other with hle | hle
        · rw[Int.min_eq_left hle,Int.max_eq_right hle];exact⟨f1,f2⟩
        · rw[Int.min_eq_right hle,Int.max_eq_left hle];exact⟨f2,f1⟩
     show(fnd b.ents (min q.1 q.2)).isSome=true∧(fnd b.ents (max q.1 q.2)).isSome=true;rcases Int.le_total q.1 q.2 with hle | hle
     · rw[Int.min_eq_left hle,Int.max_eq_right hle];exact hq2
     · rw[Int.min_eq_right hle,Int.max_eq_left hle];exact⟨hq2.2,hq2.1⟩
theorem Vb.sub{b:Bank}(h:Vb b){c:Cmd}(h0:(subE b c).1=0):Vb (subE b c).2:=by
 unfold subE at h0 ⊢;split
 · rename_i g;rw[if_pos g]at h0;exact h.topic h0
 rename_i g;rw[if_neg g]at h0
 split
 · rename_i g2;rw[if_pos g2]at h0;exact h.asset h0
 rename_i g2;rw[if_neg g2]at h0
 split
 · rename_i g3;rw[if_pos g3]at h0;exact h.create h0
 rename_i g3;rw[if_neg g3]at h0
 split
 · rename_i g4;rw[if_pos g4]at h0;exact h.revise h0
 rename_i g4;rw[if_neg g4]at h0
 split
 · rename_i g5;rw[if_pos g5]at h0;exact h.act h0
 rename_i g5;rw[if_neg g5]at h0
 split
 · rename_i g6;rw[if_pos g6]at h0;exact h.relate h0
 rename_i g6;rw[if_neg g6]at h0
 exact h.model h0
theorem Vb.apl{b:Bank}(h:Vb b){c:Cmd}(h0:(aplE b c).1=0):Vb (aplE b c).2:=by
 unfold aplE at h0 ⊢;split
 · rename_i g;rw[if_pos g]at h0;cases h0
 · rename_i g;rw[if_neg g]at h0
   split
   · rename_i g2;rw[if_pos g2]at h0;cases h0
   · rename_i g2;rw[if_neg g2]at h0
     split
     · rename_i g3;rw[if_pos g3]at h0;cases h0
     · rename_i g3;rw[if_neg g3]at h0
       split
       · rename_i g4;rw[if_pos g4]at h0;exact absurd h0 g4
       · rename_i g4
         have hs:=h.sub (Decidable.of_not_not g4);exact⟨⟨by show 0≤c.time;omega,by show c.time≤1099511627776;omega⟩,hs.grid,hs.outl,hs.an,hs.av,hs.as_,hs.en,hs.ent,hs.es,hs.rn,hs.rl,hs.rf⟩
theorem Vb.new{p q:List Int}(h:Gv.gridE p q=0):Vb (nBank p q) :=
 ⟨⟨Int.le_refl _,by show(0:Int)≤1099511627776;omega⟩,h,rfl,Nat.zero_le _,fun a ha=>(by cases ha),List.Pairwise.nil,Nat.zero_le _,fun e he=>(by cases he),List.Pairwise.nil,⟨List.Pairwise.nil,fun p hp=>(by cases hp)⟩,Nat.zero_le _,fun p hp=>(by cases hp)⟩
end Bk
namespace Bk
def runB (b:Bank)(l:List Cmd):Bank:=l.foldl (fun b c=>(aplE b c).2) b
def OkAll (b:Bank)(l:List Cmd):Prop:=∀ k c,l[k]?=some c→(aplE (runB b (l.take k)) c).1=0
theorem runB_snoc(b:Bank)(l:List Cmd)(c:Cmd):runB b (l ++ [c])=(aplE (runB b l) c).2:=by unfold runB;rw[List.foldl_append];rfl
theorem runB_next(b:Bank){l:List Cmd}{k:Nat}{c:Cmd}(h:l[k]?=some c):runB b (l.take (k+1))=(aplE (runB b (l.take k)) c).2:=by rw[List.take_add_one,h];exact runB_snoc _ _ _
theorem OkAll.nil(b:Bank):OkAll b []:=fun k c h=>by cases h
theorem OkAll.snoc{b:Bank}{l:List Cmd}{c:Cmd}(h:OkAll b l)(hc:(aplE (runB b l) c).1=0):OkAll b (l ++ [c]):=fun k x hx=>by
 rcases Nat.lt_trichotomy k l.length with g | g | g
 · rw[List.getElem?_append_left g]at hx;rw[List.take_append_of_le_length (Nat.le_of_lt g)];exact h k x hx
 · subst g;rw[List.getElem?_append_right (Nat.le_refl _),Nat.sub_self]at hx;injection hx with hx;subst hx;rw[List.take_append_of_le_length (Nat.le_refl _),List.take_length];exact hc
 · rw[List.getElem?_eq_none (by rw[List.length_append,List.length_singleton];omega)]at hx;cases hx
theorem OkAll.take{b:Bank}{l:List Cmd}(h:OkAll b l)(n:Nat):OkAll b (l.take n):=fun k c hc=>by
 have hk:k<n:=by have:=(List.getElem?_eq_some_iff.1 hc).1;rw[List.length_take]at this;omega
 rw[List.getElem?_take_of_lt hk]at hc;rw[List.take_take,Nat.min_eq_left (Nat.le_of_lt hk)];exact h k c hc
theorem run_ind{Q:Nat→Bank→Prop}{b:Bank}{l:List Cmd}(h0:Q 0 b)(hs:∀ n b c,c∈l→Q n b→(aplE b c).1=0→Q (n+1) (aplE b c).2)(h:OkAll b l):Q l.length (runB b l):=by
 have:∀ n,n≤l.length→Q n (runB b (l.take n)):=by
  intro n
  induction n with
  | zero=>intro _;exact h0
  | succ n ih=>intro hn;obtain⟨c,hc⟩:∃ c,l[n]?=some c:=⟨_,List.getElem?_eq_getElem (by omega)⟩;rw[runB_next b hc];exact hs n _ c (List.mem_of_getElem? hc) (ih (by omega)) (h n c hc)
 have h2:=this l.length (Nat.le_refl _);rwa [List.take_length]at h2
theorem inv_run{b:Bank}{l:List Cmd}(h:OkAll b l)(h0:Inv 0 b)(hz:∀ c∈l,CmdSz c):Inv l.length (runB b l):=run_ind (Q:=Inv) h0 (fun _ _ c hc hi ha=>aplE_inv hi (hz c hc) ha) h
theorem vb_run{b:Bank}{l:List Cmd}(h:OkAll b l)(h0:Vb b):Vb (runB b l):=run_ind (Q:=fun _ b=>Vb b) h0 (fun _ _ _ _ hi ha=>hi.apl ha) h
structure Apn (r:Rev.Rec):Prop where
 i:Rev.Inv r
 s2:r.st=2→r.ap.length≤1
 s3:r.st=3∨r.st=4∨r.st=5∨r.st=6→r.ap.length=2
theorem Apn.start(au:Int):Apn (Rev.start au):=⟨Rev.Inv.start au,fun h=>(by cases h),fun h=>(by rcases h with h | h | h | h <;> cases h)⟩
theorem Apn.next{r:Rev.Rec}{a:Rev.Act}(h:Apn r)(ha:Rev.allowedE r a=0):Apn (Rev.next r a):=by
 refine⟨h.i.next ha,?_,?_⟩
 all_goals
  obtain⟨k1,k2,-⟩:=Rev.allowed_zero ha;obtain⟨-,hp,-⟩:=Rev.allowed_more ha;obtain⟨k,u,ro,t⟩:=a;have h2:=h.s2;have h3:=h.s3;have h1:=h.i.s1;simp only at k1 k2 hp;rcases Rev.kind_cases k1 k2 with rfl | rfl | rfl | rfl | rfl | rfl | rfl | rfl | rfl
 · have hs:r.st=1:=(by simpa[Rev.poss]using hp);rw[Rev.next_1];intro _;show r.ap.length≤1;rw[(h1 hs).1];exact Nat.zero_le _
 · have hs:r.st=2:=(by simpa[Rev.poss]using hp);rw[Rev.next_2];simp only;intro hh;show(r.ap ++ [u]).length≤1;split at hh
   · cases hh
   · rw[List.length_append,List.length_singleton];omega
 · rw[Rev.next_3];intro hh;cases hh
 · rw[Rev.next_4];intro hh;cases hh
 · rw[Rev.next_5];intro hh;cases hh
 · rw[Rev.next_6];intro hh;cases hh
 · rw[Rev.next_7];intro hh;cases hh
 · rw[Rev.next_8];intro hh;cases hh
 · rw[Rev.next_9];intro hh;cases hh
 · rw[Rev.next_1];intro hh;rcases hh with hh | hh | hh | hh <;> cases hh
 · have hs:r.st=2:=(by simpa[Rev.poss]using hp);rw[Rev.next_2];simp only;intro hh;show(r.ap ++ [u]).length=2;have:=h2 hs;split at hh
   · rw[List.length_append,List.length_singleton];omega
   · omega
 · rw[Rev.next_3];intro hh;rcases hh with hh | hh | hh | hh <;> cases hh
 · have hs:r.st=3:=(by simpa[Rev.poss]using hp);rw[Rev.next_4];intro _;exact h3 (Or.inl hs)
 · have hs:r.st=4:=(by simpa[Rev.poss]using hp);rw[Rev.next_5];intro _;exact h3 (Or.inr (Or.inl hs))
 · have hs:r.st=5:=(by simpa[Rev.poss]using hp);rw[Rev.next_6];intro _;exact h3 (Or.inr (Or.inr (Or.inl hs)))
 · have hs:r.st=6:=(by simpa[Rev.poss]using hp);rw[Rev.next_7];intro _;exact h3 (Or.inr (Or.inr (Or.inr hs)))
 · rw[Rev.next_8];intro hh;rcases hh with hh | hh | hh | hh <;> cases hh
 · rw[Rev.next_9];intro hh;rcases hh with hh | hh | hh | hh <;> cases hh
theorem apn_go:∀ {l:List Rev.Act} {r r':Rev.Rec} {i n:Nat},Apn r→Rev.goR r i l=(r',n,0)→Apn r'
 | [],r,r',i,n,h,e=>by rw[Rev.goR]at e;injection e with e _;rwa [← e]
 | a :: l,r,r',i,n,h,e=>by
  by_cases z:Rev.allowedE r a=0
  · rw[Rev.goR_yes z]at e;exact apn_go (h.next z) e
  · rw[Rev.goR_no z]at e;injection e with _ e;injection e with _ e;exact absurd e z
theorem EntV.apn{o:List Tpc}{np:Nat}{e:Ent}(h:EntV o np e):Apn e.rev:=by
 have h1:=h.rev;unfold Rev.replayR at h1;split at h1
 · exact apn_go (Apn.start _) h1
 · rename_i g
   injection h1 with _ h1;injection h1 with _ h1;exact absurd h1 g
theorem Apn.five{r:Rev.Rec}(h:Apn r)(hs:r.st=5):∃ a b f,r.ap=[a,b]∧r.fa=[f]∧a≠b∧f≠a∧f≠b∧f≠r.au∧a≠r.au∧b≠r.au:=by
 have h2:=h.s3 (Or.inr (Or.inr (Or.inl hs)));obtain⟨-,f,hf,hfa,hfp⟩:=h.i.s4 (Or.inr (Or.inl hs));have hnd:=h.i.nd;have hau:=h.i.au
 match hp:r.ap,h2 with
 | [a,b],_ =>
  rw[hp]at hfp hnd hau;simp only[List.mem_cons,List.not_mem_nil,or_false,not_or]at hfp hau;have hab:a≠b:=by intro e;rw[e]at hnd;simp at hnd
  exact⟨a,b,f,rfl,hf,hab,hfp.1,hfp.2,hfa,fun e=>hau.1 e.symm,fun e=>hau.2 e.symm⟩
end Bk
set_option maxRecDepth 100000
set_option maxHeartbeats 12800000
open Go.RowKit
namespace Bk
def BankL.zero:BankL:=⟨0,⟨none,0,[]⟩,⟨none,0,[]⟩,none,0,[],none,0,[],none,0,[],none,0,[]⟩
theorem zero_in(w:World):BankL.zero.In w :=
 ⟨⟨by show(-9223372036854775808:Int)≤0;omega,by show(0:Int)≤9223372036854775807;omega⟩,⟨Or.inl rfl,Nat.le_refl _,Nat.zero_le _,fun x hx=>by cases hx⟩,⟨Or.inl rfl,Nat.le_refl _,Nat.zero_le _,fun x hx=>by cases hx⟩,SlX.nil _ _,⟨Nat.le_refl _,Nat.zero_le _⟩,SlX.nil _ _,⟨Nat.le_refl _,Nat.zero_le _⟩,SlX.nil _ _,⟨Nat.le_refl _,Nat.zero_le _⟩,SlX.nil _ _,⟨Nat.le_refl _,Nat.zero_le _⟩⟩
theorem zero_from(N:Nat):BankL.zero.From N:=⟨Or.inl rfl,Or.inl rfl,FromX.nil _ _,FromX.nil _ _,FromX.nil _ _,FromX.nil _ _⟩
def RetAp (N:Nat)(r:Int×Bank)(e:Ending)(w':World):Prop:=∃ b':BankL,e=.returned (.tuple #[b'.agg,.int .i64 r.1])∧b'.bank=r.2∧b'.In w'∧b'.From N
theorem inv_ent{n:Nat}{b:BankL}(h:Inv n b.bank):∀ x∈b.ents,EntI n x.ent:=fun x hx=>h.ent x.ent (List.mem_map.2 ⟨x,hx,rfl⟩)
theorem inv_len{n:Nat}{b:BankL}(h:Inv n b.bank):b.ents.length≤n:=by have h1:=h.ents;have h2:b.bank.ents.length=b.ents.length:=List.length_map _;omega
theorem inv_ver{n:Nat}{b:BankL}(h:Inv n b.bank):∀ x∈b.ents,0<x.vs.length∧x.vs.length≤n:=fun x hx=>by have h1:=(inv_ent h x hx).v0;have h2:=(inv_ent h x hx).vn;have h3:x.ent.vers.length=x.vs.length:=List.length_map _;omega
theorem inv_rev{n:Nat}{b:BankL}(h:Inv n b.bank)(hn:n≤1000):RevOk b:=fun x hx=>by have h1:=(inv_ent h x hx).ap;have h2:=(inv_ent h x hx).fa;have h3:x.ent.rev.ap=x.ap.xs:=rfl;have h4:x.ent.rev.fa=x.fa.xs:=rfl;rw[h3]at h1;rw[h4]at h2;omega
theorem inZ:(Tryz.prog.info? 31).map (·.size)=some (#[.int .i64 0,.slice none 0 0,.slice none 0 0,.slice none 0 0,.slice none 0 0,.slice none 0 0,.slice none 0 0]:Array Value).size:=by kernel_rfl
theorem apply_any(n:Nat)(b:BankL)(c:CmdL)(CC:Array Value)(w:World)(hcc:c.cells.toArray=CC)(h:b.In w)(hI:Inv n b.bank)(hn:n≤900)(hci:c.In w)(hcz:CmdSz c.cmd)(hG:Gm w)(hF:Fld w){r:Int×Bank}(hr:aplE b.bank c.cmd=r) :
    Calls Tryz.prog 11 #[b.agg,.agg CC] w fun e w'=>RetAp w.heap.size r e w'∧Ext w w':=by
 obtain⟨CBK,hcb,hnb,h1b,hkb⟩:=b.packed;have HCP:=Hi (fun(W:World) (hx:Ext w W)=>bcopyO_any b W (h.ext hx) (hI.sz (by omega)));rw[hcb]at HCP ⊢;have HX0:Hid (Ext w (((w.alloc (.cells CBK 31)).alloc (.cells CC 48)).alloc (.cells #[.int .i64 0,.slice none 0 0,.slice none 0 0,.slice none 0 0,.slice none 0 0,.slice none 0 0,.slice none 0 0] 31))):=Hi ((((Ext.refl _).alloc _).alloc _).alloc _);have HB0:Hid ((((w.alloc (.cells CBK 31)).alloc (.cells CC 48)).alloc (.cells #[.int .i64 0,.slice none 0 0,.slice none 0 0,.slice none 0 0,.slice none 0 0,.slice none 0 0,.slice none 0 0] 31)).heap[w.heap.size]?=some (.cells CBK 31 (0,0))):=Hi ((((Ext.refl _).alloc _).alloc _).blockAt (heap_alloc_new w _));have HC0:Hid ((((w.alloc (.cells CBK 31)).alloc (.cells CC 48)).alloc (.cells #[.int .i64 0,.slice none 0 0,.slice none 0 0,.slice none 0 0,.slice none 0 0,.slice none 0 0,.slice none 0 0] 31)).heap[w.heap.size+1]?=some (.cells CC 48 (0,0))):=Hi (((Ext.refl _).alloc _).blockAt (heap_new_at _ _ _ (by simp)));have HZ0:Hid ((((w.alloc (.cells CBK 31)).alloc (.cells CC 48)).alloc (.cells #[.int .i64 0,.slice none 0 0,.slice none 0 0,.slice none 0 0,.slice none 0 0,.slice none 0 0,.slice none 0 0] 31)).heap[w.heap.size+1+1]?=some (.cells #[.int .i64 0,.slice none 0 0,.slice none 0 0,.slice none 0 0,.slice none 0 0,.slice none 0 0,.slice none 0 0] 31 (0,0))):=Hi (heap_new_at _ _ _ (by simp));have HSZ0:Hid ((((w.alloc (.cells CBK 31)).alloc (.cells CC 48)).alloc (.cells #[.int .i64 0,.slice none 0 0,.slice none 0 0,.slice none 0 0,.slice none 0 0,.slice none 0 0,.slice none 0 0] 31)).heap.size=w.heap.size+3):=Hi (by simp);have cb0:(((w.alloc (.cells CBK 31)).alloc (.cells CC 48)).alloc (.cells #[.int .i64 0,.slice none 0 0,.slice none 0 0,.slice none 0 0,.slice none 0 0,.slice none 0 0,.slice none 0 0] 31)).cell? ⟨w.heap.size,0,none⟩=some (.int .i64 b.now):=(cell_of_row _ _ 0 _ _ _ HB0.out).trans (by rw[← hkb];rfl);have cc0:(((w.alloc (.cells CBK 31)).alloc (.cells CC 48)).alloc (.cells #[.int .i64 0,.slice none 0 0,.slice none 0 0,.slice none 0 0,.slice none 0 0,.slice none 0 0,.slice none 0 0] 31)).cell? ⟨w.heap.size+1,0,none⟩=some (.int .i64 c.kind):=(cell_of_row _ _ 0 _ _ _ HC0.out).trans (by rw[← hcc];rfl);have cc1:(((w.alloc (.cells CBK 31)).alloc (.cells CC 48)).alloc (.cells #[.int .i64 0,.slice none 0 0,.slice none 0 0,.slice none 0 0,.slice none 0 0,.slice none 0 0,.slice none 0 0] 31)).cell? ⟨w.heap.size+1,1,none⟩=some (.int .i64 c.user):=(cell_of_row _ _ 1 _ _ _ HC0.out).trans (by rw[← hcc];rfl);have cc3:(((w.alloc (.cells CBK 31)).alloc (.cells CC 48)).alloc (.cells #[.int .i64 0,.slice none 0 0,.slice none 0 0,.slice none 0 0,.slice none 0 0,.slice none 0 0,.slice none 0 0] 31)).cell? ⟨w.heap.size+1,3,none⟩=some (.int .i64 c.time):=(cell_of_row _ _ 3 _ _ _ HC0.out).trans (by rw[← hcc];rfl);have K0:Hid (CC[0]?=some (.int .i64 c.kind)):=Hi (by rw[← hcc];rfl);have K3:Hid (CC[3]?=some (.int .i64 c.time)):=Hi (by rw[← hcc];rfl);have IB:Hid ((Tryz.prog.info? 31).map (·.size)=some CBK.size):=Hi (infoBk hnb);have IC:Hid ((Tryz.prog.info? 48).map (·.size)=some CC.size):=Hi (infoCm (by rw[← hcc];rfl));have HCC:=Hi hcc;have HI:=Hi hI;have HCI:=Hi hci;have HCZ:=Hi hcz;have HGM:=Hi hG;have HFD:=Hi hF;have HR:=Hi hr;clear hcc h hI hci hcz hG hF hr hcb hnb h1b hkb;by_cases hk:c.kind<1∨8<c.kind
 · have hz:Hid (r=(1,zB)):=Hi (by rw[← HR.out];unfold aplE;rw[if_pos (show c.cmd.kind<1∨8<c.cmd.kind from hk)]);have hcase:c.kind<1∨(¬ c.kind<1∧8<c.kind):=(by omega);clear hk;rcases hcase with g1 | ⟨g1,g2⟩
   all_goals
    go_enter Tryz.func11,Tryz.ntmps11
    have HXZ:Hid (Ext w ((((w.alloc (.cells CBK 31)).alloc (.cells CC 48)).alloc (.cells #[.int .i64 0,.slice none 0 0,.slice none 0 0,.slice none 0 0,.slice none 0 0,.slice none 0 0,.slice none 0 0] 31)).setRow (w.heap.size+1+1) #[.int .i64 0,.slice none 0 0,.slice none 0 0,.slice none 0 0,.slice none 0 0,.slice none 0 0,.slice none 0 0])):=Hi (HX0.out.rowSet (by omega) _);have HZZ:=HZ0;have HZS:=Hi (setRow_heap _ _ _ #[.int .i64 0,.slice none 0 0,.slice none 0 0,.slice none 0 0,.slice none 0 0,.slice none 0 0,.slice none 0 0] _ _ HZZ.out);have IZ:=Hi inZ;have OZ:Hid ((#[.int .i64 0,.slice none 0 0,.slice none 0 0,.slice none 0 0,.slice none 0 0,.slice none 0 0,.slice none 0 0]:Array Value).all (·.oneCell')=true):=Hi (by simp[Value.oneCell']);go_wp2_with (with_reducible refine wpList_store_row rfl 31 (.tmp 4) (.tmp 16) rfl (w.heap.size+1+1) #[.int .i64 0,.slice none 0 0,.slice none 0 0,.slice none 0 0,.slice none 0 0,.slice none 0 0,.slice none 0 0] (by with_unfolding_all rfl) (by with_unfolding_all rfl) _ _ HZZ.out IZ.out (by rfl) OZ.out ?_)
    refine bodyPost_ret (v:=.tuple #[.agg #[.int .i64 0,.slice none 0 0,.slice none 0 0,.slice none 0 0,.slice none 0 0,.slice none 0 0,.slice none 0 0],.int .i64 1]) (results_ct Tryz.results11 _ _ (w.heap.size+1+1) _ _ _ _ rfl HZS.out Tryz.underlying31 rfl IZ.out rfl) rfl ?_;exact⟨⟨BankL.zero,by rw[hz.out];rfl,by rw[hz.out];rfl,zero_in _,zero_from _⟩,HXZ.out⟩
 have hk1:¬ c.kind<1:=fun e=>hk (Or.inl e);have hk2:¬ 8<c.kind:=fun e=>hk (Or.inr e);have HK:=Hi hk;by_cases hu:c.user<1∨9999999<c.user∨c.time<0∨1099511627776<c.time
 · have hz:Hid (r=(3,zB)):=Hi (by rw[← HR.out];unfold aplE;rw[if_neg (show ¬ (c.cmd.kind<1∨8<c.cmd.kind)from HK.out),if_pos (show c.cmd.user<1∨9999999<c.cmd.user∨c.cmd.time<0∨1099511627776<c.cmd.time from hu)]);have hcase:c.user<1∨(¬ c.user<1∧9999999<c.user)∨(¬ c.user<1∧¬ 9999999<c.user∧c.time<0)∨(¬ c.user<1∧¬ 9999999<c.user∧¬ c.time<0∧1099511627776<c.time):=(by omega);clear hu hk;rcases hcase with g1 | ⟨g1,g2⟩ | ⟨g1,g2,g3⟩ | ⟨g1,g2,g3,g4⟩
   all_goals
    go_enter Tryz.func11,Tryz.ntmps11
    have HXZ:Hid (Ext w ((((w.alloc (.cells CBK 31)).alloc (.cells CC 48)).alloc (.cells #[.int .i64 0,.slice none 0 0,.slice none 0 0,.slice none 0 0,.slice none 0 0,.slice none 0 0,.slice none 0 0] 31)).setRow (w.heap.size+1+1) #[.int .i64 0,.slice none 0 0,.slice none 0 0,.slice none 0 0,.slice none 0 0,.slice none 0 0,.slice none 0 0])):=Hi (HX0.out.rowSet (by omega) _);have HZZ:=HZ0;have HZS:=Hi (setRow_heap _ _ _ #[.int .i64 0,.slice none 0 0,.slice none 0 0,.slice none 0 0,.slice none 0 0,.slice none 0 0,.slice none 0 0] _ _ HZZ.out);have IZ:=Hi inZ;have OZ:Hid ((#[.int .i64 0,.slice none 0 0,.slice none 0 0,.slice none 0 0,.slice none 0 0,.slice none 0 0,.slice none 0 0]:Array Value).all (·.oneCell')=true):=Hi (by simp[Value.oneCell']);go_wp2_with (with_reducible refine wpList_store_row rfl 31 (.tmp 4) (.tmp 35) rfl (w.heap.size+1+1) #[.int .i64 0,.slice none 0 0,.slice none 0 0,.slice none 0 0,.slice none 0 0,.slice none 0 0,.slice none 0 0] (by with_unfolding_all rfl) (by with_unfolding_all rfl) _ _ HZZ.out IZ.out (by rfl) OZ.out ?_)
    refine bodyPost_ret (v:=.tuple #[.agg #[.int .i64 0,.slice none 0 0,.slice none 0 0,.slice none 0 0,.slice none 0 0,.slice none 0 0,.slice none 0 0],.int .i64 3]) (results_ct Tryz.results11 _ _ (w.heap.size+1+1) _ _ _ _ rfl HZS.out Tryz.underlying31 rfl IZ.out rfl) rfl ?_;exact⟨⟨BankL.zero,by rw[hz.out];rfl,by rw[hz.out];rfl,zero_in _,zero_from _⟩,HXZ.out⟩
 have hu1:¬ c.user<1:=fun e=>hu (Or.inl e);have hu2:¬ 9999999<c.user:=fun e=>hu (Or.inr (Or.inl e));have hu3:¬ c.time<0:=fun e=>hu (Or.inr (Or.inr (Or.inl e)));have hu4:¬ 1099511627776<c.time:=fun e=>hu (Or.inr (Or.inr (Or.inr e)));have HU:=Hi hu;have HTM:Hid (In64 c.time):=Hi HCI.out.time;by_cases ht:c.time<b.now
 · have hz:Hid (r=(15,zB)):=Hi (by rw[← HR.out];unfold aplE;rw[if_neg (show ¬ (c.cmd.kind<1∨8<c.cmd.kind)from HK.out),if_neg (show ¬ (c.cmd.user<1∨9999999<c.cmd.user∨c.cmd.time<0∨1099511627776<c.cmd.time)from HU.out),if_pos (show c.cmd.time<b.bank.now from ht)]);clear hu hk;go_enter Tryz.func11,Tryz.ntmps11
   have HXZ:Hid (Ext w ((((w.alloc (.cells CBK 31)).alloc (.cells CC 48)).alloc (.cells #[.int .i64 0,.slice none 0 0,.slice none 0 0,.slice none 0 0,.slice none 0 0,.slice none 0 0,.slice none 0 0] 31)).setRow (w.heap.size+1+1) #[.int .i64 0,.slice none 0 0,.slice none 0 0,.slice none 0 0,.slice none 0 0,.slice none 0 0,.slice none 0 0])):=Hi (HX0.out.rowSet (by omega) _);have HZZ:=HZ0;have HZS:=Hi (setRow_heap _ _ _ #[.int .i64 0,.slice none 0 0,.slice none 0 0,.slice none 0 0,.slice none 0 0,.slice none 0 0,.slice none 0 0] _ _ HZZ.out);have IZ:=Hi inZ;have OZ:Hid ((#[.int .i64 0,.slice none 0 0,.slice none 0 0,.slice none 0 0,.slice none 0 0,.slice none 0 0,.slice none 0 0]:Array Value).all (·.oneCell')=true):=Hi (by simp[Value.oneCell']);go_wp2_with (with_reducible refine wpList_store_row rfl 31 (.tmp 4) (.tmp 41) rfl (w.heap.size+1+1) #[.int .i64 0,.slice none 0 0,.slice none 0 0,.slice none 0 0,.slice none 0 0,.slice none 0 0,.slice none 0 0] (by with_unfolding_all rfl) (by with_unfolding_all rfl) _ _ HZZ.out IZ.out (by rfl) OZ.out ?_)
   refine bodyPost_ret (v:=.tuple #[.agg #[.int .i64 0,.slice none 0 0,.slice none 0 0,.slice none 0 0,.slice none 0 0,.slice none 0 0,.slice none 0 0],.int .i64 15]) (results_ct Tryz.results11 _ _ (w.heap.size+1+1) _ _ _ _ rfl HZS.out Tryz.underlying31 rfl IZ.out rfl) rfl ?_;exact⟨⟨BankL.zero,by rw[hz.out];rfl,by rw[hz.out];rfl,zero_in _,zero_from _⟩,HXZ.out⟩
 have HT:=Hi ht;have HRR:Hid (r=if(subE b.bank c.cmd).1≠0 then((subE b.bank c.cmd).1,zB)else(0,{ (subE b.bank c.cmd).2 with now:=c.time })):=Hi (by rw[← HR.out];unfold aplE;rw[if_neg (show ¬ (c.cmd.kind<1∨8<c.cmd.kind)from HK.out),if_neg (show ¬ (c.cmd.user<1∨9999999<c.cmd.user∨c.cmd.time<0∨1099511627776<c.cmd.time)from HU.out),if_neg (show ¬ c.cmd.time<b.bank.now from ht)];rfl);obtain⟨er,her⟩:∃ z,(subE b.bank c.cmd).1=z:=⟨_,rfl⟩;obtain⟨bo,hbo⟩:∃ z,(subE b.bank c.cmd).2=z:=⟨_,rfl⟩;have HSE:Hid (subE b.bank c.cmd=(er,bo)):=Hi (Prod.ext her hbo);rw[her,hbo]at HRR;clear hu hk ht her hbo;go_enter Tryz.func11,Tryz.ntmps11
 go_wp2_with (with_reducible refine wpList_load_row rfl 31 (.tmp 2) rfl (w.heap.size) (by with_unfolding_all rfl) _ CBK _ _ HB0.out Tryz.underlying31 rfl IB.out ?_)
 with_reducible refine(HCP.out _ HX0.out).mono ?_
 rintro e w1 ⟨⟨b',rfl,hbb,hown⟩,hb1⟩;obtain⟨CN,hcn,hnn,h1n,hkn⟩:=b'.packed;rw[hcn];have HNN:Hid ((#[.int .i64 0,.slice none 0 0,.slice none 0 0,.slice none 0 0,.slice none 0 0,.slice none 0 0,.slice none 0 0]:Array Value).size=CN.size):=Hi hnn.symm;have HN7:=Hi hnn;have IN_:Hid ((Tryz.prog.info? 31).map (·.size)=some CN.size):=Hi (infoBk hnn);have ON:=Hi h1n;have HBB:=Hi hbb;have X01:=Hi hb1;have XA:Hid (Ext w1 (w1.alloc (.cells CN 31))):=Hi ((Ext.refl _).alloc _);have X02:Hid (Ext (((w.alloc (.cells CBK 31)).alloc (.cells CC 48)).alloc (.cells #[.int .i64 0,.slice none 0 0,.slice none 0 0,.slice none 0 0,.slice none 0 0,.slice none 0 0,.slice none 0 0] 31)) (w1.alloc (.cells CN 31))):=Hi (hb1.trans XA.out);have HNM:Hid (Nm (((w.alloc (.cells CBK 31)).alloc (.cells CC 48)).alloc (.cells #[.int .i64 0,.slice none 0 0,.slice none 0 0,.slice none 0 0,.slice none 0 0,.slice none 0 0,.slice none 0 0] 31)).heap.size w1.heap.size b'.cells.toArray b' (w1.alloc (.cells CN 31))):=Hi ⟨by rw[hkn];exact heap_alloc_new w1 _,hown.ext XA.out,fun x hx=>eEntO.off (hown.e.ins x hx) (Nat.le_refl _)⟩;have HGE:Hid ((((w.alloc (.cells CBK 31)).alloc (.cells CC 48)).alloc (.cells #[.int .i64 0,.slice none 0 0,.slice none 0 0,.slice none 0 0,.slice none 0 0,.slice none 0 0,.slice none 0 0] 31)).heap.size≤w1.heap.size):=Hi hb1.size;clear hbb hown hb1 hcn hnn h1n hkn cb0 cc0 cc1 cc3 hk1 hk2 hu1 hu2 hu3 hu4;generalize ((w.alloc (.cells CBK 31)).alloc (.cells CC 48)).alloc (.cells #[.int .i64 0,.slice none 0 0,.slice none 0 0,.slice none 0 0,.slice none 0 0,.slice none 0 0,.slice none 0 0] 31)=W0 at HX0 HC0 HZ0 HSZ0 X01 X02 HNM HGE ⊢;have hsz0:=HSZ0.out;have HC2:=Hi (X02.out.blockAt HC0.out);have HIb:Hid (Inv n b'.bank):=Hi (by rw[HBB.out];exact HI.out);have HCI0:=Hi (HCI.out.ext HX0.out);have HGM0:=Hi (HGM.out.ext HX0.out);have HFD0:=Hi (fun(w':World) (hx:Ext W0 w')=>HFD.out.ext (HX0.out.trans hx));have H18:Hid (1≤c.kind∧c.kind≤8):=Hi (by have:=HK.out;omega);rw[← HBB.out]at HSE;have ho1:(b'.outl.length+1)*32≤140737488355328:=by have h:b'.outl.length≤n:=HIb.out.outl;omega
 have ho2:b'.outl.length≤9223372036854775807:=by omega
 have ha1:(b'.assets.length+1)*48≤140737488355328:=by have h:b'.assets.length≤n:=HIb.out.assets;omega
 have ha2:b'.assets.length*48≤140737488355328:=by omega
 have he1:(b'.ents.length+1)*136≤140737488355328:=by have h:=inv_len HIb.out;omega
 have hn1:b'.enem.length≤999:=by have h:b'.enem.length≤n:=HIb.out.enem;omega
 have hs1:c.item.1.assets.length*8≤140737488355328:=HCZ.out.item.2.2.2;have HVO:Hid (VerOk b'):=Hi (fun x hx=>(inv_ver HIb.out x hx).1);have HVS:Hid (∀ x∈b'.ents,(x.vs.length+1)*216≤140737488355328):=Hi (fun x hx=>by have h:=(inv_ver HIb.out x hx).2;omega);have HRV:=Hi (inv_rev HIb.out (by omega));have hk18:=H18.out;obtain⟨kd,hkd⟩:∃ z,c.kind=z:=⟨_,rfl⟩;have HKD:Hid (c.cmd.kind=kd):=Hi hkd;rw[hkd]at hk18 K0;have hcase:kd=1∨kd=2∨kd=3∨kd=4∨kd=5∨kd=6∨kd=7∨kd=8:=by omega
 clear hkd hk18;rcases hcase with rfl | rfl | rfl | rfl | rfl | rfl | rfl | rfl
 all_goals
  have ck:=(cell_of_row _ _ 0 _ _ _ HC2.out).trans K0.out;go_wp2_with (first | (with_reducible refine wpList_store_newN rfl 31 (.tmp 6) (.tmp 43) rfl (w1.heap.size) (by simp) _ CN 31 (by with_unfolding_all rfl) (by with_unfolding_all rfl) IN_.out (by with_unfolding_all exact HN7.out.symm) ON.out ?_) | (with_reducible refine wpList_load_row rfl 48 (.tmp 3) rfl (w.heap.size+1) (by with_unfolding_all rfl) _ CC _ _ HC2.out Tryz.underlying48 rfl IC.out ?_))
  first
   | (have hse:((adT b'.bank c.roles c.topic).1,({ b'.bank with outl:=(adT b'.bank c.roles c.topic).2 }:Bank))=(er,bo):=by
        have h:=HSE.out;unfold subE at h;rw[if_pos HKD.out]at h;exact h
      injection hse with hse1 hse2;have HBO:=Hi hse2.symm;have HFN:Hid (adT b'.bank c.roles c.topic=(er,(adT b'.bank c.roles c.topic).2)):=Hi (Prod.ext hse1 rfl);clear hse1 hse2;with_reducible refine(addTopic_any W0 b' w1.heap.size c CC _ X02.out HGE.out HNM.out HCC.out HCI0.out HGM0.out ho1 HFN.out).mono ?_)
   | (have hse:((adA b'.bank c.roles c.asset).1,({ b'.bank with assets:=(adA b'.bank c.roles c.asset).2 }:Bank))=(er,bo):=by
        have h:=HSE.out;unfold subE at h;rw[if_neg (by rw[HKD.out];decide),if_pos HKD.out]at h;exact h
      injection hse with hse1 hse2;have HBO:=Hi hse2.symm;have HFN:Hid (adA b'.bank c.roles c.asset=(er,(adA b'.bank c.roles c.asset).2)):=Hi (Prod.ext hse1 rfl);clear hse1 hse2;with_reducible refine(addAsset_any W0 b' w1.heap.size c CC _ X02.out HGE.out HNM.out HCC.out HCI0.out ha1 HFN.out).mono ?_)
   | (have hse:((crtE b'.bank c.cmd (refE b'.bank c.item.1.cont c.item.1.assets c.time)).1,({ b'.bank with ents:=(crtE b'.bank c.cmd (refE b'.bank c.item.1.cont c.item.1.assets c.time)).2 }:Bank))=(er,bo):=by
        have h:=HSE.out;unfold subE at h;rw[if_neg (by rw[HKD.out];decide),if_neg (by rw[HKD.out];decide),if_pos HKD.out]at h;exact h
      injection hse with hse1 hse2;have HBO:=Hi hse2.symm;have HFN:Hid (crtE b'.bank c.cmd (refE b'.bank c.item.1.cont c.item.1.assets c.time)=(er,(crtE b'.bank c.cmd (refE b'.bank c.item.1.cont c.item.1.assets c.time)).2)):=Hi (Prod.ext hse1 rfl);clear hse1 hse2;with_reducible refine(create_any W0 b' w1.heap.size c CC _ X02.out HGE.out HNM.out HCC.out HCI0.out HGM0.out HCZ.out HVO.out ho2 ha2 he1 hs1 HFN.out).mono ?_)
   | (have hse:((rvsE b'.bank c.cmd (refE b'.bank c.item.1.cont c.item.1.assets c.time)).1,({ b'.bank with ents:=(rvsE b'.bank c.cmd (refE b'.bank c.item.1.cont c.item.1.assets c.time)).2 }:Bank))=(er,bo):=by
        have h:=HSE.out;unfold subE at h;rw[if_neg (by rw[HKD.out];decide),if_neg (by rw[HKD.out];decide),if_neg (by rw[HKD.out];decide),if_pos HKD.out]at h;exact h
      injection hse with hse1 hse2;have HBO:=Hi hse2.symm;have HFN:Hid (rvsE b'.bank c.cmd (refE b'.bank c.item.1.cont c.item.1.assets c.time)=(er,(rvsE b'.bank c.cmd (refE b'.bank c.item.1.cont c.item.1.assets c.time)).2)):=Hi (Prod.ext hse1 rfl);clear hse1 hse2;with_reducible refine(revise_any W0 b' w1.heap.size c CC _ X02.out HGE.out HNM.out HCC.out HCI0.out HGM0.out HFD0.out HCZ.out HRV.out HVS.out ho2 ha2 hs1 HFN.out).mono ?_)
   | (have hse:((actE b'.bank c.cmd).1,({ b'.bank with ents:=(actE b'.bank c.cmd).2 }:Bank))=(er,bo):=by
        have h:=HSE.out;unfold subE at h;rw[if_neg (by rw[HKD.out];decide),if_neg (by rw[HKD.out];decide),if_neg (by rw[HKD.out];decide),if_neg (by rw[HKD.out];decide),if_pos HKD.out]at h;exact h
      injection hse with hse1 hse2;have HBO:=Hi hse2.symm;have HFN:Hid (actE b'.bank c.cmd=(er,(actE b'.bank c.cmd).2)):=Hi (Prod.ext hse1 rfl);clear hse1 hse2;with_reducible refine(act_any W0 b' w1.heap.size c CC _ X02.out HGE.out HNM.out HCC.out HCI0.out HRV.out HFN.out).mono ?_)
   | (have hse:((relE b'.bank c.cmd).1,({ b'.bank with enem:=(relE b'.bank c.cmd).2 }:Bank))=(er,bo):=by
        have h:=HSE.out;unfold subE at h;rw[if_neg (by rw[HKD.out];decide),if_neg (by rw[HKD.out];decide),if_neg (by rw[HKD.out];decide),if_neg (by rw[HKD.out];decide),if_neg (by rw[HKD.out];decide),if_pos (by rw[HKD.out];decide)]at h;exact h
      injection hse with hse1 hse2;have HBO:=Hi hse2.symm;have HFN:Hid (relE b'.bank c.cmd=(er,(relE b'.bank c.cmd).2)):=Hi (Prod.ext hse1 rfl);clear hse1 hse2;with_reducible refine(relate_any W0 b' w1.heap.size c CC _ X02.out HGE.out HNM.out HCC.out HCI0.out hn1 HFN.out).mono ?_)
   | (have hse:((setE b'.bank c.cmd).1,({ b'.bank with ents:=(setE b'.bank c.cmd).2 }:Bank))=(er,bo):=by
        have h:=HSE.out;unfold subE at h;rw[if_neg (by rw[HKD.out];decide),if_neg (by rw[HKD.out];decide),if_neg (by rw[HKD.out];decide),if_neg (by rw[HKD.out];decide),if_neg (by rw[HKD.out];decide),if_neg (by rw[HKD.out];decide)]at h;exact h
      injection hse with hse1 hse2;have HBO:=Hi hse2.symm;have HFN:Hid (setE b'.bank c.cmd=(er,(setE b'.bank c.cmd).2)):=Hi (Prod.ext hse1 rfl);clear hse1 hse2;with_reducible refine(setModel_any W0 b' w1.heap.size c CC _ X02.out HGE.out HNM.out HCC.out HCI0.out HCZ.out HFN.out).mono ?_)
  rintro e w3 ⟨rfl,hret⟩;obtain⟨⟨b2,hF,hnm⟩,hx3⟩:=hret;have HF:Hid (b2.bank=bo):=Hi (by rw[HBO.out];exact hF);have HN3:=Hi hnm;have HX3:=Hi hx3;have HZ3:=Hi (hx3.blockAt HZ0.out);have HC3:=Hi (hx3.blockAt HC0.out);have HWX:=Hi (HX0.out.trans hx3);clear hF hnm hx3 ck;by_cases he:er=0;case neg =>
   have hz:Hid (r=(er,zB)):=Hi (by rw[HRR.out,if_pos he]);have HXZ:Hid (Ext w (w3.setRow (w.heap.size+1+1) #[.int .i64 0,.slice none 0 0,.slice none 0 0,.slice none 0 0,.slice none 0 0,.slice none 0 0,.slice none 0 0])):=Hi (HWX.out.rowSet (by omega) _);have HZZ:=HZ3;have HZS:=Hi (setRow_heap _ _ _ #[.int .i64 0,.slice none 0 0,.slice none 0 0,.slice none 0 0,.slice none 0 0,.slice none 0 0,.slice none 0 0] _ _ HZZ.out);have IZ:=Hi inZ;have OZ:Hid ((#[.int .i64 0,.slice none 0 0,.slice none 0 0,.slice none 0 0,.slice none 0 0,.slice none 0 0,.slice none 0 0]:Array Value).all (·.oneCell')=true):=Hi (by simp[Value.oneCell']);go_wp2_with (with_reducible refine wpList_store_row rfl 31 (.tmp 4) (.tmp 77) rfl (w.heap.size+1+1) #[.int .i64 0,.slice none 0 0,.slice none 0 0,.slice none 0 0,.slice none 0 0,.slice none 0 0,.slice none 0 0] (by with_unfolding_all rfl) (by with_unfolding_all rfl) _ _ HZZ.out IZ.out (by rfl) OZ.out ?_)
   refine bodyPost_ret (v:=.tuple #[.agg #[.int .i64 0,.slice none 0 0,.slice none 0 0,.slice none 0 0,.slice none 0 0,.slice none 0 0,.slice none 0 0],.int .i64 er]) (results_ct Tryz.results11 _ _ (w.heap.size+1+1) _ _ _ _ rfl HZS.out Tryz.underlying31 rfl IZ.out rfl) rfl ?_;exact⟨⟨BankL.zero,by rw[hz.out];rfl,by rw[hz.out];rfl,zero_in _,zero_from _⟩,HXZ.out⟩
  case pos =>
  subst he;have hz:Hid (r=(0,{ bo with now:=c.time })):=Hi (by rw[HRR.out,if_neg (by simp)]);have ct:w3.cell? ⟨w.heap.size+1,3,none⟩=some (.int .i64 c.time):=(cell_of_row _ _ 3 _ _ _ HC3.out).trans K3.out;have cg:w3.cell? ⟨w1.heap.size,0,none⟩=some (.int .i64 b2.now):=(cell_of_row _ _ 0 _ _ _ HN3.out.row).trans rfl;have fz:=frozen_of_row _ _ 0 _ _ HN3.out.row;have HN4:Hid (Nm W0.heap.size w1.heap.size (b2.setT c.time).cells.toArray (b2.setT c.time) (w3.setCell ⟨w1.heap.size,0,none⟩ (.int .i64 c.time))):=Hi (by have h:=HN3.out.store 0 (.int .i64 c.time);rw[← setT_cells]at h;exact⟨h.row,⟨HTM.out,h.own.p,h.own.q,h.own.o,h.own.s,h.own.e,h.own.ef,h.own.pw,h.own.eo,h.own.es,h.own.n⟩,h.off⟩)
  have HX4:Hid (Ext W0 (w3.setCell ⟨w1.heap.size,0,none⟩ (.int .i64 c.time))):=Hi (HX3.out.setCell (p:=⟨w1.heap.size,0,none⟩) HGE.out _);have HZ4:=Hi (HX4.out.blockAt HZ0.out);obtain⟨CF,hCF⟩:∃ C,(b2.setT c.time).cells.toArray=C:=⟨_,rfl⟩;have HCF:=Hi hCF;have HG4:Hid ((w3.setCell ⟨w1.heap.size,0,none⟩ (.int .i64 c.time)).heap[w1.heap.size]?=some (.cells CF 31 (0,0))):=Hi (by rw[← hCF];exact HN4.out.row);have HSZ:Hid (CF.size=7):=Hi (by rw[← hCF];rfl);have IF_:Hid ((Tryz.prog.info? 31).map (·.size)=some CF.size):=Hi (infoBk HSZ.out);have HZF:Hid ((#[.int .i64 0,.slice none 0 0,.slice none 0 0,.slice none 0 0,.slice none 0 0,.slice none 0 0,.slice none 0 0]:Array Value).size=CF.size):=Hi HSZ.out.symm;have OF:Hid (CF.all (·.oneCell')=true):=Hi (by rw[← hCF];simp[BankL.cells,IL.val,Value.oneCell']);have HWX4:=Hi (HX0.out.trans HX4.out);have HZ5:=Hi (setRow_heap _ _ _ CF _ _ HZ4.out);have HIN:Hid ((b2.setT c.time).In ((w3.setCell ⟨w1.heap.size,0,none⟩ (.int .i64 c.time)).setRow (w.heap.size+1+1) CF)):=Hi (by refine(OwnBk.keep HN4.out.own HZ4.out (by decide) (by decide) (by decide) (by decide) (by decide) (fun x hx=>eEntO.frm (HN4.out.own.ef x hx) (by omega)) (But.setRow _ _ CF)).in_)
  have HFR:Hid ((b2.setT c.time).From w.heap.size):=Hi (HN4.out.own.from_.mono HX0.out.size);clear hCF;go_wp2_with (first | (with_reducible refine wpList_load_row rfl 31 (.tmp 6) rfl (w1.heap.size) (by with_unfolding_all rfl) _ CF _ _ HG4.out Tryz.underlying31 rfl IF_.out ?_) | (with_reducible refine wpList_store_row rfl 31 (.tmp 4) (.tmp 82) rfl (w.heap.size+1+1) CF (by with_unfolding_all rfl) (by with_unfolding_all rfl) _ _ HZ4.out IF_.out HZF.out OF.out ?_))
  refine bodyPost_ret (v:=.tuple #[.agg CF,.int .i64 0]) (results_ct Tryz.results11 _ _ (w.heap.size+1+1) _ _ _ _ rfl HZ5.out Tryz.underlying31 rfl IF_.out rfl) rfl ?_;refine⟨⟨b2.setT c.time,by rw[hz.out,← HCF.out];rfl,?_,HIN.out,HFR.out⟩,HWX4.out.rowSet (by omega) _⟩;rw[hz.out];show(⟨c.time,b2.gp.xs,b2.gq.xs,b2.outl,b2.assets,b2.ents.map (·.ent),b2.enem⟩:Bank)={ bo with now:=c.time };rw[← HF.out];rfl
end Bk
set_option maxRecDepth 100000
set_option maxHeartbeats 12800000
open Go.RowKit
namespace Bk
def tA:ByteArray:={ data:=#[65] }
def tT:ByteArray:={ data:=#[65,108,103,101,98,114,97] }
def cmd0:CmdL:=⟨1,1,16,5,0,0,0,(zItem,zLoc),(tA,tT),⟨0,0,⟨#[]⟩,0,0⟩,none,0,[]⟩
theorem in_z:In64 0:=⟨by decide,by decide⟩
theorem cmd0_in(w:World):cmd0.In w:=⟨⟨by decide,by decide⟩,⟨by decide,by decide⟩,⟨by decide,by decide⟩,⟨by decide,by decide⟩,in_z,in_z,in_z,zItem_in w,⟨by decide,by decide⟩,⟨by decide,in_z,in_z,in_z,in_z⟩,SlX.nil _ _,Nat.le_refl _,Nat.zero_le _⟩
theorem cmd0_sz:CmdSz cmd0.cmd:=⟨⟨Nat.zero_le _,Nat.zero_le _,Nat.zero_le _,Nat.zero_le _⟩,Nat.zero_le _,fun r hr=>by cases hr⟩
theorem apl_cmd0:aplE (nBank [-100,100] [1,1]) cmd0.cmd=(0,{ nBank [-100,100] [1,1]with now:=5,outl:=[(tA,tT)] }):=by
 have h1:hasR 16 16=true:=by decide
 have h2:ctE [(tA,tT)]=0:=by decide
 have h3:topI [] (tA,tT)=[(tA,tT)]:=rfl;have h4:adT (nBank [-100,100] [1,1]) 16 (tA,tT)=(0,[(tA,tT)]):=by unfold adT;rw[h1];show(ctE (topI [] (tA,tT)),topI [] (tA,tT))=_;rw[h3,h2]
 have h5:subE (nBank [-100,100] [1,1]) cmd0.cmd=(0,{ nBank [-100,100] [1,1]with outl:=[(tA,tT)] }):=by unfold subE;rw[if_pos (show cmd0.cmd.kind=1 from rfl)];show((adT (nBank [-100,100] [1,1]) 16 (tA,tT)).1,_)=_;rw[h4];show((0:Int),{ nBank [-100,100] [1,1]with outl:=(adT (nBank [-100,100] [1,1]) 16 (tA,tT)).2 })=_;rw[h4]
 unfold aplE;rw[h5];rfl
theorem pts_in(a b:Int)(ha:In64 a)(hb:In64 b){w:World}{g:Nat}(h:Sl w 1 (some ⟨g,0,none⟩) ([.int .i64 a,.int .i64 b].map fun v=>[v])):IL.In w ⟨some ⟨g,0,none⟩,2,[a,b]⟩ :=
 ⟨h,Nat.le_refl _,(by show 2≤maxLen;unfold maxLen;decide),fun x hx=>by
  rcases List.mem_cons.1 hx with rfl | hx
  · exact ha
  · rw[List.mem_singleton]at hx;rw[hx];exact hb⟩
theorem awake_any(w:World)(hG:Gm w)(hF:Fld w):Calls Tryz.prog 9 #[] w fun e w'=>e=.returned (.bool true)∧Ext w w':=by
 have HGM:=Hi hG;have HFD:=Hi hF;have X1:Hid (Ext (w.alloc (.cells #[.int .i64 (-100),.int .i64 100] 3)) (((w.alloc (.cells #[.int .i64 (-100),.int .i64 100] 3)).alloc (.cells #[.int .i64 1,.int .i64 1] 3)).alloc (.cells #[.slice (some ⟨w.heap.size,0,none⟩) 2 2,.slice (some ⟨w.heap.size+1,0,none⟩) 2 2] 24))):=Hi (((Ext.refl _).alloc _).alloc _);have X3:Hid (Ext w (((w.alloc (.cells #[.int .i64 (-100),.int .i64 100] 3)).alloc (.cells #[.int .i64 1,.int .i64 1] 3)).alloc (.cells #[.slice (some ⟨w.heap.size,0,none⟩) 2 2,.slice (some ⟨w.heap.size+1,0,none⟩) 2 2] 24))):=Hi ((((Ext.refl _).alloc _).alloc _).alloc _);have HP:Hid (IL.In (((w.alloc (.cells #[.int .i64 (-100),.int .i64 100] 3)).alloc (.cells #[.int .i64 1,.int .i64 1] 3)).alloc (.cells #[.slice (some ⟨w.heap.size,0,none⟩) 2 2,.slice (some ⟨w.heap.size+1,0,none⟩) 2 2] 24)) ⟨some ⟨w.heap.size,0,none⟩,2,[-100,100]⟩):=Hi (pts_in _ _ (by unfold In64;decide) (by unfold In64;decide) (Sl.ext (Sl.new_at w _ 3 _ rfl) X1.out));have HQ:Hid (IL.In (((w.alloc (.cells #[.int .i64 (-100),.int .i64 100] 3)).alloc (.cells #[.int .i64 1,.int .i64 1] 3)).alloc (.cells #[.slice (some ⟨w.heap.size,0,none⟩) 2 2,.slice (some ⟨w.heap.size+1,0,none⟩) 2 2] 24)) ⟨some ⟨w.heap.size+1,0,none⟩,2,[1,1]⟩):=Hi (pts_in _ _ (by unfold In64;decide) (by unfold In64;decide) (Sl.ext (Sl.new_at (w.alloc (.cells #[.int .i64 (-100),.int .i64 100] 3)) _ 3 _ (by simp)) ((Ext.refl _).alloc _)));have hgv:Gv.gridE [-100,100] [1,1]=0:=by decide
 have K:=Hi (bNew_any _ _ (n:=2) (m:=2) rfl rfl hgv _ HP.out HQ.out (by omega) (by omega));have HNB:Hid (Inv 0 (nBank [-100,100] [1,1])):=Hi ⟨by decide,by decide,by decide,by decide,by decide,fun e he=>(by cases he),by decide⟩;clear hG hF hgv;go_enter Tryz.func9,Tryz.ntmps9
 go_wp2_with fail
 refine K.out.mono ?_;rintro r w1 ⟨⟨b',rfl,hbb,hin,-,hoo⟩,hb1⟩;simp only[if_true]at hbb hoo;have HX1:=Hi (X3.out.trans hb1);have HXA:Hid (Ext w1 (w1.alloc (.cells b'.cells.toArray 31))):=Hi ((Ext.refl _).alloc _);have hpts:b'.gp.xs.length=2:=by have h:=congrArg (fun b:Bank=>b.pts.length) hbb;exact h
 have K2:=Hi (fun(CC:Array Value) (W:World) (hx:Ext w1 W) (hcc:cmd0.cells.toArray=CC)=>apply_any 0 b' cmd0 CC W hcc (hin.ext hx) (by rw[hbb];exact HNB.out) (by omega) (cmd0_in W) cmd0_sz (HGM.out.ext (HX1.out.trans hx)) (HFD.out.ext (HX1.out.trans hx)) ((congrArg (fun b=>aplE b cmd0.cmd) hbb).trans apl_cmd0));obtain⟨gA,hgA⟩:∃ A,b'.gp.A=A:=⟨_,rfl⟩;obtain⟨gc,hgc⟩:∃ A,b'.gp.c=A:=⟨_,rfl⟩;obtain⟨CN,hcn,hnn,h1n,hkn⟩:=b'.packed;rw[hcn]at K2;rw[hkn]at HXA;rw[hcn];have HN7:=Hi hnn;have INN:Hid ((Tryz.prog.info? 31).map (·.size)=some CN.size):=Hi (infoBk hnn);have ON:=Hi h1n;have HG2:Hid ((w1.alloc (.cells CN 31)).heap[w1.heap.size]?=some (.cells CN 31 (0,0))):=Hi (heap_alloc_new w1 _);have c1:(w1.alloc (.cells CN 31)).cell? ⟨w1.heap.size,1,none⟩=some (.slice gA 2 gc):=(cell_of_row _ _ 1 _ _ _ HG2.out).trans (by rw[← hkn,← hpts,← hgA,← hgc];rfl);clear hbb hin hoo hb1 hcn hnn h1n hkn hpts hgA hgc;go_wp2_with (first | (with_reducible refine wpList_store_newN rfl 31 (.tmp 2) (.tmp 10) rfl (w1.heap.size) (by simp) _ CN 31 (by with_unfolding_all rfl) (by with_unfolding_all rfl) INN.out (by with_unfolding_all exact HN7.out.symm) ON.out ?_) | (with_reducible refine wpList_load_row rfl 31 (.tmp 2) rfl (w1.heap.size) (by with_unfolding_all rfl) _ CN _ _ HG2.out Tryz.underlying31 rfl INN.out ?_))
 refine(K2.out _ _ HXA.out ?i).mono ?_;case i=>kernel_rfl
 rintro r w3 ⟨⟨b2,rfl,hb2,-,-⟩,hb3⟩;obtain⟨CF,hcf,hsz,hall,hkf⟩:=b2.packed;have hf0:CF[0]?=some (.int .i64 5):=by have h:b2.now=5:=congrArg Bank.now hb2;rw[← hkf,← h];rfl
 obtain⟨A,hA⟩:∃ A,b2.oA=A:=⟨_,rfl⟩;obtain⟨c,hc⟩:∃ A,b2.oc=A:=⟨_,rfl⟩;have hf3:CF[3]?=some (.slice A 1 c):=by have h:b2.outl.length=1:=congrArg List.length (congrArg Bank.outl hb2);rw[← hkf,← h,← hA,← hc];rfl
 rw[hcf];clear hcf hkf hb2 hA hc;have HG3:=Hi (hb3.blockAt HG2.out);have HX3:=Hi ((HX1.out.trans HXA.out).trans hb3);have IF_:Hid ((Tryz.prog.info? 31).map (·.size)=some CF.size):=Hi (infoBk hsz);have HZF:Hid (CN.size=CF.size):=Hi (by rw[HN7.out,hsz]);have OF:=Hi hall;have HG4:Hid ((w3.setRow w1.heap.size CF).heap[w1.heap.size]?=some (.cells CF 31 (0,0))):=Hi (setRow_heap _ _ _ _ _ _ HG3.out);have d0:(w3.setRow w1.heap.size CF).cell? ⟨w1.heap.size,0,none⟩=some (.int .i64 5):=(cell_of_row _ _ 0 _ _ _ HG4.out).trans hf0;have d3:(w3.setRow w1.heap.size CF).cell? ⟨w1.heap.size,3,none⟩=some (.slice A 1 c):=(cell_of_row _ _ 3 _ _ _ HG4.out).trans hf3;have HLE:=Hi HX1.out.size;clear hb3 hsz hall hf0 hf3 c1;go_wp2_with (with_reducible refine wpList_store_row rfl 31 (.tmp 2) (.tmp 26) rfl (w1.heap.size) CF (by with_unfolding_all rfl) (by with_unfolding_all rfl) _ _ HG3.out IF_.out HZF.out OF.out ?_)
 go_ret;exact⟨rfl,HX3.out.rowSet HLE.out _⟩
end Bk
end Go.Proofs.YtfnmgcblhebdbaaGreatDoor
