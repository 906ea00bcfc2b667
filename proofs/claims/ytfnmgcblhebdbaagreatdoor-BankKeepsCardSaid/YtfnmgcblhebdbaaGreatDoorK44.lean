/- What bank.Apply answers, in plain words; how a bank grows. No conditions. -/
import Derived.Test.YtfnmgcblhebdbaaGreatDoorK37
import Derived.Test.YtfnmgcblhebdbaaGreatDoorK42
import Derived.Test.YtfnmgcblhebdbaaGreatDoorK43
import Derived.Test.YtfnmgcblhebdbaaGreatDoorK5
import Derived.Test.YtfnmgcblhebdbaaGreatDoorK12
import Derived.Test.YtfnmgcblhebdbaaGreatDoorK15
import Derived.Test.YtfnmgcblhebdbaaGreatDoorK8
namespace Go.Proofs.YtfnmgcblhebdbaaGreatDoor
namespace Bk
def zB:Bank:=⟨0,[],[],[],[],[],[]⟩
def subE (b:Bank)(c:Cmd):Int×Bank :=
 if c.kind=1 then((adT b c.roles c.topic).1,{ b with outl:=(adT b c.roles c.topic).2 })
 else if c.kind=2 then((adA b c.roles c.asset).1,{ b with assets:=(adA b c.roles c.asset).2 })
 else if c.kind=3 then((crtE b c (refE b c.item.cont c.item.assets c.time)).1,{ b with ents:=(crtE b c (refE b c.item.cont c.item.assets c.time)).2 })
 else if c.kind=4 then((rvsE b c (refE b c.item.cont c.item.assets c.time)).1,{ b with ents:=(rvsE b c (refE b c.item.cont c.item.assets c.time)).2 })
 else if c.kind=5 then((actE b c).1,{ b with ents:=(actE b c).2 })
 else if c.kind=6∨c.kind=7 then((relE b c).1,{ b with enem:=(relE b c).2 })
 else((setE b c).1,{ b with ents:=(setE b c).2 })
def aplE (b:Bank)(c:Cmd):Int×Bank :=
 if c.kind<1∨8<c.kind then(1,zB)else if c.user<1∨9999999<c.user∨c.time<0∨1099511627776<c.time then(3,zB)
 else if c.time<b.now then(15,zB)else if(subE b c).1≠0 then((subE b c).1,zB)else(0,{ (subE b c).2 with now:=c.time })
structure EntI (n:Nat)(e:Ent):Prop where
 v0:0<e.vers.length
 vn:e.vers.length≤n
 its:∀ x∈e.vers,ItSz x
 ap:e.rev.ap.length≤n
 fa:e.rev.fa.length≤n
 log:e.rev.log.length≤n
 rows:e.rows.length*24≤140737488355328
 row:∀ r∈e.rows,r.length*8≤140737488355328
structure Inv (n:Nat)(b:Bank):Prop where
 pts:b.pts.length*8≤140737488355328
 prior:b.prior.length*8≤140737488355328
 outl:b.outl.length≤n
 assets:b.assets.length≤n
 ents:b.ents.length≤n
 ent:∀ e∈b.ents,EntI n e
 enem:b.enem.length≤n
theorem EntI.up{n:Nat}{e:Ent}(h:EntI n e):EntI (n+1) e:=⟨h.v0,Nat.le_succ_of_le h.vn,h.its,Nat.le_succ_of_le h.ap,Nat.le_succ_of_le h.fa,Nat.le_succ_of_le h.log,h.rows,h.row⟩
theorem Inv.sz{n:Nat}{b:Bank}(h:Inv n b)(hn:n≤1000):BankSz b:=by
 have h1:=h.outl
 have h2:=h.assets
 have h3:=h.ents
 have h4:=h.enem
 exact⟨h.pts,h.prior,by omega,by omega,by omega,fun e he=>by
  have g:=h.ent e he
  have g1:=g.vn
  have g2:=g.ap
  have g3:=g.fa
  have g4:=g.log
  exact⟨by omega,g.its,by omega,by omega,by omega,g.rows,g.row⟩,by omega⟩
theorem Inv.set{n:Nat}{es:List Ent}{k:Nat}{e:Ent}(h:∀ x∈es,EntI n x)(he:EntI (n+1) e):∀ x∈es.set k e,EntI (n+1) x:=fun x hx=>(List.mem_or_eq_of_mem_set hx).elim (fun hx=>(h x hx).up) (fun e1=>e1 ▸ he)
theorem fnd_ent{n:Nat}{b:Bank}(h:∀ x∈b.ents,EntI n x){k:Nat}{e:Ent}(he:b.ents[k]?=some e):EntI n e:=h e (List.mem_of_getElem? he)
theorem applyR_len(r:Rev.Rec)(a:Rev.Act):(Rev.applyR r a).ap.length≤r.ap.length+1∧(Rev.applyR r a).fa.length≤r.fa.length+1∧(Rev.applyR r a).log.length≤r.log.length+1:=by
 unfold Rev.applyR
 split
 · refine⟨(Rev.next_len r a).1,(Rev.next_len r a).2,?_⟩
   rw[Rev.next_log];simp
 · refine⟨?_,?_,?_⟩ <;> simp[Rev.zero]
theorem EntI.rev{n:Nat}{e:Ent}(h:EntI n e)(a:Rev.Act):EntI (n+1) { e with rev:=Rev.applyR e.rev a }:=by
 obtain⟨h1,h2,h3⟩:=applyR_len e.rev a
 have g2:=h.ap
 have g3:=h.fa
 have g4:=h.log
 exact⟨h.v0,Nat.le_succ_of_le h.vn,h.its,by show(Rev.applyR e.rev a).ap.length≤n+1;omega,by show(Rev.applyR e.rev a).fa.length≤n+1;omega,by show(Rev.applyR e.rev a).log.length≤n+1;omega,h.rows,h.row⟩
theorem EntI.ver{n:Nat}{e:Ent}(hn:e.vers.length≤n)(hi:∀ x∈e.vers,ItSz x)(ha:e.rev.ap.length≤n+1)(hf:e.rev.fa.length≤n+1)(hl:e.rev.log.length≤n+1)(hr:e.rows.length*24≤140737488355328)(hw:∀ r∈e.rows,r.length*8≤140737488355328)(mj:Bool){it:It.Item}(hit:ItSz it):EntI (n+1) (rvsF mj it e):=by
 refine⟨by show 0<(e.vers ++ [it]).length;simp,by show(e.vers ++ [it]).length≤n+1;rw[List.length_append];simpa using hn,fun x hx=>?_,ha,hf,hl,?_,fun r hr2=>?_⟩
 · rcases List.mem_append.1 hx with hx | hx
   · exact hi x hx
   · rw[List.mem_singleton]at hx;rw[hx];exact hit
 · show(if mj then[]else e.rows).length*24≤_
   cases mj
   · exact hr
   · exact Nat.zero_le _
 · cases mj
   · exact hw r hr2
   · cases hr2
theorem EntI.vers{n:Nat}{e:Ent}(h:EntI n e)(mj:Bool){it:It.Item}(hit:ItSz it):EntI (n+1) (rvsF mj it e):=EntI.ver h.vn h.its (Nat.le_succ_of_le h.ap) (Nat.le_succ_of_le h.fa) (Nat.le_succ_of_le h.log) h.rows h.row mj hit
theorem rvsG_inv{n:Nat}{es:List Ent}{c:Cmd}{k:Nat}{e:Ent}{l:It.Item}(h:∀ x∈es,EntI n x)(he:EntI n e)(hz:ItSz c.item):∀ x∈(rvsG es c k e l).2,EntI (n+1) x:=by
 have hup:∀ x∈es,EntI (n+1) x:=fun x hx=>(h x hx).up
 have hr:=he.rev ⟨9,c.user,c.roles,c.time⟩
 unfold rvsG
 split
 · split
   · exact Inv.set h (he.vers _ hz)
   · exact hup
 · split
   · split
     · exact hup
     · exact Inv.set h (EntI.ver (e:={ e with rev:=Rev.applyR e.rev ⟨9,c.user,c.roles,c.time⟩ }) he.vn he.its hr.ap hr.fa hr.log hr.rows hr.row true hz)
   · split
     · exact hup
     · exact Inv.set h (he.vers _ hz)
theorem rvsG_len(es:List Ent)(c:Cmd)(k:Nat)(e:Ent)(l:It.Item):(rvsG es c k e l).2.length=es.length:=by
 unfold rvsG
 repeat' split
 all_goals simp
theorem newR_nil(u:Int):(Rev.newR u).ap=[]∧(Rev.newR u).fa=[]∧(Rev.newR u).log=[]:=by
 unfold Rev.newR
 split <;> exact⟨rfl,rfl,rfl⟩
theorem relC_len(b:Bank)(c:Cmd):(relC b c).2.length≤b.enem.length+1:=by
 unfold relC
 split
 · unfold En.remE
   split
   · exact Nat.zero_le _
   · refine Nat.le_trans (List.length_filter_le _ _) ?_
     have:=En.normE_len b.enem
     omega
 · unfold En.addE
   repeat' split
   all_goals try exact Nat.zero_le _
   refine Nat.le_trans (En.normE_len _) ?_
   have:=En.normE_len b.enem
   rw[List.length_append]
   show(En.normE b.enem).length+1≤_
   omega
theorem subE_inv{n:Nat}{b:Bank}{c:Cmd}(h:Inv n b)(hc:CmdSz c):Inv (n+1) (subE b c).2:=by
 have hup:∀ x∈b.ents,EntI (n+1) x:=fun x hx=>(h.ent x hx).up
 have hE:∀ es:List Ent,es.length≤n+1→(∀ x∈es,EntI (n+1) x)→Inv (n+1) { b with ents:=es }:=fun es h1 h2=>⟨h.pts,h.prior,Nat.le_succ_of_le h.outl,Nat.le_succ_of_le h.assets,h1,h2,Nat.le_succ_of_le h.enem⟩
 have hl:=Nat.le_succ_of_le h.ents
 unfold subE
 split
 · refine⟨h.pts,h.prior,?_,Nat.le_succ_of_le h.assets,hl,hup,Nat.le_succ_of_le h.enem⟩
   show(adT b c.roles c.topic).2.length≤n+1
   have:=h.outl
   unfold adT
   repeat' split
   · show b.outl.length≤_;omega
   · show b.outl.length≤_;omega
   · show(topI b.outl c.topic).length≤_
     unfold topI
     rw[ins_len b.outl c.topic (topK_le _ _)]
     omega
 · split
   · refine⟨h.pts,h.prior,Nat.le_succ_of_le h.outl,?_,hl,hup,Nat.le_succ_of_le h.enem⟩
     show(adA b c.roles c.asset).2.length≤n+1
     have:=h.assets
     unfold adA
     repeat' split
     · show b.assets.length≤_;omega
     · show b.assets.length≤_;omega
     · show b.assets.length≤_;omega
     · show b.assets.length≤_;omega
     · show(astI b.assets c.asset).length≤_
       unfold astI
       rw[ins_len b.assets c.asset (astK_le _ _)]
       omega
   · split
     · unfold crtE
       have he:=h.ents
       repeat' split
       all_goals try exact hE _ hl hup
       refine hE _ ?_ fun x hx=>?_
       · show(entI b.ents c.item.id _).length≤n+1
         unfold entI
         rw[ins_len b.ents _ (entK_le _ _)]
         omega
       · rcases mem_ins hx with hx | rfl
         · exact hup x hx
         · refine⟨Nat.zero_lt_one,by show 1≤n+1;omega,fun y hy=>?_,?_,?_,?_,by show 0*24≤_;omega,fun r hr=>by cases hr⟩
           · rw[List.mem_singleton]at hy;rw[hy];exact hc.item
           · show(Rev.newR c.user).ap.length≤_;rw[(newR_nil _).1];exact Nat.zero_le _
           · show(Rev.newR c.user).fa.length≤_;rw[(newR_nil _).2.1];exact Nat.zero_le _
           · show(Rev.newR c.user).log.length≤_;rw[(newR_nil _).2.2];exact Nat.zero_le _
     · split
       · refine hE _ ?_ ?_
         · unfold rvsE
           repeat' split
           all_goals try exact hl
           rw[rvsG_len];exact hl
         · unfold rvsE
           repeat' split
           all_goals try exact hup
           rename_i e he _ _ _ _ _ _
           exact rvsG_inv h.ent (fnd_ent h.ent (by assumption)) hc.item
       · split
         · refine hE _ ?_ ?_
           · unfold actE
             repeat' split
             all_goals try exact hl
             all_goals simpa using hl
           · unfold actE
             repeat' split
             all_goals try exact hup
             exact Inv.set h.ent ((fnd_ent h.ent (by assumption)).rev _)
         · split
           · refine⟨h.pts,h.prior,Nat.le_succ_of_le h.outl,Nat.le_succ_of_le h.assets,hl,hup,?_⟩
             show(relE b c).2.length≤n+1
             have h1:=h.enem
             have h2:=relC_len b c
             unfold relE
             repeat' split
             all_goals first | exact Nat.le_succ_of_le h.enem | (show(relC b c).2.length≤n+1;omega)
           · refine hE _ ?_ ?_
             · unfold setE
               repeat' split
               all_goals try exact hl
               all_goals simpa using hl
             · unfold setE
               repeat' split
               all_goals try exact hup
               have he:=fnd_ent h.ent (by assumption)
               exact Inv.set h.ent ⟨he.v0,Nat.le_succ_of_le he.vn,he.its,Nat.le_succ_of_le he.ap,Nat.le_succ_of_le he.fa,Nat.le_succ_of_le he.log,hc.rows,hc.row⟩
theorem aplE_inv{n:Nat}{b:Bank}{c:Cmd}(h:Inv n b)(hc:CmdSz c)(h0:(aplE b c).1=0):Inv (n+1) (aplE b c).2:=by
 have hs:=subE_inv h hc
 unfold aplE at h0 ⊢
 split
 · rename_i g;rw[if_pos g]at h0;cases h0
 · rename_i g;rw[if_neg g]at h0
   split
   · rename_i g2;rw[if_pos g2]at h0;cases h0
   · rename_i g2;rw[if_neg g2]at h0
     split
     · rename_i g3;rw[if_pos g3]at h0;cases h0
     · rename_i g3;rw[if_neg g3]at h0
       split
       · rename_i g4;rw[if_pos g4]at h0;exact absurd h0 g4
       · exact⟨hs.pts,hs.prior,hs.outl,hs.assets,hs.ents,hs.ent,hs.enem⟩
end Bk
end Go.Proofs.YtfnmgcblhebdbaaGreatDoor
namespace Go.Proofs.YtfnmgcblhebdbaaGreatDoor
open Go.RowKit
namespace Bk
def BankL.zero:BankL:=⟨0,⟨none,0,[]⟩,⟨none,0,[]⟩,none,0,[],none,0,[],none,0,[],none,0,[]⟩
theorem zero_bank:BankL.zero.bank=zB:=rfl
theorem zero_agg:BankL.zero.agg=.agg #[.int .i64 0,.slice none 0 0,.slice none 0 0,.slice none 0 0,.slice none 0 0,.slice none 0 0,.slice none 0 0]:=rfl
theorem zero_in(w:World):BankL.zero.In w :=
 ⟨⟨by show(-9223372036854775808:Int)≤0;omega,by show(0:Int)≤9223372036854775807;omega⟩,⟨Or.inl rfl,Nat.le_refl _,Nat.zero_le _,fun x hx=>by cases hx⟩,⟨Or.inl rfl,Nat.le_refl _,Nat.zero_le _,fun x hx=>by cases hx⟩,SlX.nil _ _,⟨Nat.le_refl _,Nat.zero_le _⟩,SlX.nil _ _,⟨Nat.le_refl _,Nat.zero_le _⟩,SlX.nil _ _,⟨Nat.le_refl _,Nat.zero_le _⟩,SlX.nil _ _,⟨Nat.le_refl _,Nat.zero_le _⟩⟩
theorem zero_from(N:Nat):BankL.zero.From N:=⟨Or.inl rfl,Or.inl rfl,FromX.nil _ _,FromX.nil _ _,FromX.nil _ _,FromX.nil _ _⟩
def RetAp (N:Nat)(r:Int×Bank)(e:Ending)(w':World):Prop:=∃ b':BankL,e=.returned (.tuple #[b'.agg,.int .i64 r.1])∧b'.bank=r.2∧b'.In w'∧b'.From N
theorem inv_ent{n:Nat}{b:BankL}(h:Inv n b.bank):∀ x∈b.ents,EntI n x.ent:=fun x hx=>h.ent x.ent (List.mem_map.2 ⟨x,hx,rfl⟩)
theorem inv_len{n:Nat}{b:BankL}(h:Inv n b.bank):b.ents.length≤n:=by
 have h1:=h.ents
 have h2:b.bank.ents.length=b.ents.length:=List.length_map _
 omega
theorem inv_ver{n:Nat}{b:BankL}(h:Inv n b.bank):∀ x∈b.ents,0<x.vs.length∧x.vs.length≤n:=fun x hx=>by
 have h1:=(inv_ent h x hx).v0
 have h2:=(inv_ent h x hx).vn
 have h3:x.ent.vers.length=x.vs.length:=List.length_map _
 omega
theorem inv_rev{n:Nat}{b:BankL}(h:Inv n b.bank)(hn:n≤1000):RevOk b:=fun x hx=>by
 have h1:=(inv_ent h x hx).ap
 have h2:=(inv_ent h x hx).fa
 have h3:x.ent.rev.ap=x.ap.xs:=rfl
 have h4:x.ent.rev.fa=x.fa.xs:=rfl
 rw[h3]at h1
 rw[h4]at h2
 omega
theorem inZ:(Tryz.prog.info? 31).map (·.size)=some (#[.int .i64 0,.slice none 0 0,.slice none 0 0,.slice none 0 0,.slice none 0 0,.slice none 0 0,.slice none 0 0]:Array Value).size:=by kernel_rfl
set_option maxRecDepth 100000 in
set_option maxHeartbeats 12800000 in
theorem apply_any(n:Nat)(b:BankL)(c:CmdL)(CC:Array Value)(w:World)(hcc:c.cells.toArray=CC)(h:b.In w)(hI:Inv n b.bank)(hn:n≤900)(hci:c.In w)(hcz:CmdSz c.cmd)(hG:Gm w)(hF:Fld w){r:Int×Bank}(hr:aplE b.bank c.cmd=r) :
    Calls Tryz.prog 11 #[b.agg,.agg CC] w fun e w'=>RetAp w.heap.size r e w'∧Ext w w':=by
 obtain⟨CBK,hcb,hnb,h1b,hkb⟩:=b.packed
 have HCP:=Hi (fun(W:World) (hx:Ext w W)=>bcopyO_any b W (h.ext hx) (hI.sz (by omega)))
 rw[hcb]at HCP ⊢
 have HX0:Hid (Ext w (((w.alloc (.cells CBK 31)).alloc (.cells CC 48)).alloc (.cells #[.int .i64 0,.slice none 0 0,.slice none 0 0,.slice none 0 0,.slice none 0 0,.slice none 0 0,.slice none 0 0] 31))):=Hi ((((Ext.refl _).alloc _).alloc _).alloc _)
 have HB0:Hid ((((w.alloc (.cells CBK 31)).alloc (.cells CC 48)).alloc (.cells #[.int .i64 0,.slice none 0 0,.slice none 0 0,.slice none 0 0,.slice none 0 0,.slice none 0 0,.slice none 0 0] 31)).heap[w.heap.size]?=some (.cells CBK 31 (0,0))):=Hi ((((Ext.refl _).alloc _).alloc _).blockAt (heap_alloc_new w _))
 have HC0:Hid ((((w.alloc (.cells CBK 31)).alloc (.cells CC 48)).alloc (.cells #[.int .i64 0,.slice none 0 0,.slice none 0 0,.slice none 0 0,.slice none 0 0,.slice none 0 0,.slice none 0 0] 31)).heap[w.heap.size+1]?=some (.cells CC 48 (0,0))):=Hi (((Ext.refl _).alloc _).blockAt (heap_new_at _ _ _ (by simp)))
 have HZ0:Hid ((((w.alloc (.cells CBK 31)).alloc (.cells CC 48)).alloc (.cells #[.int .i64 0,.slice none 0 0,.slice none 0 0,.slice none 0 0,.slice none 0 0,.slice none 0 0,.slice none 0 0] 31)).heap[w.heap.size+1+1]?=some (.cells #[.int .i64 0,.slice none 0 0,.slice none 0 0,.slice none 0 0,.slice none 0 0,.slice none 0 0,.slice none 0 0] 31 (0,0))):=Hi (heap_new_at _ _ _ (by simp))
 have HSZ0:Hid ((((w.alloc (.cells CBK 31)).alloc (.cells CC 48)).alloc (.cells #[.int .i64 0,.slice none 0 0,.slice none 0 0,.slice none 0 0,.slice none 0 0,.slice none 0 0,.slice none 0 0] 31)).heap.size=w.heap.size+3):=Hi (by simp)
 have cb0:(((w.alloc (.cells CBK 31)).alloc (.cells CC 48)).alloc (.cells #[.int .i64 0,.slice none 0 0,.slice none 0 0,.slice none 0 0,.slice none 0 0,.slice none 0 0,.slice none 0 0] 31)).cell? ⟨w.heap.size,0,none⟩=some (.int .i64 b.now):=(cell_of_row _ _ 0 _ _ _ HB0.out).trans (by rw[← hkb];rfl)
 have cc0:(((w.alloc (.cells CBK 31)).alloc (.cells CC 48)).alloc (.cells #[.int .i64 0,.slice none 0 0,.slice none 0 0,.slice none 0 0,.slice none 0 0,.slice none 0 0,.slice none 0 0] 31)).cell? ⟨w.heap.size+1,0,none⟩=some (.int .i64 c.kind):=(cell_of_row _ _ 0 _ _ _ HC0.out).trans (by rw[← hcc];rfl)
 have cc1:(((w.alloc (.cells CBK 31)).alloc (.cells CC 48)).alloc (.cells #[.int .i64 0,.slice none 0 0,.slice none 0 0,.slice none 0 0,.slice none 0 0,.slice none 0 0,.slice none 0 0] 31)).cell? ⟨w.heap.size+1,1,none⟩=some (.int .i64 c.user):=(cell_of_row _ _ 1 _ _ _ HC0.out).trans (by rw[← hcc];rfl)
 have cc3:(((w.alloc (.cells CBK 31)).alloc (.cells CC 48)).alloc (.cells #[.int .i64 0,.slice none 0 0,.slice none 0 0,.slice none 0 0,.slice none 0 0,.slice none 0 0,.slice none 0 0] 31)).cell? ⟨w.heap.size+1,3,none⟩=some (.int .i64 c.time):=(cell_of_row _ _ 3 _ _ _ HC0.out).trans (by rw[← hcc];rfl)
 have K0:Hid (CC[0]?=some (.int .i64 c.kind)):=Hi (by rw[← hcc];rfl)
 have K3:Hid (CC[3]?=some (.int .i64 c.time)):=Hi (by rw[← hcc];rfl)
 have IB:Hid ((Tryz.prog.info? 31).map (·.size)=some CBK.size):=Hi (infoBk hnb)
 have IC:Hid ((Tryz.prog.info? 48).map (·.size)=some CC.size):=Hi (infoCm (by rw[← hcc];rfl))
 have HCC:=Hi hcc
 have HI:=Hi hI
 have HCI:=Hi hci
 have HCZ:=Hi hcz
 have HGM:=Hi hG
 have HFD:=Hi hF
 have HR:=Hi hr
 clear hcc h hI hci hcz hG hF hr hcb hnb h1b hkb
 by_cases hk:c.kind<1∨8<c.kind
 · have hz:Hid (r=(1,zB)):=Hi (by rw[← HR.out];unfold aplE;rw[if_pos (show c.cmd.kind<1∨8<c.cmd.kind from hk)])
   have hcase:c.kind<1∨(¬ c.kind<1∧8<c.kind):=by omega
   clear hk
   rcases hcase with g1 | ⟨g1,g2⟩
   all_goals
    go_enter Tryz.func11,Tryz.ntmps11
    have HXZ:Hid (Ext w ((((w.alloc (.cells CBK 31)).alloc (.cells CC 48)).alloc (.cells #[.int .i64 0,.slice none 0 0,.slice none 0 0,.slice none 0 0,.slice none 0 0,.slice none 0 0,.slice none 0 0] 31)).setRow (w.heap.size+1+1) #[.int .i64 0,.slice none 0 0,.slice none 0 0,.slice none 0 0,.slice none 0 0,.slice none 0 0,.slice none 0 0])):=Hi (HX0.out.rowSet (by omega) _)
    have HZZ:=HZ0
    have HZS:=Hi (setRow_heap _ _ _ #[.int .i64 0,.slice none 0 0,.slice none 0 0,.slice none 0 0,.slice none 0 0,.slice none 0 0,.slice none 0 0] _ _ HZZ.out)
    have IZ:=Hi inZ
    have OZ:Hid ((#[.int .i64 0,.slice none 0 0,.slice none 0 0,.slice none 0 0,.slice none 0 0,.slice none 0 0,.slice none 0 0]:Array Value).all (·.oneCell')=true):=Hi (by simp[Value.oneCell'])
    go_wp2_with (with_reducible refine wpList_store_row rfl 31 (.tmp 4) (.tmp 16) rfl (w.heap.size+1+1) #[.int .i64 0,.slice none 0 0,.slice none 0 0,.slice none 0 0,.slice none 0 0,.slice none 0 0,.slice none 0 0] (by with_unfolding_all rfl) (by with_unfolding_all rfl) _ _ HZZ.out IZ.out (by rfl) OZ.out ?_)
    refine bodyPost_ret (v:=.tuple #[.agg #[.int .i64 0,.slice none 0 0,.slice none 0 0,.slice none 0 0,.slice none 0 0,.slice none 0 0,.slice none 0 0],.int .i64 1]) (results_ct Tryz.results11 _ _ (w.heap.size+1+1) _ _ _ _ rfl HZS.out Tryz.underlying31 rfl IZ.out rfl) rfl ?_
    exact⟨⟨BankL.zero,by rw[hz.out];rfl,by rw[hz.out];rfl,zero_in _,zero_from _⟩,HXZ.out⟩
 have hk1:¬ c.kind<1:=fun e=>hk (Or.inl e)
 have hk2:¬ 8<c.kind:=fun e=>hk (Or.inr e)
 have HK:=Hi hk
 by_cases hu:c.user<1∨9999999<c.user∨c.time<0∨1099511627776<c.time
 · have hz:Hid (r=(3,zB)):=Hi (by rw[← HR.out];unfold aplE;rw[if_neg (show ¬ (c.cmd.kind<1∨8<c.cmd.kind)from HK.out),if_pos (show c.cmd.user<1∨9999999<c.cmd.user∨c.cmd.time<0∨1099511627776<c.cmd.time from hu)])
   have hcase:c.user<1∨(¬ c.user<1∧9999999<c.user)∨(¬ c.user<1∧¬ 9999999<c.user∧c.time<0)∨(¬ c.user<1∧¬ 9999999<c.user∧¬ c.time<0∧1099511627776<c.time):=by omega
   clear hu hk
   rcases hcase with g1 | ⟨g1,g2⟩ | ⟨g1,g2,g3⟩ | ⟨g1,g2,g3,g4⟩
   all_goals
    go_enter Tryz.func11,Tryz.ntmps11
    have HXZ:Hid (Ext w ((((w.alloc (.cells CBK 31)).alloc (.cells CC 48)).alloc (.cells #[.int .i64 0,.slice none 0 0,.slice none 0 0,.slice none 0 0,.slice none 0 0,.slice none 0 0,.slice none 0 0] 31)).setRow (w.heap.size+1+1) #[.int .i64 0,.slice none 0 0,.slice none 0 0,.slice none 0 0,.slice none 0 0,.slice none 0 0,.slice none 0 0])):=Hi (HX0.out.rowSet (by omega) _)
    have HZZ:=HZ0
    have HZS:=Hi (setRow_heap _ _ _ #[.int .i64 0,.slice none 0 0,.slice none 0 0,.slice none 0 0,.slice none 0 0,.slice none 0 0,.slice none 0 0] _ _ HZZ.out)
    have IZ:=Hi inZ
    have OZ:Hid ((#[.int .i64 0,.slice none 0 0,.slice none 0 0,.slice none 0 0,.slice none 0 0,.slice none 0 0,.slice none 0 0]:Array Value).all (·.oneCell')=true):=Hi (by simp[Value.oneCell'])
    go_wp2_with (with_reducible refine wpList_store_row rfl 31 (.tmp 4) (.tmp 35) rfl (w.heap.size+1+1) #[.int .i64 0,.slice none 0 0,.slice none 0 0,.slice none 0 0,.slice none 0 0,.slice none 0 0,.slice none 0 0] (by with_unfolding_all rfl) (by with_unfolding_all rfl) _ _ HZZ.out IZ.out (by rfl) OZ.out ?_)
    refine bodyPost_ret (v:=.tuple #[.agg #[.int .i64 0,.slice none 0 0,.slice none 0 0,.slice none 0 0,.slice none 0 0,.slice none 0 0,.slice none 0 0],.int .i64 3]) (results_ct Tryz.results11 _ _ (w.heap.size+1+1) _ _ _ _ rfl HZS.out Tryz.underlying31 rfl IZ.out rfl) rfl ?_
    exact⟨⟨BankL.zero,by rw[hz.out];rfl,by rw[hz.out];rfl,zero_in _,zero_from _⟩,HXZ.out⟩
 have hu1:¬ c.user<1:=fun e=>hu (Or.inl e)
 have hu2:¬ 9999999<c.user:=fun e=>hu (Or.inr (Or.inl e))
 have hu3:¬ c.time<0:=fun e=>hu (Or.inr (Or.inr (Or.inl e)))
 have hu4:¬ 1099511627776<c.time:=fun e=>hu (Or.inr (Or.inr (Or.inr e)))
 have HU:=Hi hu
 have HTM:Hid (In64 c.time):=Hi HCI.out.time
 by_cases ht:c.time<b.now
 · have hz:Hid (r=(15,zB)):=Hi (by rw[← HR.out];unfold aplE;rw[if_neg (show ¬ (c.cmd.kind<1∨8<c.cmd.kind)from HK.out),if_neg (show ¬ (c.cmd.user<1∨9999999<c.cmd.user∨c.cmd.time<0∨1099511627776<c.cmd.time)from HU.out),if_pos (show c.cmd.time<b.bank.now from ht)])
   clear hu hk
   go_enter Tryz.func11,Tryz.ntmps11
   have HXZ:Hid (Ext w ((((w.alloc (.cells CBK 31)).alloc (.cells CC 48)).alloc (.cells #[.int .i64 0,.slice none 0 0,.slice none 0 0,.slice none 0 0,.slice none 0 0,.slice none 0 0,.slice none 0 0] 31)).setRow (w.heap.size+1+1) #[.int .i64 0,.slice none 0 0,.slice none 0 0,.slice none 0 0,.slice none 0 0,.slice none 0 0,.slice none 0 0])):=Hi (HX0.out.rowSet (by omega) _)
   have HZZ:=HZ0
   have HZS:=Hi (setRow_heap _ _ _ #[.int .i64 0,.slice none 0 0,.slice none 0 0,.slice none 0 0,.slice none 0 0,.slice none 0 0,.slice none 0 0] _ _ HZZ.out)
   have IZ:=Hi inZ
   have OZ:Hid ((#[.int .i64 0,.slice none 0 0,.slice none 0 0,.slice none 0 0,.slice none 0 0,.slice none 0 0,.slice none 0 0]:Array Value).all (·.oneCell')=true):=Hi (by simp[Value.oneCell'])
   go_wp2_with (with_reducible refine wpList_store_row rfl 31 (.tmp 4) (.tmp 41) rfl (w.heap.size+1+1) #[.int .i64 0,.slice none 0 0,.slice none 0 0,.slice none 0 0,.slice none 0 0,.slice none 0 0,.slice none 0 0] (by with_unfolding_all rfl) (by with_unfolding_all rfl) _ _ HZZ.out IZ.out (by rfl) OZ.out ?_)
   refine bodyPost_ret (v:=.tuple #[.agg #[.int .i64 0,.slice none 0 0,.slice none 0 0,.slice none 0 0,.slice none 0 0,.slice none 0 0,.slice none 0 0],.int .i64 15]) (results_ct Tryz.results11 _ _ (w.heap.size+1+1) _ _ _ _ rfl HZS.out Tryz.underlying31 rfl IZ.out rfl) rfl ?_
   exact⟨⟨BankL.zero,by rw[hz.out];rfl,by rw[hz.out];rfl,zero_in _,zero_from _⟩,HXZ.out⟩
 have HT:=Hi ht
 have HRR:Hid (r=if(subE b.bank c.cmd).1≠0 then((subE b.bank c.cmd).1,zB)else(0,{ (subE b.bank c.cmd).2 with now:=c.time })):=Hi (by rw[← HR.out];unfold aplE;rw[if_neg (show ¬ (c.cmd.kind<1∨8<c.cmd.kind)from HK.out),if_neg (show ¬ (c.cmd.user<1∨9999999<c.cmd.user∨c.cmd.time<0∨1099511627776<c.cmd.time)from HU.out),if_neg (show ¬ c.cmd.time<b.bank.now from ht)];rfl)
 obtain⟨er,her⟩:∃ z,(subE b.bank c.cmd).1=z:=⟨_,rfl⟩
 obtain⟨bo,hbo⟩:∃ z,(subE b.bank c.cmd).2=z:=⟨_,rfl⟩
 have HSE:Hid (subE b.bank c.cmd=(er,bo)):=Hi (Prod.ext her hbo)
 rw[her,hbo]at HRR
 clear hu hk ht her hbo
 go_enter Tryz.func11,Tryz.ntmps11
 go_wp2_with (with_reducible refine wpList_load_row rfl 31 (.tmp 2) rfl (w.heap.size) (by with_unfolding_all rfl) _ CBK _ _ HB0.out Tryz.underlying31 rfl IB.out ?_)
 with_reducible refine(HCP.out _ HX0.out).mono ?_
 rintro e w1 ⟨⟨b',rfl,hbb,hown⟩,hb1⟩
 obtain⟨CN,hcn,hnn,h1n,hkn⟩:=b'.packed
 rw[hcn]
 have HNN:Hid ((#[.int .i64 0,.slice none 0 0,.slice none 0 0,.slice none 0 0,.slice none 0 0,.slice none 0 0,.slice none 0 0]:Array Value).size=CN.size):=Hi hnn.symm
 have HN7:=Hi hnn
 have IN_:Hid ((Tryz.prog.info? 31).map (·.size)=some CN.size):=Hi (infoBk hnn)
 have ON:=Hi h1n
 have HBB:=Hi hbb
 have X01:=Hi hb1
 have XA:Hid (Ext w1 (w1.alloc (.cells CN 31))):=Hi ((Ext.refl _).alloc _)
 have X02:Hid (Ext (((w.alloc (.cells CBK 31)).alloc (.cells CC 48)).alloc (.cells #[.int .i64 0,.slice none 0 0,.slice none 0 0,.slice none 0 0,.slice none 0 0,.slice none 0 0,.slice none 0 0] 31)) (w1.alloc (.cells CN 31))):=Hi (hb1.trans XA.out)
 have HNM:Hid (Nm (((w.alloc (.cells CBK 31)).alloc (.cells CC 48)).alloc (.cells #[.int .i64 0,.slice none 0 0,.slice none 0 0,.slice none 0 0,.slice none 0 0,.slice none 0 0,.slice none 0 0] 31)).heap.size w1.heap.size b'.cells.toArray b' (w1.alloc (.cells CN 31))):=Hi ⟨by rw[hkn];exact heap_alloc_new w1 _,hown.ext XA.out,fun x hx=>eEntO.off (hown.e.ins x hx) (Nat.le_refl _)⟩
 have HGE:Hid ((((w.alloc (.cells CBK 31)).alloc (.cells CC 48)).alloc (.cells #[.int .i64 0,.slice none 0 0,.slice none 0 0,.slice none 0 0,.slice none 0 0,.slice none 0 0,.slice none 0 0] 31)).heap.size≤w1.heap.size):=Hi hb1.size
 clear hbb hown hb1 hcn hnn h1n hkn cb0 cc0 cc1 cc3 hk1 hk2 hu1 hu2 hu3 hu4
 generalize ((w.alloc (.cells CBK 31)).alloc (.cells CC 48)).alloc (.cells #[.int .i64 0,.slice none 0 0,.slice none 0 0,.slice none 0 0,.slice none 0 0,.slice none 0 0,.slice none 0 0] 31)=W0 at HX0 HC0 HZ0 HSZ0 X01 X02 HNM HGE ⊢
 have hsz0:=HSZ0.out
 have HC2:=Hi (X02.out.blockAt HC0.out)
 have HIb:Hid (Inv n b'.bank):=Hi (by rw[HBB.out];exact HI.out)
 have HCI0:=Hi (HCI.out.ext HX0.out)
 have HGM0:=Hi (HGM.out.ext HX0.out)
 have HFD0:=Hi (fun(w':World) (hx:Ext W0 w')=>HFD.out.ext (HX0.out.trans hx))
 have H18:Hid (1≤c.kind∧c.kind≤8):=Hi (by have:=HK.out;omega)
 rw[← HBB.out]at HSE
 have ho1:(b'.outl.length+1)*32≤140737488355328:=by have h:b'.outl.length≤n:=HIb.out.outl;omega
 have ho2:b'.outl.length≤9223372036854775807:=by omega
 have ha1:(b'.assets.length+1)*48≤140737488355328:=by have h:b'.assets.length≤n:=HIb.out.assets;omega
 have ha2:b'.assets.length*48≤140737488355328:=by omega
 have he1:(b'.ents.length+1)*136≤140737488355328:=by have h:=inv_len HIb.out;omega
 have hn1:b'.enem.length≤999:=by have h:b'.enem.length≤n:=HIb.out.enem;omega
 have hs1:c.item.1.assets.length*8≤140737488355328:=HCZ.out.item.2.2.2
 have HVO:Hid (VerOk b'):=Hi (fun x hx=>(inv_ver HIb.out x hx).1)
 have HVS:Hid (∀ x∈b'.ents,(x.vs.length+1)*216≤140737488355328):=Hi (fun x hx=>by have h:=(inv_ver HIb.out x hx).2;omega)
 have HRV:=Hi (inv_rev HIb.out (by omega))
 have hk18:=H18.out
 obtain⟨kd,hkd⟩:∃ z,c.kind=z:=⟨_,rfl⟩
 have HKD:Hid (c.cmd.kind=kd):=Hi hkd
 rw[hkd]at hk18 K0
 have hcase:kd=1∨kd=2∨kd=3∨kd=4∨kd=5∨kd=6∨kd=7∨kd=8:=by omega
 clear hkd hk18
 rcases hcase with rfl | rfl | rfl | rfl | rfl | rfl | rfl | rfl
 all_goals
  have ck:=(cell_of_row _ _ 0 _ _ _ HC2.out).trans K0.out
  go_wp2_with (first | (with_reducible refine wpList_store_newN rfl 31 (.tmp 6) (.tmp 43) rfl (w1.heap.size) (by simp) _ CN 31 (by with_unfolding_all rfl) (by with_unfolding_all rfl) IN_.out (by with_unfolding_all exact HN7.out.symm) ON.out ?_) | (with_reducible refine wpList_load_row rfl 48 (.tmp 3) rfl (w.heap.size+1) (by with_unfolding_all rfl) _ CC _ _ HC2.out Tryz.underlying48 rfl IC.out ?_))
  first
   | (have hse:((adT b'.bank c.roles c.topic).1,({ b'.bank with outl:=(adT b'.bank c.roles c.topic).2 }:Bank))=(er,bo):=by
        have h:=HSE.out
        unfold subE at h
        rw[if_pos HKD.out]at h
        exact h
      injection hse with hse1 hse2
      have HBO:=Hi hse2.symm
      have HFN:Hid (adT b'.bank c.roles c.topic=(er,(adT b'.bank c.roles c.topic).2)):=Hi (Prod.ext hse1 rfl)
      clear hse1 hse2
      with_reducible refine(addTopic_any W0 b' w1.heap.size c CC _ X02.out HGE.out HNM.out HCC.out HCI0.out HGM0.out ho1 HFN.out).mono ?_)
   | (have hse:((adA b'.bank c.roles c.asset).1,({ b'.bank with assets:=(adA b'.bank c.roles c.asset).2 }:Bank))=(er,bo):=by
        have h:=HSE.out
        unfold subE at h
        rw[if_neg (by rw[HKD.out];decide),if_pos HKD.out]at h
        exact h
      injection hse with hse1 hse2
      have HBO:=Hi hse2.symm
      have HFN:Hid (adA b'.bank c.roles c.asset=(er,(adA b'.bank c.roles c.asset).2)):=Hi (Prod.ext hse1 rfl)
      clear hse1 hse2
      with_reducible refine(addAsset_any W0 b' w1.heap.size c CC _ X02.out HGE.out HNM.out HCC.out HCI0.out ha1 HFN.out).mono ?_)
   | (have hse:((crtE b'.bank c.cmd (refE b'.bank c.item.1.cont c.item.1.assets c.time)).1,({ b'.bank with ents:=(crtE b'.bank c.cmd (refE b'.bank c.item.1.cont c.item.1.assets c.time)).2 }:Bank))=(er,bo):=by
        have h:=HSE.out
        unfold subE at h
        rw[if_neg (by rw[HKD.out];decide),if_neg (by rw[HKD.out];decide),if_pos HKD.out]at h
        exact h
      injection hse with hse1 hse2
      have HBO:=Hi hse2.symm
      have HFN:Hid (crtE b'.bank c.cmd (refE b'.bank c.item.1.cont c.item.1.assets c.time)=(er,(crtE b'.bank c.cmd (refE b'.bank c.item.1.cont c.item.1.assets c.time)).2)):=Hi (Prod.ext hse1 rfl)
      clear hse1 hse2
      with_reducible refine(create_any W0 b' w1.heap.size c CC _ X02.out HGE.out HNM.out HCC.out HCI0.out HGM0.out HCZ.out HVO.out ho2 ha2 he1 hs1 HFN.out).mono ?_)
   | (have hse:((rvsE b'.bank c.cmd (refE b'.bank c.item.1.cont c.item.1.assets c.time)).1,({ b'.bank with ents:=(rvsE b'.bank c.cmd (refE b'.bank c.item.1.cont c.item.1.assets c.time)).2 }:Bank))=(er,bo):=by
        have h:=HSE.out
        unfold subE at h
        rw[if_neg (by rw[HKD.out];decide),if_neg (by rw[HKD.out];decide),if_neg (by rw[HKD.out];decide),if_pos HKD.out]at h
        exact h
      injection hse with hse1 hse2
      have HBO:=Hi hse2.symm
      have HFN:Hid (rvsE b'.bank c.cmd (refE b'.bank c.item.1.cont c.item.1.assets c.time)=(er,(rvsE b'.bank c.cmd (refE b'.bank c.item.1.cont c.item.1.assets c.time)).2)):=Hi (Prod.ext hse1 rfl)
      clear hse1 hse2
      with_reducible refine(revise_any W0 b' w1.heap.size c CC _ X02.out HGE.out HNM.out HCC.out HCI0.out HGM0.out HFD0.out HCZ.out HRV.out HVS.out ho2 ha2 hs1 HFN.out).mono ?_)
   | (have hse:((actE b'.bank c.cmd).1,({ b'.bank with ents:=(actE b'.bank c.cmd).2 }:Bank))=(er,bo):=by
        have h:=HSE.out
        unfold subE at h
        rw[if_neg (by rw[HKD.out];decide),if_neg (by rw[HKD.out];decide),if_neg (by rw[HKD.out];decide),if_neg (by rw[HKD.out];decide),if_pos HKD.out]at h
        exact h
      injection hse with hse1 hse2
      have HBO:=Hi hse2.symm
      have HFN:Hid (actE b'.bank c.cmd=(er,(actE b'.bank c.cmd).2)):=Hi (Prod.ext hse1 rfl)
      clear hse1 hse2
      with_reducible refine(act_any W0 b' w1.heap.size c CC _ X02.out HGE.out HNM.out HCC.out HCI0.out HRV.out HFN.out).mono ?_)
   | (have hse:((relE b'.bank c.cmd).1,({ b'.bank with enem:=(relE b'.bank c.cmd).2 }:Bank))=(er,bo):=by
        have h:=HSE.out
        unfold subE at h
        rw[if_neg (by rw[HKD.out];decide),if_neg (by rw[HKD.out];decide),if_neg (by rw[HKD.out];decide),if_neg (by rw[HKD.out];decide),if_neg (by rw[HKD.out];decide),if_pos (by rw[HKD.out];decide)]at h
        exact h
      injection hse with hse1 hse2
      have HBO:=Hi hse2.symm
      have HFN:Hid (relE b'.bank c.cmd=(er,(relE b'.bank c.cmd).2)):=Hi (Prod.ext hse1 rfl)
      clear hse1 hse2
      with_reducible refine(relate_any W0 b' w1.heap.size c CC _ X02.out HGE.out HNM.out HCC.out HCI0.out hn1 HFN.out).mono ?_)
   | (have hse:((setE b'.bank c.cmd).1,({ b'.bank with ents:=(setE b'.bank c.cmd).2 }:Bank))=(er,bo):=by
        have h:=HSE.out
        unfold subE at h
        rw[if_neg (by rw[HKD.out];decide),if_neg (by rw[HKD.out];decide),if_neg (by rw[HKD.out];decide),if_neg (by rw[HKD.out];decide),if_neg (by rw[HKD.out];decide),if_neg (by rw[HKD.out];decide)]at h
        exact h
      injection hse with hse1 hse2
      have HBO:=Hi hse2.symm
      have HFN:Hid (setE b'.bank c.cmd=(er,(setE b'.bank c.cmd).2)):=Hi (Prod.ext hse1 rfl)
      clear hse1 hse2
      with_reducible refine(setModel_any W0 b' w1.heap.size c CC _ X02.out HGE.out HNM.out HCC.out HCI0.out HCZ.out HFN.out).mono ?_)
  rintro e w3 ⟨rfl,hret⟩
  obtain⟨⟨b2,hF,hnm⟩,hx3⟩:=hret
  have HF:Hid (b2.bank=bo):=Hi (by rw[HBO.out];exact hF)
  have HN3:=Hi hnm
  have HX3:=Hi hx3
  have HZ3:=Hi (hx3.blockAt HZ0.out)
  have HC3:=Hi (hx3.blockAt HC0.out)
  have HWX:=Hi (HX0.out.trans hx3)
  clear hF hnm hx3 ck
  by_cases he:er=0
  case neg =>
   have hz:Hid (r=(er,zB)):=Hi (by rw[HRR.out,if_pos he])
   have HXZ:Hid (Ext w (w3.setRow (w.heap.size+1+1) #[.int .i64 0,.slice none 0 0,.slice none 0 0,.slice none 0 0,.slice none 0 0,.slice none 0 0,.slice none 0 0])):=Hi (HWX.out.rowSet (by omega) _)
   have HZZ:=HZ3
   have HZS:=Hi (setRow_heap _ _ _ #[.int .i64 0,.slice none 0 0,.slice none 0 0,.slice none 0 0,.slice none 0 0,.slice none 0 0,.slice none 0 0] _ _ HZZ.out)
   have IZ:=Hi inZ
   have OZ:Hid ((#[.int .i64 0,.slice none 0 0,.slice none 0 0,.slice none 0 0,.slice none 0 0,.slice none 0 0,.slice none 0 0]:Array Value).all (·.oneCell')=true):=Hi (by simp[Value.oneCell'])
   go_wp2_with (with_reducible refine wpList_store_row rfl 31 (.tmp 4) (.tmp 77) rfl (w.heap.size+1+1) #[.int .i64 0,.slice none 0 0,.slice none 0 0,.slice none 0 0,.slice none 0 0,.slice none 0 0,.slice none 0 0] (by with_unfolding_all rfl) (by with_unfolding_all rfl) _ _ HZZ.out IZ.out (by rfl) OZ.out ?_)
   refine bodyPost_ret (v:=.tuple #[.agg #[.int .i64 0,.slice none 0 0,.slice none 0 0,.slice none 0 0,.slice none 0 0,.slice none 0 0,.slice none 0 0],.int .i64 er]) (results_ct Tryz.results11 _ _ (w.heap.size+1+1) _ _ _ _ rfl HZS.out Tryz.underlying31 rfl IZ.out rfl) rfl ?_
   exact⟨⟨BankL.zero,by rw[hz.out];rfl,by rw[hz.out];rfl,zero_in _,zero_from _⟩,HXZ.out⟩
  case pos =>
  subst he
  have hz:Hid (r=(0,{ bo with now:=c.time })):=Hi (by rw[HRR.out,if_neg (by simp)])
  have ct:w3.cell? ⟨w.heap.size+1,3,none⟩=some (.int .i64 c.time):=(cell_of_row _ _ 3 _ _ _ HC3.out).trans K3.out
  have cg:w3.cell? ⟨w1.heap.size,0,none⟩=some (.int .i64 b2.now):=(cell_of_row _ _ 0 _ _ _ HN3.out.row).trans rfl
  have fz:=frozen_of_row _ _ 0 _ _ HN3.out.row
  have HN4:Hid (Nm W0.heap.size w1.heap.size (b2.setT c.time).cells.toArray (b2.setT c.time) (w3.setCell ⟨w1.heap.size,0,none⟩ (.int .i64 c.time))):=Hi (by
   have h:=HN3.out.store 0 (.int .i64 c.time)
   rw[← setT_cells]at h
   exact⟨h.row,⟨HTM.out,h.own.p,h.own.q,h.own.o,h.own.s,h.own.e,h.own.ef,h.own.pw,h.own.eo,h.own.es,h.own.n⟩,h.off⟩)
  have HX4:Hid (Ext W0 (w3.setCell ⟨w1.heap.size,0,none⟩ (.int .i64 c.time))):=Hi (HX3.out.setCell (p:=⟨w1.heap.size,0,none⟩) HGE.out _)
  have HZ4:=Hi (HX4.out.blockAt HZ0.out)
  obtain⟨CF,hCF⟩:∃ C,(b2.setT c.time).cells.toArray=C:=⟨_,rfl⟩
  have HCF:=Hi hCF
  have HG4:Hid ((w3.setCell ⟨w1.heap.size,0,none⟩ (.int .i64 c.time)).heap[w1.heap.size]?=some (.cells CF 31 (0,0))):=Hi (by rw[← hCF];exact HN4.out.row)
  have HSZ:Hid (CF.size=7):=Hi (by rw[← hCF];rfl)
  have IF_:Hid ((Tryz.prog.info? 31).map (·.size)=some CF.size):=Hi (infoBk HSZ.out)
  have HZF:Hid ((#[.int .i64 0,.slice none 0 0,.slice none 0 0,.slice none 0 0,.slice none 0 0,.slice none 0 0,.slice none 0 0]:Array Value).size=CF.size):=Hi HSZ.out.symm
  have OF:Hid (CF.all (·.oneCell')=true):=Hi (by rw[← hCF];simp[BankL.cells,IL.val,Value.oneCell'])
  have HWX4:=Hi (HX0.out.trans HX4.out)
  have HZ5:=Hi (setRow_heap _ _ _ CF _ _ HZ4.out)
  have HIN:Hid ((b2.setT c.time).In ((w3.setCell ⟨w1.heap.size,0,none⟩ (.int .i64 c.time)).setRow (w.heap.size+1+1) CF)):=Hi (by
   refine(OwnBk.keep HN4.out.own HZ4.out (by decide) (by decide) (by decide) (by decide) (by decide) (fun x hx=>eEntO.frm (HN4.out.own.ef x hx) (by omega)) (But.setRow _ _ CF)).in_)
  have HFR:Hid ((b2.setT c.time).From w.heap.size):=Hi (HN4.out.own.from_.mono HX0.out.size)
  clear hCF
  go_wp2_with (first | (with_reducible refine wpList_load_row rfl 31 (.tmp 6) rfl (w1.heap.size) (by with_unfolding_all rfl) _ CF _ _ HG4.out Tryz.underlying31 rfl IF_.out ?_) | (with_reducible refine wpList_store_row rfl 31 (.tmp 4) (.tmp 82) rfl (w.heap.size+1+1) CF (by with_unfolding_all rfl) (by with_unfolding_all rfl) _ _ HZ4.out IF_.out HZF.out OF.out ?_))
  refine bodyPost_ret (v:=.tuple #[.agg CF,.int .i64 0]) (results_ct Tryz.results11 _ _ (w.heap.size+1+1) _ _ _ _ rfl HZ5.out Tryz.underlying31 rfl IF_.out rfl) rfl ?_
  refine⟨⟨b2.setT c.time,by rw[hz.out,← HCF.out];rfl,?_,HIN.out,HFR.out⟩,HWX4.out.rowSet (by omega) _⟩
  rw[hz.out]
  show(⟨c.time,b2.gp.xs,b2.gq.xs,b2.outl,b2.assets,b2.ents.map (·.ent),b2.enem⟩:Bank)={ bo with now:=c.time }
  rw[← HF.out]
  rfl
end Bk
namespace Bk
def tA:ByteArray:={ data:=#[65] }
def tT:ByteArray:={ data:=#[65,108,103,101,98,114,97] }
def cmd0:CmdL:=⟨1,1,16,5,0,0,0,(zItem,zLoc),(tA,tT),⟨0,0,⟨#[]⟩,0,0⟩,none,0,[]⟩
theorem in_z:In64 0:=⟨by decide,by decide⟩
theorem cmd0_in(w:World):cmd0.In w:=⟨⟨by decide,by decide⟩,⟨by decide,by decide⟩,⟨by decide,by decide⟩,⟨by decide,by decide⟩,in_z,in_z,in_z,zItem_in w,⟨by decide,by decide⟩,⟨by decide,in_z,in_z,in_z,in_z⟩,SlX.nil _ _,Nat.le_refl _,Nat.zero_le _⟩
theorem cmd0_sz:CmdSz cmd0.cmd:=⟨⟨Nat.zero_le _,Nat.zero_le _,Nat.zero_le _,Nat.zero_le _⟩,Nat.zero_le _,fun r hr=>by cases hr⟩
theorem apl_cmd0:aplE (nBank [-100,100] [1,1]) cmd0.cmd=(0,{ nBank [-100,100] [1,1]with now:=5,outl:=[(tA,tT)] }):=by
 have h1:hasR 16 16=true:=by decide
 have h2:ctE [(tA,tT)]=0:=by decide
 have h3:topI [] (tA,tT)=[(tA,tT)]:=rfl
 have h4:adT (nBank [-100,100] [1,1]) 16 (tA,tT)=(0,[(tA,tT)]):=by
  unfold adT
  rw[h1]
  show(ctE (topI [] (tA,tT)),topI [] (tA,tT))=_
  rw[h3,h2]
 have h5:subE (nBank [-100,100] [1,1]) cmd0.cmd=(0,{ nBank [-100,100] [1,1]with outl:=[(tA,tT)] }):=by
  unfold subE
  rw[if_pos (show cmd0.cmd.kind=1 from rfl)]
  show((adT (nBank [-100,100] [1,1]) 16 (tA,tT)).1,_)=_
  rw[h4]
  show((0:Int),{ nBank [-100,100] [1,1]with outl:=(adT (nBank [-100,100] [1,1]) 16 (tA,tT)).2 })=_
  rw[h4]
 unfold aplE
 rw[h5]
 rfl
theorem pts_in(a b:Int)(ha:In64 a)(hb:In64 b){w:World}{g:Nat}(h:Sl w 1 (some ⟨g,0,none⟩) ([.int .i64 a,.int .i64 b].map fun v=>[v])):IL.In w ⟨some ⟨g,0,none⟩,2,[a,b]⟩ :=
 ⟨h,Nat.le_refl _,(by show 2≤maxLen;unfold maxLen;decide),fun x hx=>by
  rcases List.mem_cons.1 hx with rfl | hx
  · exact ha
  · rw[List.mem_singleton]at hx;rw[hx];exact hb⟩
set_option maxRecDepth 100000 in
set_option maxHeartbeats 12800000 in
theorem awake_any(w:World)(hG:Gm w)(hF:Fld w):Calls Tryz.prog 9 #[] w fun e w'=>e=.returned (.bool true)∧Ext w w':=by
 have HGM:=Hi hG
 have HFD:=Hi hF
 have X1:Hid (Ext (w.alloc (.cells #[.int .i64 (-100),.int .i64 100] 3)) (((w.alloc (.cells #[.int .i64 (-100),.int .i64 100] 3)).alloc (.cells #[.int .i64 1,.int .i64 1] 3)).alloc (.cells #[.slice (some ⟨w.heap.size,0,none⟩) 2 2,.slice (some ⟨w.heap.size+1,0,none⟩) 2 2] 24))):=Hi (((Ext.refl _).alloc _).alloc _)
 have X3:Hid (Ext w (((w.alloc (.cells #[.int .i64 (-100),.int .i64 100] 3)).alloc (.cells #[.int .i64 1,.int .i64 1] 3)).alloc (.cells #[.slice (some ⟨w.heap.size,0,none⟩) 2 2,.slice (some ⟨w.heap.size+1,0,none⟩) 2 2] 24))):=Hi ((((Ext.refl _).alloc _).alloc _).alloc _)
 have HP:Hid (IL.In (((w.alloc (.cells #[.int .i64 (-100),.int .i64 100] 3)).alloc (.cells #[.int .i64 1,.int .i64 1] 3)).alloc (.cells #[.slice (some ⟨w.heap.size,0,none⟩) 2 2,.slice (some ⟨w.heap.size+1,0,none⟩) 2 2] 24)) ⟨some ⟨w.heap.size,0,none⟩,2,[-100,100]⟩):=Hi (pts_in _ _ (by unfold In64;decide) (by unfold In64;decide) (Sl.ext (Sl.new_at w _ 3 _ rfl) X1.out))
 have HQ:Hid (IL.In (((w.alloc (.cells #[.int .i64 (-100),.int .i64 100] 3)).alloc (.cells #[.int .i64 1,.int .i64 1] 3)).alloc (.cells #[.slice (some ⟨w.heap.size,0,none⟩) 2 2,.slice (some ⟨w.heap.size+1,0,none⟩) 2 2] 24)) ⟨some ⟨w.heap.size+1,0,none⟩,2,[1,1]⟩):=Hi (pts_in _ _ (by unfold In64;decide) (by unfold In64;decide) (Sl.ext (Sl.new_at (w.alloc (.cells #[.int .i64 (-100),.int .i64 100] 3)) _ 3 _ (by simp)) ((Ext.refl _).alloc _)))
 have hgv:Gv.gridE [-100,100] [1,1]=0:=by decide
 have K:=Hi (bNew_any _ _ (n:=2) (m:=2) rfl rfl hgv _ HP.out HQ.out (by omega) (by omega))
 have HNB:Hid (Inv 0 (nBank [-100,100] [1,1])):=Hi ⟨by decide,by decide,by decide,by decide,by decide,fun e he=>(by cases he),by decide⟩
 clear hG hF hgv
 go_enter Tryz.func9,Tryz.ntmps9
 go_wp2_with fail
 refine K.out.mono ?_
 rintro r w1 ⟨⟨b',rfl,hbb,hin,-,hoo⟩,hb1⟩
 simp only[if_true]at hbb hoo
 have HX1:=Hi (X3.out.trans hb1)
 have HXA:Hid (Ext w1 (w1.alloc (.cells b'.cells.toArray 31))):=Hi ((Ext.refl _).alloc _)
 have hpts:b'.gp.xs.length=2:=by
  have h:=congrArg (fun b:Bank=>b.pts.length) hbb
  exact h
 have K2:=Hi (fun(CC:Array Value) (W:World) (hx:Ext w1 W) (hcc:cmd0.cells.toArray=CC)=>apply_any 0 b' cmd0 CC W hcc (hin.ext hx) (by rw[hbb];exact HNB.out) (by omega) (cmd0_in W) cmd0_sz (HGM.out.ext (HX1.out.trans hx)) (HFD.out.ext (HX1.out.trans hx)) ((congrArg (fun b=>aplE b cmd0.cmd) hbb).trans apl_cmd0))
 obtain⟨gA,hgA⟩:∃ A,b'.gp.A=A:=⟨_,rfl⟩
 obtain⟨gc,hgc⟩:∃ A,b'.gp.c=A:=⟨_,rfl⟩
 obtain⟨CN,hcn,hnn,h1n,hkn⟩:=b'.packed
 rw[hcn]at K2
 rw[hkn]at HXA
 rw[hcn]
 have HN7:=Hi hnn
 have INN:Hid ((Tryz.prog.info? 31).map (·.size)=some CN.size):=Hi (infoBk hnn)
 have ON:=Hi h1n
 have HG2:Hid ((w1.alloc (.cells CN 31)).heap[w1.heap.size]?=some (.cells CN 31 (0,0))):=Hi (heap_alloc_new w1 _)
 have c1:(w1.alloc (.cells CN 31)).cell? ⟨w1.heap.size,1,none⟩=some (.slice gA 2 gc):=(cell_of_row _ _ 1 _ _ _ HG2.out).trans (by rw[← hkn,← hpts,← hgA,← hgc];rfl)
 clear hbb hin hoo hb1 hcn hnn h1n hkn hpts hgA hgc
 go_wp2_with (first | (with_reducible refine wpList_store_newN rfl 31 (.tmp 2) (.tmp 10) rfl (w1.heap.size) (by simp) _ CN 31 (by with_unfolding_all rfl) (by with_unfolding_all rfl) INN.out (by with_unfolding_all exact HN7.out.symm) ON.out ?_) | (with_reducible refine wpList_load_row rfl 31 (.tmp 2) rfl (w1.heap.size) (by with_unfolding_all rfl) _ CN _ _ HG2.out Tryz.underlying31 rfl INN.out ?_))
 refine(K2.out _ _ HXA.out ?i).mono ?_
 case i=>kernel_rfl
 rintro r w3 ⟨⟨b2,rfl,hb2,-,-⟩,hb3⟩
 obtain⟨CF,hcf,hsz,hall,hkf⟩:=b2.packed
 have hf0:CF[0]?=some (.int .i64 5):=by
  have h:b2.now=5:=congrArg Bank.now hb2
  rw[← hkf,← h];rfl
 obtain⟨A,hA⟩:∃ A,b2.oA=A:=⟨_,rfl⟩
 obtain⟨c,hc⟩:∃ A,b2.oc=A:=⟨_,rfl⟩
 have hf3:CF[3]?=some (.slice A 1 c):=by
  have h:b2.outl.length=1:=congrArg List.length (congrArg Bank.outl hb2)
  rw[← hkf,← h,← hA,← hc];rfl
 rw[hcf]
 clear hcf hkf hb2 hA hc
 have HG3:=Hi (hb3.blockAt HG2.out)
 have HX3:=Hi ((HX1.out.trans HXA.out).trans hb3)
 have IF_:Hid ((Tryz.prog.info? 31).map (·.size)=some CF.size):=Hi (infoBk hsz)
 have HZF:Hid (CN.size=CF.size):=Hi (by rw[HN7.out,hsz])
 have OF:=Hi hall
 have HG4:Hid ((w3.setRow w1.heap.size CF).heap[w1.heap.size]?=some (.cells CF 31 (0,0))):=Hi (setRow_heap _ _ _ _ _ _ HG3.out)
 have d0:(w3.setRow w1.heap.size CF).cell? ⟨w1.heap.size,0,none⟩=some (.int .i64 5):=(cell_of_row _ _ 0 _ _ _ HG4.out).trans hf0
 have d3:(w3.setRow w1.heap.size CF).cell? ⟨w1.heap.size,3,none⟩=some (.slice A 1 c):=(cell_of_row _ _ 3 _ _ _ HG4.out).trans hf3
 have HLE:=Hi HX1.out.size
 clear hb3 hsz hall hf0 hf3 c1
 go_wp2_with (with_reducible refine wpList_store_row rfl 31 (.tmp 2) (.tmp 26) rfl (w1.heap.size) CF (by with_unfolding_all rfl) (by with_unfolding_all rfl) _ _ HG3.out IF_.out HZF.out OF.out ?_)
 go_ret
 exact⟨rfl,HX3.out.rowSet HLE.out _⟩
end Bk
end Go.Proofs.YtfnmgcblhebdbaaGreatDoor
namespace Go.Proofs.YtfnmgcblhebdbaaGreatDoor
namespace Bk
def nums (es:List Ent):List (Option Int):=es.map num
def Uq (es:List Ent):Prop:=(nums es).Nodup
def Stays (x y:Ent):Prop:=num y=num x∧x.vers <+: y.vers
theorem Stays.refl(x:Ent):Stays x x:=⟨rfl,List.prefix_rfl⟩
def KeepsE (es fs:List Ent):Prop:=∀ x∈es,∃ y∈fs,Stays x y
theorem KeepsE.refl(es:List Ent):KeepsE es es:=fun x hx=>⟨x,hx,Stays.refl x⟩
theorem keeps_set{es:List Ent}{k:Nat}{e e':Ent}(he:es[k]?=some e)(h:Stays e e'):KeepsE es (es.set k e'):=fun x hx=>by
 obtain⟨i,hi⟩:=List.mem_iff_getElem?.1 hx
 by_cases hk:k=i
 · subst hk
   rw[he]at hi
   injection hi with hi
   subst hi
   have hl:=(List.getElem?_eq_some_iff.1 he).1
   exact⟨e',List.mem_iff_getElem?.2 ⟨k,by rw[List.getElem?_set_self hl]⟩,h⟩
 · exact⟨x,List.mem_iff_getElem?.2 ⟨i,by rw[List.getElem?_set_ne hk];exact hi⟩,Stays.refl x⟩
theorem nums_set{es:List Ent}{k:Nat}{e e':Ent}(he:es[k]?=some e)(h:num e'=num e):nums (es.set k e')=nums es:=by
 refine List.ext_getElem? fun i=>?_
 unfold nums
 rw[List.getElem?_map,List.getElem?_map]
 by_cases hk:k=i
 · subst hk
   rw[List.getElem?_set_self (List.getElem?_eq_some_iff.1 he).1,he]
   exact congrArg some h
 · rw[List.getElem?_set_ne hk]
theorem uq_set{es:List Ent}{k:Nat}{e e':Ent}(hu:Uq es)(he:es[k]?=some e)(h:num e'=num e):Uq (es.set k e'):=by
 unfold Uq
 rw[nums_set he h]
 exact hu
theorem fnd_no{es:List Ent}{id:Int}(h:¬ (fnd es id).isSome=true):some id ∉ nums es:=fun hm=>by
 obtain⟨e,he,hn⟩:=List.mem_map.1 hm
 refine h ?_
 unfold fnd
 rw[List.findIdx?_isSome,List.any_eq_true]
 exact⟨e,he,decide_eq_true hn⟩
theorem ins_perm(es:List Ent)(k:Nat)(e:Ent):(es.take k ++ e :: es.drop k).Perm (e :: es):=by
 refine List.perm_middle.trans ?_
 rw[List.take_append_drop]
theorem uq_ins{es:List Ent}{e:Ent}{id:Int}(hu:Uq es)(he:num e=some id)(h:some id ∉ nums es)(k:Nat):Uq (es.take k ++ e :: es.drop k):=by
 refine((ins_perm es k e).map num).nodup_iff.2 ?_
 rw[List.map_cons,List.nodup_cons,he]
 exact⟨h,hu⟩
theorem keeps_ins(es:List Ent)(k:Nat)(e:Ent):KeepsE es (es.take k ++ e :: es.drop k):=fun x hx=>⟨x,(ins_perm es k e).mem_iff.2 (List.mem_cons_of_mem _ hx),Stays.refl x⟩
theorem fnd_uq{es:List Ent}(hu:Uq es){y:Ent}(hy:y∈es){id:Int}(hn:num y=some id):∃ k,fnd es id=some k∧es[k]?=some y:=by
 obtain⟨j,hj⟩:=List.mem_iff_getElem?.1 hy
 refine⟨j,fnd_some hj hn fun i x hi hx hxn=>?_,hj⟩
 have h1:(nums es)[i]?=(nums es)[j]?:=by
  unfold nums
  rw[List.getElem?_map,List.getElem?_map,hx,hj]
  show some (num x)=some (num y)
  rw[hxn,hn]
 have hl:i<(nums es).length:=by
  unfold nums
  rw[List.length_map]
  exact(List.getElem?_eq_some_iff.1 hx).1
 have:=(List.getElem?_inj hl hu).1 h1
 omega
theorem num_rvsF(mj:Bool)(it:It.Item)(e:Ent):num (rvsF mj it e)=some it.id:=by
 unfold num rvsF
 show((e.vers ++ [it])[(e.vers ++ [it]).length-1]?).map (·.id)=some it.id
 rw[List.length_append]
 simp
theorem stays_rvsF{e:Ent}{l it:It.Item}(hl:e.vers[e.vers.length-1]?=some l)(hid:it.id=l.id)(mj:Bool):Stays e (rvsF mj it e) :=
 ⟨by rw[num_rvsF,hid];unfold num;rw[hl];rfl,List.prefix_append _ _⟩
theorem stays_rev{e:Ent}{l it:It.Item}(hl:e.vers[e.vers.length-1]?=some l)(hid:it.id=l.id)(r:Rev.Rec)(mj:Bool):Stays e (rvsF mj it { e with rev:=r }) :=
 ⟨by rw[num_rvsF,hid];unfold num;rw[hl];rfl,List.prefix_append _ _⟩
theorem succ_id{a b:It.Item}(h:It.succ a b=0):b.id=a.id:=by
 unfold It.succ at h
 split at h
 · rename_i h2;exact absurd h h2
 · split at h
   · cases h
   · rename_i h2;exact Decidable.of_not_not h2
structure Kept (b b2:Bank):Prop where
 ents:KeepsE b.ents b2.ents
 uq:Uq b2.ents
 outl:b.outl.length≤b2.outl.length
 assets:b.assets.length≤b2.assets.length
theorem rvsG_kept{es:List Ent}{c:Cmd}{k:Nat}{e:Ent}{l:It.Item}(hu:Uq es)(he:es[k]?=some e)(hl:e.vers[e.vers.length-1]?=some l)(hs:It.succ l c.item=0):KeepsE es (rvsG es c k e l).2∧Uq (rvsG es c k e l).2:=by
 have hid:=succ_id hs
 unfold rvsG
 repeat' split
 all_goals first | exact⟨KeepsE.refl es,hu⟩ | skip
 · have h:=stays_rvsF hl hid (It.major l c.item);exact⟨keeps_set he h,uq_set hu he h.1⟩
 · have h:=stays_rev hl hid (Rev.applyR e.rev ⟨9,c.user,c.roles,c.time⟩) true;exact⟨keeps_set he h,uq_set hu he h.1⟩
 · first
     | (have h:=stays_rvsF hl hid false;exact⟨keeps_set he h,uq_set hu he h.1⟩)
     | (have h:=stays_rvsF hl hid (It.major l c.item);exact⟨keeps_set he h,uq_set hu he h.1⟩)
theorem subE_kept(b:Bank)(c:Cmd)(hu:Uq b.ents):Kept b (subE b c).2:=by
 have hR:∀ es:List Ent,KeepsE b.ents es∧Uq es→Kept b { b with ents:=es }:=fun es h=>⟨h.1,h.2,Nat.le_refl _,Nat.le_refl _⟩
 have h0:KeepsE b.ents b.ents∧Uq b.ents:=⟨KeepsE.refl _,hu⟩
 unfold subE
 split
 · refine⟨KeepsE.refl _,hu,?_,Nat.le_refl _⟩
   show b.outl.length≤(adT b c.roles c.topic).2.length
   unfold adT
   repeat' split
   · exact Nat.le_refl _
   · exact Nat.le_refl _
   · show _≤(topI b.outl c.topic).length
     unfold topI
     rw[ins_len b.outl c.topic (topK_le _ _)]
     omega
 · split
   · refine⟨KeepsE.refl _,hu,Nat.le_refl _,?_⟩
     show b.assets.length≤(adA b c.roles c.asset).2.length
     unfold adA
     repeat' split
     all_goals first | exact Nat.le_refl _ | skip
     show _≤(astI b.assets c.asset).length
     unfold astI
     rw[ins_len b.assets c.asset (astK_le _ _)]
     omega
   · split
     · refine hR _ ?_
       unfold crtE
       repeat' split
       all_goals first | exact h0 | skip
       rename_i h4 _ _ _
       exact⟨keeps_ins _ _ _,uq_ins hu rfl (fnd_no h4) _⟩
     · split
       · refine hR _ ?_
         unfold rvsE
         repeat' split
         all_goals first | exact h0 | skip
         rename_i h5 _
         exact rvsG_kept hu (by assumption) (by assumption) (Decidable.of_not_not h5)
       · split
         · refine hR _ ?_
           unfold actE
           split
           · exact h0
           rename_i k hk
           split
           · exact h0
           rename_i e he
           split
           · exact h0
           split
           · exact h0
           split
           · exact h0
           exact⟨keeps_set he ⟨rfl,List.prefix_rfl⟩,uq_set hu he rfl⟩
         · split
           · exact⟨h0.1,h0.2,Nat.le_refl _,Nat.le_refl _⟩
           · refine hR _ ?_
             unfold setE
             split
             · exact h0
             split
             · exact h0
             rename_i k hk
             split
             · exact h0
             rename_i e he
             split
             · exact h0
             split
             · exact h0
             split
             · exact h0
             exact⟨keeps_set he ⟨rfl,List.prefix_rfl⟩,uq_set hu he rfl⟩
theorem aplE_kept{b:Bank}{c:Cmd}(hu:Uq b.ents)(h0:(aplE b c).1=0):Kept b (aplE b c).2∧b.now≤(aplE b c).2.now:=by
 have hs:=subE_kept b c hu
 unfold aplE at h0 ⊢
 split
 · rename_i g;rw[if_pos g]at h0;cases h0
 · rename_i g;rw[if_neg g]at h0
   split
   · rename_i g2;rw[if_pos g2]at h0;cases h0
   · rename_i g2;rw[if_neg g2]at h0
     split
     · rename_i g3;rw[if_pos g3]at h0;cases h0
     · rename_i g3;rw[if_neg g3]at h0
       split
       · rename_i g4;rw[if_pos g4]at h0;exact absurd h0 g4
       · exact⟨⟨hs.ents,hs.uq,hs.outl,hs.assets⟩,by show b.now≤c.time;omega⟩
theorem aplE_bad{b:Bank}{c:Cmd}(h0:(aplE b c).1≠0):(aplE b c).2=zB:=by
 unfold aplE at h0 ⊢
 repeat' split
 all_goals try rfl
 rename_i g1 g2 g3 g4
 rw[if_neg g1,if_neg g2,if_neg g3,if_neg g4]at h0
 exact absurd rfl h0
theorem Kept.found{b b2:Bank}(h:Kept b b2){x:Ent}(hx:x∈b.ents){l:It.Item}(hl:x.vers[x.vers.length-1]?=some l):∃ y,entF b2 l.id=some y∧x.vers <+: y.vers:=by
 obtain⟨y,hy,hn,hp⟩:=h.ents x hx
 obtain⟨k,hk,he⟩:=fnd_uq h.uq hy (id:=l.id) (by rw[hn];unfold num;rw[hl];rfl)
 refine⟨y,?_,hp⟩
 unfold entF
 rw[hk]
 exact he
theorem prefix_at{α:Type}{a b:List α}(h:a <+: b){k:Nat}{x:α}(hx:a[k]?=some x):b[k]?=some x:=by
 obtain⟨t,rfl⟩:=h
 rw[List.getElem?_append_left (List.getElem?_eq_some_iff.1 hx).1]
 exact hx
theorem Inv.up{n:Nat}{b:Bank}(h:Inv n b):Inv (n+1) b:=⟨h.pts,h.prior,Nat.le_succ_of_le h.outl,Nat.le_succ_of_le h.assets,Nat.le_succ_of_le h.ents,fun e he=>(h.ent e he).up,Nat.le_succ_of_le h.enem⟩
theorem Inv.new{p q:List Int}(hp:p.length*8≤140737488355328)(hq:q.length*8≤140737488355328):Inv 0 (nBank p q):=⟨hp,hq,Nat.le_refl _,Nat.le_refl _,Nat.le_refl _,fun e he=>(by cases he),Nat.le_refl _⟩
theorem Uq.new(p q:List Int):Uq (nBank p q).ents:=List.nodup_nil
end Bk
end Go.Proofs.YtfnmgcblhebdbaaGreatDoor
namespace Go.Proofs.YtfnmgcblhebdbaaGreatDoor
open Go.RowKit
namespace Bk
set_option maxRecDepth 100000 in
set_option maxHeartbeats 12800000 in
theorem rSameZ_any(x:BankL)(hb:x.bank=zB)(w:World) :
    Calls Tryz.prog 12 #[x.agg,BankL.zero.agg] w fun e w'=>e=.returned (.bool true)∧Ext w w':=by
 obtain⟨CA,hca,hna,-,hka⟩:=x.packed
 have h0:x.now=0:=congrArg Bank.now hb
 have h1:x.gp.xs=[]:=congrArg Bank.pts hb
 have h2:x.gq.xs=[]:=congrArg Bank.prior hb
 have h3:x.outl=[]:=congrArg Bank.outl hb
 have h4:x.assets=[]:=congrArg Bank.assets hb
 have h5:x.ents=[]:=List.map_eq_nil_iff.1 (congrArg Bank.ents hb)
 have h6:x.enem=[]:=congrArg Bank.enem hb
 rw[hca,zero_agg]
 obtain⟨CZ,hcz⟩:∃ C,(#[.int .i64 0,.slice none 0 0,.slice none 0 0,.slice none 0 0,.slice none 0 0,.slice none 0 0,.slice none 0 0]:Array Value)=C:=⟨_,rfl⟩
 rw[hcz]
 obtain⟨g1,e1⟩:∃ A,x.gp.A=A:=⟨_,rfl⟩
 obtain⟨k1,f1⟩:∃ A,x.gp.c=A:=⟨_,rfl⟩
 obtain⟨g2,e2⟩:∃ A,x.gq.A=A:=⟨_,rfl⟩
 obtain⟨k2,f2⟩:∃ A,x.gq.c=A:=⟨_,rfl⟩
 have K0:Hid (CA[0]?=some (.int .i64 0)∧CZ[0]?=some (.int .i64 0)):=Hi ⟨by rw[← hka,← h0];rfl,by rw[← hcz];rfl⟩
 have K1:Hid (CA[1]?=some (.slice g1 0 k1)∧CZ[1]?=some (.slice none 0 0)):=Hi ⟨by rw[← hka,← e1,← f1];show some (Value.slice x.gp.A x.gp.xs.length x.gp.c)=_;rw[h1];rfl,by rw[← hcz];rfl⟩
 have K2:Hid (CA[2]?=some (.slice g2 0 k2)∧CZ[2]?=some (.slice none 0 0)):=Hi ⟨by rw[← hka,← e2,← f2];show some (Value.slice x.gq.A x.gq.xs.length x.gq.c)=_;rw[h2];rfl,by rw[← hcz];rfl⟩
 have K3:Hid (CA[3]?=some (.slice x.oA 0 x.oc)∧CZ[3]?=some (.slice none 0 0)):=Hi ⟨by rw[← hka];show some (Value.slice x.oA x.outl.length x.oc)=_;rw[h3];rfl,by rw[← hcz];rfl⟩
 have K4:Hid (CA[4]?=some (.slice x.aA 0 x.ac)∧CZ[4]?=some (.slice none 0 0)):=Hi ⟨by rw[← hka];show some (Value.slice x.aA x.assets.length x.ac)=_;rw[h4];rfl,by rw[← hcz];rfl⟩
 have K5:Hid (CA[5]?=some (.slice x.eA 0 x.ec)∧CZ[5]?=some (.slice none 0 0)):=Hi ⟨by rw[← hka];show some (Value.slice x.eA x.ents.length x.ec)=_;rw[h5];rfl,by rw[← hcz];rfl⟩
 have K6:Hid (CA[6]?=some (.slice x.nA 0 x.nc)∧CZ[6]?=some (.slice none 0 0)):=Hi ⟨by rw[← hka];show some (Value.slice x.nA x.enem.length x.nc)=_;rw[h6];rfl,by rw[← hcz];rfl⟩
 obtain⟨W0,hW0⟩:∃ W,(w.alloc (.cells CA 31)).alloc (.cells CZ 31)=W:=⟨_,rfl⟩
 have X0:Hid (Ext w W0):=Hi (by rw[← hW0];exact((Ext.refl _).alloc _).alloc _)
 have HA:Hid (W0.heap[w.heap.size]?=some (.cells CA 31 (0,0))):=Hi (by rw[← hW0];exact two_fst' _ _ _)
 have HB:Hid (W0.heap[w.heap.size+1]?=some (.cells CZ 31 (0,0))):=Hi (by rw[← hW0];exact heap_new_at _ _ _ (by simp))
 have HW:=Hi hW0
 have KI:=Hi (fun(A:Option Addr) (c:Nat) (W:World)=>rints_any A c [] none 0 [] (n:=0) (m:=0) rfl rfl (v:=true) ⟨fun _=>rfl,fun _=>rfl⟩ (by omega) W (SlI.nil _ _) (SlI.nil _ _))
 have a0:((w.alloc (.cells CA 31)).alloc (.cells CZ 31)).cell? ⟨w.heap.size,0,none⟩=some (.int .i64 0):=by rw[HW.out];exact(cell_of_row _ _ 0 _ _ _ HA.out).trans K0.out.1
 have b0:((w.alloc (.cells CA 31)).alloc (.cells CZ 31)).cell? ⟨w.heap.size+1,0,none⟩=some (.int .i64 0):=by rw[HW.out];exact(cell_of_row _ _ 0 _ _ _ HB.out).trans K0.out.2
 have a1:((w.alloc (.cells CA 31)).alloc (.cells CZ 31)).cell? ⟨w.heap.size,1,none⟩=some (.slice g1 0 k1):=by rw[HW.out];exact(cell_of_row _ _ 1 _ _ _ HA.out).trans K1.out.1
 have b1:((w.alloc (.cells CA 31)).alloc (.cells CZ 31)).cell? ⟨w.heap.size+1,1,none⟩=some (.slice none 0 0):=by rw[HW.out];exact(cell_of_row _ _ 1 _ _ _ HB.out).trans K1.out.2
 clear hb hca hna hka h0 h1 h2 h3 h4 h5 h6 hcz e1 f1 e2 f2 hW0
 go_enter Tryz.func12,Tryz.ntmps12
 go_wp2_with fail
 rw[HW.out]
 with_reducible refine(KI.out _ _ _).mono ?_
 rintro e w1 ⟨rfl,hb1⟩
 have HX1:=Hi (X0.out.trans hb1)
 have HA1:=Hi (hb1.blockAt HA.out)
 have HB1:=Hi (hb1.blockAt HB.out)
 have a2:w1.cell? ⟨w.heap.size,2,none⟩=some (.slice g2 0 k2):=(cell_of_row _ _ 2 _ _ _ HA1.out).trans K2.out.1
 have b2:w1.cell? ⟨w.heap.size+1,2,none⟩=some (.slice none 0 0):=(cell_of_row _ _ 2 _ _ _ HB1.out).trans K2.out.2
 clear hb1 a0 b0 a1 b1
 go_wp2_with fail
 with_reducible refine(KI.out _ _ _).mono ?_
 rintro e w2 ⟨rfl,hb2⟩
 have HX2:=Hi (HX1.out.trans hb2)
 have HA2:=Hi (hb2.blockAt HA1.out)
 have HB2:=Hi (hb2.blockAt HB1.out)
 have a3:w2.cell? ⟨w.heap.size,3,none⟩=some (.slice x.oA 0 x.oc):=(cell_of_row _ _ 3 _ _ _ HA2.out).trans K3.out.1
 have b3:w2.cell? ⟨w.heap.size+1,3,none⟩=some (.slice none 0 0):=(cell_of_row _ _ 3 _ _ _ HB2.out).trans K3.out.2
 have a4:w2.cell? ⟨w.heap.size,4,none⟩=some (.slice x.aA 0 x.ac):=(cell_of_row _ _ 4 _ _ _ HA2.out).trans K4.out.1
 have b4:w2.cell? ⟨w.heap.size+1,4,none⟩=some (.slice none 0 0):=(cell_of_row _ _ 4 _ _ _ HB2.out).trans K4.out.2
 have a5:w2.cell? ⟨w.heap.size,5,none⟩=some (.slice x.eA 0 x.ec):=(cell_of_row _ _ 5 _ _ _ HA2.out).trans K5.out.1
 have b5:w2.cell? ⟨w.heap.size+1,5,none⟩=some (.slice none 0 0):=(cell_of_row _ _ 5 _ _ _ HB2.out).trans K5.out.2
 have a6:w2.cell? ⟨w.heap.size,6,none⟩=some (.slice x.nA 0 x.nc):=(cell_of_row _ _ 6 _ _ _ HA2.out).trans K6.out.1
 have b6:w2.cell? ⟨w.heap.size+1,6,none⟩=some (.slice none 0 0):=(cell_of_row _ _ 6 _ _ _ HB2.out).trans K6.out.2
 clear hb2 a2 b2
 go_wp2
 go_loopw [5] (fun i wr=>i=.int .i64 0∧wr=w2) (fun _ _=>0)
 case atStart=>exact⟨rfl,rfl⟩
 case round =>
 obtain⟨rfl,rfl⟩:=hrel
 go_wp2
 go_loopw [6] (fun i wr1=>i=.int .i64 0∧wr1=wr) (fun _ _=>0)
 case atStart=>exact⟨rfl,rfl⟩
 case round =>
 obtain⟨rfl,rfl⟩:=hrel
 go_wp2
 go_loopw [7] (fun i wr1=>i=.int .i64 0∧wr1=wr) (fun _ _=>0)
 case atStart=>exact⟨rfl,rfl⟩
 case round =>
 obtain⟨rfl,rfl⟩:=hrel
 go_wp2
 go_loopw [8] (fun i wr1=>i=.int .i64 0∧wr1=wr) (fun _ _=>0)
 case atStart=>exact⟨rfl,rfl⟩
 case round =>
 obtain⟨rfl,rfl⟩:=hrel
 go_wp2
 go_ret
 exact⟨rfl,HX2.out⟩
end Bk
end Go.Proofs.YtfnmgcblhebdbaaGreatDoor
