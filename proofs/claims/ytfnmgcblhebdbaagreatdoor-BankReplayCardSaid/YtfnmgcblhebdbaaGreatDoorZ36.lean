/- bank.relate: a contract. Conditions: those of each theorem. -/
import Derived.Test.YtfnmgcblhebdbaaGreatDoorZ29
import Derived.Test.YtfnmgcblhebdbaaGreatDoorZ33
namespace Go.Proofs.YtfnmgcblhebdbaaGreatDoor
set_option maxRecDepth 100000
set_option maxHeartbeats 12800000
open Go.RowKit
namespace Bk
theorem exec_callv3{P:Program}{ev:Operand→Value}{o:Oper}{w:World}{f:FuncId}{g c x y:Operand}{vc vx vy:Value}{ts:Array TypeId}(ho:o.op=.call { callee:=.value g,args:=#[c,x,y],argTypes:=ts })(hf:ev g=.func (.func f) #[] #[])(hc:ev c=vc)(hx:ev x=vx)(hy:ev y=vy)
    (he:∀ args w,(callFunc f args).run P w=.ok (.enter f args) w):(execOp ev o).run P w=.ok (.enter f #[vc,vx,vy]) w:=by
 unfold execOp;simp[ho,resolve,invoke,go_sem,hf,hc,hx,hy,he]
theorem En.OwnN.ext{c:Nat}{W w w':World}{A:Option Addr}{ys:List (Int×Int)}(h:En.OwnN c W w A ys)(he:Ext w w'):En.OwnN c W w' A ys:=h.imp id fun h=>h.elim fun g h=>⟨g,h.1,h.2.1,h.2.2.ext he⟩
theorem En.OwnN.low{c:Nat}{W V w:World}{A:Option Addr}{ys:List (Int×Int)}(h:En.OwnN c W w A ys)(hl:V.heap.size≤W.heap.size):En.OwnN c V w A ys:=h.imp id fun h=>h.elim fun g h=>⟨g,h.1,Nat.le_trans hl h.2.1,h.2.2⟩
theorem En.OwnN.got{c N:Nat}{W w:World}{A:Option Addr}{ys:List (Int×Int)}(h:En.OwnN c W w A ys)(hN:N≤W.heap.size)(hl:ys.length≤c)(hm:c≤maxLen)(hi:∀ x∈ys,ParIn x):Got ePar w N A ys c:=by
 refine⟨⟨h.sl,hi⟩,⟨?_,fun _ _=>trivial⟩,hl,hm,?_⟩
 · rcases h with ⟨rfl,-⟩ | ⟨g,rfl,hg,-⟩
   · exact Or.inr fun a ha=>by cases ha
   · exact Or.inr fun a ha=>by injection ha with ha;subst ha;exact Nat.le_trans hN hg
 · rcases h with ⟨rfl,-⟩ | ⟨g,rfl,-,⟨cur,hb,-⟩,-⟩
   · exact Or.inr fun a ha=>by cases ha
   · exact Or.inr fun a ha=>by injection ha with ha;subst ha;exact⟨cur,_,hb⟩
theorem Nm.setN{N g c:Nat}{b:BankL}{w:World}{A:Option Addr}{o:List (Int×Int)}(h:Nm N g b.cells.toArray b w)(hn:Got ePar w N A o c):Nm N g (b.setN A c o).cells.toArray (b.setN A c o) (w.setCell ⟨g,6,none⟩ (.slice A o.length c)):=by have h2:=h.store 6 (.slice A o.length c);rw[← setN_cells]at h2;exact⟨h2.row,⟨h2.own.now,h2.own.p,h2.own.q,h2.own.o,h2.own.s,h2.own.e,h2.own.ef,h2.own.pw,h2.own.eo,h2.own.es,hn.keepT h.row (by decide) (fun _ _=>trivial) (But.setCell w ⟨g,6,none⟩ _)⟩,h2.off⟩
def relC (b:Bank)(c:Cmd):Int×List (Int×Int):=if c.kind=7 then En.remE b.enem (c.id,c.other)else En.addE b.enem (c.id,c.other)
def relE (b:Bank)(c:Cmd):Int×List (Int×Int) :=
 if hasR c.roles 18=false then(9,b.enem)else if(fnd b.ents c.id).isNone=true∨(fnd b.ents c.other).isNone=true then(6,b.enem)
 else if(relC b c).1≠0 then((relC b c).1,b.enem)else(0,(relC b c).2)
theorem relC_in{b:Bank}{c:Cmd}(h:∀ x∈b.enem,ParIn x)(hp:ParIn (c.id,c.other)):∀ x∈(relC b c).2,ParIn x:=by
 unfold relC;split
 · unfold En.remE;split
   · intro x hx;cases hx
   · intro x hx;exact En.normE_in h x (List.mem_filter.1 hx).1
 · unfold En.addE;split
   · intro x hx;cases hx
   · split
     · intro x hx;cases hx
     · split
       · intro x hx;cases hx
       · split
         · intro x hx;cases hx
         · refine En.normE_in fun x hx=>?_;rcases List.mem_append.1 hx with hx | hx
           · exact En.normE_in h x hx
           · rw[List.mem_singleton]at hx;rw[hx];exact En.ordP_in hp
def bh3aL (g n:Nat)(CB:Array Value)(i1 _i2 v1 _v2:Int):List (Option Value→World→Prop):=sl [.pointer (some ⟨g,0,none⟩),.pointer (some ⟨g,0,none⟩),.agg CB,.pointer (some ⟨n,4,none⟩),.int .i64 i1,.int .i64 v1,.bool true,.bool true,undef,undef,undef,undef,undef,undef,undef,.bool true]
def bh3aD:List Nat:=[11,12,13,14,15,16,17,18,19,20,21,22,23,24,25,26]
def bh3aE (g n:Nat)(t:Array Value):Prop:=t.getD 0 undef=.pointer (some ⟨g,0,none⟩)∧t.getD 3 undef=.pointer (some ⟨n,0,none⟩)∧t.size=50

def bh3bL (g n:Nat)(CB:Array Value)(i1 i2 v1 v2:Int):List (Option Value→World→Prop):=sl [.pointer (some ⟨g,0,none⟩),.pointer (some ⟨g,0,none⟩),.agg CB,.pointer (some ⟨n,4,none⟩),.int .i64 i1,.int .i64 v1,.bool false,.bool false,.pointer (some ⟨g,0,none⟩),.pointer (some ⟨g,0,none⟩),.agg CB,.pointer (some ⟨n,5,none⟩),.int .i64 i2,.int .i64 v2,.bool true,.bool true]
def bh3bD:List Nat:=[11,12,13,14,15,16,17,18,19,20,21,22,23,24,25,26]
def bh3bE (g n:Nat)(t:Array Value):Prop:=t.getD 0 undef=.pointer (some ⟨g,0,none⟩)∧t.getD 3 undef=.pointer (some ⟨n,0,none⟩)∧t.size=50

def bh3cL (g n:Nat)(CB:Array Value)(i1 i2 v1 v2:Int):List (Option Value→World→Prop):=sl [.pointer (some ⟨g,0,none⟩),.pointer (some ⟨g,0,none⟩),.agg CB,.pointer (some ⟨n,4,none⟩),.int .i64 i1,.int .i64 v1,.bool false,.bool false,.pointer (some ⟨g,0,none⟩),.pointer (some ⟨g,0,none⟩),.agg CB,.pointer (some ⟨n,5,none⟩),.int .i64 i2,.int .i64 v2,.bool false,.bool false]
def bh3cD:List Nat:=[11,12,13,14,15,16,17,18,19,20,21,22,23,24,25,26]
def bh3cE (g n:Nat)(t:Array Value):Prop:=t.getD 0 undef=.pointer (some ⟨g,0,none⟩)∧t.getD 3 undef=.pointer (some ⟨n,0,none⟩)∧t.size=50

def bh8L (g n nn:Nat)(W0:World)(nA:Option Addr)(nc:Nat)(i1 i2 er:Int)(o2:List (Int×Int))(ff:Nat):List (Option Value→World→Prop):=[sv (.func (.func ff) #[] #[]),
 sv (.pointer (some ⟨g,0,none⟩)),
 sv (.pointer (some ⟨g,0,none⟩)),
 sv (.pointer (some ⟨g,6,none⟩)),
 sv (.slice nA nn nc),
 sv (.pointer (some ⟨n,4,none⟩)),
 sv (.int .i64 i1),
 sv (.pointer (some ⟨n,5,none⟩)),
 sv (.int .i64 i2),
 fun u w=>∃ V:Option Addr×Nat,
 u=some (.tuple #[.slice V.1 o2.length V.2,.int .i64 er])∧En.OwnN V.2 W0 w V.1 o2∧o2.length≤V.2∧V.2≤maxLen,
 fun u w=>∃ V:Option Addr×Nat,
 u=some (.tuple #[.slice V.1 o2.length V.2,.int .i64 er])∧En.OwnN V.2 W0 w V.1 o2∧o2.length≤V.2∧V.2≤maxLen,
 fun u w=>∃ V:Option Addr×Nat,
 u=some (.slice V.1 o2.length V.2)∧En.OwnN V.2 W0 w V.1 o2∧o2.length≤V.2∧V.2≤maxLen,
 sv (.int .i64 er),
 fun u w=>∃ V:Option Addr×Nat,
 u=some (.slice V.1 o2.length V.2)∧En.OwnN V.2 W0 w V.1 o2∧o2.length≤V.2∧V.2≤maxLen,
 sv (.int .i64 er)]
theorem bh8L_mono(g n nn:Nat)(W0:World)(nA:Option Addr)(nc:Nat)(i1 i2 er:Int)(o2:List (Int×Int))(ff:Nat):AllMono (bh8L g n nn W0 nA nc i1 i2 er o2 ff):=⟨mono_val _,mono_val _,mono_val _,mono_val _,mono_val _,mono_val _,mono_val _,mono_val _,mono_val _,(fun _ _ _ he h=>h.elim fun V h=>⟨V,h.1,h.2.1.ext he,h.2.2⟩),(fun _ _ _ he h=>h.elim fun V h=>⟨V,h.1,h.2.1.ext he,h.2.2⟩),(fun _ _ _ he h=>h.elim fun V h=>⟨V,h.1,h.2.1.ext he,h.2.2⟩),mono_val _,(fun _ _ _ he h=>h.elim fun V h=>⟨V,h.1,h.2.1.ext he,h.2.2⟩),mono_val _,trivial⟩
def bh8D:List Nat:=[31,32,33,34,35,36,37,38,39,40,30,41,42,6,7]
def bh8E (g n:Nat)(ff:Nat)(t:Array Value):Prop:=t.getD 0 undef=.pointer (some ⟨g,0,none⟩)∧t.getD 3 undef=.pointer (some ⟨n,0,none⟩)∧t.getD 5 undef=.func (.func ff) #[] #[]∧t.size=50

theorem relate_any(w0:World)(b:BankL)(g:Nat)(c:CmdL)(CC:Array Value)(w:World)(hx0:Ext w0 w)(hg:w0.heap.size≤g)(hn:Nm w0.heap.size g b.cells.toArray b w)(hcc:c.cells.toArray=CC)(hci:c.In w0)(hbn:b.enem.length≤999){v:Int}{o:List (Int×Int)}(hv:relE b.bank c.cmd=(v,o)) :
    Calls Tryz.prog 35 #[.pointer (some ⟨g,0,none⟩),.agg CC] w fun e w'=>e=.returned (.int .i64 v)∧RetNx w0 g (fun b2=>b2.bank={ b.bank with enem:=o }) w':=by
 have XA:Hid (Ext w (w.alloc (.cells CC 48))):=Hi ((Ext.refl w).alloc _);have HX0:=Hi (hx0.trans XA.out);have HNM0:=Hi (hn.ext XA.out);have HC0:Hid ((w.alloc (.cells CC 48)).heap[w.heap.size]?=some (.cells CC 48 (0,0))):=Hi (heap_alloc_new w _);obtain⟨CB,hcb⟩:∃ C,b.cells.toArray=C:=⟨_,rfl⟩;have HCB:=Hi hcb;have IB:Hid ((Tryz.prog.info? 31).map (·.size)=some CB.size):=Hi (infoBk (by rw[← hcb];rfl));have IC:Hid ((Tryz.prog.info? 48).map (·.size)=some CC.size):=Hi (infoCm (by rw[← hcc];rfl));have K0:Hid (CC[0]?=some (.int .i64 c.kind)):=Hi (by rw[← hcc];rfl);have K2:Hid (CC[2]?=some (.int .i64 c.roles)):=Hi (by rw[← hcc];rfl);have K4:Hid (CC[4]?=some (.int .i64 c.id)):=Hi (by rw[← hcc];rfl);have K5:Hid (CC[5]?=some (.int .i64 c.other)):=Hi (by rw[← hcc];rfl);obtain⟨ne,hne⟩:∃ n,b.enem.length=n:=⟨_,rfl⟩;have HNE:=Hi hne;rw[hne]at hbn;have B6:Hid (CB[6]?=some (.slice b.nA ne b.nc)):=Hi (by rw[← hcb,← hne];rfl);have HBG:Hid (w0.heap.size≤g):=Hi hg;have HV:=Hi hv;have HPI:Hid (ParIn (c.id,c.other)):=Hi ⟨hci.id,hci.other⟩;have HEI:Hid (∀ x∈b.enem,ParIn x):=Hi (fun x hx=>hn.own.n.sl.ins x hx);have ENF:=Hi (enters_of Tryz.func38 (by kernel_rfl) rfl);have ENA:=Hi (enters_of Tryz.func77 (by kernel_rfl) rfl);have ENM:=Hi (enters_of Tryz.func78 (by kernel_rfl) rfl);obtain⟨u0,hu0⟩:∃ u,hasR c.roles 18=u:=⟨_,rfl⟩;have HU0:=Hi hu0;obtain⟨f1,hf1⟩:∃ f,fnd b.bank.ents c.id=f:=⟨_,rfl⟩;obtain⟨f2,hf2⟩:∃ f,fnd b.bank.ents c.other=f:=⟨_,rfl⟩;have HF1':=Hi hf1;have HF2':=Hi hf2;obtain⟨vf1,hvf1⟩:∃ z,ixV f1=z:=⟨_,rfl⟩;obtain⟨vf2,hvf2⟩:∃ z,ixV f2=z:=⟨_,rfl⟩;have HVF1:=Hi hvf1;have HVF2:=Hi hvf2;clear hx0 hg hn hcc hci hv hcb hu0 hf1 hf2 hvf1 hvf2 hne;go_enter Tryz.func35,Tryz.ntmps35
 go_wp2_with (with_reducible refine wpList_load_row rfl 48 (.tmp 3) rfl (w.heap.size) (by with_unfolding_all rfl) _ CC _ _ HC0.out Tryz.underlying48 rfl IC.out ?_)
 with_reducible refine(has_any CC c.roles 18 HU0.out K2.out _).mono ?_
 rintro e w1 ⟨rfl,hb1⟩;have HX1:=Hi (HX0.out.trans hb1);have HNM1:=Hi (HNM0.out.ext hb1);have HC1:=Hi (hb1.blockAt HC0.out);clear hb1;cases u0 with
 | false=>have hz:Hid (v=9∧o=b.bank.enem):=Hi (by have h:=HV.out;unfold relE at h;rw[if_pos (show hasR c.cmd.roles 18=false from HU0.out)]at h;injection h with h1 h2;exact⟨h1.symm,h2.symm⟩);go_wp2;go_ret;exact⟨by rw[hz.out.1];rfl,⟨b,by rw[hz.out.2],HNM1.out⟩,HX1.out⟩
 | true =>
 have hbag:b.agg=.agg CB:=by rw[← HCB.out];rfl
 have HB1:Hid (w1.heap[g]?=some (.cells CB 31 (0,0))):=Hi (by rw[← HCB.out];exact HNM1.out.row);have CI1:Hid (w1.cell? ⟨w.heap.size,4,none⟩=some (.int .i64 c.id)):=Hi ((cell_of_row _ _ 4 _ _ _ HC1.out).trans K4.out);have CI2:Hid (w1.cell? ⟨w.heap.size,5,none⟩=some (.int .i64 c.other)):=Hi ((cell_of_row _ _ 5 _ _ _ HC1.out).trans K5.out);have HF1:=Hi (fun(W:World) (hx:Ext w1 W)=>bfind_any b c.id (v:=vf1) (by rw[show fnd (b.ents.map (·.ent)) c.id=f1 from HF1'.out];exact HVF1.out) W ((HNM1.out.ext hx).own.in_));have HF2:=Hi (fun(W:World) (hx:Ext w1 W)=>bfind_any b c.other (v:=vf2) (by rw[show fnd (b.ents.map (·.ent)) c.other=f2 from HF2'.out];exact HVF2.out) W ((HNM1.out.ext hx).own.in_));rw[hbag]at HF1 HF2;clear hbag;by_cases hn1:f1.isNone=true
 · have HV1:Hid (vf1<0):=Hi (by rw[← HVF1.out,Option.isNone_iff_eq_none.1 hn1];show(-1:Int)<0;omega);have hz:Hid (v=6∧o=b.bank.enem):=Hi (by have h:=HV.out;unfold relE at h;rw[if_neg (by rw[show hasR c.cmd.roles 18=true from HU0.out];simp),if_pos (Or.inl (by rw[show fnd b.bank.ents c.cmd.id=f1 from HF1'.out];exact hn1))]at h;injection h with h1 h2;exact⟨h1.symm,h2.symm⟩);clear hn1;go_wp2_with fail
   refine region_tb (by kernel_rfl) (by decide +kernel) (bh3aE g w.heap.size) ⟨rfl,rfl,rfl⟩ 16 bh3aD (fun _=>none) (RG (bh3aL g w.heap.size CB c.id c.other vf1 vf2)) w1 (Ext.refl _) (fun i h1 h2=>absurd h2 (Nat.not_lt.2 h1)) ?_ ?_
   · intro Tv dd lv U wz i oZ hE ho hlv hd hT;obtain⟨t0,t3,tz⟩:=hE;have hx:=hT.ext;have rX:=RG.ext (l:=bh3aL g w.heap.size CB c.id c.other vf1 vf2) (sl_mono _)
     match i,ho,hlv,hd with
     | 0,ho,hlv,hd=>cases oi ho;exact yl1 hT rX ho hd (.pointer (some ⟨g,0,none⟩)) (od dd hT tz t0)
     | 1,ho,hlv,hd=>cases oi ho;exact yl1 hT rX ho hd (.pointer (some ⟨g,0,none⟩)) (nw dd hT hd tz 0 11 (.pointer (some ⟨g,0,none⟩)))
     | 2,ho,hlv,hd=>cases oi ho;have v0:=nw dd hT hd tz 1 12 (.pointer (some ⟨g,0,none⟩));exact yxe hT rX ho hd (.agg CB) (exec_load_row _ _ rfl g v0 _ _ _ _ (hx.blockAt HB1.out) Tryz.underlying31 rfl IB.out)
     | 3,ho,hlv,hd=>cases oi ho;exact yl1 hT rX ho hd (.pointer (some ⟨w.heap.size,4,none⟩)) (od dd hT tz t3)
     | 4,ho,hlv,hd=>cases oi ho;exact yk1 hT rX ho hd (.int .i64 c.id) (nw dd hT hd tz 3 14 (.pointer (some ⟨w.heap.size,4,none⟩))) (hx.keep CI1.out)
     | 5,ho,hlv,hd=>cases oi ho;have v0:=nw dd hT hd tz 2 13 (.agg CB);have v1:=nw dd hT hd tz 4 15 (.int .i64 c.id);refine cl hT rX ho hd (f:=38) (args:=#[.agg CB,.int .i64 c.id]) (exec_call2 rfl rfl v0 v1 ENF.out) ?_;refine(HF1.out wz hx).mono ?_;rintro e w' ⟨rfl,hb⟩;exact⟨_,rfl,hb,rfl⟩
     | 6,ho,hlv,hd=>cases oi ho;have v1:Act.eval ⟨over Tv U,dd⟩ (.const (.int .i64 0))=.int .i64 0:=rfl;exact yk2 hT rX ho hd (.bool true) (nw dd hT hd tz 5 16 (.int .i64 vf1)) v1 HV1.out
     | 7,ho,hlv,hd=>cases oi ho;exact yl1 hT rX ho hd (.bool true) (nw dd hT hd tz 6 17 (.bool true))
     | 8,ho,hlv,hd=>cases oi ho;have hgu:=nf hT hd 7 18 (.bool (!false));exact tbw_skip hT ho hd (wanted_no (j:=7) (s:=18) (b:=false) rfl rfl rfl hgu (by show 18<Tv.size;omega)) rfl (by decide) (by decide) rfl
     | 9,ho,hlv,hd=>cases oi ho;have hgu:=nf hT hd 7 18 (.bool (!false));exact tbw_skip hT ho hd (wanted_no (j:=7) (s:=18) (b:=false) rfl rfl rfl hgu (by show 18<Tv.size;omega)) rfl (by decide) (by decide) rfl
     | 10,ho,hlv,hd=>cases oi ho;have hgu:=nf hT hd 7 18 (.bool (!false));exact tbw_skip hT ho hd (wanted_no (j:=7) (s:=18) (b:=false) rfl rfl rfl hgu (by show 18<Tv.size;omega)) rfl (by decide) (by decide) rfl
     | 11,ho,hlv,hd=>cases oi ho;have hgu:=nf hT hd 7 18 (.bool (!false));exact tbw_skip hT ho hd (wanted_no (j:=7) (s:=18) (b:=false) rfl rfl rfl hgu (by show 18<Tv.size;omega)) rfl (by decide) (by decide) rfl
     | 12,ho,hlv,hd=>cases oi ho;have hgu:=nf hT hd 7 18 (.bool (!false));exact tbw_skip hT ho hd (wanted_no (j:=7) (s:=18) (b:=false) rfl rfl rfl hgu (by show 18<Tv.size;omega)) rfl (by decide) (by decide) rfl
     | 13,ho,hlv,hd=>cases oi ho;have hgu:=nf hT hd 7 18 (.bool (!false));exact tbw_skip hT ho hd (wanted_no (j:=7) (s:=18) (b:=false) rfl rfl rfl hgu (by show 18<Tv.size;omega)) rfl (by decide) (by decide) rfl
     | 14,ho,hlv,hd=>cases oi ho;have hgu:=nf hT hd 7 18 (.bool (!false));exact tbw_skip hT ho hd (wanted_no (j:=7) (s:=18) (b:=false) rfl rfl rfl hgu (by show 18<Tv.size;omega)) rfl (by decide) (by decide) rfl
     | 15,ho,hlv,hd=>cases oi ho;have v1:Act.eval ⟨over Tv U,dd⟩ (.const (.bool true))=.bool true:=rfl;exact yl2 hT rX ho hd (.bool true) (nw dd hT hd tz 7 18 (.bool true)) v1
     | i+16,ho,_,_=>exact absurd ho (by simp)
   intro U wz hex hout hfin;have f26:U 26=some (.bool true):=hfin 15 (by decide) rfl;have XE:=Hi hex;clear hex hfin;rw[over_list];simp(disch:=decide) only[overL,Nat.reduceAdd,hout,Option.getD_none];rw[f26];simp only[Option.getD_some];clear hout f26;have HX2:=Hi (HX1.out.trans XE.out);have HNM2:=Hi (HNM1.out.ext XE.out);go_wp2;go_ret;exact⟨by rw[hz.out.1];rfl,⟨b,by rw[hz.out.2],HNM2.out⟩,HX2.out⟩
 have HV1:Hid (¬ vf1<0):=Hi (by
  cases f1 with
  | none=>exact absurd rfl hn1
  | some z=>rw[← HVF1.out];show ¬ ((z:Int))<0;omega)
 by_cases hn2:f2.isNone=true
 · have HV2:Hid (vf2<0):=Hi (by rw[← HVF2.out,Option.isNone_iff_eq_none.1 hn2];show(-1:Int)<0;omega);have hz:Hid (v=6∧o=b.bank.enem):=Hi (by have h:=HV.out;unfold relE at h;rw[if_neg (by rw[show hasR c.cmd.roles 18=true from HU0.out];simp),if_pos (Or.inr (by rw[show fnd b.bank.ents c.cmd.other=f2 from HF2'.out];exact hn2))]at h;injection h with h1 h2;exact⟨h1.symm,h2.symm⟩);clear hn1 hn2;go_wp2_with fail
   refine region_tb (by kernel_rfl) (by decide +kernel) (bh3bE g w.heap.size) ⟨rfl,rfl,rfl⟩ 16 bh3bD (fun _=>none) (RG (bh3bL g w.heap.size CB c.id c.other vf1 vf2)) w1 (Ext.refl _) (fun i h1 h2=>absurd h2 (Nat.not_lt.2 h1)) ?_ ?_
   · intro Tv dd lv U wz i oZ hE ho hlv hd hT;obtain⟨t0,t3,tz⟩:=hE;have hx:=hT.ext;have rX:=RG.ext (l:=bh3bL g w.heap.size CB c.id c.other vf1 vf2) (sl_mono _)
     match i,ho,hlv,hd with
     | 0,ho,hlv,hd=>cases oi ho;exact yl1 hT rX ho hd (.pointer (some ⟨g,0,none⟩)) (od dd hT tz t0)
     | 1,ho,hlv,hd=>cases oi ho;exact yl1 hT rX ho hd (.pointer (some ⟨g,0,none⟩)) (nw dd hT hd tz 0 11 (.pointer (some ⟨g,0,none⟩)))
     | 2,ho,hlv,hd=>cases oi ho;have v0:=nw dd hT hd tz 1 12 (.pointer (some ⟨g,0,none⟩));exact yxe hT rX ho hd (.agg CB) (exec_load_row _ _ rfl g v0 _ _ _ _ (hx.blockAt HB1.out) Tryz.underlying31 rfl IB.out)
     | 3,ho,hlv,hd=>cases oi ho;exact yl1 hT rX ho hd (.pointer (some ⟨w.heap.size,4,none⟩)) (od dd hT tz t3)
     | 4,ho,hlv,hd=>cases oi ho;exact yk1 hT rX ho hd (.int .i64 c.id) (nw dd hT hd tz 3 14 (.pointer (some ⟨w.heap.size,4,none⟩))) (hx.keep CI1.out)
     | 5,ho,hlv,hd=>cases oi ho;have v0:=nw dd hT hd tz 2 13 (.agg CB);have v1:=nw dd hT hd tz 4 15 (.int .i64 c.id);refine cl hT rX ho hd (f:=38) (args:=#[.agg CB,.int .i64 c.id]) (exec_call2 rfl rfl v0 v1 ENF.out) ?_;refine(HF1.out wz hx).mono ?_;rintro e w' ⟨rfl,hb⟩;exact⟨_,rfl,hb,rfl⟩
     | 6,ho,hlv,hd=>cases oi ho;have v1:Act.eval ⟨over Tv U,dd⟩ (.const (.int .i64 0))=.int .i64 0:=rfl;exact yk2 hT rX ho hd (.bool false) (nw dd hT hd tz 5 16 (.int .i64 vf1)) v1 HV1.out
     | 7,ho,hlv,hd=>cases oi ho;exact yl1 hT rX ho hd (.bool false) (nw dd hT hd tz 6 17 (.bool false))
     | 8,ho,hlv,hd=>cases oi ho;exact yl1 hT rX ho hd (.pointer (some ⟨g,0,none⟩)) (od dd hT tz t0) (hw:=wanted_of (j:=7) (s:=18) (b:=false) rfl rfl rfl (nf hT hd 7 18 (.bool false)) (by show 18<Tv.size;omega))
     | 9,ho,hlv,hd=>cases oi ho;exact yl1 hT rX ho hd (.pointer (some ⟨g,0,none⟩)) (nw dd hT hd tz 8 19 (.pointer (some ⟨g,0,none⟩))) (hw:=wanted_of (j:=7) (s:=18) (b:=false) rfl rfl rfl (nf hT hd 7 18 (.bool false)) (by show 18<Tv.size;omega))
     | 10,ho,hlv,hd=>cases oi ho;have hgu:=nf hT hd 7 18 (.bool false);have v0:=nw dd hT hd tz 9 20 (.pointer (some ⟨g,0,none⟩));exact yxe hT rX ho hd (.agg CB) (exec_load_row _ _ rfl g v0 _ _ _ _ (hx.blockAt HB1.out) Tryz.underlying31 rfl IB.out) (hw:=wanted_of (j:=7) (s:=18) (b:=false) rfl rfl rfl hgu (by show 18<Tv.size;omega))
     | 11,ho,hlv,hd=>cases oi ho;exact yl1 hT rX ho hd (.pointer (some ⟨w.heap.size,5,none⟩)) (od dd hT tz t3) (hw:=wanted_of (j:=7) (s:=18) (b:=false) rfl rfl rfl (nf hT hd 7 18 (.bool false)) (by show 18<Tv.size;omega))
     | 12,ho,hlv,hd=>cases oi ho;exact yk1 hT rX ho hd (.int .i64 c.other) (nw dd hT hd tz 11 22 (.pointer (some ⟨w.heap.size,5,none⟩))) (hx.keep CI2.out) (hw:=wanted_of (j:=7) (s:=18) (b:=false) rfl rfl rfl (nf hT hd 7 18 (.bool false)) (by show 18<Tv.size;omega))
     | 13,ho,hlv,hd=>cases oi ho;have hgu:=nf hT hd 7 18 (.bool false);have v0:=nw dd hT hd tz 10 21 (.agg CB);have v1:=nw dd hT hd tz 12 23 (.int .i64 c.other);refine cl hT rX ho hd (f:=38) (args:=#[.agg CB,.int .i64 c.other]) (exec_call2 rfl rfl v0 v1 ENF.out) ?_ (hw:=wanted_of (j:=7) (s:=18) (b:=false) rfl rfl rfl hgu (by show 18<Tv.size;omega));refine(HF2.out wz hx).mono ?_;rintro e w' ⟨rfl,hb⟩;exact⟨_,rfl,hb,rfl⟩
     | 14,ho,hlv,hd=>cases oi ho;have v1:Act.eval ⟨over Tv U,dd⟩ (.const (.int .i64 0))=.int .i64 0:=rfl;exact yk2 hT rX ho hd (.bool true) (nw dd hT hd tz 13 24 (.int .i64 vf2)) v1 HV2.out (hw:=wanted_of (j:=7) (s:=18) (b:=false) rfl rfl rfl (nf hT hd 7 18 (.bool false)) (by show 18<Tv.size;omega))
     | 15,ho,hlv,hd=>cases oi ho;have v1:Act.eval ⟨over Tv U,dd⟩ (.const (.bool true))=.bool true:=rfl;exact yl3 hT rX ho hd (.bool true) (nw dd hT hd tz 7 18 (.bool false)) v1 (nw dd hT hd tz 14 25 (.bool true))
     | i+16,ho,_,_=>exact absurd ho (by simp)
   intro U wz hex hout hfin;have f26:U 26=some (.bool true):=hfin 15 (by decide) rfl;have XE:=Hi hex;clear hex hfin;rw[over_list];simp(disch:=decide) only[overL,Nat.reduceAdd,hout,Option.getD_none];rw[f26];simp only[Option.getD_some];clear hout f26;have HX2:=Hi (HX1.out.trans XE.out);have HNM2:=Hi (HNM1.out.ext XE.out);go_wp2;go_ret;exact⟨by rw[hz.out.1];rfl,⟨b,by rw[hz.out.2],HNM2.out⟩,HX2.out⟩
 have HV2:Hid (¬ vf2<0):=Hi (by
  cases f2 with
  | none=>exact absurd rfl hn2
  | some z=>rw[← HVF2.out];show ¬ ((z:Int))<0;omega)
 obtain⟨er,her⟩:∃ z,(relC b.bank c.cmd).1=z:=⟨_,rfl⟩;obtain⟨oo,hoo⟩:∃ z,(relC b.bank c.cmd).2=z:=⟨_,rfl⟩;have HRC:Hid (relC b.bank c.cmd=(er,oo)):=Hi (Prod.ext her hoo);have HOI:Hid (∀ x∈oo,ParIn x):=Hi (by rw[← hoo];exact relC_in HEI.out HPI.out);have HVV:Hid ((v,o)=if er≠0 then(er,b.bank.enem)else(0,oo)):=Hi (by have h:=HV.out;unfold relE at h;rw[if_neg (by rw[show hasR c.cmd.roles 18=true from HU0.out];simp),if_neg (by rw[show fnd b.bank.ents c.cmd.id=f1 from HF1'.out,show fnd b.bank.ents c.cmd.other=f2 from HF2'.out];exact fun e=>e.elim hn1 hn2),her,hoo]at h;exact h.symm)
 clear hn1 hn2 her hoo;go_wp2_with fail
 refine region_tb (by kernel_rfl) (by decide +kernel) (bh3cE g w.heap.size) ⟨rfl,rfl,rfl⟩ 16 bh3cD (fun _=>none) (RG (bh3cL g w.heap.size CB c.id c.other vf1 vf2)) w1 (Ext.refl _) (fun i h1 h2=>absurd h2 (Nat.not_lt.2 h1)) ?_ ?_
 · intro Tv dd lv U wz i oZ hE ho hlv hd hT;obtain⟨t0,t3,tz⟩:=hE;have hx:=hT.ext;have rX:=RG.ext (l:=bh3cL g w.heap.size CB c.id c.other vf1 vf2) (sl_mono _)
   match i,ho,hlv,hd with
   | 0,ho,hlv,hd=>cases oi ho;exact yl1 hT rX ho hd (.pointer (some ⟨g,0,none⟩)) (od dd hT tz t0)
   | 1,ho,hlv,hd=>cases oi ho;exact yl1 hT rX ho hd (.pointer (some ⟨g,0,none⟩)) (nw dd hT hd tz 0 11 (.pointer (some ⟨g,0,none⟩)))
   | 2,ho,hlv,hd=>cases oi ho;have v0:=nw dd hT hd tz 1 12 (.pointer (some ⟨g,0,none⟩));exact yxe hT rX ho hd (.agg CB) (exec_load_row _ _ rfl g v0 _ _ _ _ (hx.blockAt HB1.out) Tryz.underlying31 rfl IB.out)
   | 3,ho,hlv,hd=>cases oi ho;exact yl1 hT rX ho hd (.pointer (some ⟨w.heap.size,4,none⟩)) (od dd hT tz t3)
   | 4,ho,hlv,hd=>cases oi ho;exact yk1 hT rX ho hd (.int .i64 c.id) (nw dd hT hd tz 3 14 (.pointer (some ⟨w.heap.size,4,none⟩))) (hx.keep CI1.out)
   | 5,ho,hlv,hd=>cases oi ho;have v0:=nw dd hT hd tz 2 13 (.agg CB);have v1:=nw dd hT hd tz 4 15 (.int .i64 c.id);refine cl hT rX ho hd (f:=38) (args:=#[.agg CB,.int .i64 c.id]) (exec_call2 rfl rfl v0 v1 ENF.out) ?_;refine(HF1.out wz hx).mono ?_;rintro e w' ⟨rfl,hb⟩;exact⟨_,rfl,hb,rfl⟩
   | 6,ho,hlv,hd=>cases oi ho;have v1:Act.eval ⟨over Tv U,dd⟩ (.const (.int .i64 0))=.int .i64 0:=rfl;exact yk2 hT rX ho hd (.bool false) (nw dd hT hd tz 5 16 (.int .i64 vf1)) v1 HV1.out
   | 7,ho,hlv,hd=>cases oi ho;exact yl1 hT rX ho hd (.bool false) (nw dd hT hd tz 6 17 (.bool false))
   | 8,ho,hlv,hd=>cases oi ho;exact yl1 hT rX ho hd (.pointer (some ⟨g,0,none⟩)) (od dd hT tz t0) (hw:=wanted_of (j:=7) (s:=18) (b:=false) rfl rfl rfl (nf hT hd 7 18 (.bool false)) (by show 18<Tv.size;omega))
   | 9,ho,hlv,hd=>cases oi ho;exact yl1 hT rX ho hd (.pointer (some ⟨g,0,none⟩)) (nw dd hT hd tz 8 19 (.pointer (some ⟨g,0,none⟩))) (hw:=wanted_of (j:=7) (s:=18) (b:=false) rfl rfl rfl (nf hT hd 7 18 (.bool false)) (by show 18<Tv.size;omega))
   | 10,ho,hlv,hd=>cases oi ho;have hgu:=nf hT hd 7 18 (.bool false);have v0:=nw dd hT hd tz 9 20 (.pointer (some ⟨g,0,none⟩));exact yxe hT rX ho hd (.agg CB) (exec_load_row _ _ rfl g v0 _ _ _ _ (hx.blockAt HB1.out) Tryz.underlying31 rfl IB.out) (hw:=wanted_of (j:=7) (s:=18) (b:=false) rfl rfl rfl hgu (by show 18<Tv.size;omega))
   | 11,ho,hlv,hd=>cases oi ho;exact yl1 hT rX ho hd (.pointer (some ⟨w.heap.size,5,none⟩)) (od dd hT tz t3) (hw:=wanted_of (j:=7) (s:=18) (b:=false) rfl rfl rfl (nf hT hd 7 18 (.bool false)) (by show 18<Tv.size;omega))
   | 12,ho,hlv,hd=>cases oi ho;exact yk1 hT rX ho hd (.int .i64 c.other) (nw dd hT hd tz 11 22 (.pointer (some ⟨w.heap.size,5,none⟩))) (hx.keep CI2.out) (hw:=wanted_of (j:=7) (s:=18) (b:=false) rfl rfl rfl (nf hT hd 7 18 (.bool false)) (by show 18<Tv.size;omega))
   | 13,ho,hlv,hd=>cases oi ho;have hgu:=nf hT hd 7 18 (.bool false);have v0:=nw dd hT hd tz 10 21 (.agg CB);have v1:=nw dd hT hd tz 12 23 (.int .i64 c.other);refine cl hT rX ho hd (f:=38) (args:=#[.agg CB,.int .i64 c.other]) (exec_call2 rfl rfl v0 v1 ENF.out) ?_ (hw:=wanted_of (j:=7) (s:=18) (b:=false) rfl rfl rfl hgu (by show 18<Tv.size;omega));refine(HF2.out wz hx).mono ?_;rintro e w' ⟨rfl,hb⟩;exact⟨_,rfl,hb,rfl⟩
   | 14,ho,hlv,hd=>cases oi ho;have v1:Act.eval ⟨over Tv U,dd⟩ (.const (.int .i64 0))=.int .i64 0:=rfl;exact yk2 hT rX ho hd (.bool false) (nw dd hT hd tz 13 24 (.int .i64 vf2)) v1 HV2.out (hw:=wanted_of (j:=7) (s:=18) (b:=false) rfl rfl rfl (nf hT hd 7 18 (.bool false)) (by show 18<Tv.size;omega))
   | 15,ho,hlv,hd=>cases oi ho;have v1:Act.eval ⟨over Tv U,dd⟩ (.const (.bool true))=.bool true:=rfl;exact yl3 hT rX ho hd (.bool false) (nw dd hT hd tz 7 18 (.bool false)) v1 (nw dd hT hd tz 14 25 (.bool false))
   | i+16,ho,_,_=>exact absurd ho (by simp)
 intro U wz hex hout hfin;have f26:U 26=some (.bool false):=hfin 15 (by decide) rfl;have XE:=Hi hex;clear hex hfin;rw[over_list];simp(disch:=decide) only[overL,Nat.reduceAdd,hout,Option.getD_none];rw[f26];simp only[Option.getD_some];clear hout f26;have HX2:=Hi (HX1.out.trans XE.out);have HNM2:=Hi (HNM1.out.ext XE.out);have HC2:=Hi (XE.out.blockAt HC1.out);clear XE HF1 HF2 CI1 CI2 HB1 HNM1 HX1 HC1;have ck:wz.cell? ⟨w.heap.size,0,none⟩=some (.int .i64 c.kind):=(cell_of_row _ _ 0 _ _ _ HC2.out).trans K0.out;obtain⟨wt,rfl⟩:∃ W,W=wz:=⟨_,rfl⟩;have C6:Hid (wt.cell? ⟨g,6,none⟩=some (.slice b.nA ne b.nc)):=Hi ((cell_of_row _ _ 6 _ _ _ HNM2.out.row).trans (by rw[HCB.out];exact B6.out));have CI1:Hid (wt.cell? ⟨w.heap.size,4,none⟩=some (.int .i64 c.id)):=Hi ((cell_of_row _ _ 4 _ _ _ HC2.out).trans K4.out);have CI2:Hid (wt.cell? ⟨w.heap.size,5,none⟩=some (.int .i64 c.other)):=Hi ((cell_of_row _ _ 5 _ _ _ HC2.out).trans K5.out);by_cases h7:c.kind=7
 · have t7:(c.kind == 7)=true:=(by rw[beq_iff_eq];exact h7);have ENX:=ENM;have HCX:Hid (∀ (W:World),Ext wt W→Calls Tryz.prog 78 #[.slice b.nA ne b.nc,.int .i64 c.id,.int .i64 c.other] W (En.RetPe W (er,oo))):=Hi (fun W hx=>En.remove_any b.nA b.nc ne b.enem (c.id,c.other) HNE.out W (HNM2.out.ext hx).own.n.sl hbn (by have h:=HRC.out;unfold relC at h;rw[if_pos (show c.cmd.kind=7 from h7)]at h;exact h));clear h7;go_wp2;go_wp2_with fail
   refine region_tb (by kernel_rfl) (by decide +kernel) (bh8E g w.heap.size (78)) ⟨rfl,rfl,rfl,rfl⟩ 15 bh8D (fun _=>none) (RG (bh8L g w.heap.size ne wt b.nA b.nc c.id c.other er oo (78))) wt (Ext.refl _) (fun i h1 h2=>absurd h2 (Nat.not_lt.2 h1)) ?_ ?_
   · intro Tv dd lv U wz i oZ hE ho hlv hd hT;obtain⟨t0,t3,t5,tz⟩:=hE;have hx:=hT.ext;have rX:=RG.ext (bh8L_mono g w.heap.size ne wt b.nA b.nc c.id c.other er oo (78))
     match i,ho,hlv,hd with
     | 0,ho,hlv,hd=>cases oi ho;exact yl1 hT rX ho hd (.func (.func 78) #[] #[]) (od dd hT tz t5)
     | 1,ho,hlv,hd=>cases oi ho;exact yl1 hT rX ho hd (.pointer (some ⟨g,0,none⟩)) (od dd hT tz t0)
     | 2,ho,hlv,hd=>cases oi ho;exact yl1 hT rX ho hd (.pointer (some ⟨g,0,none⟩)) (nw dd hT hd tz 1 32 (.pointer (some ⟨g,0,none⟩)))
     | 3,ho,hlv,hd=>cases oi ho;exact yl1 hT rX ho hd (.pointer (some ⟨g,6,none⟩)) (nw dd hT hd tz 2 33 (.pointer (some ⟨g,0,none⟩)))
     | 4,ho,hlv,hd=>cases oi ho;exact yk1 hT rX ho hd (.slice b.nA ne b.nc) (nw dd hT hd tz 3 34 (.pointer (some ⟨g,6,none⟩))) (hx.keep C6.out)
     | 5,ho,hlv,hd=>cases oi ho;exact yl1 hT rX ho hd (.pointer (some ⟨w.heap.size,4,none⟩)) (od dd hT tz t3)
     | 6,ho,hlv,hd=>cases oi ho;exact yk1 hT rX ho hd (.int .i64 c.id) (nw dd hT hd tz 5 36 (.pointer (some ⟨w.heap.size,4,none⟩))) (hx.keep CI1.out)
     | 7,ho,hlv,hd=>cases oi ho;exact yl1 hT rX ho hd (.pointer (some ⟨w.heap.size,5,none⟩)) (od dd hT tz t3)
     | 8,ho,hlv,hd=>cases oi ho;exact yk1 hT rX ho hd (.int .i64 c.other) (nw dd hT hd tz 7 38 (.pointer (some ⟨w.heap.size,5,none⟩))) (hx.keep CI2.out)
     | 9,ho,hlv,hd=>cases oi ho;have v0:=nw dd hT hd tz 4 35 (.slice b.nA ne b.nc);have v1:=nw dd hT hd tz 6 37 (.int .i64 c.id);have v2:=nw dd hT hd tz 8 39 (.int .i64 c.other);have v9:=nw dd hT hd tz 0 31 (.func (.func 78) #[] #[]);refine cl hT rX ho hd (f:=78) (args:=#[.slice b.nA ne b.nc,.int .i64 c.id,.int .i64 c.other]) (exec_callv3 rfl v9 v0 v1 v2 ENX.out) ?_;refine(HCX.out wz hx).mono ?_;rintro e w' ⟨A9,c9,rfl,h1,h2,h3,hb⟩;exact⟨_,rfl,hb,(A9,c9),rfl,h1.low hx.size,h2,h3⟩
     | 10,ho,hlv,hd=>cases oi ho;obtain⟨W,e0,hW⟩:=hT.facts 9 (by decide) (dep hd 9 (by kernel_rfl)) (fun c e=>by cases e);have v0:Act.eval ⟨over Tv U,dd⟩ (.tmp 40)=_:=eval_new (t:=Tv) (d:=dd) e0 (by show 40<Tv.size;omega);exact yl1 hT rX ho hd (.tuple #[.slice W.1 oo.length W.2,.int .i64 er]) v0 (hR:=⟨W,rfl,hW⟩)
     | 11,ho,hlv,hd=>cases oi ho;obtain⟨W,e0,hW⟩:=hT.facts 10 (by decide) (dep hd 10 (by kernel_rfl)) (fun c e=>by cases e);have v0:Act.eval ⟨over Tv U,dd⟩ (.tmp 30)=_:=eval_new (t:=Tv) (d:=dd) e0 (by show 30<Tv.size;omega);exact yl1 hT rX ho hd (.slice W.1 oo.length W.2) v0 (hR:=⟨W,rfl,hW⟩)
     | 12,ho,hlv,hd=>cases oi ho;obtain⟨W,e0,hW⟩:=hT.facts 10 (by decide) (dep hd 10 (by kernel_rfl)) (fun c e=>by cases e);have v0:Act.eval ⟨over Tv U,dd⟩ (.tmp 30)=_:=eval_new (t:=Tv) (d:=dd) e0 (by show 30<Tv.size;omega);exact yl1 hT rX ho hd (.int .i64 er) v0
     | 13,ho,hlv,hd=>cases oi ho;obtain⟨W,e0,hW⟩:=hT.facts 11 (by decide) (dep hd 11 (by kernel_rfl)) (fun c e=>by cases e);have v0:Act.eval ⟨over Tv U,dd⟩ (.tmp 41)=_:=eval_new (t:=Tv) (d:=dd) e0 (by show 41<Tv.size;omega);exact yl1 hT rX ho hd (.slice W.1 oo.length W.2) v0 (hR:=⟨W,rfl,hW⟩)
     | 14,ho,hlv,hd=>cases oi ho;exact yl1 hT rX ho hd (.int .i64 er) (nw dd hT hd tz 12 42 (.int .i64 er))
     | i+15,ho,_,_=>exact absurd ho (by simp)
   intro U wz hex hout hfin;obtain⟨W6,f6,hW6⟩:=hfin 13 (by decide) rfl
   change U 6=_ at f6
   have f7:U 7=some (.int .i64 er):=hfin 14 (by decide) rfl;have XE:=Hi hex;clear hex hfin;rw[over_list];simp(disch:=decide) only[overL,Nat.reduceAdd,hout,Option.getD_none];rw[f6,f7];simp only[Option.getD_some];clear hout f6 f7;obtain⟨ho6,hl6,hm6⟩:=hW6;have HO6:=Hi ho6;have HL6:=Hi hl6;have HM6:=Hi hm6;have HX3:=Hi (HX2.out.trans XE.out);have HNM3:=Hi (HNM2.out.ext XE.out);have HNW:=Hi HX2.out.size;clear ho6 hl6 hm6 ck;by_cases he:er=0;case neg =>
    have hz:Hid (v=er∧o=b.bank.enem):=Hi (by have h:=HVV.out;rw[if_pos he]at h;injection h with h1 h2;exact⟨h1,h2⟩);go_wp2;go_ret;exact⟨by rw[hz.out.1];rfl,⟨b,by rw[hz.out.2],HNM3.out⟩,HX3.out⟩
   case pos =>
   subst he;have hz:Hid (v=0∧o=oo):=Hi (by have h:=HVV.out;rw[if_neg (by simp)]at h;injection h with h1 h2;exact⟨h1,h2⟩);have HFIN:=Hi (HNM3.out.setN (HO6.out.got HNW.out HL6.out HM6.out HOI.out));have HXF:=Hi (HX3.out.setCell (p:=⟨g,6,none⟩) HBG.out (.slice W6.1 oo.length W6.2));have hc:wz.cell? ⟨g,6,none⟩=some (.slice b.nA ne b.nc):=(cell_of_row _ _ 6 _ _ _ HNM3.out.row).trans (by rw[HCB.out];exact B6.out);have hfz:=frozen_of_row _ _ 6 _ _ HNM3.out.row;go_wp2;go_ret;exact⟨by rw[hz.out.1];rfl,⟨_,by rw[hz.out.2];rfl,HFIN.out⟩,HXF.out⟩
 · have t7:(c.kind == 7)=false:=(by rw[beq_eq_false_iff_ne];exact h7);have ENX:=ENA;have HCX:Hid (∀ (W:World),Ext wt W→Calls Tryz.prog 77 #[.slice b.nA ne b.nc,.int .i64 c.id,.int .i64 c.other] W (En.RetPe W (er,oo))):=Hi (fun W hx=>En.add_any b.nA b.nc ne b.enem (c.id,c.other) HNE.out W (HNM2.out.ext hx).own.n.sl hbn (by have h:=HRC.out;unfold relC at h;rw[if_neg (show ¬ c.cmd.kind=7 from h7)]at h;exact h));clear h7;go_wp2;go_wp2_with fail
   refine region_tb (by kernel_rfl) (by decide +kernel) (bh8E g w.heap.size (77)) ⟨rfl,rfl,rfl,rfl⟩ 15 bh8D (fun _=>none) (RG (bh8L g w.heap.size ne wt b.nA b.nc c.id c.other er oo (77))) wt (Ext.refl _) (fun i h1 h2=>absurd h2 (Nat.not_lt.2 h1)) ?_ ?_
   · intro Tv dd lv U wz i oZ hE ho hlv hd hT;obtain⟨t0,t3,t5,tz⟩:=hE;have hx:=hT.ext;have rX:=RG.ext (bh8L_mono g w.heap.size ne wt b.nA b.nc c.id c.other er oo (77))
     match i,ho,hlv,hd with
     | 0,ho,hlv,hd=>cases oi ho;exact yl1 hT rX ho hd (.func (.func 77) #[] #[]) (od dd hT tz t5)
     | 1,ho,hlv,hd=>cases oi ho;exact yl1 hT rX ho hd (.pointer (some ⟨g,0,none⟩)) (od dd hT tz t0)
     | 2,ho,hlv,hd=>cases oi ho;exact yl1 hT rX ho hd (.pointer (some ⟨g,0,none⟩)) (nw dd hT hd tz 1 32 (.pointer (some ⟨g,0,none⟩)))
     | 3,ho,hlv,hd=>cases oi ho;exact yl1 hT rX ho hd (.pointer (some ⟨g,6,none⟩)) (nw dd hT hd tz 2 33 (.pointer (some ⟨g,0,none⟩)))
     | 4,ho,hlv,hd=>cases oi ho;exact yk1 hT rX ho hd (.slice b.nA ne b.nc) (nw dd hT hd tz 3 34 (.pointer (some ⟨g,6,none⟩))) (hx.keep C6.out)
     | 5,ho,hlv,hd=>cases oi ho;exact yl1 hT rX ho hd (.pointer (some ⟨w.heap.size,4,none⟩)) (od dd hT tz t3)
     | 6,ho,hlv,hd=>cases oi ho;exact yk1 hT rX ho hd (.int .i64 c.id) (nw dd hT hd tz 5 36 (.pointer (some ⟨w.heap.size,4,none⟩))) (hx.keep CI1.out)
     | 7,ho,hlv,hd=>cases oi ho;exact yl1 hT rX ho hd (.pointer (some ⟨w.heap.size,5,none⟩)) (od dd hT tz t3)
     | 8,ho,hlv,hd=>cases oi ho;exact yk1 hT rX ho hd (.int .i64 c.other) (nw dd hT hd tz 7 38 (.pointer (some ⟨w.heap.size,5,none⟩))) (hx.keep CI2.out)
     | 9,ho,hlv,hd=>cases oi ho;have v0:=nw dd hT hd tz 4 35 (.slice b.nA ne b.nc);have v1:=nw dd hT hd tz 6 37 (.int .i64 c.id);have v2:=nw dd hT hd tz 8 39 (.int .i64 c.other);have v9:=nw dd hT hd tz 0 31 (.func (.func 77) #[] #[]);refine cl hT rX ho hd (f:=77) (args:=#[.slice b.nA ne b.nc,.int .i64 c.id,.int .i64 c.other]) (exec_callv3 rfl v9 v0 v1 v2 ENX.out) ?_;refine(HCX.out wz hx).mono ?_;rintro e w' ⟨A9,c9,rfl,h1,h2,h3,hb⟩;exact⟨_,rfl,hb,(A9,c9),rfl,h1.low hx.size,h2,h3⟩
     | 10,ho,hlv,hd=>cases oi ho;obtain⟨W,e0,hW⟩:=hT.facts 9 (by decide) (dep hd 9 (by kernel_rfl)) (fun c e=>by cases e);have v0:Act.eval ⟨over Tv U,dd⟩ (.tmp 40)=_:=eval_new (t:=Tv) (d:=dd) e0 (by show 40<Tv.size;omega);exact yl1 hT rX ho hd (.tuple #[.slice W.1 oo.length W.2,.int .i64 er]) v0 (hR:=⟨W,rfl,hW⟩)
     | 11,ho,hlv,hd=>cases oi ho;obtain⟨W,e0,hW⟩:=hT.facts 10 (by decide) (dep hd 10 (by kernel_rfl)) (fun c e=>by cases e);have v0:Act.eval ⟨over Tv U,dd⟩ (.tmp 30)=_:=eval_new (t:=Tv) (d:=dd) e0 (by show 30<Tv.size;omega);exact yl1 hT rX ho hd (.slice W.1 oo.length W.2) v0 (hR:=⟨W,rfl,hW⟩)
     | 12,ho,hlv,hd=>cases oi ho;obtain⟨W,e0,hW⟩:=hT.facts 10 (by decide) (dep hd 10 (by kernel_rfl)) (fun c e=>by cases e);have v0:Act.eval ⟨over Tv U,dd⟩ (.tmp 30)=_:=eval_new (t:=Tv) (d:=dd) e0 (by show 30<Tv.size;omega);exact yl1 hT rX ho hd (.int .i64 er) v0
     | 13,ho,hlv,hd=>cases oi ho;obtain⟨W,e0,hW⟩:=hT.facts 11 (by decide) (dep hd 11 (by kernel_rfl)) (fun c e=>by cases e);have v0:Act.eval ⟨over Tv U,dd⟩ (.tmp 41)=_:=eval_new (t:=Tv) (d:=dd) e0 (by show 41<Tv.size;omega);exact yl1 hT rX ho hd (.slice W.1 oo.length W.2) v0 (hR:=⟨W,rfl,hW⟩)
     | 14,ho,hlv,hd=>cases oi ho;exact yl1 hT rX ho hd (.int .i64 er) (nw dd hT hd tz 12 42 (.int .i64 er))
     | i+15,ho,_,_=>exact absurd ho (by simp)
   intro U wz hex hout hfin;obtain⟨W6,f6,hW6⟩:=hfin 13 (by decide) rfl
   change U 6=_ at f6
   have f7:U 7=some (.int .i64 er):=hfin 14 (by decide) rfl;have XE:=Hi hex;clear hex hfin;rw[over_list];simp(disch:=decide) only[overL,Nat.reduceAdd,hout,Option.getD_none];rw[f6,f7];simp only[Option.getD_some];clear hout f6 f7;obtain⟨ho6,hl6,hm6⟩:=hW6;have HO6:=Hi ho6;have HL6:=Hi hl6;have HM6:=Hi hm6;have HX3:=Hi (HX2.out.trans XE.out);have HNM3:=Hi (HNM2.out.ext XE.out);have HNW:=Hi HX2.out.size;clear ho6 hl6 hm6 ck;by_cases he:er=0;case neg =>
    have hz:Hid (v=er∧o=b.bank.enem):=Hi (by have h:=HVV.out;rw[if_pos he]at h;injection h with h1 h2;exact⟨h1,h2⟩);go_wp2;go_ret;exact⟨by rw[hz.out.1];rfl,⟨b,by rw[hz.out.2],HNM3.out⟩,HX3.out⟩
   case pos =>
   subst he;have hz:Hid (v=0∧o=oo):=Hi (by have h:=HVV.out;rw[if_neg (by simp)]at h;injection h with h1 h2;exact⟨h1,h2⟩);have HFIN:=Hi (HNM3.out.setN (HO6.out.got HNW.out HL6.out HM6.out HOI.out));have HXF:=Hi (HX3.out.setCell (p:=⟨g,6,none⟩) HBG.out (.slice W6.1 oo.length W6.2));have hc:wz.cell? ⟨g,6,none⟩=some (.slice b.nA ne b.nc):=(cell_of_row _ _ 6 _ _ _ HNM3.out.row).trans (by rw[HCB.out];exact B6.out);have hfz:=frozen_of_row _ _ 6 _ _ HNM3.out.row;go_wp2;go_ret;exact⟨by rw[hz.out.1];rfl,⟨_,by rw[hz.out.2];rfl,HFIN.out⟩,HXF.out⟩
end Bk
end Go.Proofs.YtfnmgcblhebdbaaGreatDoor
