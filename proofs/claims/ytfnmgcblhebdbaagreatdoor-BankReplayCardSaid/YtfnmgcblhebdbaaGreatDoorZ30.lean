/- bank.act: a contract. Conditions: those of each theorem. -/
import Derived.Test.YtfnmgcblhebdbaaGreatDoorZ23
import Derived.Test.YtfnmgcblhebdbaaGreatDoorZ18
namespace Go.Proofs.YtfnmgcblhebdbaaGreatDoor
set_option maxRecDepth 100000
set_option maxHeartbeats 12800000
open Go.RowKit
namespace Bk
theorem rvInfo(W:RvL):(Tryz.prog.info? 54).map (·.size)=some W.cells.toArray.size:=by show _=some 5;kernel_rfl
theorem rvOne(W:RvL):W.cells.toArray.all (·.oneCell')=true:=by simp[RvL.cells,IL.val,Value.oneCell']
def ao1L (g n:Nat)(CB:Array Value)(id vf:Int):List (Option Value→World→Prop):=sl [.pointer (some ⟨g,0,none⟩),.pointer (some ⟨g,0,none⟩),.agg CB,.pointer (some ⟨n,4,none⟩),.int .i64 id,.int .i64 vf,.int .i64 vf]
def ao1D:List Nat:=[10,11,12,13,14,15,5]
def ao1E (g n:Nat)(t:Array Value):Prop:=t.getD 0 undef=.pointer (some ⟨g,0,none⟩)∧t.getD 3 undef=.pointer (some ⟨n,0,none⟩)∧t.size=72

def ao5L (qe kk mm nb bv ov vc:Nat)(CI:Array Value):List (Option Value→World→Prop):=[sv (.pointer (some ⟨qe,kk*7,none⟩)),
 sv (.pointer (some ⟨qe,kk*7,none⟩)),
 sv (.pointer (some ⟨qe,kk*7,none⟩)),
 sv (.slice (some ⟨bv,ov,none⟩) mm vc),
 sv (.pointer (some ⟨qe,kk*7,none⟩)),
 sv (.pointer (some ⟨qe,kk*7,none⟩)),
 sv (.pointer (some ⟨qe,kk*7,none⟩)),
 sv (.slice (some ⟨bv,ov,none⟩) mm vc),
 sv (.int .i64 (mm:Int)),
 sv (.int .i64 ((mm:Int)-1)),
 sv (.pointer (some ⟨bv,ov+(mm-1)*17,none⟩)),
 sv (.agg CI),
 fun u w=>∃ q:Nat,
 u=some (.pointer (some ⟨q,0,none⟩))∧nb≤q∧w.heap[q]?=some (.cells #[.int .i64 0,.int .i64 0,.int .i64 0,.string ⟨#[]⟩,.slice none 0 0,.slice none 0 0,.int .i64 0,.int .i64 0,.slice none 0 0,.int .i64 0,.string ⟨#[]⟩,.int .i64 0,.int .i64 0,.int .i64 0,.int .i64 0,.slice none 0 0,.int .i64 0] 39 (0,0)),
 fun u w=>∃ q:Nat,
 u=some (.pointer (some ⟨q,0,none⟩))∧nb≤q∧w.heap[q]?=some (.cells CI 39 (0,0))]
theorem ao5L_mono(qe kk mm nb bv ov vc:Nat)(CI:Array Value):AllMono (ao5L qe kk mm nb bv ov vc CI):=⟨mono_val _,mono_val _,mono_val _,mono_val _,mono_val _,mono_val _,mono_val _,mono_val _,mono_val _,mono_val _,mono_val _,mono_val _,(fun _ _ _ he h=>h.elim fun q h=>⟨q,h.1,h.2.1,he.blockAt h.2.2⟩),(fun _ _ _ he h=>h.elim fun q h=>⟨q,h.1,h.2.1,he.blockAt h.2.2⟩),trivial⟩
def ao5D:List Nat:=[24,25,26,27,28,29,30,31,32,33,34,35,7,7]
def ao5C (j:Nat):Option Nat:=if j=12 then some 13 else none
def ao5E (qe kk:Nat)(t:Array Value):Prop:=t.getD 6 undef=.pointer (some ⟨qe,kk*7,none⟩)∧t.size=72

def ao8L (qe kk n nb:Nat)(st au:Int)(ap fa:IL)(lA:Option Addr)(lc:Nat)(log:List Rev.Act)(CC:Array Value)(ac us ro ti er:Int)(S:Rev.Rec):List (Option Value→World→Prop):=[sv (.pointer (some ⟨qe,kk*7,none⟩)),
 sv (.pointer (some ⟨qe,kk*7,none⟩)),
 sv (.pointer (some ⟨qe,kk*7+1,none⟩)),
 sv (.agg #[.int .i64 st,.int .i64 au,ap.val,fa.val,.slice lA log.length lc]),
 sv (.agg CC),
 sv (.pointer (some ⟨n,6,none⟩)),
 sv (.int .i64 ac),
 sv (.agg #[.int .i64 ac,.int .i64 us,.int .i64 ro,.int .i64 ti]),
 fun u w=>∃ W:RvL,
 u=some (.tuple #[W.agg,.int .i64 er])∧W.rc=S∧RvT w W∧W.From nb,
 fun u w=>∃ W:RvL,
 u=some (.tuple #[W.agg,.int .i64 er])∧W.rc=S∧RvT w W∧W.From nb,
 fun u w=>∃ W:RvL,
 u=some W.agg∧W.rc=S∧RvT w W∧W.From nb,
 sv (.int .i64 er),
 fun u w=>∃ q:Nat,
 u=some (.pointer (some ⟨q,0,none⟩))∧nb≤q∧w.heap[q]?=some (.cells #[.int .i64 0,.int .i64 0,.slice none 0 0,.slice none 0 0,.slice none 0 0] 54 (0,0)),
 fun u w=>∃ V:Nat×RvL,
 u=some (.pointer (some ⟨V.1,0,none⟩))∧nb≤V.1∧w.heap[V.1]?=some (.cells V.2.cells.toArray 54 (0,0))∧V.2.rc=S∧RvT w V.2∧V.2.From nb,
 sv (.int .i64 er)]
theorem ao8L_mono(qe kk n nb:Nat)(st au:Int)(ap fa:IL)(lA:Option Addr)(lc:Nat)(log:List Rev.Act)(CC:Array Value)(ac us ro ti er:Int)(S:Rev.Rec):AllMono (ao8L qe kk n nb st au ap fa lA lc log CC ac us ro ti er S):=⟨mono_val _,mono_val _,mono_val _,mono_val _,mono_val _,mono_val _,mono_val _,mono_val _,(fun _ _ _ he h=>h.elim fun W h=>⟨W,h.1,h.2.1,h.2.2.1.ext he,h.2.2.2⟩),(fun _ _ _ he h=>h.elim fun W h=>⟨W,h.1,h.2.1,h.2.2.1.ext he,h.2.2.2⟩),(fun _ _ _ he h=>h.elim fun W h=>⟨W,h.1,h.2.1,h.2.2.1.ext he,h.2.2.2⟩),mono_val _,(fun _ _ _ he h=>h.elim fun q h=>⟨q,h.1,h.2.1,he.blockAt h.2.2⟩),(fun _ _ _ he h=>h.elim fun V h=>⟨V,h.1,h.2.1,he.blockAt h.2.2.1,h.2.2.2.1,h.2.2.2.2.1.ext he,h.2.2.2.2.2⟩),mono_val _,trivial⟩
def ao8D:List Nat:=[54,55,56,57,58,59,60,61,62,53,63,64,8,8,9]
def ao8C (j:Nat):Option Nat:=if j=10 then some 13 else if j=12 then some 13 else none
def ao8E (qe kk n:Nat)(t:Array Value):Prop:=t.getD 3 undef=.pointer (some ⟨n,0,none⟩)∧t.getD 6 undef=.pointer (some ⟨qe,kk*7,none⟩)∧t.size=72

def actE (b:Bank)(c:Cmd):Int×List Ent :=
 match fnd b.ents c.id with
 | none=>(6,b.ents)
 | some k =>
  match b.ents[k]? with
  | none=>(6,b.ents)
  | some e =>
   match e.vers[e.vers.length-1]? with
   | none=>(6,b.ents)
   | some l =>
    if c.act=5∧l.kind≠6∧e.rows.length=0 then(19,b.ents)
    else if Rev.allowedE e.rev ⟨c.act,c.user,c.roles,c.time⟩≠0 then(Rev.allowedE e.rev ⟨c.act,c.user,c.roles,c.time⟩,b.ents)
    else(0,b.ents.set k { e with rev:=Rev.applyR e.rev ⟨c.act,c.user,c.roles,c.time⟩ })
theorem actE_none{b:Bank}{c:Cmd}(h:fnd b.ents c.id=none):actE b c=(6,b.ents):=by unfold actE;rw[h]
theorem actE_some{b:Bank}{c:Cmd}{k:Nat}{e:Ent}{l:It.Item}(h:fnd b.ents c.id=some k)(he:b.ents[k]?=some e)(hl:e.vers[e.vers.length-1]?=some l):actE b c =
    if c.act=5∧l.kind≠6∧e.rows.length=0 then(19,b.ents)
    else if Rev.allowedE e.rev ⟨c.act,c.user,c.roles,c.time⟩≠0 then(Rev.allowedE e.rev ⟨c.act,c.user,c.roles,c.time⟩,b.ents)
    else(0,b.ents.set k { e with rev:=Rev.applyR e.rev ⟨c.act,c.user,c.roles,c.time⟩ }):=by
 unfold actE;simp only[h,he,hl]
def RevOk (b:BankL):Prop:=∀ x∈b.ents,x.ap.xs.length≤1000000∧x.fa.xs.length≤1000000
theorem rowA{X:Type}{E:Elt X}{T:TypeId}{w:World}{N n c k:Nat}{A:Option Addr}{xs:List X}{x:X}(h:RowX E T w N (.slice A n c) xs)(hx:xs[k]?=some x):∃ q,A=some ⟨q,0,none⟩:=by
 rcases h.own.2 with ⟨hv,h0⟩ | ⟨q,cap,cur,hv,-⟩
 · have:=(List.getElem?_eq_some_iff.1 hx).1;omega
 · injection hv with hv;exact⟨q,hv⟩
theorem found{b:BankL}{id:Int}{k:Nat}(h:fnd b.bank.ents id=some k):∃ (x:EntL) (l:ItL),b.ents[k]?=some x∧b.bank.ents[k]?=some x.ent∧x.vs[x.vs.length-1]?=some l∧l.1.id=id∧0<x.vs.length∧x.ent.vers[x.ent.vers.length-1]?=some l.1:=by
 obtain⟨e,he,hn⟩:=fnd_at h;have he2:(b.ents.map (·.ent))[k]?=some e:=he;rw[List.getElem?_map]at he2;obtain⟨x,hx,rfl⟩:=Option.map_eq_some_iff.1 he2;obtain⟨y,hy,hid,hpos⟩:=num_some hn;have hlen:x.ent.vers.length=x.vs.length:=by unfold EntL.ent;rw[List.length_map]
 have hy2:(x.vs.map (·.1))[x.vs.length-1]?=some y:=by rw[← hlen];exact hy
 rw[List.getElem?_map]at hy2;obtain⟨l,hl,rfl⟩:=Option.map_eq_some_iff.1 hy2;exact⟨x,l,hx,he,hl,hid,by omega,hy⟩
theorem act_any(w0:World)(b:BankL)(g:Nat)(c:CmdL)(CC:Array Value)(w:World)(hx0:Ext w0 w)(hg:w0.heap.size≤g)(hn:Nm w0.heap.size g b.cells.toArray b w)(hcc:c.cells.toArray=CC)(hci:c.In w0)(hrv:RevOk b){v:Int}{o:List Ent}(hv:actE b.bank c.cmd=(v,o)) :
    Calls Tryz.prog 34 #[.pointer (some ⟨g,0,none⟩),.agg CC] w fun e w'=>e=.returned (.int .i64 v)∧RetNx w0 g (fun b2=>b2.bank={ b.bank with ents:=o }) w':=by
 have HNE:Hid (w.heap.size≠g):=Hi (by have:=blk_lt hn.row;omega);have XA:Hid (Ext w (w.alloc (.cells CC 48))):=Hi ((Ext.refl w).alloc _);have HX0:=Hi (hx0.trans XA.out);have HNM0:=Hi (hn.ext XA.out);obtain⟨w1,hw1⟩:∃ W,w.alloc (.cells CC 48)=W:=⟨_,rfl⟩;have HC0:Hid ((w.alloc (.cells CC 48)).heap[w.heap.size]?=some (.cells CC 48 (0,0))):=Hi (heap_alloc_new w _);rw[hw1]at HX0 HNM0 HC0;obtain⟨CB,hcb⟩:∃ C,b.cells.toArray=C:=⟨_,rfl⟩;have IB:Hid ((Tryz.prog.info? 31).map (·.size)=some CB.size):=Hi (infoBk (by rw[← hcb];rfl));have IC:Hid ((Tryz.prog.info? 48).map (·.size)=some CC.size):=Hi (infoCm (by rw[← hcc];rfl));have HB1:Hid (w1.heap[g]?=some (.cells CB 31 (0,0))):=Hi (by rw[← hcb];exact HNM0.out.row);have HCU:Hid (CC[1]?=some (.int .i64 c.user)):=Hi (by rw[← hcc];rfl);have HCR:Hid (CC[2]?=some (.int .i64 c.roles)):=Hi (by rw[← hcc];rfl);have HCT:Hid (CC[3]?=some (.int .i64 c.time)):=Hi (by rw[← hcc];rfl);have HC4:Hid (CC[4]?=some (.int .i64 c.id)):=Hi (by rw[← hcc];rfl);have HC6:Hid (CC[6]?=some (.int .i64 c.act)):=Hi (by rw[← hcc];rfl);have CID:Hid (w1.cell? ⟨w.heap.size,4,none⟩=some (.int .i64 c.id)):=Hi ((cell_of_row _ _ 4 _ _ _ HC0.out).trans HC4.out);have HBG:Hid (w0.heap.size≤g):=Hi hg;have HV:=Hi hv;have HACT:Hid (ActIn ⟨c.act,c.user,c.roles,c.time⟩):=Hi ⟨hci.act,hci.user,hci.roles,hci.time⟩;have HRO:=Hi hrv;have ENF:=Hi (enters_of Tryz.func38 (by kernel_rfl) rfl);have ENA:=Hi (enters_of Tryz.func76 (by kernel_rfl) rfl);have ENP:=Hi (enters_of Tryz.func75 (by kernel_rfl) rfl);obtain⟨vf,hvf⟩:∃ v,ixV (fnd (b.ents.map (·.ent)) c.id)=v:=⟨_,rfl⟩;have HVF:=Hi hvf;have HFD:=Hi (fun(W:World) (hx:Ext w1 W)=>bfind_any b c.id hvf W ((HNM0.out.ext hx).own.in_));have hbag:b.agg=.agg CB:=by rw[← hcb];rfl
 rw[hbag]at HFD;have HW1:=Hi hw1;clear hx0 hg hn hcc hci hv hrv hcb hvf hbag hw1;go_enter Tryz.func34,Tryz.ntmps34
 go_wp2_with fail
 refine region_tb (by kernel_rfl) (by decide +kernel) (ao1E g w.heap.size) ⟨rfl,rfl,rfl⟩ 7 ao1D (fun _=>none) (RG (ao1L g w.heap.size CB c.id vf)) w1 (by rw[HW1.out];exact Ext.refl _) (fun i h1 h2=>absurd h2 (Nat.not_lt.2 h1)) ?_ ?_
 · intro Tv dd lv U wz i oZ hE ho hlv hd hT;obtain⟨t0,t3,tz⟩:=hE;have hx:=hT.ext;have rX:=RG.ext (l:=ao1L g w.heap.size CB c.id vf) (sl_mono _)
   match i,ho,hlv,hd with
   | 0,ho,hlv,hd=>cases oi ho;exact yl1 hT rX ho hd (.pointer (some ⟨g,0,none⟩)) (od dd hT tz t0)
   | 1,ho,hlv,hd=>cases oi ho;exact yl1 hT rX ho hd (.pointer (some ⟨g,0,none⟩)) (nw dd hT hd tz 0 10 (.pointer (some ⟨g,0,none⟩)))
   | 2,ho,hlv,hd=>cases oi ho;have v0:=nw dd hT hd tz 1 11 (.pointer (some ⟨g,0,none⟩));exact yxe hT rX ho hd (.agg CB) (exec_load_row _ _ rfl g v0 _ _ _ _ (hx.blockAt HB1.out) Tryz.underlying31 rfl IB.out)
   | 3,ho,hlv,hd=>cases oi ho;exact yl1 hT rX ho hd (.pointer (some ⟨w.heap.size,4,none⟩)) (od dd hT tz t3)
   | 4,ho,hlv,hd=>cases oi ho;exact yk1 hT rX ho hd (.int .i64 c.id) (nw dd hT hd tz 3 13 (.pointer (some ⟨w.heap.size,4,none⟩))) (hx.keep CID.out)
   | 5,ho,hlv,hd=>cases oi ho;have v0:=nw dd hT hd tz 2 12 (.agg CB);have v1:=nw dd hT hd tz 4 14 (.int .i64 c.id);refine cl hT rX ho hd (f:=38) (args:=#[.agg CB,.int .i64 c.id]) (exec_call2 rfl rfl v0 v1 ENF.out) ?_;refine(HFD.out wz hx).mono ?_;rintro e w' ⟨rfl,hb⟩;exact⟨_,rfl,hb,rfl⟩
   | 6,ho,hlv,hd=>cases oi ho;exact yl1 hT rX ho hd (.int .i64 vf) (nw dd hT hd tz 5 15 (.int .i64 vf))
   | i+7,ho,_,_=>exact absurd ho (by simp)
 intro U wz hex hout hfin;have f5:U 5=some (.int .i64 vf):=hfin 6 (by decide) rfl;have XE:=Hi hex;clear hex hfin;rw[over_list];simp(disch:=decide) only[overL,Nat.reduceAdd,hout,Option.getD_none];rw[f5];simp only[Option.getD_some];clear hout f5;have HXz:=Hi (HX0.out.trans XE.out);have HNMz:=Hi (HNM0.out.ext XE.out);have HCz:=Hi (XE.out.blockAt HC0.out);clear XE HFD CID HB1;obtain⟨fo,hfo⟩:∃ f,fnd b.bank.ents c.id=f:=⟨_,rfl⟩;have HFO:=Hi hfo;cases fo with
 | none =>
  have hz:Hid (v=6∧o=b.bank.ents):=Hi (by have h:=HV.out;rw[actE_none (show fnd b.bank.ents c.cmd.id=none from hfo)]at h;injection h with h1 h2;exact⟨h1.symm,h2.symm⟩);have hvm:vf=-1:=by rw[← HVF.out];exact congrArg ixV hfo
  subst hvm;clear hfo;go_wp2;go_ret;exact⟨by rw[hz.out.1];rfl,⟨b,by rw[hz.out.2],HNMz.out⟩,HXz.out⟩
 | some k =>
 have hvk:vf=(k:Int):=by rw[← HVF.out];exact congrArg ixV hfo
 subst hvk;obtain⟨x,l,hx,hxe,hl,-,hpos,hle⟩:=found hfo;obtain⟨q,hq⟩:=rowA HNMz.out.own.e hx;obtain⟨bb,off,hA,hbl,hcx,hin⟩:=HNMz.out.own.e.slx.1.at_ hx;rw[hq]at hA;injection hA with hA;injection hA with hA1 hA2;subst hA1 hA2;rw[Nat.zero_add]at hcx;obtain⟨m,hm⟩:∃ m,x.vs.length=m:=⟨_,rfl⟩;obtain⟨nv,hnv⟩:∃ m,b.ents.length=m:=⟨_,rfl⟩;rw[hm]at hl hpos;obtain⟨bv,ov,hvA,-,hci,hlin⟩:=hin.inn.vs.at_ hl;obtain⟨CI,-,hni,h1i,hki⟩:=itp l;have HX:=Hi hx;have HQ:=Hi hq;have HCX:Hid (wz.rangeAt q (k*7) x.cells):=Hi hcx;have HCI:Hid (wz.rangeAt bv (ov+(m-1)*17) CI.toList):=Hi (by rw[← hki];exact hci);have II:=Hi (infoItem hni);have NI:Hid ((#[.int .i64 0,.int .i64 0,.int .i64 0,.string ⟨#[]⟩,.slice none 0 0,.slice none 0 0,.int .i64 0,.int .i64 0,.slice none 0 0,.int .i64 0,.string ⟨#[]⟩,.int .i64 0,.int .i64 0,.int .i64 0,.int .i64 0,.slice none 0 0,.int .i64 0]:Array Value).size=CI.size):=Hi hni.symm;have OI:=Hi h1i;have CIK:Hid (CI[2]?=some (.int .i64 l.1.kind)):=Hi (by rw[← hki];rfl);have CV0:Hid (wz.cell? ⟨q,k*7,none⟩=some (.slice (some ⟨bv,ov,none⟩) m x.vc)):=Hi (by have h:=hcx 0 _ rfl;rw[hvA,hm]at h;exact h);have hm63:m≤9223372036854775807:=by have h:=hin.inn.vc;unfold maxLen at h;omega
 have KW:Hid (IntKind.i64.wrap ((m:Int)-1)=(m:Int)-1):=Hi (by rw[IntKind.wrap_i64];omega);have KI:Hid ((0:Int)≤(m:Int)-1∧(m:Int)-1<(m:Int)∧((m:Int)-1).toNat=m-1∧¬ (m:Int)<1):=Hi ⟨by omega,by omega,by omega,by omega⟩;have HEIN:Hid (EntO wz x):=Hi hin;have HXE:Hid (fnd b.bank.ents c.cmd.id=some k∧b.bank.ents[k]?=some x.ent∧x.ent.vers[x.ent.vers.length-1]?=some l.1):=Hi ⟨hfo,hxe,hle⟩;have HVV:Hid ((v,o)=if c.act=5∧l.1.kind≠6∧x.ent.rows.length=0 then(19,b.bank.ents)
  else if Rev.allowedE x.ent.rev ⟨c.act,c.user,c.roles,c.time⟩≠0 then(Rev.allowedE x.ent.rev ⟨c.act,c.user,c.roles,c.time⟩,b.bank.ents)
  else(0,b.bank.ents.set k { x.ent with rev:=Rev.applyR x.ent.rev ⟨c.act,c.user,c.roles,c.time⟩ })):=Hi (HV.out.symm.trans (actE_some hfo hxe hle))
 have c5:wz.cell? ⟨g,5,none⟩=some (.slice (some ⟨q,0,none⟩) nv b.ec):=(cell_of_row _ _ 5 _ _ _ HNMz.out.row).trans (by rw[← hq,← hnv];rfl);have ki0:(0:Int)≤(k:Int):=by omega
 have hkn:k<nv:=by rw[← hnv];exact(List.getElem?_eq_some_iff.1 hx).1
 have ki1:(k:Int)<(nv:Int):=by omega
 have hk0:¬ (k:Int)<0:=by omega
 clear hx hq hcx hci hni h1i hki hlin hin hvA hl hm hfo hxe hle hnv;obtain⟨w1z,rfl⟩:∃ W,W=wz:=⟨_,rfl⟩;go_wp2;clear c5;go_wp2_with fail
 refine region_tb (by kernel_rfl) (by decide +kernel) (ao5E q k) ⟨rfl,rfl⟩ 14 ao5D ao5C (RG (ao5L q k m w1z.heap.size bv ov x.vc CI)) w1z (Ext.refl _) (fun i h1 h2=>absurd h2 (Nat.not_lt.2 h1)) ?_ ?_
 · intro Tv dd lv U wz i oZ hE ho hlv hd hT;obtain⟨t6,tz⟩:=hE;have hx:=hT.ext;have rX:=RG.ext (ao5L_mono q k m w1z.heap.size bv ov x.vc CI)
   match i,ho,hlv,hd with
   | 0,ho,hlv,hd=>cases oi ho;exact yl1 hT rX ho hd (.pointer (some ⟨q,k*7,none⟩)) (od dd hT tz t6)
   | 1,ho,hlv,hd=>cases oi ho;exact yl1 hT rX ho hd (.pointer (some ⟨q,k*7,none⟩)) (nw dd hT hd tz 0 24 (.pointer (some ⟨q,k*7,none⟩)))
   | 2,ho,hlv,hd=>cases oi ho;exact yl1 hT rX ho hd (.pointer (some ⟨q,k*7,none⟩)) (nw dd hT hd tz 1 25 (.pointer (some ⟨q,k*7,none⟩)))
   | 3,ho,hlv,hd=>cases oi ho;exact yk1 hT rX ho hd (.slice (some ⟨bv,ov,none⟩) m x.vc) (nw dd hT hd tz 2 26 (.pointer (some ⟨q,k*7,none⟩))) (hx.keep CV0.out)
   | 4,ho,hlv,hd=>cases oi ho;exact yl1 hT rX ho hd (.pointer (some ⟨q,k*7,none⟩)) (od dd hT tz t6)
   | 5,ho,hlv,hd=>cases oi ho;exact yl1 hT rX ho hd (.pointer (some ⟨q,k*7,none⟩)) (nw dd hT hd tz 4 28 (.pointer (some ⟨q,k*7,none⟩)))
   | 6,ho,hlv,hd=>cases oi ho;exact yl1 hT rX ho hd (.pointer (some ⟨q,k*7,none⟩)) (nw dd hT hd tz 5 29 (.pointer (some ⟨q,k*7,none⟩)))
   | 7,ho,hlv,hd=>cases oi ho;exact yk1 hT rX ho hd (.slice (some ⟨bv,ov,none⟩) m x.vc) (nw dd hT hd tz 6 30 (.pointer (some ⟨q,k*7,none⟩))) (hx.keep CV0.out)
   | 8,ho,hlv,hd=>cases oi ho;exact yl1 hT rX ho hd (.int .i64 (m:Int)) (nw dd hT hd tz 7 31 (.slice (some ⟨bv,ov,none⟩) m x.vc))
   | 9,ho,hlv,hd=>cases oi ho;have v1:Act.eval ⟨over Tv U,dd⟩ (.const (.int .i64 1))=.int .i64 1:=rfl;exact yk2 hT rX ho hd (.int .i64 ((m:Int)-1)) (nw dd hT hd tz 8 32 (.int .i64 (m:Int))) v1 KW.out
   | 10,ho,hlv,hd=>cases oi ho;exact yk2 hT rX ho hd (.pointer (some ⟨bv,ov+(m-1)*17,none⟩)) (nw dd hT hd tz 3 27 (.slice (some ⟨bv,ov,none⟩) m x.vc)) (nw dd hT hd tz 9 33 (.int .i64 ((m:Int)-1))) KI.out
   | 11,ho,hlv,hd=>cases oi ho;have v0:=nw dd hT hd tz 10 34 (.pointer (some ⟨bv,ov+(m-1)*17,none⟩));exact yxe hT rX ho hd (.agg CI) (exec_load_arr _ _ rfl bv (ov+(m-1)*17) v0 CI _ (hx.range HCI.out) Tryz.underlying39 rfl II.out)
   | 12,ho,hlv,hd =>
    cases oi ho;refine tb_extW (v:=.pointer (some ⟨wz.heap.size,0,none⟩)) (w':=wz.alloc (.cells #[.int .i64 0,.int .i64 0,.int .i64 0,.string ⟨#[]⟩,.slice none 0 0,.slice none 0 0,.int .i64 0,.int .i64 0,.slice none 0 0,.int .i64 0,.string ⟨#[]⟩,.int .i64 0,.int .i64 0,.int .i64 0,.int .i64 0,.slice none 0 0,.int .i64 0] 39)) (RG.ext (ao5L_mono q k m w1z.heap.size bv ov x.vc CI)) hT ho hd rfl rfl (by decide) ?_ ?_ ((Ext.refl _).alloc _) ⟨wz.heap.size,rfl,hx.size,heap_alloc_new _ _⟩
    · intro j hj hji hlj
      match j,hj,hlj with
      | 0,_,_=>decide
      | 1,_,_=>decide
      | 2,_,_=>decide
      | 3,_,_=>decide
      | 4,_,_=>decide
      | 5,_,_=>decide
      | 6,_,_=>decide
      | 7,_,_=>decide
      | 8,_,_=>decide
      | 9,_,_=>decide
      | 10,_,_=>decide
      | 11,_,_=>decide
      | 12,_,_=>exact absurd rfl hji
      | 13,_,hlj=>exact absurd (dep (hT.shut 13 _ rfl hlj) 12 (by kernel_rfl)) (by rw[hlv];decide)
      | j+14,hj,_=>exact absurd hj (by omega)
    · generalize Act.eval ⟨over Tv U,dd⟩=ev at *;simp[execOp,go_sem]
   | 13,ho,hlv,hd =>
    cases oi ho;have v1:=nw dd hT hd tz 11 35 (.agg CI);obtain⟨q,e0,hq,hblk⟩:∃ q:Nat,U 7=some (.pointer (some ⟨q,0,none⟩))∧w1z.heap.size≤q∧wz.heap[q]?=some (.cells #[.int .i64 0,.int .i64 0,.int .i64 0,.string ⟨#[]⟩,.slice none 0 0,.slice none 0 0,.int .i64 0,.int .i64 0,.slice none 0 0,.int .i64 0,.string ⟨#[]⟩,.int .i64 0,.int .i64 0,.int .i64 0,.int .i64 0,.slice none 0 0,.int .i64 0] 39 (0,0)):=hT.facts 12 (by decide) (dep hd 12 (by kernel_rfl)) (fun c e=>by injection e with e;subst e;exact hlv);have v0:Act.eval ⟨over Tv U,dd⟩ (.tmp 7)=_:=eval_new (t:=Tv) (d:=dd) e0 (by show 7<Tv.size;omega);refine tb_store (w':=wz.setRow q CI) hT ho hd rfl rfl (exec_store_row 39 (.tmp 7) (.tmp 35) rfl q _ v0 v1 39 _ hblk II.out NI.out OI.out) (hx.rowSet hq _) ⟨q,e0,hq,setRow_heap _ _ _ _ _ _ hblk⟩ ?_;intro j hj hji hlj hcj hR
    match j,hj,hR with
    | 0,_,hR=>exact hR
    | 1,_,hR=>exact hR
    | 2,_,hR=>exact hR
    | 3,_,hR=>exact hR
    | 4,_,hR=>exact hR
    | 5,_,hR=>exact hR
    | 6,_,hR=>exact hR
    | 7,_,hR=>exact hR
    | 8,_,hR=>exact hR
    | 9,_,hR=>exact hR
    | 10,_,hR=>exact hR
    | 11,_,hR=>exact hR
    | 12,_,_=>exact absurd rfl (hcj 13 rfl).1
    | 13,_,_=>exact absurd rfl hji
    | j+14,hj,_=>exact absurd hj (by omega)
   | i+14,ho,_,_=>exact absurd ho (by simp)
 intro U wz hex hout hfin;obtain⟨W7,f7,hW7⟩:=hfin 13 (by decide) rfl
 change U 7=_ at f7
 have XE:=Hi hex;clear hex hfin;rw[over_list];simp(disch:=decide) only[overL,Nat.reduceAdd,hout,Option.getD_none];rw[f7];simp only[Option.getD_some];clear hout f7;obtain⟨hq7,hb7⟩:=hW7;have HXy:=Hi (HXz.out.trans XE.out);have HNMy:=Hi (HNMz.out.ext XE.out);have HCy:=Hi (XE.out.blockAt HCz.out);have HCXy:Hid (∀ (j:Nat) (u:Value),x.cells[j]?=some u→wz.cell? ⟨q,k*7+j,none⟩=some u):=Hi (XE.out.range HCX.out);have HEy:Hid (EntO wz x):=Hi (eEntO.ext HEIN.out XE.out);obtain⟨nr,hnr⟩:∃ n,x.rows.length=n:=⟨_,rfl⟩;have HNR:Hid (x.ent.rows.length=nr):=Hi (by unfold EntL.ent;rw[List.length_map];exact hnr);have c6:wz.cell? ⟨w.heap.size,6,none⟩=some (.int .i64 c.act):=(cell_of_row _ _ 6 _ _ _ HCy.out).trans HC6.out;have ck:wz.cell? ⟨W7,2,none⟩=some (.int .i64 l.1.kind):=(cell_of_row _ _ 2 _ _ _ hb7).trans CIK.out;have cr:wz.cell? ⟨q,k*7+6,none⟩=some (.slice x.rA nr x.rc):=HCXy.out 6 _ (by rw[← hnr];rfl);clear hb7 hq7 hnr XE HCX HCI CV0 KW KI;by_cases hb:c.act=5∧l.1.kind≠6∧nr=0
 · obtain⟨h1,h2,h3⟩:=hb;have t1:(c.act == 5)=true:=(by rw[beq_iff_eq];exact h1);have t2:(l.1.kind != 6)=true:=(by rw[bne_iff_ne];exact h2);have t3:((nr:Int) == 0)=true:=(by rw[beq_iff_eq];omega);have hz:Hid (v=19∧o=b.bank.ents):=Hi (by have h:=HVV.out;rw[if_pos ⟨h1,h2,HNR.out.trans h3⟩]at h;injection h with h1 h2;exact⟨h1,h2⟩);clear h1 h2 h3;go_wp2;go_ret;exact⟨by rw[hz.out.1];rfl,⟨b,by rw[hz.out.2],HNMy.out⟩,HXy.out⟩
 have HVW:Hid ((v,o)=if Rev.allowedE x.ent.rev ⟨c.act,c.user,c.roles,c.time⟩≠0 then(Rev.allowedE x.ent.rev ⟨c.act,c.user,c.roles,c.time⟩,b.bank.ents)
  else(0,b.bank.ents.set k { x.ent with rev:=Rev.applyR x.ent.rev ⟨c.act,c.user,c.roles,c.time⟩ })):=Hi (by have h:=HVV.out;rw[if_neg (fun h=>hb (by rw[HNR.out]at h;exact h))]at h;exact h)
 have hcase:(c.act == 5)=false∨((c.act == 5)=true∧(l.1.kind != 6)=false)∨((c.act == 5)=true∧(l.1.kind != 6)=true∧((nr:Int) == 0)=false):=by
  by_cases h1:c.act=5
  · by_cases h2:l.1.kind=6
    · exact Or.inr (Or.inl ⟨by rw[beq_iff_eq];exact h1,by rw[bne_eq_false_iff_eq];exact h2⟩)
    · exact Or.inr (Or.inr ⟨by rw[beq_iff_eq];exact h1,by rw[bne_iff_ne];exact h2,by rw[beq_eq_false_iff_ne];intro h3;exact hb ⟨h1,h2,by omega⟩⟩)
  · exact Or.inl (by rw[beq_eq_false_iff_ne];exact h1)
 clear hb;have HRV:Hid (wz.rangeAt q (k*7+1) (#[.int .i64 x.st,.int .i64 x.au,x.ap.val,x.fa.val,.slice x.lA x.log.length x.lc]:Array Value).toList):=Hi (fun j u hu=>by
  have h:=HCXy.out (1+j) u (by
   match j,hu with
   | 0,hu=>exact hu
   | 1,hu=>exact hu
   | 2,hu=>exact hu
   | 3,hu=>exact hu
   | 4,hu=>exact hu
   | j+5,hu=>simp at hu)
  rwa [← Nat.add_assoc]at h)
 have IR:Hid ((Tryz.prog.info? 54).map (·.size)=some (#[.int .i64 x.st,.int .i64 x.au,x.ap.val,x.fa.val,.slice x.lA x.log.length x.lc]:Array Value).size):=Hi (by kernel_rfl);have HCW:=HCy;have CAC:=Hi c6;obtain⟨rc,hrc⟩:∃ r,Rev.applyR x.ent.rev ⟨c.act,c.user,c.roles,c.time⟩=r:=⟨_,rfl⟩;obtain⟨er,her⟩:∃ r,Rev.allowedE x.ent.rev ⟨c.act,c.user,c.roles,c.time⟩=r:=⟨_,rfl⟩;rw[hrc,her]at HVW;have HAP:Hid (∀ (W:World),Ext wz W→Calls Tryz.prog 75 #[.agg #[.int .i64 x.st,.int .i64 x.au,x.ap.val,x.fa.val,.slice x.lA x.log.length x.lc],.agg #[.int .i64 c.act,.int .i64 c.user,.int .i64 c.roles,.int .i64 c.time]] W fun e w'=>RetRv rc er W e w'∧Ext W w'):=Hi (fun W hx=>apRv_any x.rv ⟨c.act,c.user,c.roles,c.time⟩ W (RvL.In.ext ⟨HEy.out.inn.st,HEy.out.inn.au,HEy.out.inn.ap,HEy.out.inn.fa,HEy.out.inn.log,HEy.out.inn.lc⟩ hx) (HRO.out x (List.mem_of_getElem? HX.out)).1 (HRO.out x (List.mem_of_getElem? HX.out)).2 HACT.out hrc her);have HNW:Hid (w0.heap.size≤wz.heap.size):=Hi HXy.out.size;clear hrc her;obtain⟨w2z,rfl⟩:∃ W,W=wz:=⟨_,rfl⟩;rcases hcase with t1 | ⟨t1,t2⟩ | ⟨t1,t2,t3⟩
 · go_wp2;clear c6 ck cr;go_wp2_with fail
   refine region_tb (by kernel_rfl) (by decide +kernel) (ao8E q k w.heap.size) ⟨rfl,rfl,rfl⟩ 15 ao8D ao8C (RG (ao8L q k w.heap.size w2z.heap.size x.st x.au x.ap x.fa x.lA x.lc x.log CC c.act c.user c.roles c.time er rc)) w2z (Ext.refl _) (fun i h1 h2=>absurd h2 (Nat.not_lt.2 h1)) ?_ ?_
   · intro Tv dd lv U wz i oZ hE ho hlv hd hT;obtain⟨t3,t6,tz⟩:=hE;have hx:=hT.ext;have rX:=RG.ext (ao8L_mono q k w.heap.size w2z.heap.size x.st x.au x.ap x.fa x.lA x.lc x.log CC c.act c.user c.roles c.time er rc)
     match i,ho,hlv,hd with
     | 0,ho,hlv,hd=>cases oi ho;exact yl1 hT rX ho hd (.pointer (some ⟨q,k*7,none⟩)) (od dd hT tz t6)
     | 1,ho,hlv,hd=>cases oi ho;exact yl1 hT rX ho hd (.pointer (some ⟨q,k*7,none⟩)) (nw dd hT hd tz 0 54 (.pointer (some ⟨q,k*7,none⟩)))
     | 2,ho,hlv,hd=>cases oi ho;exact yl1 hT rX ho hd (.pointer (some ⟨q,k*7+1,none⟩)) (nw dd hT hd tz 1 55 (.pointer (some ⟨q,k*7,none⟩)))
     | 3,ho,hlv,hd=>cases oi ho;have v0:=nw dd hT hd tz 2 56 (.pointer (some ⟨q,k*7+1,none⟩));exact yxe hT rX ho hd (.agg #[.int .i64 x.st,.int .i64 x.au,x.ap.val,x.fa.val,.slice x.lA x.log.length x.lc]) (exec_load_arr _ _ rfl q (k*7+1) v0 #[.int .i64 x.st,.int .i64 x.au,x.ap.val,x.fa.val,.slice x.lA x.log.length x.lc] _ (hx.range HRV.out) Tryz.underlying54 rfl IR.out)
     | 4,ho,hlv,hd=>cases oi ho;have v0:=od dd hT tz t3;exact yxe hT rX ho hd (.agg CC) (exec_load_row _ _ rfl w.heap.size v0 _ _ _ _ (hx.blockAt HCW.out) Tryz.underlying48 rfl IC.out)
     | 5,ho,hlv,hd=>cases oi ho;exact yl1 hT rX ho hd (.pointer (some ⟨w.heap.size,6,none⟩)) (od dd hT tz t3)
     | 6,ho,hlv,hd=>cases oi ho;exact yk1 hT rX ho hd (.int .i64 c.act) (nw dd hT hd tz 5 59 (.pointer (some ⟨w.heap.size,6,none⟩))) (hx.keep CAC.out)
     | 7,ho,hlv,hd=>cases oi ho;have v0:=nw dd hT hd tz 4 58 (.agg CC);have v1:=nw dd hT hd tz 6 60 (.int .i64 c.act);refine cl hT rX ho hd (f:=76) (args:=#[.agg CC,.int .i64 c.act]) (exec_call2 rfl rfl v0 v1 ENA.out) ?_;refine(action_any CC c.act c.user c.roles c.time HCU.out HCR.out HCT.out wz).mono ?_;rintro e w' ⟨rfl,hb⟩;exact⟨_,rfl,hb,rfl⟩
     | 8,ho,hlv,hd=>cases oi ho;have v0:=nw dd hT hd tz 3 57 (.agg #[.int .i64 x.st,.int .i64 x.au,x.ap.val,x.fa.val,.slice x.lA x.log.length x.lc]);have v1:=nw dd hT hd tz 7 61 (.agg #[.int .i64 c.act,.int .i64 c.user,.int .i64 c.roles,.int .i64 c.time]);refine cl hT rX ho hd (f:=75) (args:=#[.agg #[.int .i64 x.st,.int .i64 x.au,x.ap.val,x.fa.val,.slice x.lA x.log.length x.lc],.agg #[.int .i64 c.act,.int .i64 c.user,.int .i64 c.roles,.int .i64 c.time]]) (exec_call2 rfl rfl v0 v1 ENP.out) ?_;refine(HAP.out wz hx).mono ?_;rintro e w' ⟨⟨W,rfl,h1,h2,h3⟩,hb⟩;exact⟨_,rfl,hb,W,rfl,h1,h2,⟨h3.ap.mono hx.size,h3.fa.mono hx.size,h3.log.mono hx.size⟩⟩
     | 9,ho,hlv,hd=>cases oi ho;obtain⟨W,e0,hW⟩:=hT.facts 8 (by decide) (dep hd 8 (by kernel_rfl)) (fun c e=>by cases e);have v0:Act.eval ⟨over Tv U,dd⟩ (.tmp 62)=_:=eval_new (t:=Tv) (d:=dd) e0 (by show 62<Tv.size;omega);exact yl1 hT rX ho hd (.tuple #[W.agg,.int .i64 er]) v0 (hR:=⟨W,rfl,hW⟩)
     | 10,ho,hlv,hd=>cases oi ho;obtain⟨W,e0,hW⟩:=hT.facts 9 (by decide) (dep hd 9 (by kernel_rfl)) (fun c e=>by cases e);have v0:Act.eval ⟨over Tv U,dd⟩ (.tmp 53)=_:=eval_new (t:=Tv) (d:=dd) e0 (by show 53<Tv.size;omega);exact yl1 hT rX ho hd W.agg v0 (hR:=⟨W,rfl,hW⟩)
     | 11,ho,hlv,hd=>cases oi ho;obtain⟨W,e0,hW⟩:=hT.facts 9 (by decide) (dep hd 9 (by kernel_rfl)) (fun c e=>by cases e);have v0:Act.eval ⟨over Tv U,dd⟩ (.tmp 53)=_:=eval_new (t:=Tv) (d:=dd) e0 (by show 53<Tv.size;omega);exact yl1 hT rX ho hd (.int .i64 er) v0
     | 12,ho,hlv,hd =>
      cases oi ho;refine tb_extW (v:=.pointer (some ⟨wz.heap.size,0,none⟩)) (w':=wz.alloc (.cells #[.int .i64 0,.int .i64 0,.slice none 0 0,.slice none 0 0,.slice none 0 0] 54)) (RG.ext (ao8L_mono q k w.heap.size w2z.heap.size x.st x.au x.ap x.fa x.lA x.lc x.log CC c.act c.user c.roles c.time er rc)) hT ho hd rfl rfl (by decide) ?_ ?_ ((Ext.refl _).alloc _) ⟨wz.heap.size,rfl,hx.size,heap_alloc_new _ _⟩
      · intro j hj hji hlj
        match j,hj,hlj with
        | 0,_,_=>decide
        | 1,_,_=>decide
        | 2,_,_=>decide
        | 3,_,_=>decide
        | 4,_,_=>decide
        | 5,_,_=>decide
        | 6,_,_=>decide
        | 7,_,_=>decide
        | 8,_,_=>decide
        | 9,_,_=>decide
        | 10,_,_=>decide
        | 11,_,_=>decide
        | 12,_,_=>exact absurd rfl hji
        | 13,_,hlj=>exact absurd (dep (hT.shut 13 _ rfl hlj) 12 (by kernel_rfl)) (by rw[hlv];decide)
        | 14,_,_=>decide
        | j+15,hj,_=>exact absurd hj (by omega)
      · generalize Act.eval ⟨over Tv U,dd⟩=ev at *;simp[execOp,go_sem]
     | 13,ho,hlv,hd =>
      cases oi ho;obtain⟨q,e0,hq,hblk⟩:∃ q:Nat,U 8=some (.pointer (some ⟨q,0,none⟩))∧w2z.heap.size≤q∧wz.heap[q]?=some (.cells #[.int .i64 0,.int .i64 0,.slice none 0 0,.slice none 0 0,.slice none 0 0] 54 (0,0)):=hT.facts 12 (by decide) (dep hd 12 (by kernel_rfl)) (fun c e=>by injection e with e;subst e;exact hlv);have v0:Act.eval ⟨over Tv U,dd⟩ (.tmp 8)=_:=eval_new (t:=Tv) (d:=dd) e0 (by show 8<Tv.size;omega);obtain⟨W,e1,h1,h2,h3⟩:∃ W:RvL,U 63=some W.agg∧W.rc=rc∧RvT wz W∧W.From w2z.heap.size:=hT.facts 10 (by decide) (dep hd 10 (by kernel_rfl)) (fun c e=>by injection e with e;subst e;exact hlv);have v1:Act.eval ⟨over Tv U,dd⟩ (.tmp 63)=_:=eval_new (t:=Tv) (d:=dd) e1 (by show 63<Tv.size;omega);have hb9:=But.setRow q wz W.cells.toArray;refine tb_store (w':=wz.setRow q W.cells.toArray) hT ho hd rfl rfl (exec_store_row 54 (.tmp 8) (.tmp 63) rfl q _ v0 v1 54 _ hblk (rvInfo W) rfl (rvOne W)) (hx.rowSet hq _) ⟨(q,W),e0,hq,setRow_heap _ _ _ _ _ _ hblk,h1,h2.keep hblk hb9,h3⟩ ?_;intro j hj hji hlj hcj hR
      match j,hj,hR with
      | 0,_,hR=>exact hR
      | 1,_,hR=>exact hR
      | 2,_,hR=>exact hR
      | 3,_,hR=>exact hR
      | 4,_,hR=>exact hR
      | 5,_,hR=>exact hR
      | 6,_,hR=>exact hR
      | 7,_,hR=>exact hR
      | 8,_,hR=>exact hR.elim fun W h=>⟨W,h.1,h.2.1,h.2.2.1.keep hblk hb9,h.2.2.2⟩
      | 9,_,hR=>exact hR.elim fun W h=>⟨W,h.1,h.2.1,h.2.2.1.keep hblk hb9,h.2.2.2⟩
      | 10,_,_=>exact absurd rfl (hcj 13 rfl).1
      | 11,_,hR=>exact hR
      | 12,_,_=>exact absurd rfl (hcj 13 rfl).1
      | 13,_,_=>exact absurd rfl hji
      | 14,_,hR=>exact hR
      | j+15,hj,_=>exact absurd hj (by omega)
     | 14,ho,hlv,hd=>cases oi ho;exact yl1 hT rX ho hd (.int .i64 er) (nw dd hT hd tz 11 64 (.int .i64 er))
     | i+15,ho,_,_=>exact absurd ho (by simp)
   intro U wz hex hout hfin;obtain⟨W8,f8,hW8⟩:=hfin 13 (by decide) rfl
   change U 8=_ at f8
   have f9:U 9=some (.int .i64 er):=hfin 14 (by decide) rfl;have XE:=Hi hex;clear hex hfin;rw[over_list];simp(disch:=decide) only[overL,Nat.reduceAdd,hout,Option.getD_none];rw[f8,f9];simp only[Option.getD_some];clear hout f8 f9;obtain⟨hq8,hb8,hrc8,hin8,hf8⟩:=hW8;have HBK8:=Hi hb8;have HR8:=Hi hrc8;have HI8:=Hi hin8;have HF8:=Hi hf8;have IRW:=Hi (rvInfo W8.2);have HXx:=Hi (HXy.out.trans XE.out);have HNMx:=Hi (HNMy.out.ext XE.out);clear hq8 hb8 hrc8 hin8 hf8;by_cases he:er=0;case neg =>
    have hz:Hid (v=er∧o=b.bank.ents):=Hi (by have h:=HVW.out;rw[if_pos he]at h;injection h with h1 h2;exact⟨h1,h2⟩);go_wp2;go_ret;exact⟨by rw[hz.out.1];rfl,⟨b,by rw[hz.out.2],HNMx.out⟩,HXx.out⟩
   case pos =>
   subst he;have hz:Hid (v=0∧o=b.bank.ents.set k { x.ent with rev:=rc }):=Hi (by have h:=HVW.out;rw[if_neg (by simp)]at h;injection h with h1 h2;exact⟨h1,h2⟩);have hqe:(Value.slice b.eA b.ents.length b.ec).ownBlock=some q:=(by rw[HQ.out];rfl);obtain⟨cq,hbq⟩:=own_block HNMx.out.own.e.own q hqe;have hqge:=own_ge HNMx.out.own.e.own q hqe;have HXx':=Hi (Ext.setCells hqge W8.2.cells (k*7+1) wz HXx.out);have HST1:Hid (∀ j,j<W8.2.cells.toArray.toList.length→(wz.cell? ⟨q,k*7+1+j,none⟩).isSome=true):=Hi (fun j hj=>by have hj:j<5:=hj;obtain⟨u,hu⟩:∃ u,x.cells[1+j]?=some u:=⟨x.cells[1+j]'(by show 1+j<7;omega),List.getElem?_eq_getElem _⟩;have h:=XE.out.keep (HCXy.out (1+j) u hu);rw[← Nat.add_assoc]at h;rw[h];rfl)
   have HST2:Hid (∀ j,j<W8.2.cells.toArray.toList.length→wz.frozen? ⟨q,k*7+1+j,none⟩=false):=Hi (fun j _=>frozen_of_row _ _ _ _ _ hbq);have HST3:=Hi (rvOne W8.2);have HFIN:=Hi (Nm.putRv HNMy.out XE.out HNW.out HQ.out HX.out HI8.out.inn HF8.out);clear hqe hbq hqge;go_wp2_with (first
    | (with_reducible refine wpList_load_row rfl 54 (.tmp 8) rfl (W8.1) (by with_unfolding_all rfl) _ W8.2.cells.toArray _ _ HBK8.out Tryz.underlying54 rfl IRW.out ?_)
    | (with_reducible refine wpList_store_at rfl 54 (.tmp 71) (.tmp 69) rfl q (k*7+1) W8.2.cells.toArray (by with_unfolding_all rfl) (by with_unfolding_all rfl) IRW.out HST1.out HST2.out HST3.out ?_))
   go_ret;refine⟨by rw[hz.out.1];rfl,⟨_,?_,by rw[putE_cells];exact HFIN.out⟩,HXx'.out⟩;rw[hz.out.2];show(⟨b.now,b.gp.xs,b.gq.xs,b.outl,b.assets,(b.ents.set k (x.withRv W8.2)).map (·.ent),b.enem⟩:Bank)=_;rw[set_map,withRv_ent,HR8.out];rfl
 · go_wp2;clear c6 ck cr;go_wp2_with fail
   refine region_tb (by kernel_rfl) (by decide +kernel) (ao8E q k w.heap.size) ⟨rfl,rfl,rfl⟩ 15 ao8D ao8C (RG (ao8L q k w.heap.size w2z.heap.size x.st x.au x.ap x.fa x.lA x.lc x.log CC c.act c.user c.roles c.time er rc)) w2z (Ext.refl _) (fun i h1 h2=>absurd h2 (Nat.not_lt.2 h1)) ?_ ?_
   · intro Tv dd lv U wz i oZ hE ho hlv hd hT;obtain⟨t3,t6,tz⟩:=hE;have hx:=hT.ext;have rX:=RG.ext (ao8L_mono q k w.heap.size w2z.heap.size x.st x.au x.ap x.fa x.lA x.lc x.log CC c.act c.user c.roles c.time er rc)
     match i,ho,hlv,hd with
     | 0,ho,hlv,hd=>cases oi ho;exact yl1 hT rX ho hd (.pointer (some ⟨q,k*7,none⟩)) (od dd hT tz t6)
     | 1,ho,hlv,hd=>cases oi ho;exact yl1 hT rX ho hd (.pointer (some ⟨q,k*7,none⟩)) (nw dd hT hd tz 0 54 (.pointer (some ⟨q,k*7,none⟩)))
     | 2,ho,hlv,hd=>cases oi ho;exact yl1 hT rX ho hd (.pointer (some ⟨q,k*7+1,none⟩)) (nw dd hT hd tz 1 55 (.pointer (some ⟨q,k*7,none⟩)))
     | 3,ho,hlv,hd=>cases oi ho;have v0:=nw dd hT hd tz 2 56 (.pointer (some ⟨q,k*7+1,none⟩));exact yxe hT rX ho hd (.agg #[.int .i64 x.st,.int .i64 x.au,x.ap.val,x.fa.val,.slice x.lA x.log.length x.lc]) (exec_load_arr _ _ rfl q (k*7+1) v0 #[.int .i64 x.st,.int .i64 x.au,x.ap.val,x.fa.val,.slice x.lA x.log.length x.lc] _ (hx.range HRV.out) Tryz.underlying54 rfl IR.out)
     | 4,ho,hlv,hd=>cases oi ho;have v0:=od dd hT tz t3;exact yxe hT rX ho hd (.agg CC) (exec_load_row _ _ rfl w.heap.size v0 _ _ _ _ (hx.blockAt HCW.out) Tryz.underlying48 rfl IC.out)
     | 5,ho,hlv,hd=>cases oi ho;exact yl1 hT rX ho hd (.pointer (some ⟨w.heap.size,6,none⟩)) (od dd hT tz t3)
     | 6,ho,hlv,hd=>cases oi ho;exact yk1 hT rX ho hd (.int .i64 c.act) (nw dd hT hd tz 5 59 (.pointer (some ⟨w.heap.size,6,none⟩))) (hx.keep CAC.out)
     | 7,ho,hlv,hd=>cases oi ho;have v0:=nw dd hT hd tz 4 58 (.agg CC);have v1:=nw dd hT hd tz 6 60 (.int .i64 c.act);refine cl hT rX ho hd (f:=76) (args:=#[.agg CC,.int .i64 c.act]) (exec_call2 rfl rfl v0 v1 ENA.out) ?_;refine(action_any CC c.act c.user c.roles c.time HCU.out HCR.out HCT.out wz).mono ?_;rintro e w' ⟨rfl,hb⟩;exact⟨_,rfl,hb,rfl⟩
     | 8,ho,hlv,hd=>cases oi ho;have v0:=nw dd hT hd tz 3 57 (.agg #[.int .i64 x.st,.int .i64 x.au,x.ap.val,x.fa.val,.slice x.lA x.log.length x.lc]);have v1:=nw dd hT hd tz 7 61 (.agg #[.int .i64 c.act,.int .i64 c.user,.int .i64 c.roles,.int .i64 c.time]);refine cl hT rX ho hd (f:=75) (args:=#[.agg #[.int .i64 x.st,.int .i64 x.au,x.ap.val,x.fa.val,.slice x.lA x.log.length x.lc],.agg #[.int .i64 c.act,.int .i64 c.user,.int .i64 c.roles,.int .i64 c.time]]) (exec_call2 rfl rfl v0 v1 ENP.out) ?_;refine(HAP.out wz hx).mono ?_;rintro e w' ⟨⟨W,rfl,h1,h2,h3⟩,hb⟩;exact⟨_,rfl,hb,W,rfl,h1,h2,⟨h3.ap.mono hx.size,h3.fa.mono hx.size,h3.log.mono hx.size⟩⟩
     | 9,ho,hlv,hd=>cases oi ho;obtain⟨W,e0,hW⟩:=hT.facts 8 (by decide) (dep hd 8 (by kernel_rfl)) (fun c e=>by cases e);have v0:Act.eval ⟨over Tv U,dd⟩ (.tmp 62)=_:=eval_new (t:=Tv) (d:=dd) e0 (by show 62<Tv.size;omega);exact yl1 hT rX ho hd (.tuple #[W.agg,.int .i64 er]) v0 (hR:=⟨W,rfl,hW⟩)
     | 10,ho,hlv,hd=>cases oi ho;obtain⟨W,e0,hW⟩:=hT.facts 9 (by decide) (dep hd 9 (by kernel_rfl)) (fun c e=>by cases e);have v0:Act.eval ⟨over Tv U,dd⟩ (.tmp 53)=_:=eval_new (t:=Tv) (d:=dd) e0 (by show 53<Tv.size;omega);exact yl1 hT rX ho hd W.agg v0 (hR:=⟨W,rfl,hW⟩)
     | 11,ho,hlv,hd=>cases oi ho;obtain⟨W,e0,hW⟩:=hT.facts 9 (by decide) (dep hd 9 (by kernel_rfl)) (fun c e=>by cases e);have v0:Act.eval ⟨over Tv U,dd⟩ (.tmp 53)=_:=eval_new (t:=Tv) (d:=dd) e0 (by show 53<Tv.size;omega);exact yl1 hT rX ho hd (.int .i64 er) v0
     | 12,ho,hlv,hd =>
      cases oi ho;refine tb_extW (v:=.pointer (some ⟨wz.heap.size,0,none⟩)) (w':=wz.alloc (.cells #[.int .i64 0,.int .i64 0,.slice none 0 0,.slice none 0 0,.slice none 0 0] 54)) (RG.ext (ao8L_mono q k w.heap.size w2z.heap.size x.st x.au x.ap x.fa x.lA x.lc x.log CC c.act c.user c.roles c.time er rc)) hT ho hd rfl rfl (by decide) ?_ ?_ ((Ext.refl _).alloc _) ⟨wz.heap.size,rfl,hx.size,heap_alloc_new _ _⟩
      · intro j hj hji hlj
        match j,hj,hlj with
        | 0,_,_=>decide
        | 1,_,_=>decide
        | 2,_,_=>decide
        | 3,_,_=>decide
        | 4,_,_=>decide
        | 5,_,_=>decide
        | 6,_,_=>decide
        | 7,_,_=>decide
        | 8,_,_=>decide
        | 9,_,_=>decide
        | 10,_,_=>decide
        | 11,_,_=>decide
        | 12,_,_=>exact absurd rfl hji
        | 13,_,hlj=>exact absurd (dep (hT.shut 13 _ rfl hlj) 12 (by kernel_rfl)) (by rw[hlv];decide)
        | 14,_,_=>decide
        | j+15,hj,_=>exact absurd hj (by omega)
      · generalize Act.eval ⟨over Tv U,dd⟩=ev at *;simp[execOp,go_sem]
     | 13,ho,hlv,hd =>
      cases oi ho;obtain⟨q,e0,hq,hblk⟩:∃ q:Nat,U 8=some (.pointer (some ⟨q,0,none⟩))∧w2z.heap.size≤q∧wz.heap[q]?=some (.cells #[.int .i64 0,.int .i64 0,.slice none 0 0,.slice none 0 0,.slice none 0 0] 54 (0,0)):=hT.facts 12 (by decide) (dep hd 12 (by kernel_rfl)) (fun c e=>by injection e with e;subst e;exact hlv);have v0:Act.eval ⟨over Tv U,dd⟩ (.tmp 8)=_:=eval_new (t:=Tv) (d:=dd) e0 (by show 8<Tv.size;omega);obtain⟨W,e1,h1,h2,h3⟩:∃ W:RvL,U 63=some W.agg∧W.rc=rc∧RvT wz W∧W.From w2z.heap.size:=hT.facts 10 (by decide) (dep hd 10 (by kernel_rfl)) (fun c e=>by injection e with e;subst e;exact hlv);have v1:Act.eval ⟨over Tv U,dd⟩ (.tmp 63)=_:=eval_new (t:=Tv) (d:=dd) e1 (by show 63<Tv.size;omega);have hb9:=But.setRow q wz W.cells.toArray;refine tb_store (w':=wz.setRow q W.cells.toArray) hT ho hd rfl rfl (exec_store_row 54 (.tmp 8) (.tmp 63) rfl q _ v0 v1 54 _ hblk (rvInfo W) rfl (rvOne W)) (hx.rowSet hq _) ⟨(q,W),e0,hq,setRow_heap _ _ _ _ _ _ hblk,h1,h2.keep hblk hb9,h3⟩ ?_;intro j hj hji hlj hcj hR
      match j,hj,hR with
      | 0,_,hR=>exact hR
      | 1,_,hR=>exact hR
      | 2,_,hR=>exact hR
      | 3,_,hR=>exact hR
      | 4,_,hR=>exact hR
      | 5,_,hR=>exact hR
      | 6,_,hR=>exact hR
      | 7,_,hR=>exact hR
      | 8,_,hR=>exact hR.elim fun W h=>⟨W,h.1,h.2.1,h.2.2.1.keep hblk hb9,h.2.2.2⟩
      | 9,_,hR=>exact hR.elim fun W h=>⟨W,h.1,h.2.1,h.2.2.1.keep hblk hb9,h.2.2.2⟩
      | 10,_,_=>exact absurd rfl (hcj 13 rfl).1
      | 11,_,hR=>exact hR
      | 12,_,_=>exact absurd rfl (hcj 13 rfl).1
      | 13,_,_=>exact absurd rfl hji
      | 14,_,hR=>exact hR
      | j+15,hj,_=>exact absurd hj (by omega)
     | 14,ho,hlv,hd=>cases oi ho;exact yl1 hT rX ho hd (.int .i64 er) (nw dd hT hd tz 11 64 (.int .i64 er))
     | i+15,ho,_,_=>exact absurd ho (by simp)
   intro U wz hex hout hfin;obtain⟨W8,f8,hW8⟩:=hfin 13 (by decide) rfl
   change U 8=_ at f8
   have f9:U 9=some (.int .i64 er):=hfin 14 (by decide) rfl;have XE:=Hi hex;clear hex hfin;rw[over_list];simp(disch:=decide) only[overL,Nat.reduceAdd,hout,Option.getD_none];rw[f8,f9];simp only[Option.getD_some];clear hout f8 f9;obtain⟨hq8,hb8,hrc8,hin8,hf8⟩:=hW8;have HBK8:=Hi hb8;have HR8:=Hi hrc8;have HI8:=Hi hin8;have HF8:=Hi hf8;have IRW:=Hi (rvInfo W8.2);have HXx:=Hi (HXy.out.trans XE.out);have HNMx:=Hi (HNMy.out.ext XE.out);clear hq8 hb8 hrc8 hin8 hf8;by_cases he:er=0;case neg =>
    have hz:Hid (v=er∧o=b.bank.ents):=Hi (by have h:=HVW.out;rw[if_pos he]at h;injection h with h1 h2;exact⟨h1,h2⟩);go_wp2;go_ret;exact⟨by rw[hz.out.1];rfl,⟨b,by rw[hz.out.2],HNMx.out⟩,HXx.out⟩
   case pos =>
   subst he;have hz:Hid (v=0∧o=b.bank.ents.set k { x.ent with rev:=rc }):=Hi (by have h:=HVW.out;rw[if_neg (by simp)]at h;injection h with h1 h2;exact⟨h1,h2⟩);have hqe:(Value.slice b.eA b.ents.length b.ec).ownBlock=some q:=(by rw[HQ.out];rfl);obtain⟨cq,hbq⟩:=own_block HNMx.out.own.e.own q hqe;have hqge:=own_ge HNMx.out.own.e.own q hqe;have HXx':=Hi (Ext.setCells hqge W8.2.cells (k*7+1) wz HXx.out);have HST1:Hid (∀ j,j<W8.2.cells.toArray.toList.length→(wz.cell? ⟨q,k*7+1+j,none⟩).isSome=true):=Hi (fun j hj=>by have hj:j<5:=hj;obtain⟨u,hu⟩:∃ u,x.cells[1+j]?=some u:=⟨x.cells[1+j]'(by show 1+j<7;omega),List.getElem?_eq_getElem _⟩;have h:=XE.out.keep (HCXy.out (1+j) u hu);rw[← Nat.add_assoc]at h;rw[h];rfl)
   have HST2:Hid (∀ j,j<W8.2.cells.toArray.toList.length→wz.frozen? ⟨q,k*7+1+j,none⟩=false):=Hi (fun j _=>frozen_of_row _ _ _ _ _ hbq);have HST3:=Hi (rvOne W8.2);have HFIN:=Hi (Nm.putRv HNMy.out XE.out HNW.out HQ.out HX.out HI8.out.inn HF8.out);clear hqe hbq hqge;go_wp2_with (first
    | (with_reducible refine wpList_load_row rfl 54 (.tmp 8) rfl (W8.1) (by with_unfolding_all rfl) _ W8.2.cells.toArray _ _ HBK8.out Tryz.underlying54 rfl IRW.out ?_)
    | (with_reducible refine wpList_store_at rfl 54 (.tmp 71) (.tmp 69) rfl q (k*7+1) W8.2.cells.toArray (by with_unfolding_all rfl) (by with_unfolding_all rfl) IRW.out HST1.out HST2.out HST3.out ?_))
   go_ret;refine⟨by rw[hz.out.1];rfl,⟨_,?_,by rw[putE_cells];exact HFIN.out⟩,HXx'.out⟩;rw[hz.out.2];show(⟨b.now,b.gp.xs,b.gq.xs,b.outl,b.assets,(b.ents.set k (x.withRv W8.2)).map (·.ent),b.enem⟩:Bank)=_;rw[set_map,withRv_ent,HR8.out];rfl
 · go_wp2;clear c6 ck cr;go_wp2_with fail
   refine region_tb (by kernel_rfl) (by decide +kernel) (ao8E q k w.heap.size) ⟨rfl,rfl,rfl⟩ 15 ao8D ao8C (RG (ao8L q k w.heap.size w2z.heap.size x.st x.au x.ap x.fa x.lA x.lc x.log CC c.act c.user c.roles c.time er rc)) w2z (Ext.refl _) (fun i h1 h2=>absurd h2 (Nat.not_lt.2 h1)) ?_ ?_
   · intro Tv dd lv U wz i oZ hE ho hlv hd hT;obtain⟨t3,t6,tz⟩:=hE;have hx:=hT.ext;have rX:=RG.ext (ao8L_mono q k w.heap.size w2z.heap.size x.st x.au x.ap x.fa x.lA x.lc x.log CC c.act c.user c.roles c.time er rc)
     match i,ho,hlv,hd with
     | 0,ho,hlv,hd=>cases oi ho;exact yl1 hT rX ho hd (.pointer (some ⟨q,k*7,none⟩)) (od dd hT tz t6)
     | 1,ho,hlv,hd=>cases oi ho;exact yl1 hT rX ho hd (.pointer (some ⟨q,k*7,none⟩)) (nw dd hT hd tz 0 54 (.pointer (some ⟨q,k*7,none⟩)))
     | 2,ho,hlv,hd=>cases oi ho;exact yl1 hT rX ho hd (.pointer (some ⟨q,k*7+1,none⟩)) (nw dd hT hd tz 1 55 (.pointer (some ⟨q,k*7,none⟩)))
     | 3,ho,hlv,hd=>cases oi ho;have v0:=nw dd hT hd tz 2 56 (.pointer (some ⟨q,k*7+1,none⟩));exact yxe hT rX ho hd (.agg #[.int .i64 x.st,.int .i64 x.au,x.ap.val,x.fa.val,.slice x.lA x.log.length x.lc]) (exec_load_arr _ _ rfl q (k*7+1) v0 #[.int .i64 x.st,.int .i64 x.au,x.ap.val,x.fa.val,.slice x.lA x.log.length x.lc] _ (hx.range HRV.out) Tryz.underlying54 rfl IR.out)
     | 4,ho,hlv,hd=>cases oi ho;have v0:=od dd hT tz t3;exact yxe hT rX ho hd (.agg CC) (exec_load_row _ _ rfl w.heap.size v0 _ _ _ _ (hx.blockAt HCW.out) Tryz.underlying48 rfl IC.out)
     | 5,ho,hlv,hd=>cases oi ho;exact yl1 hT rX ho hd (.pointer (some ⟨w.heap.size,6,none⟩)) (od dd hT tz t3)
     | 6,ho,hlv,hd=>cases oi ho;exact yk1 hT rX ho hd (.int .i64 c.act) (nw dd hT hd tz 5 59 (.pointer (some ⟨w.heap.size,6,none⟩))) (hx.keep CAC.out)
     | 7,ho,hlv,hd=>cases oi ho;have v0:=nw dd hT hd tz 4 58 (.agg CC);have v1:=nw dd hT hd tz 6 60 (.int .i64 c.act);refine cl hT rX ho hd (f:=76) (args:=#[.agg CC,.int .i64 c.act]) (exec_call2 rfl rfl v0 v1 ENA.out) ?_;refine(action_any CC c.act c.user c.roles c.time HCU.out HCR.out HCT.out wz).mono ?_;rintro e w' ⟨rfl,hb⟩;exact⟨_,rfl,hb,rfl⟩
     | 8,ho,hlv,hd=>cases oi ho;have v0:=nw dd hT hd tz 3 57 (.agg #[.int .i64 x.st,.int .i64 x.au,x.ap.val,x.fa.val,.slice x.lA x.log.length x.lc]);have v1:=nw dd hT hd tz 7 61 (.agg #[.int .i64 c.act,.int .i64 c.user,.int .i64 c.roles,.int .i64 c.time]);refine cl hT rX ho hd (f:=75) (args:=#[.agg #[.int .i64 x.st,.int .i64 x.au,x.ap.val,x.fa.val,.slice x.lA x.log.length x.lc],.agg #[.int .i64 c.act,.int .i64 c.user,.int .i64 c.roles,.int .i64 c.time]]) (exec_call2 rfl rfl v0 v1 ENP.out) ?_;refine(HAP.out wz hx).mono ?_;rintro e w' ⟨⟨W,rfl,h1,h2,h3⟩,hb⟩;exact⟨_,rfl,hb,W,rfl,h1,h2,⟨h3.ap.mono hx.size,h3.fa.mono hx.size,h3.log.mono hx.size⟩⟩
     | 9,ho,hlv,hd=>cases oi ho;obtain⟨W,e0,hW⟩:=hT.facts 8 (by decide) (dep hd 8 (by kernel_rfl)) (fun c e=>by cases e);have v0:Act.eval ⟨over Tv U,dd⟩ (.tmp 62)=_:=eval_new (t:=Tv) (d:=dd) e0 (by show 62<Tv.size;omega);exact yl1 hT rX ho hd (.tuple #[W.agg,.int .i64 er]) v0 (hR:=⟨W,rfl,hW⟩)
     | 10,ho,hlv,hd=>cases oi ho;obtain⟨W,e0,hW⟩:=hT.facts 9 (by decide) (dep hd 9 (by kernel_rfl)) (fun c e=>by cases e);have v0:Act.eval ⟨over Tv U,dd⟩ (.tmp 53)=_:=eval_new (t:=Tv) (d:=dd) e0 (by show 53<Tv.size;omega);exact yl1 hT rX ho hd W.agg v0 (hR:=⟨W,rfl,hW⟩)
     | 11,ho,hlv,hd=>cases oi ho;obtain⟨W,e0,hW⟩:=hT.facts 9 (by decide) (dep hd 9 (by kernel_rfl)) (fun c e=>by cases e);have v0:Act.eval ⟨over Tv U,dd⟩ (.tmp 53)=_:=eval_new (t:=Tv) (d:=dd) e0 (by show 53<Tv.size;omega);exact yl1 hT rX ho hd (.int .i64 er) v0
     | 12,ho,hlv,hd =>
      cases oi ho;refine tb_extW (v:=.pointer (some ⟨wz.heap.size,0,none⟩)) (w':=wz.alloc (.cells #[.int .i64 0,.int .i64 0,.slice none 0 0,.slice none 0 0,.slice none 0 0] 54)) (RG.ext (ao8L_mono q k w.heap.size w2z.heap.size x.st x.au x.ap x.fa x.lA x.lc x.log CC c.act c.user c.roles c.time er rc)) hT ho hd rfl rfl (by decide) ?_ ?_ ((Ext.refl _).alloc _) ⟨wz.heap.size,rfl,hx.size,heap_alloc_new _ _⟩
      · intro j hj hji hlj
        match j,hj,hlj with
        | 0,_,_=>decide
        | 1,_,_=>decide
        | 2,_,_=>decide
        | 3,_,_=>decide
        | 4,_,_=>decide
        | 5,_,_=>decide
        | 6,_,_=>decide
        | 7,_,_=>decide
        | 8,_,_=>decide
        | 9,_,_=>decide
        | 10,_,_=>decide
        | 11,_,_=>decide
        | 12,_,_=>exact absurd rfl hji
        | 13,_,hlj=>exact absurd (dep (hT.shut 13 _ rfl hlj) 12 (by kernel_rfl)) (by rw[hlv];decide)
        | 14,_,_=>decide
        | j+15,hj,_=>exact absurd hj (by omega)
      · generalize Act.eval ⟨over Tv U,dd⟩=ev at *;simp[execOp,go_sem]
     | 13,ho,hlv,hd =>
      cases oi ho;obtain⟨q,e0,hq,hblk⟩:∃ q:Nat,U 8=some (.pointer (some ⟨q,0,none⟩))∧w2z.heap.size≤q∧wz.heap[q]?=some (.cells #[.int .i64 0,.int .i64 0,.slice none 0 0,.slice none 0 0,.slice none 0 0] 54 (0,0)):=hT.facts 12 (by decide) (dep hd 12 (by kernel_rfl)) (fun c e=>by injection e with e;subst e;exact hlv);have v0:Act.eval ⟨over Tv U,dd⟩ (.tmp 8)=_:=eval_new (t:=Tv) (d:=dd) e0 (by show 8<Tv.size;omega);obtain⟨W,e1,h1,h2,h3⟩:∃ W:RvL,U 63=some W.agg∧W.rc=rc∧RvT wz W∧W.From w2z.heap.size:=hT.facts 10 (by decide) (dep hd 10 (by kernel_rfl)) (fun c e=>by injection e with e;subst e;exact hlv);have v1:Act.eval ⟨over Tv U,dd⟩ (.tmp 63)=_:=eval_new (t:=Tv) (d:=dd) e1 (by show 63<Tv.size;omega);have hb9:=But.setRow q wz W.cells.toArray;refine tb_store (w':=wz.setRow q W.cells.toArray) hT ho hd rfl rfl (exec_store_row 54 (.tmp 8) (.tmp 63) rfl q _ v0 v1 54 _ hblk (rvInfo W) rfl (rvOne W)) (hx.rowSet hq _) ⟨(q,W),e0,hq,setRow_heap _ _ _ _ _ _ hblk,h1,h2.keep hblk hb9,h3⟩ ?_;intro j hj hji hlj hcj hR
      match j,hj,hR with
      | 0,_,hR=>exact hR
      | 1,_,hR=>exact hR
      | 2,_,hR=>exact hR
      | 3,_,hR=>exact hR
      | 4,_,hR=>exact hR
      | 5,_,hR=>exact hR
      | 6,_,hR=>exact hR
      | 7,_,hR=>exact hR
      | 8,_,hR=>exact hR.elim fun W h=>⟨W,h.1,h.2.1,h.2.2.1.keep hblk hb9,h.2.2.2⟩
      | 9,_,hR=>exact hR.elim fun W h=>⟨W,h.1,h.2.1,h.2.2.1.keep hblk hb9,h.2.2.2⟩
      | 10,_,_=>exact absurd rfl (hcj 13 rfl).1
      | 11,_,hR=>exact hR
      | 12,_,_=>exact absurd rfl (hcj 13 rfl).1
      | 13,_,_=>exact absurd rfl hji
      | 14,_,hR=>exact hR
      | j+15,hj,_=>exact absurd hj (by omega)
     | 14,ho,hlv,hd=>cases oi ho;exact yl1 hT rX ho hd (.int .i64 er) (nw dd hT hd tz 11 64 (.int .i64 er))
     | i+15,ho,_,_=>exact absurd ho (by simp)
   intro U wz hex hout hfin;obtain⟨W8,f8,hW8⟩:=hfin 13 (by decide) rfl
   change U 8=_ at f8
   have f9:U 9=some (.int .i64 er):=hfin 14 (by decide) rfl;have XE:=Hi hex;clear hex hfin;rw[over_list];simp(disch:=decide) only[overL,Nat.reduceAdd,hout,Option.getD_none];rw[f8,f9];simp only[Option.getD_some];clear hout f8 f9;obtain⟨hq8,hb8,hrc8,hin8,hf8⟩:=hW8;have HBK8:=Hi hb8;have HR8:=Hi hrc8;have HI8:=Hi hin8;have HF8:=Hi hf8;have IRW:=Hi (rvInfo W8.2);have HXx:=Hi (HXy.out.trans XE.out);have HNMx:=Hi (HNMy.out.ext XE.out);clear hq8 hb8 hrc8 hin8 hf8;by_cases he:er=0;case neg =>
    have hz:Hid (v=er∧o=b.bank.ents):=Hi (by have h:=HVW.out;rw[if_pos he]at h;injection h with h1 h2;exact⟨h1,h2⟩);go_wp2;go_ret;exact⟨by rw[hz.out.1];rfl,⟨b,by rw[hz.out.2],HNMx.out⟩,HXx.out⟩
   case pos =>
   subst he;have hz:Hid (v=0∧o=b.bank.ents.set k { x.ent with rev:=rc }):=Hi (by have h:=HVW.out;rw[if_neg (by simp)]at h;injection h with h1 h2;exact⟨h1,h2⟩);have hqe:(Value.slice b.eA b.ents.length b.ec).ownBlock=some q:=(by rw[HQ.out];rfl);obtain⟨cq,hbq⟩:=own_block HNMx.out.own.e.own q hqe;have hqge:=own_ge HNMx.out.own.e.own q hqe;have HXx':=Hi (Ext.setCells hqge W8.2.cells (k*7+1) wz HXx.out);have HST1:Hid (∀ j,j<W8.2.cells.toArray.toList.length→(wz.cell? ⟨q,k*7+1+j,none⟩).isSome=true):=Hi (fun j hj=>by have hj:j<5:=hj;obtain⟨u,hu⟩:∃ u,x.cells[1+j]?=some u:=⟨x.cells[1+j]'(by show 1+j<7;omega),List.getElem?_eq_getElem _⟩;have h:=XE.out.keep (HCXy.out (1+j) u hu);rw[← Nat.add_assoc]at h;rw[h];rfl)
   have HST2:Hid (∀ j,j<W8.2.cells.toArray.toList.length→wz.frozen? ⟨q,k*7+1+j,none⟩=false):=Hi (fun j _=>frozen_of_row _ _ _ _ _ hbq);have HST3:=Hi (rvOne W8.2);have HFIN:=Hi (Nm.putRv HNMy.out XE.out HNW.out HQ.out HX.out HI8.out.inn HF8.out);clear hqe hbq hqge;go_wp2_with (first
    | (with_reducible refine wpList_load_row rfl 54 (.tmp 8) rfl (W8.1) (by with_unfolding_all rfl) _ W8.2.cells.toArray _ _ HBK8.out Tryz.underlying54 rfl IRW.out ?_)
    | (with_reducible refine wpList_store_at rfl 54 (.tmp 71) (.tmp 69) rfl q (k*7+1) W8.2.cells.toArray (by with_unfolding_all rfl) (by with_unfolding_all rfl) IRW.out HST1.out HST2.out HST3.out ?_))
   go_ret;refine⟨by rw[hz.out.1];rfl,⟨_,?_,by rw[putE_cells];exact HFIN.out⟩,HXx'.out⟩;rw[hz.out.2];show(⟨b.now,b.gp.xs,b.gq.xs,b.outl,b.assets,(b.ents.set k (x.withRv W8.2)).map (·.ent),b.enem⟩:Bank)=_;rw[set_map,withRv_ent,HR8.out];rfl
end Bk
end Go.Proofs.YtfnmgcblhebdbaaGreatDoor
