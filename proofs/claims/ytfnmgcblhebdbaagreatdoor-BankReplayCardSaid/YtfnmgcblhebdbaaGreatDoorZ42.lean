/- bank.revise: a contract. Conditions: those of each theorem. -/
import Derived.Test.YtfnmgcblhebdbaaGreatDoorZ33
import Derived.Test.YtfnmgcblhebdbaaGreatDoorZ40
import Derived.Test.YtfnmgcblhebdbaaGreatDoorZ18
namespace Go.Proofs.YtfnmgcblhebdbaaGreatDoor
set_option maxRecDepth 100000
set_option maxHeartbeats 12800000
open Go.RowKit
namespace Bk
def bg3L (g n:Nat)(CB:Array Value)(id vf:Int):List (Option Value→World→Prop):=sl [.pointer (some ⟨g,0,none⟩),.pointer (some ⟨g,0,none⟩),.agg CB,.pointer (some ⟨n,7,none⟩),.pointer (some ⟨n,7,none⟩),.int .i64 id,.int .i64 vf,.int .i64 vf]
def bg3D:List Nat:=[17,18,19,20,21,22,23,5]
def bg3E (g n:Nat)(t:Array Value):Prop:=t.getD 0 undef=.pointer (some ⟨g,0,none⟩)∧t.getD 3 undef=.pointer (some ⟨n,0,none⟩)∧t.size=126

def bg7L (qe kk mm nb bv ov vc:Nat)(CI:Array Value):List (Option Value→World→Prop):=[sv (.pointer (some ⟨qe,kk*7,none⟩)),
 sv (.pointer (some ⟨qe,kk*7,none⟩)),
 sv (.pointer (some ⟨qe,kk*7,none⟩)),
 sv (.slice (some ⟨bv,ov,none⟩) mm vc),
 sv (.pointer (some ⟨qe,kk*7,none⟩)),
 sv (.pointer (some ⟨qe,kk*7,none⟩)),
 sv (.pointer (some ⟨qe,kk*7,none⟩)),
 sv (.slice (some ⟨bv,ov,none⟩) mm vc),
 sv (.int .i64 (mm:Int)),
 sv (.int .i64 ((mm:Int)-1)),
 sv (.pointer (some ⟨bv,ov+(mm-1)*17,none⟩)),
 sv (.agg CI),
 fun u w=>∃ q:Nat,
 u=some (.pointer (some ⟨q,0,none⟩))∧nb≤q∧w.heap[q]?=some (.cells #[.int .i64 0,.int .i64 0,.int .i64 0,.string ⟨#[]⟩,.slice none 0 0,.slice none 0 0,.int .i64 0,.int .i64 0,.slice none 0 0,.int .i64 0,.string ⟨#[]⟩,.int .i64 0,.int .i64 0,.int .i64 0,.int .i64 0,.slice none 0 0,.int .i64 0] 39 (0,0)),
 fun u w=>∃ q:Nat,
 u=some (.pointer (some ⟨q,0,none⟩))∧nb≤q∧w.heap[q]?=some (.cells CI 39 (0,0))]
theorem bg7L_mono(qe kk mm nb bv ov vc:Nat)(CI:Array Value):AllMono (bg7L qe kk mm nb bv ov vc CI):=⟨mono_val _,mono_val _,mono_val _,mono_val _,mono_val _,mono_val _,mono_val _,mono_val _,mono_val _,mono_val _,mono_val _,mono_val _,(fun _ _ _ he h=>h.elim fun q h=>⟨q,h.1,h.2.1,he.blockAt h.2.2⟩),(fun _ _ _ he h=>h.elim fun q h=>⟨q,h.1,h.2.1,he.blockAt h.2.2⟩),trivial⟩
def bg7D:List Nat:=[32,33,34,35,36,37,38,39,40,41,42,43,7,7]
def bg7C (j:Nat):Option Nat:=if j=12 then some 13 else none
def bg7E (qe kk:Nat)(t:Array Value):Prop:=t.getD 6 undef=.pointer (some ⟨qe,kk*7,none⟩)∧t.size=126

def bg11L (g _n:Nat)(CB CC:Array Value)(vr:Int):List (Option Value→World→Prop):=sl [.pointer (some ⟨g,0,none⟩),.pointer (some ⟨g,0,none⟩),.agg CB,.agg CC,.int .i64 vr,.int .i64 vr]
def bg11D:List Nat:=[51,52,53,54,55,9]
def bg11E (g n:Nat)(t:Array Value):Prop:=t.getD 0 undef=.pointer (some ⟨g,0,none⟩)∧t.getD 3 undef=.pointer (some ⟨n,0,none⟩)∧t.size=126

def bg20L (qe kk _n nb:Nat)(st au:Int)(ap fa:IL)(lA:Option Addr)(lc:Nat)(log:List Rev.Act)(CC:Array Value)(ac us ro ti er:Int)(S:Rev.Rec):List (Option Value→World→Prop):=[sv (.pointer (some ⟨qe,kk*7,none⟩)),
 sv (.pointer (some ⟨qe,kk*7,none⟩)),
 sv (.pointer (some ⟨qe,kk*7+1,none⟩)),
 sv (.agg #[.int .i64 st,.int .i64 au,ap.val,fa.val,.slice lA log.length lc]),
 sv (.agg CC),
 sv (.agg #[.int .i64 ac,.int .i64 us,.int .i64 ro,.int .i64 ti]),
 fun u w=>∃ W:RvL,
 u=some (.tuple #[W.agg,.int .i64 er])∧W.rc=S∧RvT w W∧W.From nb,
 fun u w=>∃ W:RvL,
 u=some (.tuple #[W.agg,.int .i64 er])∧W.rc=S∧RvT w W∧W.From nb,
 fun u w=>∃ W:RvL,
 u=some W.agg∧W.rc=S∧RvT w W∧W.From nb,
 sv (.int .i64 er),
 fun u w=>∃ q:Nat,
 u=some (.pointer (some ⟨q,0,none⟩))∧nb≤q∧w.heap[q]?=some (.cells #[.int .i64 0,.int .i64 0,.slice none 0 0,.slice none 0 0,.slice none 0 0] 54 (0,0)),
 fun u w=>∃ V:Nat×RvL,
 u=some (.pointer (some ⟨V.1,0,none⟩))∧nb≤V.1∧w.heap[V.1]?=some (.cells V.2.cells.toArray 54 (0,0))∧V.2.rc=S∧RvT w V.2∧V.2.From nb,
 sv (.int .i64 er)]
theorem bg20L_mono(qe kk n nb:Nat)(st au:Int)(ap fa:IL)(lA:Option Addr)(lc:Nat)(log:List Rev.Act)(CC:Array Value)(ac us ro ti er:Int)(S:Rev.Rec):AllMono (bg20L qe kk n nb st au ap fa lA lc log CC ac us ro ti er S):=⟨mono_val _,mono_val _,mono_val _,mono_val _,mono_val _,mono_val _,(fun _ _ _ he h=>h.elim fun W h=>⟨W,h.1,h.2.1,h.2.2.1.ext he,h.2.2.2⟩),(fun _ _ _ he h=>h.elim fun W h=>⟨W,h.1,h.2.1,h.2.2.1.ext he,h.2.2.2⟩),(fun _ _ _ he h=>h.elim fun W h=>⟨W,h.1,h.2.1,h.2.2.1.ext he,h.2.2.2⟩),mono_val _,(fun _ _ _ he h=>h.elim fun q h=>⟨q,h.1,h.2.1,he.blockAt h.2.2⟩),(fun _ _ _ he h=>h.elim fun V h=>⟨V,h.1,h.2.1,he.blockAt h.2.2.1,h.2.2.2.1,h.2.2.2.2.1.ext he,h.2.2.2.2.2⟩),mono_val _,trivial⟩
def bg20D:List Nat:=[82,83,84,85,86,87,88,81,89,90,12,12,13]
def bg20C (j:Nat):Option Nat:=if j=8 then some 11 else if j=10 then some 11 else none
def bg20E (qe kk n:Nat)(t:Array Value):Prop:=t.getD 3 undef=.pointer (some ⟨n,0,none⟩)∧t.getD 6 undef=.pointer (some ⟨qe,kk*7,none⟩)∧t.size=126

def bg26L (N g n0 qe kk mm:Nat)(wM:World)(CC CI:Array Value)(b:BankL)(x:EntL)(it:It.Item):List (Option Value→World→Prop):=[sv (.pointer (some ⟨qe,kk*7,none⟩)),
 sv (.pointer (some ⟨qe,kk*7,none⟩)),
 sv (.pointer (some ⟨qe,kk*7,none⟩)),
 sv (.pointer (some ⟨qe,kk*7,none⟩)),
 sv (.slice x.vA mm x.vc),
 sv (.pointer (some ⟨n0,7,none⟩)),
 sv (.agg CI),
 fun u w=>PNew eIt (wM.heap.size) (fun y:ItL=>y.1=it) (fun y:ItL=>It.agg y.1 y.2) u w,
 fun u w=>POne eIt (wM.heap.size) (fun y:ItL=>y.1=it) u w,
 fun u w=>PVA N g n0 CC b qe kk x it u w,
 sv (.pointer (some ⟨qe,kk*7,none⟩)),
 sv (.pointer (some ⟨qe,kk*7,none⟩)),
 fun _ w=>PVS N g n0 CC b kk x it w,
 fun _ w=>Ext wM w]
theorem bg26L_mono(N g n0 qe kk mm:Nat)(wM:World)(CC CI:Array Value)(b:BankL)(x:EntL)(it:It.Item):AllMono (bg26L N g n0 qe kk mm wM CC CI b x it):=⟨mono_val _,mono_val _,mono_val _,mono_val _,mono_val _,mono_val _,mono_val _,(fun _ _ _ he h=>PNew.mono he h),(fun _ _ _ he h=>POne.mono he h),(fun _ _ _ he h=>PVA.mono he h),mono_val _,mono_val _,(fun _ _ _ he h=>PVS.mono he h),(fun _ _ _ he h=>Ext.trans h he),trivial⟩
def bg26D:List Nat:=[109,110,111,112,113,114,115,116,117,118,119,120,900,901]
def bg26C (j:Nat):Option Nat:=if j=7 then some 8 else if j=8 then some 9 else if j=9 then some 12 else if j=13 then some 9 else none
def bg26E (n0 qe kk:Nat)(t:Array Value):Prop:=t.getD 3 undef=.pointer (some ⟨n0,0,none⟩)∧t.getD 6 undef=.pointer (some ⟨qe,kk*7,none⟩)∧t.size=126

theorem revise_any(w0:World)(b:BankL)(g:Nat)(c:CmdL)(CC:Array Value)(w:World)(hx0:Ext w0 w)(hg:w0.heap.size≤g)(hn:Nm w0.heap.size g b.cells.toArray b w)(hcc:c.cells.toArray=CC)(hci:c.In w0)(hG:Gm w0)(hF:∀ w',Ext w0 w'→Fld w')(hcz:CmdSz c.cmd)(hrv:RevOk b)(hvs:∀ x∈b.ents,(x.vs.length+1)*216≤140737488355328)(hbo:b.outl.length≤9223372036854775807)(hba:b.assets.length*48≤140737488355328)(hbs:c.item.1.assets.length*8≤140737488355328){v:Int}{o:List Ent}(hv:rvsE b.bank c.cmd (refE b.bank c.item.1.cont c.item.1.assets c.time)=(v,o)) :
    Calls Tryz.prog 33 #[.pointer (some ⟨g,0,none⟩),.agg CC] w fun e w'=>e=.returned (.int .i64 v)∧RetNx w0 g (fun b2=>b2.bank={ b.bank with ents:=o }) w':=by
 have HNE:Hid (w.heap.size≠g):=Hi (by have:=blk_lt hn.row;omega);have XA:Hid (Ext w (w.alloc (.cells CC 48))):=Hi ((Ext.refl w).alloc _);have HX0:=Hi (hx0.trans XA.out);have HNM0:=Hi (hn.ext XA.out);have HC0:Hid ((w.alloc (.cells CC 48)).heap[w.heap.size]?=some (.cells CC 48 (0,0))):=Hi (heap_alloc_new w _);obtain⟨CB,hcb⟩:∃ C,b.cells.toArray=C:=⟨_,rfl⟩;obtain⟨no,hno⟩:∃ n,b.outl.length=n:=⟨_,rfl⟩;obtain⟨na,hna⟩:∃ n,b.assets.length=n:=⟨_,rfl⟩;obtain⟨ns,hns⟩:∃ n,c.item.1.assets.length=n:=⟨_,rfl⟩;rw[hno]at hbo;rw[hna]at hba;rw[hns]at hbs;have HCB:=Hi hcb;have HNO:=Hi hno;have HNA:=Hi hna;have HNS:=Hi hns;have IB:Hid ((Tryz.prog.info? 31).map (·.size)=some CB.size):=Hi (infoBk (by rw[← hcb];rfl));have IC:Hid ((Tryz.prog.info? 48).map (·.size)=some CC.size):=Hi (infoCm (by rw[← hcc];rfl));have HCC:=Hi hcc;have HCU:Hid (CC[1]?=some (.int .i64 c.user)):=Hi (by rw[← hcc];rfl);have HCR:Hid (CC[2]?=some (.int .i64 c.roles)):=Hi (by rw[← hcc];rfl);have HCT:Hid (CC[3]?=some (.int .i64 c.time)):=Hi (by rw[← hcc];rfl);have H7:Hid (CC[7]?=some (.int .i64 c.item.1.id)):=Hi (by rw[← hcc];rfl);obtain⟨CN,hia,hni,h1i,hki⟩:=itp c.item;have HIA:=Hi hia;have IN:=Hi (infoItem hni);have HIS:Hid (∀ (j:Nat) (v:Value),CN.toList[j]?=some v→CC[7+j]?=some v):=Hi (by rw[← hki,← hcc];intro j v hj;have hj:(icl c.item)[j]?=some v:=hj;have hl:j<17:=(List.getElem?_eq_some_iff.1 hj).1;show(([.int .i64 c.kind,.int .i64 c.user,.int .i64 c.roles,.int .i64 c.time,.int .i64 c.id,.int .i64 c.other,.int .i64 c.act] ++ icl c.item ++ tcl c.topic ++ scl c.asset ++ [.slice c.mA c.rows.length c.mc]:List Value).toArray)[7+j]?=some v;rw[List.getElem?_toArray,List.append_assoc,List.append_assoc,List.append_assoc,List.getElem?_append_right (by simp),List.getElem?_append_left (by show 7+j-7<17;omega)];show(icl c.item)[7+j-7]?=some v;rw[show 7+j-7=j from by omega];exact hj)
 have HBG:Hid (w0.heap.size≤g):=Hi hg;have HV:=Hi hv;have HIT:=Hi hci.item;have HCZ:=Hi hcz;have HGM:=Hi hG;have HFL:=Hi hF;have HACT:Hid (ActIn ⟨9,c.user,c.roles,c.time⟩):=Hi ⟨⟨by show(-9223372036854775808:Int)≤9;omega,by show(9:Int)≤9223372036854775807;omega⟩,hci.user,hci.roles,hci.time⟩;have HRO:=Hi hrv;have HVS:=Hi hvs;have ENF:=Hi (enters_of Tryz.func38 (by kernel_rfl) rfl);have ENR:=Hi (enters_of Tryz.func69 (by kernel_rfl) rfl);have ENC:=Hi (enters_of Tryz.func43 (by kernel_rfl) rfl);have ENA:=Hi (enters_of Tryz.func76 (by kernel_rfl) rfl);have ENP:=Hi (enters_of Tryz.func75 (by kernel_rfl) rfl);obtain⟨rf,hrf⟩:∃ r,refE b.bank c.item.1.cont c.item.1.assets c.time=r:=⟨_,rfl⟩;have HRFV:=Hi hrf;rw[hrf]at HV;obtain⟨u0,hu0⟩:∃ u,hasR c.roles 1=u:=⟨_,rfl⟩;have HU0:=Hi hu0;clear hx0 hg hn hcc hci hG hF hcz hrv hvs hv hcb hno hna hns hia hni h1i hki hrf hu0;go_enter Tryz.func33,Tryz.ntmps33
 go_wp2_with (with_reducible refine wpList_load_row rfl 48 (.tmp 3) rfl (w.heap.size) (by with_unfolding_all rfl) _ CC _ _ HC0.out Tryz.underlying48 rfl IC.out ?_)
 with_reducible refine(has_any CC c.roles 1 HU0.out HCR.out _).mono ?_
 rintro e w1 ⟨rfl,hb1⟩;have HX1:=Hi (HX0.out.trans hb1);have HNM1:=Hi (HNM0.out.ext hb1);have HC1:=Hi (hb1.blockAt HC0.out);clear hb1;cases u0 with
 | false=>have hz:Hid (v=9∧o=b.bank.ents):=Hi (by have h:=HV.out;unfold rvsE at h;rw[if_pos (show hasR c.cmd.roles 1=false from HU0.out)]at h;injection h with h1 h2;exact⟨h1.symm,h2.symm⟩);go_wp2;go_ret;exact⟨by rw[hz.out.1];rfl,⟨b,by rw[hz.out.2],HNM1.out⟩,HX1.out⟩
 | true =>
 obtain⟨vf,hvf⟩:∃ v,ixV (fnd (b.ents.map (·.ent)) c.item.1.id)=v:=⟨_,rfl⟩;have HVF:=Hi hvf;have hbag:b.agg=.agg CB:=by rw[← HCB.out];rfl
 have HB1:Hid (w1.heap[g]?=some (.cells CB 31 (0,0))):=Hi (by rw[← HCB.out];exact HNM1.out.row);have CID:Hid (w1.cell? ⟨w.heap.size,7,none⟩=some (.int .i64 c.item.1.id)):=Hi ((cell_of_row _ _ 7 _ _ _ HC1.out).trans H7.out);have HFD:=Hi (fun(W:World) (hx:Ext w1 W)=>bfind_any b c.item.1.id hvf W ((HNM1.out.ext hx).own.in_));rw[hbag]at HFD;clear hvf hbag;go_wp2_with fail
 refine region_tb (by kernel_rfl) (by decide +kernel) (bg3E g w.heap.size) ⟨rfl,rfl,rfl⟩ 8 bg3D (fun _=>none) (RG (bg3L g w.heap.size CB c.item.1.id vf)) w1 (Ext.refl _) (fun i h1 h2=>absurd h2 (Nat.not_lt.2 h1)) ?_ ?_
 · intro Tv dd lv U wz i oZ hE ho hlv hd hT;obtain⟨t0,t3,tz⟩:=hE;have hx:=hT.ext;have rX:=RG.ext (l:=bg3L g w.heap.size CB c.item.1.id vf) (sl_mono _)
   match i,ho,hlv,hd with
   | 0,ho,hlv,hd=>cases oi ho;exact yl1 hT rX ho hd (.pointer (some ⟨g,0,none⟩)) (od dd hT tz t0)
   | 1,ho,hlv,hd=>cases oi ho;exact yl1 hT rX ho hd (.pointer (some ⟨g,0,none⟩)) (nw dd hT hd tz 0 17 (.pointer (some ⟨g,0,none⟩)))
   | 2,ho,hlv,hd=>cases oi ho;have v0:=nw dd hT hd tz 1 18 (.pointer (some ⟨g,0,none⟩));exact yxe hT rX ho hd (.agg CB) (exec_load_row _ _ rfl g v0 _ _ _ _ (hx.blockAt HB1.out) Tryz.underlying31 rfl IB.out)
   | 3,ho,hlv,hd=>cases oi ho;exact yl1 hT rX ho hd (.pointer (some ⟨w.heap.size,7,none⟩)) (od dd hT tz t3)
   | 4,ho,hlv,hd=>cases oi ho;exact yl1 hT rX ho hd (.pointer (some ⟨w.heap.size,7,none⟩)) (nw dd hT hd tz 3 20 (.pointer (some ⟨w.heap.size,7,none⟩)))
   | 5,ho,hlv,hd=>cases oi ho;exact yk1 hT rX ho hd (.int .i64 c.item.1.id) (nw dd hT hd tz 4 21 (.pointer (some ⟨w.heap.size,7,none⟩))) (hx.keep CID.out)
   | 6,ho,hlv,hd=>cases oi ho;have v0:=nw dd hT hd tz 2 19 (.agg CB);have v1:=nw dd hT hd tz 5 22 (.int .i64 c.item.1.id);refine cl hT rX ho hd (f:=38) (args:=#[.agg CB,.int .i64 c.item.1.id]) (exec_call2 rfl rfl v0 v1 ENF.out) ?_;refine(HFD.out wz hx).mono ?_;rintro e w' ⟨rfl,hb⟩;exact⟨_,rfl,hb,rfl⟩
   | 7,ho,hlv,hd=>cases oi ho;exact yl1 hT rX ho hd (.int .i64 vf) (nw dd hT hd tz 6 23 (.int .i64 vf))
   | i+8,ho,_,_=>exact absurd ho (by simp)
 intro U wz hex hout hfin;have f5:U 5=some (.int .i64 vf):=hfin 7 (by decide) rfl;have XE:=Hi hex;clear hex hfin;rw[over_list];simp(disch:=decide) only[overL,Nat.reduceAdd,hout,Option.getD_none];rw[f5];simp only[Option.getD_some];clear hout f5;have HXz:=Hi (HX1.out.trans XE.out);have HNMz:=Hi (HNM1.out.ext XE.out);have HCz:=Hi (XE.out.blockAt HC1.out);clear XE HFD CID HB1;obtain⟨fo,hfo⟩:∃ f,fnd b.bank.ents c.item.1.id=f:=⟨_,rfl⟩;have HFO:=Hi hfo;cases fo with
 | none =>
  have hz:Hid (v=6∧o=b.bank.ents):=Hi (by have h:=HV.out;rw[rvsE_none (show hasR c.cmd.roles 1=true from HU0.out) (show fnd b.bank.ents c.cmd.item.id=none from hfo)]at h;injection h with h1 h2;exact⟨h1.symm,h2.symm⟩);have hvm:vf=-1:=by rw[← HVF.out];exact congrArg ixV hfo
  subst hvm;clear hfo;go_wp2;go_ret;exact⟨by rw[hz.out.1];rfl,⟨b,by rw[hz.out.2],HNMz.out⟩,HXz.out⟩
 | some k =>
 have hvk:vf=(k:Int):=by rw[← HVF.out];exact congrArg ixV hfo
 subst hvk;obtain⟨x,l,hx,hxe,hl,-,hpos,hle⟩:=found hfo;obtain⟨q,hq⟩:=rowA HNMz.out.own.e hx;obtain⟨bb,off,hA,hbl,hcx,hin⟩:=HNMz.out.own.e.slx.1.at_ hx;rw[hq]at hA;injection hA with hA;injection hA with hA1 hA2;subst hA1 hA2;rw[Nat.zero_add]at hcx;obtain⟨m,hm⟩:∃ m,x.vs.length=m:=⟨_,rfl⟩;obtain⟨nv,hnv⟩:∃ m,b.ents.length=m:=⟨_,rfl⟩;rw[hm]at hl hpos;obtain⟨bv,ov,hvA,-,hci,hlin⟩:=hin.inn.vs.at_ hl;obtain⟨CI,hla,hni,h1i,hki⟩:=itp l;have HX:=Hi hx;have HQ:=Hi hq;have HML0:=Hi hm;have HCX:Hid (wz.rangeAt q (k*7) x.cells):=Hi hcx;have HCI:Hid (wz.rangeAt bv (ov+(m-1)*17) CI.toList):=Hi (by rw[← hki];exact hci);have HLA:=Hi hla;have II:=Hi (infoItem hni);have NI:Hid ((#[.int .i64 0,.int .i64 0,.int .i64 0,.string ⟨#[]⟩,.slice none 0 0,.slice none 0 0,.int .i64 0,.int .i64 0,.slice none 0 0,.int .i64 0,.string ⟨#[]⟩,.int .i64 0,.int .i64 0,.int .i64 0,.int .i64 0,.slice none 0 0,.int .i64 0]:Array Value).size=CI.size):=Hi hni.symm;have OI:=Hi h1i;have HVA:Hid (x.vA=some ⟨bv,ov,none⟩):=Hi hvA;have CV0:Hid (wz.cell? ⟨q,k*7,none⟩=some (.slice (some ⟨bv,ov,none⟩) m x.vc)):=Hi (by have h:=hcx 0 _ rfl;rw[hvA,hm]at h;exact h);have hm63:m≤9223372036854775807:=by have h:=hin.inn.vc;unfold maxLen at h;omega
 have KW:Hid (IntKind.i64.wrap ((m:Int)-1)=(m:Int)-1):=Hi (by rw[IntKind.wrap_i64];omega);have KI:Hid ((0:Int)≤(m:Int)-1∧(m:Int)-1<(m:Int)∧((m:Int)-1).toNat=m-1∧¬ (m:Int)<1):=Hi ⟨by omega,by omega,by omega,by omega⟩;have HEIN:Hid (EntO wz x):=Hi hin;have HLI:Hid (It.In wz l.1 l.2):=Hi hlin;have HVV:Hid ((v,o)=if It.succ l.1 c.item.1≠0 then(It.succ l.1 c.item.1,b.bank.ents)else if rf≠0 then(rf,b.bank.ents)else rvsG b.bank.ents c.cmd k x.ent l.1):=Hi (HV.out.symm.trans (rvsE_some (show hasR c.cmd.roles 1=true from HU0.out) (show fnd b.bank.ents c.cmd.item.id=some k from hfo) hxe hle));have c5:wz.cell? ⟨g,5,none⟩=some (.slice (some ⟨q,0,none⟩) nv b.ec):=(cell_of_row _ _ 5 _ _ _ HNMz.out.row).trans (by rw[← hq,← hnv];rfl);have ki0:(0:Int)≤(k:Int):=by omega
 have hkn:k<nv:=by rw[← hnv];exact(List.getElem?_eq_some_iff.1 hx).1
 have ki1:(k:Int)<(nv:Int):=by omega
 have hk0:¬ (k:Int)<0:=by omega
 clear hx hq hcx hci hla hni h1i hki hlin hin hvA hl hm hfo hxe hle hnv;obtain⟨w1z,rfl⟩:∃ W,W=wz:=⟨_,rfl⟩;go_wp2;clear c5;go_wp2_with fail
 refine region_tb (by kernel_rfl) (by decide +kernel) (bg7E q k) ⟨rfl,rfl⟩ 14 bg7D bg7C (RG (bg7L q k m w1z.heap.size bv ov x.vc CI)) w1z (Ext.refl _) (fun i h1 h2=>absurd h2 (Nat.not_lt.2 h1)) ?_ ?_
 · intro Tv dd lv U wz i oZ hE ho hlv hd hT;obtain⟨t6,tz⟩:=hE;have hx:=hT.ext;have rX:=RG.ext (bg7L_mono q k m w1z.heap.size bv ov x.vc CI)
   match i,ho,hlv,hd with
   | 0,ho,hlv,hd=>cases oi ho;exact yl1 hT rX ho hd (.pointer (some ⟨q,k*7,none⟩)) (od dd hT tz t6)
   | 1,ho,hlv,hd=>cases oi ho;exact yl1 hT rX ho hd (.pointer (some ⟨q,k*7,none⟩)) (nw dd hT hd tz 0 32 (.pointer (some ⟨q,k*7,none⟩)))
   | 2,ho,hlv,hd=>cases oi ho;exact yl1 hT rX ho hd (.pointer (some ⟨q,k*7,none⟩)) (nw dd hT hd tz 1 33 (.pointer (some ⟨q,k*7,none⟩)))
   | 3,ho,hlv,hd=>cases oi ho;exact yk1 hT rX ho hd (.slice (some ⟨bv,ov,none⟩) m x.vc) (nw dd hT hd tz 2 34 (.pointer (some ⟨q,k*7,none⟩))) (hx.keep CV0.out)
   | 4,ho,hlv,hd=>cases oi ho;exact yl1 hT rX ho hd (.pointer (some ⟨q,k*7,none⟩)) (od dd hT tz t6)
   | 5,ho,hlv,hd=>cases oi ho;exact yl1 hT rX ho hd (.pointer (some ⟨q,k*7,none⟩)) (nw dd hT hd tz 4 36 (.pointer (some ⟨q,k*7,none⟩)))
   | 6,ho,hlv,hd=>cases oi ho;exact yl1 hT rX ho hd (.pointer (some ⟨q,k*7,none⟩)) (nw dd hT hd tz 5 37 (.pointer (some ⟨q,k*7,none⟩)))
   | 7,ho,hlv,hd=>cases oi ho;exact yk1 hT rX ho hd (.slice (some ⟨bv,ov,none⟩) m x.vc) (nw dd hT hd tz 6 38 (.pointer (some ⟨q,k*7,none⟩))) (hx.keep CV0.out)
   | 8,ho,hlv,hd=>cases oi ho;exact yl1 hT rX ho hd (.int .i64 (m:Int)) (nw dd hT hd tz 7 39 (.slice (some ⟨bv,ov,none⟩) m x.vc))
   | 9,ho,hlv,hd=>cases oi ho;have v1:Act.eval ⟨over Tv U,dd⟩ (.const (.int .i64 1))=.int .i64 1:=rfl;exact yk2 hT rX ho hd (.int .i64 ((m:Int)-1)) (nw dd hT hd tz 8 40 (.int .i64 (m:Int))) v1 KW.out
   | 10,ho,hlv,hd=>cases oi ho;exact yk2 hT rX ho hd (.pointer (some ⟨bv,ov+(m-1)*17,none⟩)) (nw dd hT hd tz 3 35 (.slice (some ⟨bv,ov,none⟩) m x.vc)) (nw dd hT hd tz 9 41 (.int .i64 ((m:Int)-1))) KI.out
   | 11,ho,hlv,hd=>cases oi ho;have v0:=nw dd hT hd tz 10 42 (.pointer (some ⟨bv,ov+(m-1)*17,none⟩));exact yxe hT rX ho hd (.agg CI) (exec_load_arr _ _ rfl bv (ov+(m-1)*17) v0 CI _ (hx.range HCI.out) Tryz.underlying39 rfl II.out)
   | 12,ho,hlv,hd =>
    cases oi ho;refine tb_extW (v:=.pointer (some ⟨wz.heap.size,0,none⟩)) (w':=wz.alloc (.cells #[.int .i64 0,.int .i64 0,.int .i64 0,.string ⟨#[]⟩,.slice none 0 0,.slice none 0 0,.int .i64 0,.int .i64 0,.slice none 0 0,.int .i64 0,.string ⟨#[]⟩,.int .i64 0,.int .i64 0,.int .i64 0,.int .i64 0,.slice none 0 0,.int .i64 0] 39)) (RG.ext (bg7L_mono q k m w1z.heap.size bv ov x.vc CI)) hT ho hd rfl rfl (by decide) ?_ ?_ ((Ext.refl _).alloc _) ⟨wz.heap.size,rfl,hx.size,heap_alloc_new _ _⟩
    · intro j hj hji hlj
      match j,hj,hlj with
      | 0,_,_=>decide
      | 1,_,_=>decide
      | 2,_,_=>decide
      | 3,_,_=>decide
      | 4,_,_=>decide
      | 5,_,_=>decide
      | 6,_,_=>decide
      | 7,_,_=>decide
      | 8,_,_=>decide
      | 9,_,_=>decide
      | 10,_,_=>decide
      | 11,_,_=>decide
      | 12,_,_=>exact absurd rfl hji
      | 13,_,hlj=>exact absurd (dep (hT.shut 13 _ rfl hlj) 12 (by kernel_rfl)) (by rw[hlv];decide)
      | j+14,hj,_=>exact absurd hj (by omega)
    · generalize Act.eval ⟨over Tv U,dd⟩=ev at *;simp[execOp,go_sem]
   | 13,ho,hlv,hd =>
    cases oi ho;have v1:=nw dd hT hd tz 11 43 (.agg CI);obtain⟨q,e0,hq,hblk⟩:∃ q:Nat,U 7=some (.pointer (some ⟨q,0,none⟩))∧w1z.heap.size≤q∧wz.heap[q]?=some (.cells #[.int .i64 0,.int .i64 0,.int .i64 0,.string ⟨#[]⟩,.slice none 0 0,.slice none 0 0,.int .i64 0,.int .i64 0,.slice none 0 0,.int .i64 0,.string ⟨#[]⟩,.int .i64 0,.int .i64 0,.int .i64 0,.int .i64 0,.slice none 0 0,.int .i64 0] 39 (0,0)):=hT.facts 12 (by decide) (dep hd 12 (by kernel_rfl)) (fun c e=>by injection e with e;subst e;exact hlv);have v0:Act.eval ⟨over Tv U,dd⟩ (.tmp 7)=_:=eval_new (t:=Tv) (d:=dd) e0 (by show 7<Tv.size;omega);refine tb_store (w':=wz.setRow q CI) hT ho hd rfl rfl (exec_store_row 39 (.tmp 7) (.tmp 43) rfl q _ v0 v1 39 _ hblk II.out NI.out OI.out) (hx.rowSet hq _) ⟨q,e0,hq,setRow_heap _ _ _ _ _ _ hblk⟩ ?_;intro j hj hji hlj hcj hR
    match j,hj,hR with
    | 0,_,hR=>exact hR
    | 1,_,hR=>exact hR
    | 2,_,hR=>exact hR
    | 3,_,hR=>exact hR
    | 4,_,hR=>exact hR
    | 5,_,hR=>exact hR
    | 6,_,hR=>exact hR
    | 7,_,hR=>exact hR
    | 8,_,hR=>exact hR
    | 9,_,hR=>exact hR
    | 10,_,hR=>exact hR
    | 11,_,hR=>exact hR
    | 12,_,_=>exact absurd rfl (hcj 13 rfl).1
    | 13,_,_=>exact absurd rfl hji
    | j+14,hj,_=>exact absurd hj (by omega)
   | i+14,ho,_,_=>exact absurd ho (by simp)
 intro U wz hex hout hfin;obtain⟨W7,f7,hW7⟩:=hfin 13 (by decide) rfl
 change U 7=_ at f7
 have XE:=Hi hex;clear hex hfin;rw[over_list];simp(disch:=decide) only[overL,Nat.reduceAdd,hout,Option.getD_none];rw[f7];simp only[Option.getD_some];clear hout f7;obtain⟨hq7,hb7⟩:=hW7;have HXy:=Hi (HXz.out.trans XE.out);have HNMy:=Hi (HNMz.out.ext XE.out);have HCy:=Hi (XE.out.blockAt HCz.out);have HB7:=Hi hb7;have HLy:=Hi (HLI.out.ext XE.out);clear hb7 hq7 XE HCX HCI CV0 KW KI;obtain⟨sc,hsc⟩:∃ z,It.succ l.1 c.item.1=z:=⟨_,rfl⟩;have HSC:=Hi hsc;have HRG:Hid (wz.rangeAt w.heap.size 7 CN.toList):=Hi (rngC HCy.out HIS.out);clear hsc;go_wp2_with (first
  | (with_reducible refine wpList_load_row rfl 39 (.tmp 7) rfl (W7) (by with_unfolding_all rfl) _ CI _ _ HB7.out Tryz.underlying39 rfl II.out ?_)
  | (with_reducible refine wpList_load_arr rfl 39 (.tmp 45) rfl (w.heap.size) 7 (by with_unfolding_all rfl) CN _ HRG.out Tryz.underlying39 rfl IN.out ?_))
 rw[← HIA.out,← HLA.out];with_reducible refine(succeed_any l.1 c.item.1 l.2 c.item.2 _ (HIT.out.ext HXy.out) (fun W hx=>HGM.out.ext (HXy.out.trans hx))).mono ?_
 rintro e w3 ⟨rfl,hb3⟩;have HX3:=Hi (HXy.out.trans hb3);have HNM3:=Hi (HNMy.out.ext hb3);have HC3:=Hi (hb3.blockAt HCy.out);have HL3:=Hi (HLy.out.ext hb3);have HB73:=Hi (hb3.blockAt HB7.out);clear hb3 HRG HB7;rw[HIA.out,HLA.out,HSC.out];by_cases hsc:sc=0;case neg =>
  have hz:Hid (v=sc∧o=b.bank.ents):=Hi (by have h:=HVV.out;rw[HSC.out,if_pos hsc]at h;injection h with h1 h2;exact⟨h1,h2⟩);go_wp2;go_ret;exact⟨by rw[hz.out.1];rfl,⟨b,by rw[hz.out.2],HNM3.out⟩,HX3.out⟩
 case pos =>
 subst hsc;have HVW:Hid ((v,o)=if rf≠0 then(rf,b.bank.ents)else rvsG b.bank.ents c.cmd k x.ent l.1):=Hi (by have h:=HVV.out;rw[HSC.out,if_neg (by simp)]at h;exact h);go_wp2;obtain⟨w4,rfl⟩:∃ W,W=w3:=⟨_,rfl⟩;have HB1:Hid (w4.heap[g]?=some (.cells CB 31 (0,0))):=Hi (by rw[← HCB.out];exact HNM3.out.row);have HC4:=HC3;have HRF:Hid (∀ (W:World),Ext w4 W→Calls Tryz.prog 69 #[.agg CB,.agg CC] W fun e w'=>e=.returned (.int .i64 rf)∧Ext W w'):=Hi (fun W hx=>refs_any CB CC b c no na ns HNO.out HNA.out HNS.out HCB.out HCC.out HRFV.out W ((HNM3.out.ext hx).own.o.slx.1) ((HNM3.out.ext hx).own.s.slx.1) (itS (HIT.out.ext (HX3.out.trans hx))) hbo hbs hba);go_wp2_with fail
 refine region_tb (by kernel_rfl) (by decide +kernel) (bg11E g w.heap.size) ⟨rfl,rfl,rfl⟩ 6 bg11D (fun _=>none) (RG (bg11L g w.heap.size CB CC rf)) w4 (Ext.refl _) (fun i h1 h2=>absurd h2 (Nat.not_lt.2 h1)) ?_ ?_
 · intro Tv dd lv U wz i oZ hE ho hlv hd hT;obtain⟨t0,t3,tz⟩:=hE;have hx:=hT.ext;have rX:=RG.ext (l:=bg11L g w.heap.size CB CC rf) (sl_mono _)
   match i,ho,hlv,hd with
   | 0,ho,hlv,hd=>cases oi ho;exact yl1 hT rX ho hd (.pointer (some ⟨g,0,none⟩)) (od dd hT tz t0)
   | 1,ho,hlv,hd=>cases oi ho;exact yl1 hT rX ho hd (.pointer (some ⟨g,0,none⟩)) (nw dd hT hd tz 0 51 (.pointer (some ⟨g,0,none⟩)))
   | 2,ho,hlv,hd=>cases oi ho;have v0:=nw dd hT hd tz 1 52 (.pointer (some ⟨g,0,none⟩));exact yxe hT rX ho hd (.agg CB) (exec_load_row _ _ rfl g v0 _ _ _ _ (hx.blockAt HB1.out) Tryz.underlying31 rfl IB.out)
   | 3,ho,hlv,hd=>cases oi ho;have v0:=od dd hT tz t3;exact yxe hT rX ho hd (.agg CC) (exec_load_row _ _ rfl w.heap.size v0 _ _ _ _ (hx.blockAt HC4.out) Tryz.underlying48 rfl IC.out)
   | 4,ho,hlv,hd=>cases oi ho;have v0:=nw dd hT hd tz 2 53 (.agg CB);have v1:=nw dd hT hd tz 3 54 (.agg CC);refine cl hT rX ho hd (f:=69) (args:=#[.agg CB,.agg CC]) (exec_call2 rfl rfl v0 v1 ENR.out) ?_;refine(HRF.out wz hx).mono ?_;rintro e w' ⟨rfl,hb⟩;exact⟨_,rfl,hb,rfl⟩
   | 5,ho,hlv,hd=>cases oi ho;exact yl1 hT rX ho hd (.int .i64 rf) (nw dd hT hd tz 4 55 (.int .i64 rf))
   | i+6,ho,_,_=>exact absurd ho (by simp)
 intro U wz hex hout hfin;have f9:U 9=some (.int .i64 rf):=hfin 5 (by decide) rfl;have XE:=Hi hex;clear hex hfin;rw[over_list];simp(disch:=decide) only[overL,Nat.reduceAdd,hout,Option.getD_none];rw[f9];simp only[Option.getD_some];clear hout f9;have HX5:=Hi (HX3.out.trans XE.out);have HNM5:=Hi (HNM3.out.ext XE.out);have HC5:=Hi (XE.out.blockAt HC3.out);have HL5:=Hi (HL3.out.ext XE.out);have HB75:=Hi (XE.out.blockAt HB73.out);clear XE HRF HB1 HC4;by_cases hr0:rf=0;case neg =>
  have hz:Hid (v=rf∧o=b.bank.ents):=Hi (by have h:=HVW.out;rw[if_pos hr0]at h;injection h with h1 h2;exact⟨h1,h2⟩);go_wp2;go_ret;exact⟨by rw[hz.out.1];rfl,⟨b,by rw[hz.out.2],HNM5.out⟩,HX5.out⟩
 case pos =>
 subst hr0;have HVX:Hid ((v,o)=rvsG b.bank.ents c.cmd k x.ent l.1):=Hi (by have h:=HVW.out;rw[if_neg (by simp)]at h;exact h);obtain⟨mj,hmj⟩:∃ z,It.major l.1 c.item.1=z:=⟨_,rfl⟩;have HMJ:=Hi hmj;have HRG:Hid (wz.rangeAt w.heap.size 7 CN.toList):=Hi (rngC HC5.out HIS.out);clear hmj;go_wp2_with (first
  | (with_reducible refine wpList_load_row rfl 39 (.tmp 7) rfl (W7) (by with_unfolding_all rfl) _ CI _ _ HB75.out Tryz.underlying39 rfl II.out ?_)
  | (with_reducible refine wpList_load_arr rfl 39 (.tmp 60) rfl (w.heap.size) 7 (by with_unfolding_all rfl) CN _ HRG.out Tryz.underlying39 rfl IN.out ?_))
 rw[← HIA.out,← HLA.out];with_reducible refine(major_any l.1 c.item.1 l.2 c.item.2 _ HL5.out (HIT.out.ext HX5.out) (fun W hx=>HFL.out W (HX5.out.trans hx))).mono ?_
 rintro e w6 ⟨rfl,hb6⟩;have HX6:=Hi (HX5.out.trans hb6);have HNM6:=Hi (HNM5.out.ext hb6);have HC6:=Hi (hb6.blockAt HC5.out);clear hb6 HRG HB75 HB73 HL5 HL3 HLy HC5 HC3 HCy HNM5 HNM3 HNMy HX5 HX3 HXy;rw[HIA.out,HLA.out,HMJ.out];have cst:w6.cell? ⟨q,k*7+1,none⟩=some (.int .i64 x.st):=HNM6.out.cell HQ.out HX.out rfl;have HQG:Hid (w0.heap.size≤q):=Hi (own_ge HNM6.out.own.e.own q (by rw[HQ.out];rfl));have HCP:Hid (∀ (W:World),Ext w0 W→Calls Tryz.prog 43 #[.agg CN] W fun e w'=>RetItT W c.item.1 e w'∧Ext W w'):=Hi (fun W hx=>by rw[← HIA.out];exact bcopyItemT_any c.item.1 c.item.2 W (HIT.out.ext hx) HCZ.out.item);obtain⟨i1,hiI,hzI,hsI,hbI⟩:=info_parts infoIt;by_cases h1:x.st=1
 · -- a draft
   have t1:(x.st == 1)=true:=(by rw[beq_iff_eq];exact h1);have HVY:Hid ((v,o)=if c.user=x.au then(0,b.bank.ents.set k (rvsF mj c.item.1 x.ent))else(10,b.bank.ents)):=Hi (by have h:=HVX.out;unfold rvsG at h;rw[if_pos (show x.ent.rev.st=1 from h1),show It.major l.1 c.cmd.item=mj from HMJ.out]at h;exact h);have cu:w6.cell? ⟨w.heap.size,1,none⟩=some (.int .i64 c.user):=(cell_of_row _ _ 1 _ _ _ HC6.out).trans HCU.out;have ca:w6.cell? ⟨q,k*7+1+1,none⟩=some (.int .i64 x.au):=HNM6.out.cell (j:=2) HQ.out HX.out rfl;clear h1;by_cases hu:c.user=x.au;case neg =>
    have t2:(c.user != x.au)=true:=(by rw[bne_iff_ne];exact hu);have hz:Hid (v=10∧o=b.bank.ents):=Hi (by have h:=HVY.out;rw[if_neg hu]at h;injection h with h1 h2;exact⟨h1,h2⟩);clear hu;go_wp2;go_quiet (fail)
    go_wp2;go_ret;exact⟨by rw[hz.out.1];rfl,⟨b,by rw[hz.out.2],HNM6.out.ext ((Ext.refl _).drewN _)⟩,HX6.out.drewN _⟩
   case pos =>
   have t2:(c.user != x.au)=false:=(by rw[bne_eq_false_iff_eq];exact hu);have HZ:Hid (v=0∧o=b.bank.ents.set k (rvsF mj c.item.1 x.ent)):=Hi (by have h:=HVY.out;rw[if_pos hu]at h;injection h with h1 h2;exact⟨h1,h2⟩);clear hu;go_wp2;go_quiet (fail)
   go_wp2_with fail
   refine wp_gen ?_;rintro wt hwt;have XE:Hid (Ext w6 wt):=Hi (by rw[hwt];exact(Ext.refl _).drewN _);clear hwt t1 t2 cst cu ca;obtain⟨b1,hb1⟩:∃ z:BankL,z=b:=⟨_,rfl⟩;obtain⟨x1,hx1⟩:∃ z:EntL,z=x:=⟨_,rfl⟩;have HXt:=Hi (HX6.out.trans XE.out);have HCt:=Hi (XE.out.blockAt HC6.out);have HNMt:Hid (Nm w0.heap.size g b1.cells.toArray b1 wt):=Hi (by rw[hb1];exact HNM6.out.ext XE.out);have HQ1:Hid (b1.eA=some ⟨q,0,none⟩):=Hi (by rw[hb1];exact HQ.out);have HX1k:Hid (b1.ents[k]?=some x1):=Hi (by rw[hb1,hx1];exact HX.out);have HML:Hid (x1.vs.length=m):=Hi (by rw[hx1];exact HML0.out);have HBY:Hid ((x1.vs.length+1)*216≤140737488355328):=Hi (by rw[hx1];exact HVS.out x (List.mem_of_getElem? HX.out));have HBK:Hid (∀ e,({ b1.bank with ents:=b1.bank.ents.set k e }:Bank)={ b.bank with ents:=b.bank.ents.set k e }):=Hi (fun e=>by rw[hb1]);rw[← hx1]at HZ;clear hb1 hx1 XE;have CV0:Hid (wt.cell? ⟨q,k*7,none⟩=some (.slice x1.vA m x1.vc)):=Hi (by rw[← HML.out];exact HNMt.out.cell (j:=0) HQ1.out HX1k.out rfl);have HRI:Hid (wt.rangeAt w.heap.size 7 CN.toList):=Hi (rngC HCt.out HIS.out);go_wp2_with fail
   refine region_tb (by kernel_rfl) (by decide +kernel) (bg26E w.heap.size q k) ⟨rfl,rfl,rfl⟩ 14 bg26D bg26C (RG (bg26L w0.heap.size g w.heap.size q k m wt CC CN b1 x1 c.item.1)) w0 HXt.out (fun i h1 h2=>by
         have h3:13≤i:=h1;have h4:i<14:=h2;obtain rfl:i=13:=by omega
         exact(Ext.refl _).drew) ?_ ?_
   · intro Tv dd lv U wz i oZ hE ho hlv hd hT;obtain⟨t3,t6,tz⟩:=hE;have hx:=hT.ext;have rX:=RG.ext (bg26L_mono w0.heap.size g w.heap.size q k m wt CC CN b1 x1 c.item.1)
     match i,ho,hlv,hd with
     | 0,ho,hlv,hd=>cases oi ho;exact yl1 hT rX ho hd (.pointer (some ⟨q,k*7,none⟩)) (od dd hT tz t6)
     | 1,ho,hlv,hd=>cases oi ho;exact yl1 hT rX ho hd (.pointer (some ⟨q,k*7,none⟩)) (od dd hT tz t6)
     | 2,ho,hlv,hd=>cases oi ho;exact yl1 hT rX ho hd (.pointer (some ⟨q,k*7,none⟩)) (nw dd hT hd tz 1 110 (.pointer (some ⟨q,k*7,none⟩)))
     | 3,ho,hlv,hd=>cases oi ho;exact yl1 hT rX ho hd (.pointer (some ⟨q,k*7,none⟩)) (nw dd hT hd tz 2 111 (.pointer (some ⟨q,k*7,none⟩)))
     | 4,ho,hlv,hd =>
      cases oi ho;have hnA:lv 9=false:=by
       cases hA:lv 9 with
       | false=>rfl
       | true=>exact absurd (dep (hT.shut 9 _ rfl hA) 4 (by kernel_rfl)) (by rw[hlv];decide)
      have hrow:Ext wt wz:=hT.facts 13 (by decide) (hT.past 13 (by decide)) (fun c e=>by injection e with e;subst e;exact hnA);exact yk1 hT rX ho hd (.slice x1.vA m x1.vc) (nw dd hT hd tz 3 112 (.pointer (some ⟨q,k*7,none⟩))) (hrow.keep CV0.out)
     | 5,ho,hlv,hd=>cases oi ho;exact yl1 hT rX ho hd (.pointer (some ⟨w.heap.size,7,none⟩)) (od dd hT tz t3)
     | 6,ho,hlv,hd =>
      cases oi ho;have v0:=nw dd hT hd tz 5 114 (.pointer (some ⟨w.heap.size,7,none⟩));have hnA:lv 9=false:=by
       cases hA:lv 9 with
       | false=>rfl
       | true=>exact absurd (dep (hT.shut 7 _ rfl (dep (hT.shut 8 _ rfl (dep (hT.shut 9 _ rfl hA) 8 (by kernel_rfl))) 7 (by kernel_rfl))) 6 (by kernel_rfl)) (by rw[hlv];decide)
      have hrow:Ext wt wz:=hT.facts 13 (by decide) (hT.past 13 (by decide)) (fun c e=>by injection e with e;subst e;exact hnA);exact yxe hT rX ho hd (.agg CN) (exec_load_arr _ _ rfl w.heap.size (7) v0 CN _ (hrow.range HRI.out) Tryz.underlying39 rfl IN.out)
     | 7,ho,hlv,hd =>
      cases oi ho;have v0:=nw dd hT hd tz 6 115 (.agg CN);have hnA:lv 9=false:=by
       cases hA:lv 9 with
       | false=>rfl
       | true=>exact absurd (dep (hT.shut 8 _ rfl (dep (hT.shut 9 _ rfl hA) 8 (by kernel_rfl))) 7 (by kernel_rfl)) (by rw[hlv];decide)
      have hrow:Ext wt wz:=hT.facts 13 (by decide) (hT.past 13 (by decide)) (fun c e=>by injection e with e;subst e;exact hnA);refine cl hT rX ho hd (f:=43) (args:=#[.agg CN]) (exec_call1 rfl rfl v0 ENC.out) ?_;refine(HCP.out wz hx).mono ?_;rintro e w' ⟨⟨L,rfl,h1,h2,h3⟩,hb⟩;exact⟨_,rfl,hb,PNI.pnew ⟨L,rfl,h1,eIt.mono h2 hrow.size,h3⟩⟩
     | 8,ho,hlv,hd=>cases oi ho;obtain⟨y0,e0,h2,h3,h4⟩:PNew eIt (wt.heap.size) (fun y:ItL=>y.1=c.item.1) (fun y:ItL=>It.agg y.1 y.2) (U 116) wz:=hT.facts 7 (by decide) (dep hd 7 (by kernel_rfl)) (fun c e=>by injection e with e;subst e;exact hlv);have v0:Act.eval ⟨over Tv U,dd⟩ (.tmp 116)=_:=eval_new (t:=Tv) (d:=dd) e0 (by show 116<Tv.size;omega);refine tbw_yield (v:=.slice (some ⟨wz.heap.size,0,none⟩) 1 1) (RG.ext (bg26L_mono w0.heap.size g w.heap.size q k m wt CC CN b1 x1 c.item.1)) hT ho hd (wanted_plain rfl) rfl (by decide) (by decide) (exec_buildOne 51 39 (.tmp 116) rfl v0 Tryz.underlying51 hiI hzI hsI (by decide) (by decide) rfl) ((Ext.refl _).alloc _) (PNew.one (E:=eIt) (val:=fun y:ItL=>It.agg y.1 y.2) 39 rfl h2 h3 h4)
     | 9,ho,hlv,hd =>
      cases oi ho;have v0:=nw dd hT hd tz 4 113 (.slice x1.vA m x1.vc);have hnA:lv 9=false:=hlv;have hrow:Ext wt wz:=hT.facts 13 (by decide) (hT.past 13 (by decide)) (fun c e=>by injection e with e;subst e;exact hnA);have h1:POne eIt (wt.heap.size) (fun y:ItL=>y.1=c.item.1) (U 117) wz:=hT.facts 8 (by decide) (dep hd 8 (by kernel_rfl)) (fun c e=>by injection e with e;subst e;exact hlv);obtain⟨y,u',w',hU,hrun,hx2,hP⟩:=appV_run (n0:=w.heap.size) (CC:=CC) HNMt.out hrow hx HXt.out HQ1.out HX1k.out (hrow.blockAt HCt.out) h1 HBY.out;rw[HML.out]at hrun;have v1:Act.eval ⟨over Tv U,dd⟩ (.tmp 117)=_:=eval_new (t:=Tv) (d:=dd) hU (by show 117<Tv.size;omega);refine tb_yield (v:=u') (w':=w') hT ho hd rfl rfl (by decide) (by decide) (exec_append rfl v0 v1 hrun) hx2 hP ?_;intro j hj hji hlj hcj hR
      match j,hj,hR with
      | 0,_,hR=>exact hR
      | 1,_,hR=>exact hR
      | 2,_,hR=>exact hR
      | 3,_,hR=>exact hR
      | 4,_,hR=>exact hR
      | 5,_,hR=>exact hR
      | 6,_,hR=>exact hR
      | 7,_,_=>exact absurd (dep hd 8 (by kernel_rfl)) (by rw[(hcj 8 rfl).2];decide)
      | 8,_,_=>exact absurd rfl (hcj 9 rfl).1
      | 9,_,_=>exact absurd rfl hji
      | 10,_,hR=>exact hR
      | 11,_,hR=>exact hR
      | 12,_,_=>exact absurd (dep (hT.shut 12 _ rfl hlj) 9 (by kernel_rfl)) (by rw[hlv];decide)
      | 13,_,_=>exact absurd rfl (hcj 9 rfl).1
      | j+14,hj,_=>exact absurd hj (by omega)
     | 10,ho,hlv,hd=>cases oi ho;exact yl1 hT rX ho hd (.pointer (some ⟨q,k*7,none⟩)) (nw dd hT hd tz 0 109 (.pointer (some ⟨q,k*7,none⟩)))
     | 11,ho,hlv,hd=>cases oi ho;exact yl1 hT rX ho hd (.pointer (some ⟨q,k*7,none⟩)) (nw dd hT hd tz 10 119 (.pointer (some ⟨q,k*7,none⟩)))
     | 12,ho,hlv,hd =>
      cases oi ho;have v0:=nw dd hT hd tz 11 120 (.pointer (some ⟨q,k*7,none⟩));obtain⟨A2,c2,y,hU,h2,h3,h4⟩:PVA w0.heap.size g w.heap.size CC b1 q k x1 c.item.1 (U 118) wz:=hT.facts 9 (by decide) (dep hd 9 (by kernel_rfl)) (fun c e=>by injection e with e;subst e;exact hlv);have v1:Act.eval ⟨over Tv U,dd⟩ (.tmp 118)=_:=eval_new (t:=Tv) (d:=dd) hU (by show 118<Tv.size;omega);have hc:=h3.cell HX1k.out;have hfz:=h3.free (k*7);refine tb_store (w':=wz.setCell ⟨q,k*7,none⟩ (.slice A2 (x1.vs.length+1) c2)) hT ho hd rfl rfl ?_ (hx.setCell HQG.out _) (h3.stored h2 h4 HX1k.out) ?_
      · generalize Act.eval ⟨over Tv U,dd⟩=ev at *;simp[execOp,v0,v1,go_sem,hc,hfz]
      · intro j hj hji hlj hcj hR
        match j,hj,hR with
        | 0,_,hR=>exact hR
        | 1,_,hR=>exact hR
        | 2,_,hR=>exact hR
        | 3,_,hR=>exact hR
        | 4,_,hR=>exact hR
        | 5,_,hR=>exact hR
        | 6,_,hR=>exact hR
        | 7,_,_=>exact absurd (dep (hT.shut 9 _ rfl (dep hd 9 (by kernel_rfl))) 8 (by kernel_rfl)) (by rw[(hcj 8 rfl).2];decide)
        | 8,_,_=>exact absurd (dep hd 9 (by kernel_rfl)) (by rw[(hcj 9 rfl).2];decide)
        | 9,_,_=>exact absurd rfl (hcj 12 rfl).1
        | 10,_,hR=>exact hR
        | 11,_,hR=>exact hR
        | 12,_,_=>exact absurd rfl hji
        | 13,_,_=>exact absurd (dep hd 9 (by kernel_rfl)) (by rw[(hcj 9 rfl).2];decide)
        | j+14,hj,_=>exact absurd hj (by omega)
     | i+13,ho,_,_=>exact absurd ho (by simp)
   intro U wz hex hout hfin;have PS:PVS w0.heap.size g w.heap.size CC b1 k x1 c.item.1 wz:=hfin 12 (by decide) rfl;have XE:=Hi hex;clear hex hfin;rw[over_list];simp(disch:=decide) only[overL,Nat.reduceAdd,hout,Option.getD_none];clear hout;obtain⟨A2,c2,y,hy,hnm,-⟩:=PS;have HY:=Hi hy;have HN2:=Hi hnm;clear hy hnm;cases mj with
   | false=>go_wp2;go_ret;refine⟨by rw[HZ.out.1];rfl,⟨_,?_,by rw[putE_cells];exact HN2.out⟩,XE.out⟩;rw[HZ.out.2,setBank,HBK.out,withV_rvs,HY.out]
   | true =>
    have hx2:(b1.setE b1.eA b1.ec (b1.ents.set k (x1.withV A2 c2 (x1.vs ++ [y])))).ents[k]?=some (x1.withV A2 c2 (x1.vs ++ [y])):=by show(b1.ents.set k _)[k]?=_;rw[List.getElem?_set_self (List.getElem?_eq_some_iff.1 HX1k.out).1]
    have hfin:=Nm.putMd (A:=none) (c:=0) (ys:=[]) HN2.out (Ext.refl _) XE.out.size (show(b1.setE b1.eA b1.ec (b1.ents.set k (x1.withV A2 c2 (x1.vs ++ [y])))).eA=some ⟨q,0,none⟩from HQ1.out) hx2 (SlX.nil _ _) ⟨Nat.le_refl _,Nat.zero_le _⟩ ⟨Or.inl rfl,fun _ h=>by cases h⟩;have HFN:=Hi hfin;have c6:=HN2.out.cell (j:=6) (show(b1.setE b1.eA b1.ec (b1.ents.set k (x1.withV A2 c2 (x1.vs ++ [y])))).eA=some ⟨q,0,none⟩from HQ1.out) hx2 rfl;obtain⟨cq,hbq⟩:=own_block HN2.out.own.e.own q (by show(Value.slice b1.eA _ _).ownBlock=_;rw[HQ1.out];rfl);have HXf:=Hi (Ext.setCells HQG.out [.slice none 0 0] (k*7+6) wz XE.out);have HST1:Hid (∀ j,j<(#[.slice none 0 0]:Array Value).toList.length→(wz.cell? ⟨q,k*7+6+j,none⟩).isSome=true):=Hi (fun j hj=>by
     have hj:j<1:=hj;obtain rfl:j=0:=by omega
     rw[Nat.add_zero,c6];rfl)
    have HST2:Hid (∀ j,j<(#[.slice none 0 0]:Array Value).toList.length→wz.frozen? ⟨q,k*7+6+j,none⟩=false):=Hi (fun j _=>frozen_of_row _ _ _ _ _ hbq);have HST3:Hid ((#[.slice none 0 0]:Array Value).all (·.oneCell')=true):=Hi (by simp[Value.oneCell']);have IM9:Hid ((Tryz.prog.info? 46).map (·.size)=some (#[.slice none 0 0]:Array Value).size):=Hi (infoMd rfl);clear hx2 hfin c6 hbq;go_wp2_with (with_reducible refine wpList_store_at rfl 46 (.tmp 125) (.tmp 123) rfl q (k*7+6) #[.slice none 0 0] (by with_unfolding_all rfl) (by with_unfolding_all rfl) IM9.out HST1.out HST2.out HST3.out ?_)
    go_ret;refine⟨by rw[HZ.out.1];rfl,⟨_,?_,by rw[putE_cells,putE_cells];exact HFN.out⟩,HXf.out⟩;rw[HZ.out.2,setBank,setBank,List.set_set,HBK.out,withMd_ent,withV_rvs,HY.out];rfl
 have HV2 : Hid ((v, o) = if mj = true then (if Rev.allowedE x.ent.rev ⟨9, c.user, c.roles, c.time⟩ ≠ 0 then (Rev.allowedE x.ent.rev ⟨9, c.user, c.roles, c.time⟩, b.bank.ents)
     else(0,b.bank.ents.set k (rvsF true c.item.1 { x.ent with rev:=Rev.applyR x.ent.rev ⟨9,c.user,c.roles,c.time⟩ })))else if x.st=2∨x.st=3∨x.st=7 then(8,b.bank.ents)else(0,b.bank.ents.set k (rvsF false c.item.1 x.ent))):=Hi (by have h:=HVX.out;unfold rvsG at h;rw[if_neg (show ¬ x.ent.rev.st=1 from h1),show It.major l.1 c.cmd.item=mj from HMJ.out]at h;exact h)
 have t1:(x.st == 1)=false:=by rw[beq_eq_false_iff_ne];exact h1
 clear h1;cases mj with
 | true =>
  have HVY:Hid ((v,o)=if Rev.allowedE x.ent.rev ⟨9,c.user,c.roles,c.time⟩≠0 then(Rev.allowedE x.ent.rev ⟨9,c.user,c.roles,c.time⟩,b.bank.ents)
   else(0,b.bank.ents.set k (rvsF true c.item.1 { x.ent with rev:=Rev.applyR x.ent.rev ⟨9,c.user,c.roles,c.time⟩ }))):=Hi (by have h:=HV2.out;rw[if_pos rfl]at h;exact h)
  go_wp2_with fail
  have HRV:Hid (w6.rangeAt q (k*7+1) (#[.int .i64 x.st,.int .i64 x.au,x.ap.val,x.fa.val,.slice x.lA x.log.length x.lc]:Array Value).toList):=Hi (fun j u hu=>by
   have h:=HNM6.out.cell (j:=1+j) (u:=u) HQ.out HX.out (by
    match j,hu with
    | 0,hu=>exact hu
    | 1,hu=>exact hu
    | 2,hu=>exact hu
    | 3,hu=>exact hu
    | 4,hu=>exact hu
    | j+5,hu=>simp at hu)
   rwa [← Nat.add_assoc]at h)
  have IR:Hid ((Tryz.prog.info? 54).map (·.size)=some (#[.int .i64 x.st,.int .i64 x.au,x.ap.val,x.fa.val,.slice x.lA x.log.length x.lc]:Array Value).size):=Hi (by kernel_rfl);have HCW:=HC6;obtain⟨rc,hrc⟩:∃ r,Rev.applyR x.ent.rev ⟨9,c.user,c.roles,c.time⟩=r:=⟨_,rfl⟩;obtain⟨er,her⟩:∃ r,Rev.allowedE x.ent.rev ⟨9,c.user,c.roles,c.time⟩=r:=⟨_,rfl⟩;rw[hrc,her]at HVY;have HEy:Hid (EntO w6 x):=Hi (HNM6.out.own.e.ins x (List.mem_of_getElem? HX.out));have HAP:Hid (∀ (W:World),Ext w6 W→Calls Tryz.prog 75 #[.agg #[.int .i64 x.st,.int .i64 x.au,x.ap.val,x.fa.val,.slice x.lA x.log.length x.lc],.agg #[.int .i64 9,.int .i64 c.user,.int .i64 c.roles,.int .i64 c.time]] W fun e w'=>RetRv rc er W e w'∧Ext W w'):=Hi (fun W hx=>apRv_any x.rv ⟨9,c.user,c.roles,c.time⟩ W (RvL.In.ext ⟨HEy.out.inn.st,HEy.out.inn.au,HEy.out.inn.ap,HEy.out.inn.fa,HEy.out.inn.log,HEy.out.inn.lc⟩ hx) (HRO.out x (List.mem_of_getElem? HX.out)).1 (HRO.out x (List.mem_of_getElem? HX.out)).2 HACT.out hrc her);have HNW:Hid (w0.heap.size≤w6.heap.size):=Hi HX6.out.size;clear hrc her cst t1;obtain⟨w2z,rfl⟩:∃ W,W=w6:=⟨_,rfl⟩;go_wp2_with fail
  refine region_tb (by kernel_rfl) (by decide +kernel) (bg20E q k w.heap.size) ⟨rfl,rfl,rfl⟩ 13 bg20D bg20C (RG (bg20L q k w.heap.size w2z.heap.size x.st x.au x.ap x.fa x.lA x.lc x.log CC 9 c.user c.roles c.time er rc)) w2z (Ext.refl _) (fun i h1 h2=>absurd h2 (Nat.not_lt.2 h1)) ?_ ?_
  · intro Tv dd lv U wz i oZ hE ho hlv hd hT;obtain⟨t3,t6,tz⟩:=hE;have hx:=hT.ext;have rX:=RG.ext (bg20L_mono q k w.heap.size w2z.heap.size x.st x.au x.ap x.fa x.lA x.lc x.log CC 9 c.user c.roles c.time er rc)
    match i,ho,hlv,hd with
    | 0,ho,hlv,hd=>cases oi ho;exact yl1 hT rX ho hd (.pointer (some ⟨q,k*7,none⟩)) (od dd hT tz t6)
    | 1,ho,hlv,hd=>cases oi ho;exact yl1 hT rX ho hd (.pointer (some ⟨q,k*7,none⟩)) (nw dd hT hd tz 0 82 (.pointer (some ⟨q,k*7,none⟩)))
    | 2,ho,hlv,hd=>cases oi ho;exact yl1 hT rX ho hd (.pointer (some ⟨q,k*7+1,none⟩)) (nw dd hT hd tz 1 83 (.pointer (some ⟨q,k*7,none⟩)))
    | 3,ho,hlv,hd=>cases oi ho;have v0:=nw dd hT hd tz 2 84 (.pointer (some ⟨q,k*7+1,none⟩));exact yxe hT rX ho hd (.agg #[.int .i64 x.st,.int .i64 x.au,x.ap.val,x.fa.val,.slice x.lA x.log.length x.lc]) (exec_load_arr _ _ rfl q (k*7+1) v0 #[.int .i64 x.st,.int .i64 x.au,x.ap.val,x.fa.val,.slice x.lA x.log.length x.lc] _ (hx.range HRV.out) Tryz.underlying54 rfl IR.out)
    | 4,ho,hlv,hd=>cases oi ho;have v0:=od dd hT tz t3;exact yxe hT rX ho hd (.agg CC) (exec_load_row _ _ rfl w.heap.size v0 _ _ _ _ (hx.blockAt HCW.out) Tryz.underlying48 rfl IC.out)
    | 5,ho,hlv,hd=>cases oi ho;have v0:=nw dd hT hd tz 4 86 (.agg CC);have v1:Act.eval ⟨over Tv U,dd⟩ (.const (.int .i64 9))=.int .i64 9:=rfl;refine cl hT rX ho hd (f:=76) (args:=#[.agg CC,.int .i64 9]) (exec_call2 rfl rfl v0 v1 ENA.out) ?_;refine(action_any CC 9 c.user c.roles c.time HCU.out HCR.out HCT.out wz).mono ?_;rintro e w' ⟨rfl,hb⟩;exact⟨_,rfl,hb,rfl⟩
    | 6,ho,hlv,hd=>cases oi ho;have v0:=nw dd hT hd tz 3 85 (.agg #[.int .i64 x.st,.int .i64 x.au,x.ap.val,x.fa.val,.slice x.lA x.log.length x.lc]);have v1:=nw dd hT hd tz 5 87 (.agg #[.int .i64 9,.int .i64 c.user,.int .i64 c.roles,.int .i64 c.time]);refine cl hT rX ho hd (f:=75) (args:=#[.agg #[.int .i64 x.st,.int .i64 x.au,x.ap.val,x.fa.val,.slice x.lA x.log.length x.lc],.agg #[.int .i64 9,.int .i64 c.user,.int .i64 c.roles,.int .i64 c.time]]) (exec_call2 rfl rfl v0 v1 ENP.out) ?_;refine(HAP.out wz hx).mono ?_;rintro e w' ⟨⟨W,rfl,h1,h2,h3⟩,hb⟩;exact⟨_,rfl,hb,W,rfl,h1,h2,⟨h3.ap.mono hx.size,h3.fa.mono hx.size,h3.log.mono hx.size⟩⟩
    | 7,ho,hlv,hd=>cases oi ho;obtain⟨W,e0,hW⟩:=hT.facts 6 (by decide) (dep hd 6 (by kernel_rfl)) (fun c e=>by cases e);have v0:Act.eval ⟨over Tv U,dd⟩ (.tmp 88)=_:=eval_new (t:=Tv) (d:=dd) e0 (by show 88<Tv.size;omega);exact yl1 hT rX ho hd (.tuple #[W.agg,.int .i64 er]) v0 (hR:=⟨W,rfl,hW⟩)
    | 8,ho,hlv,hd=>cases oi ho;obtain⟨W,e0,hW⟩:=hT.facts 7 (by decide) (dep hd 7 (by kernel_rfl)) (fun c e=>by cases e);have v0:Act.eval ⟨over Tv U,dd⟩ (.tmp 81)=_:=eval_new (t:=Tv) (d:=dd) e0 (by show 81<Tv.size;omega);exact yl1 hT rX ho hd W.agg v0 (hR:=⟨W,rfl,hW⟩)
    | 9,ho,hlv,hd=>cases oi ho;obtain⟨W,e0,hW⟩:=hT.facts 7 (by decide) (dep hd 7 (by kernel_rfl)) (fun c e=>by cases e);have v0:Act.eval ⟨over Tv U,dd⟩ (.tmp 81)=_:=eval_new (t:=Tv) (d:=dd) e0 (by show 81<Tv.size;omega);exact yl1 hT rX ho hd (.int .i64 er) v0
    | 10,ho,hlv,hd =>
     cases oi ho;refine tb_extW (v:=.pointer (some ⟨wz.heap.size,0,none⟩)) (w':=wz.alloc (.cells #[.int .i64 0,.int .i64 0,.slice none 0 0,.slice none 0 0,.slice none 0 0] 54)) (RG.ext (bg20L_mono q k w.heap.size w2z.heap.size x.st x.au x.ap x.fa x.lA x.lc x.log CC 9 c.user c.roles c.time er rc)) hT ho hd rfl rfl (by decide) ?_ ?_ ((Ext.refl _).alloc _) ⟨wz.heap.size,rfl,hx.size,heap_alloc_new _ _⟩
     · intro j hj hji hlj
       match j,hj,hlj with
       | 0,_,_=>decide
       | 1,_,_=>decide
       | 2,_,_=>decide
       | 3,_,_=>decide
       | 4,_,_=>decide
       | 5,_,_=>decide
       | 6,_,_=>decide
       | 7,_,_=>decide
       | 8,_,_=>decide
       | 9,_,_=>decide
       | 10,_,_=>exact absurd rfl hji
       | 11,_,hlj=>exact absurd (dep (hT.shut 11 _ rfl hlj) 10 (by kernel_rfl)) (by rw[hlv];decide)
       | 12,_,_=>decide
       | j+13,hj,_=>exact absurd hj (by omega)
     · generalize Act.eval ⟨over Tv U,dd⟩=ev at *;simp[execOp,go_sem]
    | 11,ho,hlv,hd =>
     cases oi ho;obtain⟨q,e0,hq,hblk⟩:∃ q:Nat,U 12=some (.pointer (some ⟨q,0,none⟩))∧w2z.heap.size≤q∧wz.heap[q]?=some (.cells #[.int .i64 0,.int .i64 0,.slice none 0 0,.slice none 0 0,.slice none 0 0] 54 (0,0)):=hT.facts 10 (by decide) (dep hd 10 (by kernel_rfl)) (fun c e=>by injection e with e;subst e;exact hlv);have v0:Act.eval ⟨over Tv U,dd⟩ (.tmp 12)=_:=eval_new (t:=Tv) (d:=dd) e0 (by show 12<Tv.size;omega);obtain⟨W,e1,h1,h2,h3⟩:∃ W:RvL,U 89=some W.agg∧W.rc=rc∧RvT wz W∧W.From w2z.heap.size:=hT.facts 8 (by decide) (dep hd 8 (by kernel_rfl)) (fun c e=>by injection e with e;subst e;exact hlv);have v1:Act.eval ⟨over Tv U,dd⟩ (.tmp 89)=_:=eval_new (t:=Tv) (d:=dd) e1 (by show 89<Tv.size;omega);have hb9:=But.setRow q wz W.cells.toArray;refine tb_store (w':=wz.setRow q W.cells.toArray) hT ho hd rfl rfl (exec_store_row 54 (.tmp 12) (.tmp 89) rfl q _ v0 v1 54 _ hblk (rvInfo W) rfl (rvOne W)) (hx.rowSet hq _) ⟨(q,W),e0,hq,setRow_heap _ _ _ _ _ _ hblk,h1,h2.keep hblk hb9,h3⟩ ?_;intro j hj hji hlj hcj hR
     match j,hj,hR with
     | 0,_,hR=>exact hR
     | 1,_,hR=>exact hR
     | 2,_,hR=>exact hR
     | 3,_,hR=>exact hR
     | 4,_,hR=>exact hR
     | 5,_,hR=>exact hR
     | 6,_,hR=>exact hR.elim fun W h=>⟨W,h.1,h.2.1,h.2.2.1.keep hblk hb9,h.2.2.2⟩
     | 7,_,hR=>exact hR.elim fun W h=>⟨W,h.1,h.2.1,h.2.2.1.keep hblk hb9,h.2.2.2⟩
     | 8,_,_=>exact absurd rfl (hcj 11 rfl).1
     | 9,_,hR=>exact hR
     | 10,_,_=>exact absurd rfl (hcj 11 rfl).1
     | 11,_,_=>exact absurd rfl hji
     | 12,_,hR=>exact hR
     | j+13,hj,_=>exact absurd hj (by omega)
    | 12,ho,hlv,hd=>cases oi ho;exact yl1 hT rX ho hd (.int .i64 er) (nw dd hT hd tz 9 90 (.int .i64 er))
    | i+13,ho,_,_=>exact absurd ho (by simp)
  intro U wz hex hout hfin;obtain⟨W12,f12,hW12⟩:=hfin 11 (by decide) rfl
  change U 12=_ at f12
  have f13:U 13=some (.int .i64 er):=hfin 12 (by decide) rfl;have XE:=Hi hex;clear hex hfin;rw[over_list];simp(disch:=decide) only[overL,Nat.reduceAdd,hout,Option.getD_none];rw[f12,f13];simp only[Option.getD_some];clear hout f12 f13;obtain⟨hq8,hb8,hrc8,hin8,hf8⟩:=hW12;have HBK8:=Hi hb8;have HR8:=Hi hrc8;have HI8:=Hi hin8;have HF8:=Hi hf8;have IRW:=Hi (rvInfo W12.2);have HXx:=Hi (HX6.out.trans XE.out);have HNMx:=Hi (HNM6.out.ext XE.out);have HCx:=Hi (XE.out.blockAt HC6.out);clear hq8 hb8 hrc8 hin8 hf8;by_cases he:er=0;case neg =>
   have hz:Hid (v=er∧o=b.bank.ents):=Hi (by have h:=HVY.out;rw[if_pos he]at h;injection h with h1 h2;exact⟨h1,h2⟩);go_wp2;go_ret;exact⟨by rw[hz.out.1];rfl,⟨b,by rw[hz.out.2],HNMx.out⟩,HXx.out⟩
  case pos =>
  subst he;have hz:Hid (v=0∧o=b.bank.ents.set k (rvsF true c.item.1 { x.ent with rev:=rc })):=Hi (by have h:=HVY.out;rw[if_neg (by simp)]at h;injection h with h1 h2;exact⟨h1,h2⟩);obtain⟨cq,hbq⟩:=own_block HNMx.out.own.e.own q (by rw[HQ.out];rfl);have HXx':=Hi (Ext.setCells HQG.out W12.2.cells (k*7+1) wz HXx.out);have HST1:Hid (∀ j,j<W12.2.cells.toArray.toList.length→(wz.cell? ⟨q,k*7+1+j,none⟩).isSome=true):=Hi (fun j hj=>by have hj:j<5:=hj;obtain⟨u,hu⟩:∃ u,x.cells[1+j]?=some u:=⟨x.cells[1+j]'(by show 1+j<7;omega),List.getElem?_eq_getElem _⟩;have h:=HNMx.out.cell HQ.out HX.out hu;rw[← Nat.add_assoc]at h;rw[h];rfl)
  have HST2:Hid (∀ j,j<W12.2.cells.toArray.toList.length→wz.frozen? ⟨q,k*7+1+j,none⟩=false):=Hi (fun j _=>frozen_of_row _ _ _ _ _ hbq);have HST3:=Hi (rvOne W12.2);have HFIN:=Hi (Nm.putRv HNM6.out XE.out HNW.out HQ.out HX.out HI8.out.inn HF8.out);have HCf:Hid ((wz.setCells q (k*7+1) W12.2.cells).heap[w.heap.size]?=some (.cells CC 48 (0,0))):=Hi (KeepB.but hbq (But.setCells q _ _ wz) _ _ _ _ (by decide) HCx.out);clear hbq;go_wp2_with (first
   | (with_reducible refine wpList_load_row rfl 54 (.tmp 12) rfl (W12.1) (by with_unfolding_all rfl) _ W12.2.cells.toArray _ _ HBK8.out Tryz.underlying54 rfl IRW.out ?_)
   | (with_reducible refine wpList_store_at rfl 54 (.tmp 97) (.tmp 95) rfl q (k*7+1) W12.2.cells.toArray (by with_unfolding_all rfl) (by with_unfolding_all rfl) IRW.out HST1.out HST2.out HST3.out ?_))
  have HXt0:Hid (Ext w0 (wz.setCells q (k*7+1) W12.2.cells.toArray.toList)):=HXx';have HFIN0:Hid (Nm w0.heap.size g b.cells.toArray (b.setE b.eA b.ec (b.ents.set k (x.withRv W12.2))) (wz.setCells q (k*7+1) W12.2.cells.toArray.toList)):=HFIN;have HCf0:Hid ((wz.setCells q (k*7+1) W12.2.cells.toArray.toList).heap[w.heap.size]?=some (.cells CC 48 (0,0))):=HCf;refine wp_gen ?_;rintro wt hwt;rw[← hwt]at HXt0 HFIN0 HCf0;clear hwt HXx' HFIN HCf HST1 HST2 HST3;obtain⟨b1,hb1⟩:∃ z:BankL,z=b.setE b.eA b.ec (b.ents.set k (x.withRv W12.2)):=⟨_,rfl⟩;obtain⟨x1,hx1⟩:∃ z:EntL,z=x.withRv W12.2:=⟨_,rfl⟩;have HXt:=HXt0;have HCt:=HCf0;have HNMt:Hid (Nm w0.heap.size g b1.cells.toArray b1 wt):=Hi (by rw[hb1,putE_cells];exact HFIN0.out);have HQ1:Hid (b1.eA=some ⟨q,0,none⟩):=Hi (by rw[hb1];exact HQ.out);have HX1k:Hid (b1.ents[k]?=some x1):=Hi (by rw[hb1,hx1];show(b.ents.set k _)[k]?=_;rw[List.getElem?_set_self (List.getElem?_eq_some_iff.1 HX.out).1]);have HML:Hid (x1.vs.length=m):=Hi (by rw[hx1];exact HML0.out);have HBY:Hid ((x1.vs.length+1)*216≤140737488355328):=Hi (by rw[hx1];exact HVS.out x (List.mem_of_getElem? HX.out));have HBK:Hid (∀ e,({ b1.bank with ents:=b1.bank.ents.set k e }:Bank)={ b.bank with ents:=b.bank.ents.set k e }):=Hi (fun e=>by rw[hb1,setBank,List.set_set]);have HZ:Hid (v=0∧o=b.bank.ents.set k (rvsF true c.item.1 x1.ent)):=Hi ⟨hz.out.1,by rw[hz.out.2,hx1,withRv_ent,HR8.out]⟩;clear hz hb1 hx1 HFIN0 HXt0 HCf0 XE;have CV0:Hid (wt.cell? ⟨q,k*7,none⟩=some (.slice x1.vA m x1.vc)):=Hi (by rw[← HML.out];exact HNMt.out.cell (j:=0) HQ1.out HX1k.out rfl);have HRI:Hid (wt.rangeAt w.heap.size 7 CN.toList):=Hi (rngC HCt.out HIS.out);go_wp2_with fail
  refine region_tb (by kernel_rfl) (by decide +kernel) (bg26E w.heap.size q k) ⟨rfl,rfl,rfl⟩ 14 bg26D bg26C (RG (bg26L w0.heap.size g w.heap.size q k m wt CC CN b1 x1 c.item.1)) w0 HXt.out (fun i h1 h2=>by
        have h3:13≤i:=h1;have h4:i<14:=h2;obtain rfl:i=13:=by omega
        exact(Ext.refl _).drew) ?_ ?_
  · intro Tv dd lv U wz i oZ hE ho hlv hd hT;obtain⟨t3,t6,tz⟩:=hE;have hx:=hT.ext;have rX:=RG.ext (bg26L_mono w0.heap.size g w.heap.size q k m wt CC CN b1 x1 c.item.1)
    match i,ho,hlv,hd with
    | 0,ho,hlv,hd=>cases oi ho;exact yl1 hT rX ho hd (.pointer (some ⟨q,k*7,none⟩)) (od dd hT tz t6)
    | 1,ho,hlv,hd=>cases oi ho;exact yl1 hT rX ho hd (.pointer (some ⟨q,k*7,none⟩)) (od dd hT tz t6)
    | 2,ho,hlv,hd=>cases oi ho;exact yl1 hT rX ho hd (.pointer (some ⟨q,k*7,none⟩)) (nw dd hT hd tz 1 110 (.pointer (some ⟨q,k*7,none⟩)))
    | 3,ho,hlv,hd=>cases oi ho;exact yl1 hT rX ho hd (.pointer (some ⟨q,k*7,none⟩)) (nw dd hT hd tz 2 111 (.pointer (some ⟨q,k*7,none⟩)))
    | 4,ho,hlv,hd =>
     cases oi ho;have hnA:lv 9=false:=by
      cases hA:lv 9 with
      | false=>rfl
      | true=>exact absurd (dep (hT.shut 9 _ rfl hA) 4 (by kernel_rfl)) (by rw[hlv];decide)
     have hrow:Ext wt wz:=hT.facts 13 (by decide) (hT.past 13 (by decide)) (fun c e=>by injection e with e;subst e;exact hnA);exact yk1 hT rX ho hd (.slice x1.vA m x1.vc) (nw dd hT hd tz 3 112 (.pointer (some ⟨q,k*7,none⟩))) (hrow.keep CV0.out)
    | 5,ho,hlv,hd=>cases oi ho;exact yl1 hT rX ho hd (.pointer (some ⟨w.heap.size,7,none⟩)) (od dd hT tz t3)
    | 6,ho,hlv,hd =>
     cases oi ho;have v0:=nw dd hT hd tz 5 114 (.pointer (some ⟨w.heap.size,7,none⟩));have hnA:lv 9=false:=by
      cases hA:lv 9 with
      | false=>rfl
      | true=>exact absurd (dep (hT.shut 7 _ rfl (dep (hT.shut 8 _ rfl (dep (hT.shut 9 _ rfl hA) 8 (by kernel_rfl))) 7 (by kernel_rfl))) 6 (by kernel_rfl)) (by rw[hlv];decide)
     have hrow:Ext wt wz:=hT.facts 13 (by decide) (hT.past 13 (by decide)) (fun c e=>by injection e with e;subst e;exact hnA);exact yxe hT rX ho hd (.agg CN) (exec_load_arr _ _ rfl w.heap.size (7) v0 CN _ (hrow.range HRI.out) Tryz.underlying39 rfl IN.out)
    | 7,ho,hlv,hd =>
     cases oi ho;have v0:=nw dd hT hd tz 6 115 (.agg CN);have hnA:lv 9=false:=by
      cases hA:lv 9 with
      | false=>rfl
      | true=>exact absurd (dep (hT.shut 8 _ rfl (dep (hT.shut 9 _ rfl hA) 8 (by kernel_rfl))) 7 (by kernel_rfl)) (by rw[hlv];decide)
     have hrow:Ext wt wz:=hT.facts 13 (by decide) (hT.past 13 (by decide)) (fun c e=>by injection e with e;subst e;exact hnA);refine cl hT rX ho hd (f:=43) (args:=#[.agg CN]) (exec_call1 rfl rfl v0 ENC.out) ?_;refine(HCP.out wz hx).mono ?_;rintro e w' ⟨⟨L,rfl,h1,h2,h3⟩,hb⟩;exact⟨_,rfl,hb,PNI.pnew ⟨L,rfl,h1,eIt.mono h2 hrow.size,h3⟩⟩
    | 8,ho,hlv,hd=>cases oi ho;obtain⟨y0,e0,h2,h3,h4⟩:PNew eIt (wt.heap.size) (fun y:ItL=>y.1=c.item.1) (fun y:ItL=>It.agg y.1 y.2) (U 116) wz:=hT.facts 7 (by decide) (dep hd 7 (by kernel_rfl)) (fun c e=>by injection e with e;subst e;exact hlv);have v0:Act.eval ⟨over Tv U,dd⟩ (.tmp 116)=_:=eval_new (t:=Tv) (d:=dd) e0 (by show 116<Tv.size;omega);refine tbw_yield (v:=.slice (some ⟨wz.heap.size,0,none⟩) 1 1) (RG.ext (bg26L_mono w0.heap.size g w.heap.size q k m wt CC CN b1 x1 c.item.1)) hT ho hd (wanted_plain rfl) rfl (by decide) (by decide) (exec_buildOne 51 39 (.tmp 116) rfl v0 Tryz.underlying51 hiI hzI hsI (by decide) (by decide) rfl) ((Ext.refl _).alloc _) (PNew.one (E:=eIt) (val:=fun y:ItL=>It.agg y.1 y.2) 39 rfl h2 h3 h4)
    | 9,ho,hlv,hd =>
     cases oi ho;have v0:=nw dd hT hd tz 4 113 (.slice x1.vA m x1.vc);have hnA:lv 9=false:=hlv;have hrow:Ext wt wz:=hT.facts 13 (by decide) (hT.past 13 (by decide)) (fun c e=>by injection e with e;subst e;exact hnA);have h1:POne eIt (wt.heap.size) (fun y:ItL=>y.1=c.item.1) (U 117) wz:=hT.facts 8 (by decide) (dep hd 8 (by kernel_rfl)) (fun c e=>by injection e with e;subst e;exact hlv);obtain⟨y,u',w',hU,hrun,hx2,hP⟩:=appV_run (n0:=w.heap.size) (CC:=CC) HNMt.out hrow hx HXt.out HQ1.out HX1k.out (hrow.blockAt HCt.out) h1 HBY.out;rw[HML.out]at hrun;have v1:Act.eval ⟨over Tv U,dd⟩ (.tmp 117)=_:=eval_new (t:=Tv) (d:=dd) hU (by show 117<Tv.size;omega);refine tb_yield (v:=u') (w':=w') hT ho hd rfl rfl (by decide) (by decide) (exec_append rfl v0 v1 hrun) hx2 hP ?_;intro j hj hji hlj hcj hR
     match j,hj,hR with
     | 0,_,hR=>exact hR
     | 1,_,hR=>exact hR
     | 2,_,hR=>exact hR
     | 3,_,hR=>exact hR
     | 4,_,hR=>exact hR
     | 5,_,hR=>exact hR
     | 6,_,hR=>exact hR
     | 7,_,_=>exact absurd (dep hd 8 (by kernel_rfl)) (by rw[(hcj 8 rfl).2];decide)
     | 8,_,_=>exact absurd rfl (hcj 9 rfl).1
     | 9,_,_=>exact absurd rfl hji
     | 10,_,hR=>exact hR
     | 11,_,hR=>exact hR
     | 12,_,_=>exact absurd (dep (hT.shut 12 _ rfl hlj) 9 (by kernel_rfl)) (by rw[hlv];decide)
     | 13,_,_=>exact absurd rfl (hcj 9 rfl).1
     | j+14,hj,_=>exact absurd hj (by omega)
    | 10,ho,hlv,hd=>cases oi ho;exact yl1 hT rX ho hd (.pointer (some ⟨q,k*7,none⟩)) (nw dd hT hd tz 0 109 (.pointer (some ⟨q,k*7,none⟩)))
    | 11,ho,hlv,hd=>cases oi ho;exact yl1 hT rX ho hd (.pointer (some ⟨q,k*7,none⟩)) (nw dd hT hd tz 10 119 (.pointer (some ⟨q,k*7,none⟩)))
    | 12,ho,hlv,hd =>
     cases oi ho;have v0:=nw dd hT hd tz 11 120 (.pointer (some ⟨q,k*7,none⟩));obtain⟨A2,c2,y,hU,h2,h3,h4⟩:PVA w0.heap.size g w.heap.size CC b1 q k x1 c.item.1 (U 118) wz:=hT.facts 9 (by decide) (dep hd 9 (by kernel_rfl)) (fun c e=>by injection e with e;subst e;exact hlv);have v1:Act.eval ⟨over Tv U,dd⟩ (.tmp 118)=_:=eval_new (t:=Tv) (d:=dd) hU (by show 118<Tv.size;omega);have hc:=h3.cell HX1k.out;have hfz:=h3.free (k*7);refine tb_store (w':=wz.setCell ⟨q,k*7,none⟩ (.slice A2 (x1.vs.length+1) c2)) hT ho hd rfl rfl ?_ (hx.setCell HQG.out _) (h3.stored h2 h4 HX1k.out) ?_
     · generalize Act.eval ⟨over Tv U,dd⟩=ev at *;simp[execOp,v0,v1,go_sem,hc,hfz]
     · intro j hj hji hlj hcj hR
       match j,hj,hR with
       | 0,_,hR=>exact hR
       | 1,_,hR=>exact hR
       | 2,_,hR=>exact hR
       | 3,_,hR=>exact hR
       | 4,_,hR=>exact hR
       | 5,_,hR=>exact hR
       | 6,_,hR=>exact hR
       | 7,_,_=>exact absurd (dep (hT.shut 9 _ rfl (dep hd 9 (by kernel_rfl))) 8 (by kernel_rfl)) (by rw[(hcj 8 rfl).2];decide)
       | 8,_,_=>exact absurd (dep hd 9 (by kernel_rfl)) (by rw[(hcj 9 rfl).2];decide)
       | 9,_,_=>exact absurd rfl (hcj 12 rfl).1
       | 10,_,hR=>exact hR
       | 11,_,hR=>exact hR
       | 12,_,_=>exact absurd rfl hji
       | 13,_,_=>exact absurd (dep hd 9 (by kernel_rfl)) (by rw[(hcj 9 rfl).2];decide)
       | j+14,hj,_=>exact absurd hj (by omega)
    | i+13,ho,_,_=>exact absurd ho (by simp)
  intro U wz hex hout hfin;have PS:PVS w0.heap.size g w.heap.size CC b1 k x1 c.item.1 wz:=hfin 12 (by decide) rfl;have XE:=Hi hex;clear hex hfin;rw[over_list];simp(disch:=decide) only[overL,Nat.reduceAdd,hout,Option.getD_none];clear hout;obtain⟨A2,c2,y,hy,hnm,-⟩:=PS;have HY:=Hi hy;have HN2:=Hi hnm;clear hy hnm;have hx2:(b1.setE b1.eA b1.ec (b1.ents.set k (x1.withV A2 c2 (x1.vs ++ [y])))).ents[k]?=some (x1.withV A2 c2 (x1.vs ++ [y])):=by show(b1.ents.set k _)[k]?=_;rw[List.getElem?_set_self (List.getElem?_eq_some_iff.1 HX1k.out).1]
  have hfin:=Nm.putMd (A:=none) (c:=0) (ys:=[]) HN2.out (Ext.refl _) XE.out.size (show(b1.setE b1.eA b1.ec (b1.ents.set k (x1.withV A2 c2 (x1.vs ++ [y])))).eA=some ⟨q,0,none⟩from HQ1.out) hx2 (SlX.nil _ _) ⟨Nat.le_refl _,Nat.zero_le _⟩ ⟨Or.inl rfl,fun _ h=>by cases h⟩;have HFN:=Hi hfin;have c6:=HN2.out.cell (j:=6) (show(b1.setE b1.eA b1.ec (b1.ents.set k (x1.withV A2 c2 (x1.vs ++ [y])))).eA=some ⟨q,0,none⟩from HQ1.out) hx2 rfl;obtain⟨cq,hbq⟩:=own_block HN2.out.own.e.own q (by show(Value.slice b1.eA _ _).ownBlock=_;rw[HQ1.out];rfl);have HXf:=Hi (Ext.setCells HQG.out [.slice none 0 0] (k*7+6) wz XE.out);have HST1:Hid (∀ j,j<(#[.slice none 0 0]:Array Value).toList.length→(wz.cell? ⟨q,k*7+6+j,none⟩).isSome=true):=Hi (fun j hj=>by
   have hj:j<1:=hj;obtain rfl:j=0:=by omega
   rw[Nat.add_zero,c6];rfl)
  have HST2:Hid (∀ j,j<(#[.slice none 0 0]:Array Value).toList.length→wz.frozen? ⟨q,k*7+6+j,none⟩=false):=Hi (fun j _=>frozen_of_row _ _ _ _ _ hbq);have HST3:Hid ((#[.slice none 0 0]:Array Value).all (·.oneCell')=true):=Hi (by simp[Value.oneCell']);have IM9:Hid ((Tryz.prog.info? 46).map (·.size)=some (#[.slice none 0 0]:Array Value).size):=Hi (infoMd rfl);clear hx2 hfin c6 hbq;go_wp2_with (with_reducible refine wpList_store_at rfl 46 (.tmp 125) (.tmp 123) rfl q (k*7+6) #[.slice none 0 0] (by with_unfolding_all rfl) (by with_unfolding_all rfl) IM9.out HST1.out HST2.out HST3.out ?_)
  go_ret;refine⟨by rw[HZ.out.1];rfl,⟨_,?_,by rw[putE_cells,putE_cells];exact HFN.out⟩,HXf.out⟩;rw[HZ.out.2,setBank,setBank,List.set_set,HBK.out,withMd_ent,withV_rvs,HY.out];rfl
 | false =>
 have HV3:Hid ((v,o)=if x.st=2∨x.st=3∨x.st=7 then(8,b.bank.ents)else(0,b.bank.ents.set k (rvsF false c.item.1 x.ent))):=Hi (by have h:=HV2.out;rw[if_neg (by simp)]at h;exact h);by_cases hs:x.st=2∨x.st=3∨x.st=7
 · have hz:Hid (v=8∧o=b.bank.ents):=Hi (by have h:=HV3.out;rw[if_pos hs]at h;injection h with h1 h2;exact⟨h1,h2⟩);have hcase:(x.st == 2)=true∨((x.st == 2)=false∧(x.st == 3)=true)∨((x.st == 2)=false∧(x.st == 3)=false∧(x.st == 7)=true):=by
    by_cases h2:x.st=2
    · exact Or.inl (by rw[beq_iff_eq];exact h2)
    · by_cases h3:x.st=3
      · exact Or.inr (Or.inl ⟨by rw[beq_eq_false_iff_ne];exact h2,by rw[beq_iff_eq];exact h3⟩)
      · exact Or.inr (Or.inr ⟨by rw[beq_eq_false_iff_ne];exact h2,by rw[beq_eq_false_iff_ne];exact h3,by rw[beq_iff_eq];rcases hs with h | h | h;exact absurd h h2;exact absurd h h3;exact h⟩)
   clear hs;rcases hcase with t2 | ⟨t2,t3⟩ | ⟨t2,t3,t7⟩
   · go_wp2;go_ret;exact⟨by rw[hz.out.1];rfl,⟨b,by rw[hz.out.2],HNM6.out⟩,HX6.out⟩
   · go_wp2;go_ret;exact⟨by rw[hz.out.1];rfl,⟨b,by rw[hz.out.2],HNM6.out⟩,HX6.out⟩
   · go_wp2;go_ret;exact⟨by rw[hz.out.1];rfl,⟨b,by rw[hz.out.2],HNM6.out⟩,HX6.out⟩
 have HZ:Hid (v=0∧o=b.bank.ents.set k (rvsF false c.item.1 x.ent)):=Hi (by have h:=HV3.out;rw[if_neg hs]at h;injection h with h1 h2;exact⟨h1,h2⟩);have t2:(x.st == 2)=false:=by rw[beq_eq_false_iff_ne];exact fun e=>hs (Or.inl e)
 have t3:(x.st == 3)=false:=by rw[beq_eq_false_iff_ne];exact fun e=>hs (Or.inr (Or.inl e))
 have t7:(x.st == 7)=false:=by rw[beq_eq_false_iff_ne];exact fun e=>hs (Or.inr (Or.inr e))
 clear hs;go_wp2_with fail
 refine wp_gen ?_;rintro wt hwt;have XE:Hid (Ext w6 wt):=Hi (by rw[hwt];exact Ext.refl _);clear hwt t1 t2 t3 t7 cst;obtain⟨b1,hb1⟩:∃ z:BankL,z=b:=⟨_,rfl⟩;obtain⟨x1,hx1⟩:∃ z:EntL,z=x:=⟨_,rfl⟩;have HXt:=Hi (HX6.out.trans XE.out);have HCt:=Hi (XE.out.blockAt HC6.out);have HNMt:Hid (Nm w0.heap.size g b1.cells.toArray b1 wt):=Hi (by rw[hb1];exact HNM6.out.ext XE.out);have HQ1:Hid (b1.eA=some ⟨q,0,none⟩):=Hi (by rw[hb1];exact HQ.out);have HX1k:Hid (b1.ents[k]?=some x1):=Hi (by rw[hb1,hx1];exact HX.out);have HML:Hid (x1.vs.length=m):=Hi (by rw[hx1];exact HML0.out);have HBY:Hid ((x1.vs.length+1)*216≤140737488355328):=Hi (by rw[hx1];exact HVS.out x (List.mem_of_getElem? HX.out));have HBK:Hid (∀ e,({ b1.bank with ents:=b1.bank.ents.set k e }:Bank)={ b.bank with ents:=b.bank.ents.set k e }):=Hi (fun e=>by rw[hb1]);rw[← hx1]at HZ;clear hb1 hx1 XE;have CV0:Hid (wt.cell? ⟨q,k*7,none⟩=some (.slice x1.vA m x1.vc)):=Hi (by rw[← HML.out];exact HNMt.out.cell (j:=0) HQ1.out HX1k.out rfl);have HRI:Hid (wt.rangeAt w.heap.size 7 CN.toList):=Hi (rngC HCt.out HIS.out);go_wp2_with fail
 refine region_tb (by kernel_rfl) (by decide +kernel) (bg26E w.heap.size q k) ⟨rfl,rfl,rfl⟩ 14 bg26D bg26C (RG (bg26L w0.heap.size g w.heap.size q k m wt CC CN b1 x1 c.item.1)) w0 HXt.out (fun i h1 h2=>by
       have h3:13≤i:=h1;have h4:i<14:=h2;obtain rfl:i=13:=by omega
       exact(Ext.refl _).drew) ?_ ?_
 · intro Tv dd lv U wz i oZ hE ho hlv hd hT;obtain⟨t3,t6,tz⟩:=hE;have hx:=hT.ext;have rX:=RG.ext (bg26L_mono w0.heap.size g w.heap.size q k m wt CC CN b1 x1 c.item.1)
   match i,ho,hlv,hd with
   | 0,ho,hlv,hd=>cases oi ho;exact yl1 hT rX ho hd (.pointer (some ⟨q,k*7,none⟩)) (od dd hT tz t6)
   | 1,ho,hlv,hd=>cases oi ho;exact yl1 hT rX ho hd (.pointer (some ⟨q,k*7,none⟩)) (od dd hT tz t6)
   | 2,ho,hlv,hd=>cases oi ho;exact yl1 hT rX ho hd (.pointer (some ⟨q,k*7,none⟩)) (nw dd hT hd tz 1 110 (.pointer (some ⟨q,k*7,none⟩)))
   | 3,ho,hlv,hd=>cases oi ho;exact yl1 hT rX ho hd (.pointer (some ⟨q,k*7,none⟩)) (nw dd hT hd tz 2 111 (.pointer (some ⟨q,k*7,none⟩)))
   | 4,ho,hlv,hd =>
    cases oi ho;have hnA:lv 9=false:=by
     cases hA:lv 9 with
     | false=>rfl
     | true=>exact absurd (dep (hT.shut 9 _ rfl hA) 4 (by kernel_rfl)) (by rw[hlv];decide)
    have hrow:Ext wt wz:=hT.facts 13 (by decide) (hT.past 13 (by decide)) (fun c e=>by injection e with e;subst e;exact hnA);exact yk1 hT rX ho hd (.slice x1.vA m x1.vc) (nw dd hT hd tz 3 112 (.pointer (some ⟨q,k*7,none⟩))) (hrow.keep CV0.out)
   | 5,ho,hlv,hd=>cases oi ho;exact yl1 hT rX ho hd (.pointer (some ⟨w.heap.size,7,none⟩)) (od dd hT tz t3)
   | 6,ho,hlv,hd =>
    cases oi ho;have v0:=nw dd hT hd tz 5 114 (.pointer (some ⟨w.heap.size,7,none⟩));have hnA:lv 9=false:=by
     cases hA:lv 9 with
     | false=>rfl
     | true=>exact absurd (dep (hT.shut 7 _ rfl (dep (hT.shut 8 _ rfl (dep (hT.shut 9 _ rfl hA) 8 (by kernel_rfl))) 7 (by kernel_rfl))) 6 (by kernel_rfl)) (by rw[hlv];decide)
    have hrow:Ext wt wz:=hT.facts 13 (by decide) (hT.past 13 (by decide)) (fun c e=>by injection e with e;subst e;exact hnA);exact yxe hT rX ho hd (.agg CN) (exec_load_arr _ _ rfl w.heap.size (7) v0 CN _ (hrow.range HRI.out) Tryz.underlying39 rfl IN.out)
   | 7,ho,hlv,hd =>
    cases oi ho;have v0:=nw dd hT hd tz 6 115 (.agg CN);have hnA:lv 9=false:=by
     cases hA:lv 9 with
     | false=>rfl
     | true=>exact absurd (dep (hT.shut 8 _ rfl (dep (hT.shut 9 _ rfl hA) 8 (by kernel_rfl))) 7 (by kernel_rfl)) (by rw[hlv];decide)
    have hrow:Ext wt wz:=hT.facts 13 (by decide) (hT.past 13 (by decide)) (fun c e=>by injection e with e;subst e;exact hnA);refine cl hT rX ho hd (f:=43) (args:=#[.agg CN]) (exec_call1 rfl rfl v0 ENC.out) ?_;refine(HCP.out wz hx).mono ?_;rintro e w' ⟨⟨L,rfl,h1,h2,h3⟩,hb⟩;exact⟨_,rfl,hb,PNI.pnew ⟨L,rfl,h1,eIt.mono h2 hrow.size,h3⟩⟩
   | 8,ho,hlv,hd=>cases oi ho;obtain⟨y0,e0,h2,h3,h4⟩:PNew eIt (wt.heap.size) (fun y:ItL=>y.1=c.item.1) (fun y:ItL=>It.agg y.1 y.2) (U 116) wz:=hT.facts 7 (by decide) (dep hd 7 (by kernel_rfl)) (fun c e=>by injection e with e;subst e;exact hlv);have v0:Act.eval ⟨over Tv U,dd⟩ (.tmp 116)=_:=eval_new (t:=Tv) (d:=dd) e0 (by show 116<Tv.size;omega);refine tbw_yield (v:=.slice (some ⟨wz.heap.size,0,none⟩) 1 1) (RG.ext (bg26L_mono w0.heap.size g w.heap.size q k m wt CC CN b1 x1 c.item.1)) hT ho hd (wanted_plain rfl) rfl (by decide) (by decide) (exec_buildOne 51 39 (.tmp 116) rfl v0 Tryz.underlying51 hiI hzI hsI (by decide) (by decide) rfl) ((Ext.refl _).alloc _) (PNew.one (E:=eIt) (val:=fun y:ItL=>It.agg y.1 y.2) 39 rfl h2 h3 h4)
   | 9,ho,hlv,hd =>
    cases oi ho;have v0:=nw dd hT hd tz 4 113 (.slice x1.vA m x1.vc);have hnA:lv 9=false:=hlv;have hrow:Ext wt wz:=hT.facts 13 (by decide) (hT.past 13 (by decide)) (fun c e=>by injection e with e;subst e;exact hnA);have h1:POne eIt (wt.heap.size) (fun y:ItL=>y.1=c.item.1) (U 117) wz:=hT.facts 8 (by decide) (dep hd 8 (by kernel_rfl)) (fun c e=>by injection e with e;subst e;exact hlv);obtain⟨y,u',w',hU,hrun,hx2,hP⟩:=appV_run (n0:=w.heap.size) (CC:=CC) HNMt.out hrow hx HXt.out HQ1.out HX1k.out (hrow.blockAt HCt.out) h1 HBY.out;rw[HML.out]at hrun;have v1:Act.eval ⟨over Tv U,dd⟩ (.tmp 117)=_:=eval_new (t:=Tv) (d:=dd) hU (by show 117<Tv.size;omega);refine tb_yield (v:=u') (w':=w') hT ho hd rfl rfl (by decide) (by decide) (exec_append rfl v0 v1 hrun) hx2 hP ?_;intro j hj hji hlj hcj hR
    match j,hj,hR with
    | 0,_,hR=>exact hR
    | 1,_,hR=>exact hR
    | 2,_,hR=>exact hR
    | 3,_,hR=>exact hR
    | 4,_,hR=>exact hR
    | 5,_,hR=>exact hR
    | 6,_,hR=>exact hR
    | 7,_,_=>exact absurd (dep hd 8 (by kernel_rfl)) (by rw[(hcj 8 rfl).2];decide)
    | 8,_,_=>exact absurd rfl (hcj 9 rfl).1
    | 9,_,_=>exact absurd rfl hji
    | 10,_,hR=>exact hR
    | 11,_,hR=>exact hR
    | 12,_,_=>exact absurd (dep (hT.shut 12 _ rfl hlj) 9 (by kernel_rfl)) (by rw[hlv];decide)
    | 13,_,_=>exact absurd rfl (hcj 9 rfl).1
    | j+14,hj,_=>exact absurd hj (by omega)
   | 10,ho,hlv,hd=>cases oi ho;exact yl1 hT rX ho hd (.pointer (some ⟨q,k*7,none⟩)) (nw dd hT hd tz 0 109 (.pointer (some ⟨q,k*7,none⟩)))
   | 11,ho,hlv,hd=>cases oi ho;exact yl1 hT rX ho hd (.pointer (some ⟨q,k*7,none⟩)) (nw dd hT hd tz 10 119 (.pointer (some ⟨q,k*7,none⟩)))
   | 12,ho,hlv,hd =>
    cases oi ho;have v0:=nw dd hT hd tz 11 120 (.pointer (some ⟨q,k*7,none⟩));obtain⟨A2,c2,y,hU,h2,h3,h4⟩:PVA w0.heap.size g w.heap.size CC b1 q k x1 c.item.1 (U 118) wz:=hT.facts 9 (by decide) (dep hd 9 (by kernel_rfl)) (fun c e=>by injection e with e;subst e;exact hlv);have v1:Act.eval ⟨over Tv U,dd⟩ (.tmp 118)=_:=eval_new (t:=Tv) (d:=dd) hU (by show 118<Tv.size;omega);have hc:=h3.cell HX1k.out;have hfz:=h3.free (k*7);refine tb_store (w':=wz.setCell ⟨q,k*7,none⟩ (.slice A2 (x1.vs.length+1) c2)) hT ho hd rfl rfl ?_ (hx.setCell HQG.out _) (h3.stored h2 h4 HX1k.out) ?_
    · generalize Act.eval ⟨over Tv U,dd⟩=ev at *;simp[execOp,v0,v1,go_sem,hc,hfz]
    · intro j hj hji hlj hcj hR
      match j,hj,hR with
      | 0,_,hR=>exact hR
      | 1,_,hR=>exact hR
      | 2,_,hR=>exact hR
      | 3,_,hR=>exact hR
      | 4,_,hR=>exact hR
      | 5,_,hR=>exact hR
      | 6,_,hR=>exact hR
      | 7,_,_=>exact absurd (dep (hT.shut 9 _ rfl (dep hd 9 (by kernel_rfl))) 8 (by kernel_rfl)) (by rw[(hcj 8 rfl).2];decide)
      | 8,_,_=>exact absurd (dep hd 9 (by kernel_rfl)) (by rw[(hcj 9 rfl).2];decide)
      | 9,_,_=>exact absurd rfl (hcj 12 rfl).1
      | 10,_,hR=>exact hR
      | 11,_,hR=>exact hR
      | 12,_,_=>exact absurd rfl hji
      | 13,_,_=>exact absurd (dep hd 9 (by kernel_rfl)) (by rw[(hcj 9 rfl).2];decide)
      | j+14,hj,_=>exact absurd hj (by omega)
   | i+13,ho,_,_=>exact absurd ho (by simp)
 intro U wz hex hout hfin;have PS:PVS w0.heap.size g w.heap.size CC b1 k x1 c.item.1 wz:=hfin 12 (by decide) rfl;have XE:=Hi hex;clear hex hfin;rw[over_list];simp(disch:=decide) only[overL,Nat.reduceAdd,hout,Option.getD_none];clear hout;obtain⟨A2,c2,y,hy,hnm,-⟩:=PS;have HY:=Hi hy;have HN2:=Hi hnm;clear hy hnm;go_wp2;go_ret;refine⟨by rw[HZ.out.1];rfl,⟨_,?_,by rw[putE_cells];exact HN2.out⟩,XE.out⟩;rw[HZ.out.2,setBank,HBK.out,withV_rvs,HY.out]
end Bk
end Go.Proofs.YtfnmgcblhebdbaaGreatDoor
