/- bank.create: a contract. Conditions: those of each theorem. -/
import Derived.Test.YtfnmgcblhebdbaaGreatDoorZ40
import Derived.Test.YtfnmgcblhebdbaaGreatDoorZ25
import Derived.Test.YtfnmgcblhebdbaaGreatDoorZ30
import Derived.Test.YtfnmgcblhebdbaaGreatDoorZ18
namespace Go.Proofs.YtfnmgcblhebdbaaGreatDoor
set_option maxRecDepth 100000
set_option maxHeartbeats 12800000
open Go.RowKit
namespace Bk
def bc8L (g n:Nat)(CB:Array Value)(id vf:Int):List (Option Value→World→Prop):=sl [.pointer (some ⟨g,0,none⟩),.pointer (some ⟨g,0,none⟩),.agg CB,.pointer (some ⟨n,7,none⟩),.pointer (some ⟨n,7,none⟩),.int .i64 id,.int .i64 vf,.bool (decide ((0:Int)≤vf))]
def bc8D:List Nat:=[24,25,26,27,28,29,30,31]
def bc8E (g n:Nat)(t:Array Value):Prop:=t.getD 0 undef=.pointer (some ⟨g,0,none⟩)∧t.getD 3 undef=.pointer (some ⟨n,0,none⟩)∧t.size=95

def bc12L (g _n:Nat)(CB CC:Array Value)(vr:Int):List (Option Value→World→Prop):=sl [.pointer (some ⟨g,0,none⟩),.pointer (some ⟨g,0,none⟩),.agg CB,.agg CC,.int .i64 vr,.int .i64 vr]
def bc12D:List Nat:=[38,39,40,41,42,6]
def bc12E (g n:Nat)(t:Array Value):Prop:=t.getD 0 undef=.pointer (some ⟨g,0,none⟩)∧t.getD 3 undef=.pointer (some ⟨n,0,none⟩)∧t.size=95

def bc19L (g n qe kk nv ec:Nat)(id nx:Int)(CE:Array Value)(lt:Bool):List (Option Value→World→Prop):=sl [.int .i64 (kk:Int),.pointer (some ⟨g,0,none⟩),.pointer (some ⟨g,0,none⟩),.pointer (some ⟨g,5,none⟩),.slice (some ⟨qe,0,none⟩) nv ec,.int .i64 (nv:Int),.bool true,.bool true,.pointer (some ⟨g,0,none⟩),.pointer (some ⟨g,0,none⟩),.pointer (some ⟨g,5,none⟩),.slice (some ⟨qe,0,none⟩) nv ec,.int .i64 (kk:Int),.pointer (some ⟨qe,kk*7,none⟩),.agg CE,.int .i64 nx,.pointer (some ⟨n,7,none⟩),.pointer (some ⟨n,7,none⟩),.int .i64 id,.bool lt,.bool lt]
def bc19D:List Nat:=[55,56,57,58,59,60,61,62,63,64,65,66,67,68,69,70,71,72,73,74,75]
def bc19E (g n kk:Nat)(t:Array Value):Prop:=t.getD 0 undef=.pointer (some ⟨g,0,none⟩)∧t.getD 3 undef=.pointer (some ⟨n,0,none⟩)∧t.getD 9 undef=.int .i64 (kk:Int)∧t.size=95

def bc21L (n nb M _rb:Nat)(CI:Array Value)(it:It.Item)(rc:Rev.Rec)(W0:RvL):List (Option Value→World→Prop):=[sv (.pointer (some ⟨n,7,none⟩)),
 sv (.agg CI),
 fun u w=>PNI nb it u w,
 fun u w=>PON nb it u w,
 sv (W0.agg),
 fun u w=>PNE M ⟨[it],rc,[]⟩ u w,
 fun u w=>∃ q:Nat,
 u=some (.pointer (some ⟨q,0,none⟩))∧nb≤q∧w.heap[q]?=some (.cells #[.slice none 0 0,.int .i64 0,.int .i64 0,.slice none 0 0,.slice none 0 0,.slice none 0 0,.slice none 0 0] 56 (0,0)),
 fun u w=>PEB M ⟨[it],rc,[]⟩ u w]
theorem bc21L_mono(n nb M rb:Nat)(CI:Array Value)(it:It.Item)(rc:Rev.Rec)(W0:RvL):AllMono (bc21L n nb M rb CI it rc W0):=⟨mono_val _,mono_val _,(fun _ _ _ he h=>PNI.mono he h),(fun _ _ _ he h=>PON.mono he h),mono_val _,(fun _ _ _ he h=>PNE.mono he h),(fun _ _ _ he h=>h.elim fun q h=>⟨q,h.1,h.2.1,he.blockAt h.2.2⟩),(fun _ _ _ he h=>PEB.mono he h),trivial⟩
def bc21D:List Nat:=[78,79,80,81,82,83,10,10]
def bc21C (j:Nat):Option Nat:=if j=2 then some 7 else if j=3 then some 7 else if j=5 then some 7 else if j=6 then some 7 else none
def bc21E (n rb:Nat)(t:Array Value):Prop:=t.getD 3 undef=.pointer (some ⟨n,0,none⟩)∧t.getD 7 undef=.pointer (some ⟨rb,0,none⟩)∧t.size=95

def PCk (N g n0:Nat)(CC:Array Value)(b:BankL)(q:Nat)(y:EntL)(w:World):Prop:=PBk N g n0 CC b w∧w.heap[q]?=some (.cells y.cells.toArray 56 (0,0))∧EntO w y
theorem PCk.mono{N g n0:Nat}{CC:Array Value}{b:BankL}{q:Nat}{y:EntL}{w w':World}(he:Ext w w')(h:PCk N g n0 CC b q y w):PCk N g n0 CC b q y w':=⟨h.1.mono he,he.blockAt h.2.1,eEntO.ext h.2.2 he⟩
def bc22L (N g n0 nn kk qn:Nat)(CC:Array Value)(b:BankL)(y0:EntL):List (Option Value→World→Prop):=[sv (.pointer (some ⟨g,0,none⟩)),
 sv (.pointer (some ⟨g,0,none⟩)),
 sv (.pointer (some ⟨g,0,none⟩)),
 sv (.pointer (some ⟨g,5,none⟩)),
 sv (.slice b.eA nn b.ec),
 sv (.int .i64 (kk:Int)),
 sv (y0.agg),
 fun u w=>POl (.slice b.eA nn b.ec) (y0.cells) 56 u w,
 fun u w=>PBi N g n0 CC b 5 (fun b2:BankL=>b2.bank={ b.bank with ents:=b.bank.ents.take kk ++ y0.ent :: b.bank.ents.drop kk }) u w,
 sv (.pointer (some ⟨g,0,none⟩)),
 sv (.pointer (some ⟨g,5,none⟩)),
 fun _ w=>PBs N g n0 CC (fun b2:BankL=>b2.bank={ b.bank with ents:=b.bank.ents.take kk ++ y0.ent :: b.bank.ents.drop kk }) w,
 fun _ w=>PCk N g n0 CC b qn y0 w]
theorem bc22L_mono(N g n0 nn kk qn:Nat)(CC:Array Value)(b:BankL)(y0:EntL):AllMono (bc22L N g n0 nn kk qn CC b y0):=⟨mono_val _,mono_val _,mono_val _,mono_val _,mono_val _,mono_val _,mono_val _,(fun _ _ _ he h=>POl.mono he h),(fun _ _ _ he h=>PBi.mono he h),mono_val _,mono_val _,(fun _ _ _ he h=>PBs.mono he h),(fun _ _ _ he h=>PCk.mono he h),trivial⟩
def bc22D:List Nat:=[84,85,86,87,88,89,90,91,92,93,94,900,901]
def bc22C (j:Nat):Option Nat:=if j=7 then some 8 else if j=8 then some 11 else if j=12 then some 8 else none
def bc22E (g kk qn:Nat)(t:Array Value):Prop:=t.getD 0 undef=.pointer (some ⟨g,0,none⟩)∧t.getD 9 undef=.int .i64 (kk:Int)∧t.getD 10 undef=.pointer (some ⟨qn,0,none⟩)∧t.size=95

theorem insBank(b:BankL)(A:Option Addr)(c k:Nat)(y:EntL):(b.setE A c (b.ents.take k ++ y :: b.ents.drop k)).bank={ b.bank with ents:=b.bank.ents.take k ++ y.ent :: b.bank.ents.drop k }:=by show(⟨b.now,b.gp.xs,b.gq.xs,b.outl,b.assets,(b.ents.take k ++ y :: b.ents.drop k).map (·.ent),b.enem⟩:Bank)=⟨b.now,b.gp.xs,b.gq.xs,b.outl,b.assets,(b.ents.map (·.ent)).take k ++ y.ent :: (b.ents.map (·.ent)).drop k,b.enem⟩;rw[List.map_append,List.map_cons,List.map_take,List.map_drop]
theorem create_any(w0:World)(b:BankL)(g:Nat)(c:CmdL)(CC:Array Value)(w:World)(hx0:Ext w0 w)(hg:w0.heap.size≤g)(hn:Nm w0.heap.size g b.cells.toArray b w)(hcc:c.cells.toArray=CC)(hci:c.In w0)(hG:Gm w0)(hcz:CmdSz c.cmd)(hvo:VerOk b)(hbo:b.outl.length≤9223372036854775807)(hba:b.assets.length*48≤140737488355328)(hbe:(b.ents.length+1)*136≤140737488355328)(hbs:c.item.1.assets.length*8≤140737488355328){v:Int}{o:List Ent}(hv:crtE b.bank c.cmd (refE b.bank c.item.1.cont c.item.1.assets c.time)=(v,o)) :
    Calls Tryz.prog 32 #[.pointer (some ⟨g,0,none⟩),.agg CC] w fun e w'=>e=.returned (.int .i64 v)∧RetNx w0 g (fun b2=>b2.bank={ b.bank with ents:=o }) w':=by
 have HNE:Hid (w.heap.size≠g):=Hi (by have:=blk_lt hn.row;omega);have XA:Hid (Ext w (w.alloc (.cells CC 48))):=Hi ((Ext.refl w).alloc _);have HX0:=Hi (hx0.trans XA.out);have HNM0:=Hi (hn.ext XA.out);have HC0:Hid ((w.alloc (.cells CC 48)).heap[w.heap.size]?=some (.cells CC 48 (0,0))):=Hi (heap_alloc_new w _);obtain⟨CB,hcb⟩:∃ C,b.cells.toArray=C:=⟨_,rfl⟩;obtain⟨nv,hnv⟩:∃ n,b.ents.length=n:=⟨_,rfl⟩;obtain⟨no,hno⟩:∃ n,b.outl.length=n:=⟨_,rfl⟩;obtain⟨na,hna⟩:∃ n,b.assets.length=n:=⟨_,rfl⟩;obtain⟨ns,hns⟩:∃ n,c.item.1.assets.length=n:=⟨_,rfl⟩;rw[hnv]at hbe;rw[hno]at hbo;rw[hna]at hba;rw[hns]at hbs;have HCB:=Hi hcb;have HNV:=Hi hnv;have HNO:=Hi hno;have HNA:=Hi hna;have HNS:=Hi hns;have H5':Hid (CB[5]?=some (.slice b.eA nv b.ec)):=Hi (by rw[← hcb,← hnv];rfl);have IB:Hid ((Tryz.prog.info? 31).map (·.size)=some CB.size):=Hi (infoBk (by rw[← hcb];rfl));have IC:Hid ((Tryz.prog.info? 48).map (·.size)=some CC.size):=Hi (infoCm (by rw[← hcc];rfl));have HCC:=Hi hcc;have H1:Hid (CC[1]?=some (.int .i64 c.user)):=Hi (by rw[← hcc];rfl);have H2:Hid (CC[2]?=some (.int .i64 c.roles)):=Hi (by rw[← hcc];rfl);have H7:Hid (CC[7]?=some (.int .i64 c.item.1.id)):=Hi (by rw[← hcc];rfl);have H8:Hid (CC[8]?=some (.int .i64 c.item.1.ver)):=Hi (by rw[← hcc];rfl);obtain⟨CI,hia,hni,h1i,hki⟩:=itp c.item;have HIA:=Hi hia;have HKI:=Hi hki;have II:=Hi (infoItem hni);have HIS:Hid (∀ (j:Nat) (v:Value),CI.toList[j]?=some v→CC[7+j]?=some v):=Hi (by rw[← hki,← hcc];intro j v hj;have hj:(icl c.item)[j]?=some v:=hj;have hl:j<17:=(List.getElem?_eq_some_iff.1 hj).1;show(([.int .i64 c.kind,.int .i64 c.user,.int .i64 c.roles,.int .i64 c.time,.int .i64 c.id,.int .i64 c.other,.int .i64 c.act] ++ icl c.item ++ tcl c.topic ++ scl c.asset ++ [.slice c.mA c.rows.length c.mc]:List Value).toArray)[7+j]?=some v;rw[List.getElem?_toArray,List.append_assoc,List.append_assoc,List.append_assoc,List.getElem?_append_right (by simp),List.getElem?_append_left (by show 7+j-7<17;omega)];show(icl c.item)[7+j-7]?=some v;rw[show 7+j-7=j from by omega];exact hj)
 have HBG:Hid (w0.heap.size≤g):=Hi hg;have HV:=Hi hv;have HIT:=Hi hci.item;have HCZ:=Hi hcz;have HVO:=Hi hvo;have HGM:=Hi hG;have ENF:=Hi (enters_of Tryz.func38 (by kernel_rfl) rfl);have ENR:=Hi (enters_of Tryz.func69 (by kernel_rfl) rfl);have ENN:=Hi (enters_of Tryz.func71 (by kernel_rfl) rfl);have ENC:=Hi (enters_of Tryz.func43 (by kernel_rfl) rfl);have ENI:=Hi (enters_of Tryz.func72 (by kernel_rfl) rfl);obtain⟨rf,hrf⟩:∃ r,refE b.bank c.item.1.cont c.item.1.assets c.time=r:=⟨_,rfl⟩;have HRFV:=Hi hrf;rw[hrf]at HV;obtain⟨vd,hvd⟩:∃ r,It.vld c.item.1=r:=⟨_,rfl⟩;have HVD:=Hi hvd;obtain⟨u0,hu0⟩:∃ u,hasR c.roles 1=u:=⟨_,rfl⟩;have HU0:=Hi hu0;clear hx0 hg hn hcc hci hG hcz hvo hv hcb hnv hno hna hns hia hni h1i hki hrf hvd hu0;go_enter Tryz.func32,Tryz.ntmps32
 go_wp2_with (with_reducible refine wpList_load_row rfl 48 (.tmp 3) rfl (w.heap.size) (by with_unfolding_all rfl) _ CC _ _ HC0.out Tryz.underlying48 rfl IC.out ?_)
 with_reducible refine(has_any CC c.roles 1 HU0.out H2.out _).mono ?_
 rintro e w1 ⟨rfl,hb1⟩;have HX1:=Hi (HX0.out.trans hb1);have HNM1:=Hi (HNM0.out.ext hb1);have HC1:=Hi (hb1.blockAt HC0.out);clear hb1;cases u0 with
 | false=>have hz:Hid (v=9∧o=b.bank.ents):=Hi (by have h:=HV.out;unfold crtE at h;rw[if_pos (show hasR c.cmd.roles 1=false from HU0.out)]at h;injection h with h1 h2;exact⟨h1.symm,h2.symm⟩);go_wp2;go_ret;exact⟨by rw[hz.out.1];rfl,⟨b,by rw[hz.out.2],HNM1.out⟩,HX1.out⟩
 | true =>
 have HRG:Hid (w1.rangeAt w.heap.size 7 CI.toList):=Hi (rngC HC1.out HIS.out);go_wp2_with (with_reducible refine wpList_load_arr rfl 39 (.tmp 14) rfl (w.heap.size) 7 (by with_unfolding_all rfl) CI _ HRG.out Tryz.underlying39 rfl II.out ?_)
 rw[← HIA.out];with_reducible refine(valid_any c.item.1 c.item.2 _ (HIT.out.ext HX1.out) (HGM.out.ext HX1.out)).mono ?_
 rintro e w2 ⟨rfl,hb2⟩;have HX2:=Hi (HX1.out.trans hb2);have HNM2:=Hi (HNM1.out.ext hb2);have HC2:=Hi (hb2.blockAt HC1.out);clear hb2 HRG;rw[HVD.out,HIA.out];by_cases hu:vd=0;case neg =>
  have hz:Hid (v=vd∧o=b.bank.ents):=Hi (by have h:=HV.out;unfold crtE at h;rw[if_neg (by rw[show hasR c.cmd.roles 1=true from HU0.out];simp),if_pos (by rw[show It.vld c.cmd.item=vd from HVD.out];exact hu),show It.vld c.cmd.item=vd from HVD.out]at h;injection h with h1 h2;exact⟨h1.symm,h2.symm⟩);go_wp2;go_ret;exact⟨by rw[hz.out.1];rfl,⟨b,by rw[hz.out.2],HNM2.out⟩,HX2.out⟩
 case pos =>
 subst hu;have c8:w2.cell? ⟨w.heap.size,8,none⟩=some (.int .i64 c.item.1.ver):=(cell_of_row _ _ 8 _ _ _ HC2.out).trans H8.out;by_cases hw:c.item.1.ver=1;case neg =>
  have hz:Hid (v=18∧o=b.bank.ents):=Hi (by have h:=HV.out;unfold crtE at h;rw[if_neg (by rw[show hasR c.cmd.roles 1=true from HU0.out];simp),if_neg (by rw[show It.vld c.cmd.item=0 from HVD.out];simp),if_pos (by exact hw)]at h;injection h with h1 h2;exact⟨h1.symm,h2.symm⟩);go_wp2;go_ret;exact⟨by rw[hz.out.1];rfl,⟨b,by rw[hz.out.2],HNM2.out⟩,HX2.out⟩
 case pos =>
 have HW1:Hid (c.cmd.item.ver=1):=Hi hw;rw[hw]at c8;obtain⟨vf,hvf⟩:∃ v,ixV (fnd (b.ents.map (·.ent)) c.item.1.id)=v:=⟨_,rfl⟩;have HVF:=Hi hvf;have hbag:b.agg=.agg CB:=by rw[← HCB.out];rfl
 go_wp2;obtain⟨w3,rfl⟩:∃ W,W=w2:=⟨_,rfl⟩;have HB1:Hid (w3.heap[g]?=some (.cells CB 31 (0,0))):=Hi (by rw[← HCB.out];exact HNM2.out.row);have CID:Hid (w3.cell? ⟨w.heap.size,7,none⟩=some (.int .i64 c.item.1.id)):=Hi ((cell_of_row _ _ 7 _ _ _ HC2.out).trans H7.out);have HFD:=Hi (fun(W:World) (hx:Ext w3 W)=>bfind_any b c.item.1.id hvf W ((HNM2.out.ext hx).own.in_));rw[hbag]at HFD;clear hvf hbag c8;go_wp2_with fail
 refine region_tb (by kernel_rfl) (by decide +kernel) (bc8E g w.heap.size) ⟨rfl,rfl,rfl⟩ 8 bc8D (fun _=>none) (RG (bc8L g w.heap.size CB c.item.1.id vf)) w3 (Ext.refl _) (fun i h1 h2=>absurd h2 (Nat.not_lt.2 h1)) ?_ ?_
 · intro Tv dd lv U wz i oZ hE ho hlv hd hT;obtain⟨t0,t3,tz⟩:=hE;have hx:=hT.ext;have rX:=RG.ext (l:=bc8L g w.heap.size CB c.item.1.id vf) (sl_mono _)
   match i,ho,hlv,hd with
   | 0,ho,hlv,hd=>cases oi ho;exact yl1 hT rX ho hd (.pointer (some ⟨g,0,none⟩)) (od dd hT tz t0)
   | 1,ho,hlv,hd=>cases oi ho;exact yl1 hT rX ho hd (.pointer (some ⟨g,0,none⟩)) (nw dd hT hd tz 0 24 (.pointer (some ⟨g,0,none⟩)))
   | 2,ho,hlv,hd=>cases oi ho;have v0:=nw dd hT hd tz 1 25 (.pointer (some ⟨g,0,none⟩));exact yxe hT rX ho hd (.agg CB) (exec_load_row _ _ rfl g v0 _ _ _ _ (hx.blockAt HB1.out) Tryz.underlying31 rfl IB.out)
   | 3,ho,hlv,hd=>cases oi ho;exact yl1 hT rX ho hd (.pointer (some ⟨w.heap.size,7,none⟩)) (od dd hT tz t3)
   | 4,ho,hlv,hd=>cases oi ho;exact yl1 hT rX ho hd (.pointer (some ⟨w.heap.size,7,none⟩)) (nw dd hT hd tz 3 27 (.pointer (some ⟨w.heap.size,7,none⟩)))
   | 5,ho,hlv,hd=>cases oi ho;exact yk1 hT rX ho hd (.int .i64 c.item.1.id) (nw dd hT hd tz 4 28 (.pointer (some ⟨w.heap.size,7,none⟩))) (hx.keep CID.out)
   | 6,ho,hlv,hd=>cases oi ho;have v0:=nw dd hT hd tz 2 26 (.agg CB);have v1:=nw dd hT hd tz 5 29 (.int .i64 c.item.1.id);refine cl hT rX ho hd (f:=38) (args:=#[.agg CB,.int .i64 c.item.1.id]) (exec_call2 rfl rfl v0 v1 ENF.out) ?_;refine(HFD.out wz hx).mono ?_;rintro e w' ⟨rfl,hb⟩;exact⟨_,rfl,hb,rfl⟩
   | 7,ho,hlv,hd=>cases oi ho;have v1:Act.eval ⟨over Tv U,dd⟩ (.const (.int .i64 0))=.int .i64 0:=rfl;exact yl2 hT rX ho hd (.bool (decide ((0:Int)≤vf))) (nw dd hT hd tz 6 30 (.int .i64 vf)) v1
   | i+8,ho,_,_=>exact absurd ho (by simp)
 intro U wz hex hout hfin;have f31:U 31=some (.bool (decide ((0:Int)≤vf))):=hfin 7 (by decide) rfl;have XE:=Hi hex;clear hex hfin;rw[over_list];simp(disch:=decide) only[overL,Nat.reduceAdd,hout,Option.getD_none];rw[f31];simp only[Option.getD_some];clear hout f31;have HX3:=Hi (HX2.out.trans XE.out);have HNM3:=Hi (HNM2.out.ext XE.out);have HC3:=Hi (XE.out.blockAt HC2.out);clear XE HFD CID HB1;obtain⟨fo,hfo⟩:∃ f,fnd b.bank.ents c.item.1.id=f:=⟨_,rfl⟩;have HFO:=Hi hfo;cases fo with
 | some k =>
  have hz:Hid (v=7∧o=b.bank.ents):=Hi (by have h:=HV.out;unfold crtE at h;rw[if_neg (by rw[show hasR c.cmd.roles 1=true from HU0.out];simp),if_neg (by rw[show It.vld c.cmd.item=0 from HVD.out];simp),if_neg (by rw[HW1.out];simp),if_pos (by rw[show fnd b.bank.ents c.cmd.item.id=some k from hfo];rfl)]at h;injection h with h1 h2;exact⟨h1.symm,h2.symm⟩);have hvm:vf=(k:Int):=by rw[← HVF.out];exact congrArg ixV hfo
  have hd:decide ((0:Int)≤vf)=true:=decide_eq_true (by omega);rw[hd];clear hfo hvm hd;go_wp2;go_ret;exact⟨by rw[hz.out.1];rfl,⟨b,by rw[hz.out.2],HNM3.out⟩,HX3.out⟩
 | none =>
 have hvm:vf=-1:=by rw[← HVF.out];exact congrArg ixV hfo
 have hd:decide ((0:Int)≤vf)=false:=decide_eq_false (by omega);rw[hd];clear hfo hvm hd;have c5:wz.cell? ⟨g,5,none⟩=some (.slice b.eA nv b.ec):=(cell_of_row _ _ 5 _ _ _ HNM3.out.row).trans (by rw[HCB.out];exact H5'.out);by_cases hmx:200≤nv
 · have hmi:(200:Int)≤(nv:Int):=(by omega);have hz:Hid (v=5∧o=b.bank.ents):=Hi (by have h:=HV.out;unfold crtE at h;rw[if_neg (by rw[show hasR c.cmd.roles 1=true from HU0.out];simp),if_neg (by rw[show It.vld c.cmd.item=0 from HVD.out];simp),if_neg (by rw[HW1.out];simp),if_neg (by rw[show fnd b.bank.ents c.cmd.item.id=none from HFO.out];simp),if_pos (by show 200≤(b.ents.map (·.ent)).length;rw[List.length_map,HNV.out];exact hmx)]at h;injection h with h1 h2;exact⟨h1.symm,h2.symm⟩);go_wp2;go_ret;exact⟨by rw[hz.out.1];rfl,⟨b,by rw[hz.out.2],HNM3.out⟩,HX3.out⟩
 have hmi:¬ (200:Int)≤(nv:Int):=by omega
 have HVV : Hid ((v, o) = if rf ≠ 0 then (rf, b.bank.ents) else if Rev.newE c.user ≠ 0 then (Rev.newE c.user, b.bank.ents)
     else(0,entI b.bank.ents c.item.1.id ⟨[c.item.1],Rev.newR c.user,[]⟩)):=Hi (by
  have h:=HV.out;unfold crtE at h;rw[if_neg (by rw[show hasR c.cmd.roles 1=true from HU0.out];simp),if_neg (by rw[show It.vld c.cmd.item=0 from HVD.out];simp),if_neg (by rw[HW1.out];simp),if_neg (by rw[show fnd b.bank.ents c.cmd.item.id=none from HFO.out];simp),if_neg (by show ¬ 200≤(b.ents.map (·.ent)).length;rw[List.length_map,HNV.out];exact hmx)]at h;exact h.symm)
 go_wp2;clear c5;obtain⟨w4,rfl⟩:∃ W,W=wz:=⟨_,rfl⟩;have HB1:Hid (w4.heap[g]?=some (.cells CB 31 (0,0))):=Hi (by rw[← HCB.out];exact HNM3.out.row);have HC4:=HC3;have HRF:Hid (∀ (W:World),Ext w4 W→Calls Tryz.prog 69 #[.agg CB,.agg CC] W fun e w'=>e=.returned (.int .i64 rf)∧Ext W w'):=Hi (fun W hx=>refs_any CB CC b c no na ns HNO.out HNA.out HNS.out HCB.out HCC.out HRFV.out W ((HNM3.out.ext hx).own.o.slx.1) ((HNM3.out.ext hx).own.s.slx.1) (itS (HIT.out.ext (HX3.out.trans hx))) hbo hbs hba);go_wp2_with fail
 refine region_tb (by kernel_rfl) (by decide +kernel) (bc12E g w.heap.size) ⟨rfl,rfl,rfl⟩ 6 bc12D (fun _=>none) (RG (bc12L g w.heap.size CB CC rf)) w4 (Ext.refl _) (fun i h1 h2=>absurd h2 (Nat.not_lt.2 h1)) ?_ ?_
 · intro Tv dd lv U wz i oZ hE ho hlv hd hT;obtain⟨t0,t3,tz⟩:=hE;have hx:=hT.ext;have rX:=RG.ext (l:=bc12L g w.heap.size CB CC rf) (sl_mono _)
   match i,ho,hlv,hd with
   | 0,ho,hlv,hd=>cases oi ho;exact yl1 hT rX ho hd (.pointer (some ⟨g,0,none⟩)) (od dd hT tz t0)
   | 1,ho,hlv,hd=>cases oi ho;exact yl1 hT rX ho hd (.pointer (some ⟨g,0,none⟩)) (nw dd hT hd tz 0 38 (.pointer (some ⟨g,0,none⟩)))
   | 2,ho,hlv,hd=>cases oi ho;have v0:=nw dd hT hd tz 1 39 (.pointer (some ⟨g,0,none⟩));exact yxe hT rX ho hd (.agg CB) (exec_load_row _ _ rfl g v0 _ _ _ _ (hx.blockAt HB1.out) Tryz.underlying31 rfl IB.out)
   | 3,ho,hlv,hd=>cases oi ho;have v0:=od dd hT tz t3;exact yxe hT rX ho hd (.agg CC) (exec_load_row _ _ rfl w.heap.size v0 _ _ _ _ (hx.blockAt HC4.out) Tryz.underlying48 rfl IC.out)
   | 4,ho,hlv,hd=>cases oi ho;have v0:=nw dd hT hd tz 2 40 (.agg CB);have v1:=nw dd hT hd tz 3 41 (.agg CC);refine cl hT rX ho hd (f:=69) (args:=#[.agg CB,.agg CC]) (exec_call2 rfl rfl v0 v1 ENR.out) ?_;refine(HRF.out wz hx).mono ?_;rintro e w' ⟨rfl,hb⟩;exact⟨_,rfl,hb,rfl⟩
   | 5,ho,hlv,hd=>cases oi ho;exact yl1 hT rX ho hd (.int .i64 rf) (nw dd hT hd tz 4 42 (.int .i64 rf))
   | i+6,ho,_,_=>exact absurd ho (by simp)
 intro U wz hex hout hfin;have f6:U 6=some (.int .i64 rf):=hfin 5 (by decide) rfl;have XE:=Hi hex;clear hex hfin;rw[over_list];simp(disch:=decide) only[overL,Nat.reduceAdd,hout,Option.getD_none];rw[f6];simp only[Option.getD_some];clear hout f6;have HX5:=Hi (HX3.out.trans XE.out);have HNM5:=Hi (HNM3.out.ext XE.out);have HC5:=Hi (XE.out.blockAt HC3.out);clear XE HRF HB1 HC4;by_cases hr0:rf=0;case neg =>
  have hz:Hid (v=rf∧o=b.bank.ents):=Hi (by have h:=HVV.out;rw[if_pos hr0]at h;injection h with h1 h2;exact⟨h1,h2⟩);go_wp2;go_ret;exact⟨by rw[hz.out.1];rfl,⟨b,by rw[hz.out.2],HNM5.out⟩,HX5.out⟩
 case pos =>
 subst hr0;have c1:wz.cell? ⟨w.heap.size,1,none⟩=some (.int .i64 c.user):=(cell_of_row _ _ 1 _ _ _ HC5.out).trans H1.out;obtain⟨rc,hrc⟩:∃ r,Rev.newR c.user=r:=⟨_,rfl⟩;obtain⟨er,her⟩:∃ r,Rev.newE c.user=r:=⟨_,rfl⟩;have HVW:Hid ((v,o)=if er≠0 then(er,b.bank.ents)else(0,entI b.bank.ents c.item.1.id ⟨[c.item.1],rc,[]⟩)):=Hi (by have h:=HVV.out;rw[if_neg (by simp),hrc,her]at h;exact h);have HRC:=Hi hrc;have HER:=Hi her;clear hrc her;have IZR:Hid ((#[.int .i64 0,.int .i64 0,.slice none 0 0,.slice none 0 0,.slice none 0 0]:Array Value).size=5):=Hi rfl;obtain⟨w5,rfl⟩:∃ W,W=wz:=⟨_,rfl⟩;have H56:Hid (w5.heap.size≤w5.heap.size):=Hi (Nat.le_refl _);go_wp2_with fail
 with_reducible refine(nwRv_any c.user _ HRC.out HER.out).mono ?_
 rintro e w6 ⟨⟨W,rfl,hw1,hw2,hw3⟩,hb6⟩;have HX6:=Hi (HX5.out.trans hb6);have HNM6:=Hi (HNM5.out.ext hb6);have HC6:=Hi (hb6.blockAt HC5.out);have HWR:=Hi hw1;have HWT:=Hi hw2;have HWF:=Hi hw3;have IRW:=Hi (rvInfo W);have ORW:=Hi (rvOne W);have hwa:W.agg=.agg W.cells.toArray:=rfl;obtain⟨CR,hcr⟩:∃ C,W.cells.toArray=C:=⟨_,rfl⟩;rw[hcr]at hwa IRW ORW;rw[hwa];have HCR:=Hi hcr;have NRW:Hid ((#[.int .i64 0,.int .i64 0,.slice none 0 0,.slice none 0 0,.slice none 0 0]:Array Value).size=CR.size):=Hi (by rw[← hcr];rfl);have H65:=Hi hb6.size;clear hw1 hw2 hw3 hb6 c1 hwa hcr H56;by_cases he0:er=0;case neg =>
  have hz:Hid (v=er∧o=b.bank.ents):=Hi (by have h:=HVW.out;rw[if_pos he0]at h;injection h with h1 h2;exact⟨h1,h2⟩);have HXE:Hid (Ext w0 (w6.alloc (.cells CR 54))):=Hi (HX6.out.alloc _);have HNE6:=Hi (HNM6.out.ext ((Ext.refl _).alloc (.cells CR 54)));go_wp2_with (with_reducible refine wpList_store_new rfl 54 (.tmp 7) (.tmp 50) rfl _ CR 54 (by with_unfolding_all rfl) (by with_unfolding_all rfl) IRW.out (by with_unfolding_all exact NRW.out) ORW.out ?_)
  go_ret;exact⟨by rw[hz.out.1];rfl,⟨b,by rw[hz.out.2],HNE6.out⟩,HXE.out⟩
 case pos =>
 subst he0;go_wp2_with (with_reducible refine wpList_store_new rfl 54 (.tmp 7) (.tmp 50) rfl _ CR 54 (by with_unfolding_all rfl) (by with_unfolding_all rfl) IRW.out (by with_unfolding_all exact NRW.out) ORW.out ?_)
 have hz:Hid (v=0∧o=entI b.bank.ents c.item.1.id ⟨[c.item.1],rc,[]⟩):=Hi (by have h:=HVW.out;rw[if_neg (by simp)]at h;injection h with h1 h2;exact⟨h1,h2⟩);have X67:Hid (Ext w6 (w6.alloc (.cells CR 54))):=Hi ((Ext.refl _).alloc _);have HR7:Hid ((w6.alloc (.cells CR 54)).heap[w6.heap.size]?=some (.cells CR 54 (0,0))):=Hi (heap_alloc_new _ _);generalize w6.alloc (.cells CR 54)=w7 at X67 HR7 ⊢;have HX7:=Hi (HX6.out.trans X67.out);have HNM7:=Hi (HNM6.out.ext X67.out);have HC7:=Hi (X67.out.blockAt HC6.out);have HW7:=Hi (HWT.out.ext X67.out);have H75:=Hi (Nat.le_trans H65.out X67.out.size);clear X67 HNM0 HNM1 HNM2 HNM3 HX0 HX1 HX2 HX3 HC0 HC1 HC2 HC3 HNM6 HC6 HX6 HWT H65;go_loopw [9] (fun i wr=>∃ k:Nat,k≤nv∧i=.int .i64 k∧Hid (∀ (j:Nat) (x:Ent),j<k→b.bank.ents[j]?=some x→decide (nmb x<c.item.1.id)=true)∧Hid (Ext w7 wr)) (fun i _=>nv-(intOf i).toNat)
 case atStart=>exact⟨0,by omega,rfl,Hi (fun j x h=>by omega),Hi (Ext.refl _)⟩
 case round =>
 obtain⟨k,hk,rfl,HLT,HE⟩:=hrel;have hk63:k≤nv:=hk;have HNM8:=Hi (HNM7.out.ext HE.out);have HC8:=Hi (HE.out.blockAt HC7.out);have HX8:=Hi (HX7.out.trans HE.out);by_cases hlt:k<nv
 · obtain⟨x,hx⟩:∃ x,b.ents[k]?=some x:=⟨b.ents[k]'(by rw[HNV.out];exact hlt),List.getElem?_eq_getElem _⟩;obtain⟨q,hq⟩:=rowA HNM8.out.own.e hx;obtain⟨bb,off,hA,hbl,hcx,hin⟩:=HNM8.out.own.e.slx.1.at_ hx;rw[hq]at hA;injection hA with hA;injection hA with hA1 hA2;subst hA1 hA2;rw[Nat.zero_add]at hcx;obtain⟨CE,hce,hne,-,hke⟩:=x.packed;obtain⟨nx,hnx⟩:∃ z,nmb x.ent=z:=⟨_,rfl⟩;obtain⟨lt,hl⟩:∃ z,decide (nx<c.item.1.id)=z:=⟨_,rfl⟩;have HXE:Hid (b.bank.ents[k]?=some x.ent):=Hi (by show(b.ents.map (·.ent))[k]?=_;rw[List.getElem?_map,hx];rfl);have HLT2:=Hi hl;have HNX:=Hi hnx;have HCE:Hid (wr.rangeAt q (k*7) CE.toList):=Hi (by rw[← hke];exact hcx);have IE:Hid ((Tryz.prog.info? 56).map (·.size)=some CE.size):=Hi (by rw[hne];kernel_rfl);have HNB:Hid (∀ (W:World),Ext wr W→Calls Tryz.prog 71 #[.agg CE] W fun r w'=>r=.returned (.int .i64 nx)∧Ext W w'):=Hi (fun W hxx=>by have h:=numb_any x W (EntL.In.ext hin.inn hxx) (HVO.out x (List.mem_of_getElem? hx)) hnx;rw[hce]at h;exact h)
   have C5:Hid (wr.cell? ⟨g,5,none⟩=some (.slice (some ⟨q,0,none⟩) nv b.ec)):=Hi ((cell_of_row _ _ 5 _ _ _ HNM8.out.row).trans (by rw[HCB.out,← hq];exact H5'.out));have CID:Hid (wr.cell? ⟨w.heap.size,7,none⟩=some (.int .i64 c.item.1.id)):=Hi ((cell_of_row _ _ 7 _ _ _ HC8.out).trans H7.out);have KI1:Hid ((k:Int)<(nv:Int)):=Hi (by omega);have KI0:Hid ((0:Int)≤(k:Int)):=Hi (by omega);clear hx hq hcx hin hce hne hke hnx hl;go_wp2_with fail
   refine region_tb (by kernel_rfl) (by decide +kernel) (bc19E g w.heap.size k) ⟨rfl,rfl,rfl,rfl⟩ 21 bc19D (fun _=>none) (RG (bc19L g w.heap.size q k nv b.ec c.item.1.id nx CE lt)) wr (Ext.refl _) (fun i h1 h2=>absurd h2 (Nat.not_lt.2 h1)) ?_ ?_
   · intro Tv dd lv U wz i oZ hE ho hlv hd hT;obtain⟨t0,t3,t9,tz⟩:=hE;have hx:=hT.ext;have rX:=RG.ext (l:=bc19L g w.heap.size q k nv b.ec c.item.1.id nx CE lt) (sl_mono _)
     match i,ho,hlv,hd with
     | 0,ho,hlv,hd=>cases oi ho;exact yl1 hT rX ho hd (.int .i64 (k:Int)) (od dd hT tz t9)
     | 1,ho,hlv,hd=>cases oi ho;exact yl1 hT rX ho hd (.pointer (some ⟨g,0,none⟩)) (od dd hT tz t0)
     | 2,ho,hlv,hd=>cases oi ho;exact yl1 hT rX ho hd (.pointer (some ⟨g,0,none⟩)) (nw dd hT hd tz 1 56 (.pointer (some ⟨g,0,none⟩)))
     | 3,ho,hlv,hd=>cases oi ho;exact yl1 hT rX ho hd (.pointer (some ⟨g,5,none⟩)) (nw dd hT hd tz 2 57 (.pointer (some ⟨g,0,none⟩)))
     | 4,ho,hlv,hd=>cases oi ho;exact yk1 hT rX ho hd (.slice (some ⟨q,0,none⟩) nv b.ec) (nw dd hT hd tz 3 58 (.pointer (some ⟨g,5,none⟩))) (hx.keep C5.out)
     | 5,ho,hlv,hd=>cases oi ho;exact yl1 hT rX ho hd (.int .i64 (nv:Int)) (nw dd hT hd tz 4 59 (.slice (some ⟨q,0,none⟩) nv b.ec))
     | 6,ho,hlv,hd=>cases oi ho;exact yk2 hT rX ho hd (.bool true) (nw dd hT hd tz 0 55 (.int .i64 (k:Int))) (nw dd hT hd tz 5 60 (.int .i64 (nv:Int))) KI1.out
     | 7,ho,hlv,hd=>cases oi ho;exact yl1 hT rX ho hd (.bool true) (nw dd hT hd tz 6 61 (.bool true))
     | 8,ho,hlv,hd=>cases oi ho;exact yl1 hT rX ho hd (.pointer (some ⟨g,0,none⟩)) (od dd hT tz t0) (hw:=wanted_of (j:=7) (s:=62) (b:=true) rfl rfl rfl (nf hT hd 7 62 (.bool true)) (by show 62<Tv.size;omega))
     | 9,ho,hlv,hd=>cases oi ho;exact yl1 hT rX ho hd (.pointer (some ⟨g,0,none⟩)) (nw dd hT hd tz 8 63 (.pointer (some ⟨g,0,none⟩))) (hw:=wanted_of (j:=7) (s:=62) (b:=true) rfl rfl rfl (nf hT hd 7 62 (.bool true)) (by show 62<Tv.size;omega))
     | 10,ho,hlv,hd=>cases oi ho;exact yl1 hT rX ho hd (.pointer (some ⟨g,5,none⟩)) (nw dd hT hd tz 9 64 (.pointer (some ⟨g,0,none⟩))) (hw:=wanted_of (j:=7) (s:=62) (b:=true) rfl rfl rfl (nf hT hd 7 62 (.bool true)) (by show 62<Tv.size;omega))
     | 11,ho,hlv,hd=>cases oi ho;exact yk1 hT rX ho hd (.slice (some ⟨q,0,none⟩) nv b.ec) (nw dd hT hd tz 10 65 (.pointer (some ⟨g,5,none⟩))) (hx.keep C5.out) (hw:=wanted_of (j:=7) (s:=62) (b:=true) rfl rfl rfl (nf hT hd 7 62 (.bool true)) (by show 62<Tv.size;omega))
     | 12,ho,hlv,hd=>cases oi ho;exact yl1 hT rX ho hd (.int .i64 (k:Int)) (od dd hT tz t9) (hw:=wanted_of (j:=7) (s:=62) (b:=true) rfl rfl rfl (nf hT hd 7 62 (.bool true)) (by show 62<Tv.size;omega))
     | 13,ho,hlv,hd=>cases oi ho;have hgu:=nf hT hd 7 62 (.bool true);have v0:=nw dd hT hd tz 11 66 (.slice (some ⟨q,0,none⟩) nv b.ec);have v1:=nw dd hT hd tz 12 67 (.int .i64 (k:Int));have ki:=KI1.out;have ki0:=KI0.out;refine yxe hT rX ho hd (.pointer (some ⟨q,k*7,none⟩)) ?_ (hw:=wanted_of (j:=7) (s:=62) (b:=true) rfl rfl rfl hgu (by show 62<Tv.size;omega));generalize Act.eval ⟨over Tv U,dd⟩=ev at *;simp[execOp,go_sem,v0,v1,ki,ki0]
     | 14,ho,hlv,hd=>cases oi ho;have hgu:=nf hT hd 7 62 (.bool true);have v0:=nw dd hT hd tz 13 68 (.pointer (some ⟨q,k*7,none⟩));exact yxe hT rX ho hd (.agg CE) (exec_load_arr _ _ rfl q (k*7) v0 CE _ (hx.range HCE.out) Tryz.underlying56 rfl IE.out) (hw:=wanted_of (j:=7) (s:=62) (b:=true) rfl rfl rfl hgu (by show 62<Tv.size;omega))
     | 15,ho,hlv,hd=>cases oi ho;have hgu:=nf hT hd 7 62 (.bool true);have v0:=nw dd hT hd tz 14 69 (.agg CE);refine cl hT rX ho hd (f:=71) (args:=#[.agg CE]) (exec_call1 rfl rfl v0 ENN.out) ?_ (hw:=wanted_of (j:=7) (s:=62) (b:=true) rfl rfl rfl hgu (by show 62<Tv.size;omega));refine(HNB.out wz hx).mono ?_;rintro e w' ⟨rfl,hb⟩;exact⟨_,rfl,hb,rfl⟩
     | 16,ho,hlv,hd=>cases oi ho;exact yl1 hT rX ho hd (.pointer (some ⟨w.heap.size,7,none⟩)) (od dd hT tz t3) (hw:=wanted_of (j:=7) (s:=62) (b:=true) rfl rfl rfl (nf hT hd 7 62 (.bool true)) (by show 62<Tv.size;omega))
     | 17,ho,hlv,hd=>cases oi ho;exact yl1 hT rX ho hd (.pointer (some ⟨w.heap.size,7,none⟩)) (nw dd hT hd tz 16 71 (.pointer (some ⟨w.heap.size,7,none⟩))) (hw:=wanted_of (j:=7) (s:=62) (b:=true) rfl rfl rfl (nf hT hd 7 62 (.bool true)) (by show 62<Tv.size;omega))
     | 18,ho,hlv,hd=>cases oi ho;exact yk1 hT rX ho hd (.int .i64 c.item.1.id) (nw dd hT hd tz 17 72 (.pointer (some ⟨w.heap.size,7,none⟩))) (hx.keep CID.out) (hw:=wanted_of (j:=7) (s:=62) (b:=true) rfl rfl rfl (nf hT hd 7 62 (.bool true)) (by show 62<Tv.size;omega))
     | 19,ho,hlv,hd=>cases oi ho;exact yk2 hT rX ho hd (.bool lt) (nw dd hT hd tz 15 70 (.int .i64 nx)) (nw dd hT hd tz 18 73 (.int .i64 c.item.1.id)) HLT2.out (hw:=wanted_of (j:=7) (s:=62) (b:=true) rfl rfl rfl (nf hT hd 7 62 (.bool true)) (by show 62<Tv.size;omega))
     | 20,ho,hlv,hd=>cases oi ho;have v2:Act.eval ⟨over Tv U,dd⟩ (.const (.bool false))=.bool false:=rfl;exact yl3 hT rX ho hd (.bool lt) (nw dd hT hd tz 7 62 (.bool true)) (nw dd hT hd tz 19 74 (.bool lt)) v2
     | i+21,ho,_,_=>exact absurd ho (by simp)
   intro U wz hex hout hfin;have f75:U 75=some (.bool lt):=hfin 20 (by decide) rfl;have XE:=Hi hex;clear hex hfin;rw[over_list];simp(disch:=decide) only[overL,Nat.reduceAdd,hout,Option.getD_none];rw[f75];simp only[Option.getD_some];clear hout f75;clear C5 CID KI1 KI0 HNB HCE IE;cases lt with
   | true =>
    go_wp2;go_roundw;case rel=>exact⟨k+1,by omega,by go_num,Hi (fun j y hj hy=>by
        rcases Nat.lt_or_ge j k with h1 | h1
        · exact HLT.out j y h1 hy
        · obtain rfl:j=k:=by omega
          rw[HXE.out]at hy;injection hy with hy;rw[← hy,HNX.out];exact HLT2.out),Hi (HE.out.trans XE.out)⟩
    case measure=>simp[intOf];omega
   | false =>
    have HK:Hid (entK b.bank.ents c.item.1.id=k):=Hi (takeWhile_at HLT.out (by show k≤(b.ents.map (·.ent)).length;rw[List.length_map,HNV.out];exact hk63) (fun y hy=>by rw[HXE.out]at hy;injection hy with hy;rw[← hy,HNX.out];exact HLT2.out));clear HXE HLT2 HNX;go_wp2_with fail
    obtain⟨wt,rfl⟩:∃ W,W=wz:=⟨_,rfl⟩;have HXt:=Hi (HX8.out.trans XE.out);have HNMt:=Hi (HNM8.out.ext XE.out);have HCt:=Hi (XE.out.blockAt HC8.out);have HXWt:=Hi (HE.out.trans XE.out);have HWt:=Hi (HW7.out.ext HXWt.out);have HRt:Hid (wt.heap[w6.heap.size]?=some (.cells W.cells.toArray 54 (0,0))):=Hi (by rw[HCR.out];exact HXWt.out.blockAt HR7.out);have HMt:=Hi (Nat.le_trans H75.out HXWt.out.size);have HRI:Hid (wt.rangeAt w.heap.size 7 CI.toList):=Hi (rngC HCt.out HIS.out);have HCP:Hid (∀ (W:World),Ext wt W→Calls Tryz.prog 43 #[.agg CI] W fun e w'=>RetItT W c.item.1 e w'∧Ext W w'):=Hi (fun W hx=>by rw[← HIA.out];exact bcopyItemT_any c.item.1 c.item.2 W (HIT.out.ext (HXt.out.trans hx)) HCZ.out.item);obtain⟨i1,hiI,hzI,hsI,hbI⟩:=info_parts infoIt;clear XE HE HXWt HNM8 HC8 HX8;go_wp2_with fail
    refine region_tb (by kernel_rfl) (by decide +kernel) (bc21E w.heap.size w6.heap.size) ⟨rfl,rfl,rfl⟩ 8 bc21D bc21C (RG (bc21L w.heap.size wt.heap.size w5.heap.size w6.heap.size CI c.item.1 rc W)) wt (Ext.refl _) (fun i h1 h2=>absurd h2 (Nat.not_lt.2 h1)) ?_ ?_
    · intro Tv dd lv U wz i oZ hE ho hlv hd hT;obtain⟨t3,t7,tz⟩:=hE;have hx:=hT.ext;have rX:=RG.ext (bc21L_mono w.heap.size wt.heap.size w5.heap.size w6.heap.size CI c.item.1 rc W)
      match i,ho,hlv,hd with
      | 0,ho,hlv,hd=>cases oi ho;exact yl1 hT rX ho hd (.pointer (some ⟨w.heap.size,7,none⟩)) (od dd hT tz t3)
      | 1,ho,hlv,hd=>cases oi ho;have v0:=nw dd hT hd tz 0 78 (.pointer (some ⟨w.heap.size,7,none⟩));exact yxe hT rX ho hd (.agg CI) (exec_load_arr _ _ rfl w.heap.size (7) v0 CI _ (hx.range HRI.out) Tryz.underlying39 rfl II.out)
      | 2,ho,hlv,hd=>cases oi ho;have v0:=nw dd hT hd tz 1 79 (.agg CI);refine cl hT rX ho hd (f:=43) (args:=#[.agg CI]) (exec_call1 rfl rfl v0 ENC.out) ?_;refine(HCP.out wz hx).mono ?_;rintro e w' ⟨⟨L,rfl,h1,h2,h3⟩,hb⟩;exact⟨_,rfl,hb,L,rfl,h1,eIt.mono h2 hx.size,h3⟩
      | 3,ho,hlv,hd=>cases oi ho;obtain⟨L,e0,h1,h2,h3⟩:PNI wt.heap.size c.item.1 (U 80) wz:=hT.facts 2 (by decide) (dep hd 2 (by kernel_rfl)) (fun c e=>by injection e with e;subst e;cases hl:lv 7 with | false=>rfl | true=>exact absurd (dep (hT.shut 5 _ rfl (dep (hT.shut 7 _ rfl hl) 5 (by kernel_rfl))) 3 (by kernel_rfl)) (by rw[hlv];decide));have v0:Act.eval ⟨over Tv U,dd⟩ (.tmp 80)=_:=eval_new (t:=Tv) (d:=dd) e0 (by show 80<Tv.size;omega);refine tbw_yield (v:=.slice (some ⟨wz.heap.size,0,none⟩) 1 1) (RG.ext (bc21L_mono w.heap.size wt.heap.size w5.heap.size w6.heap.size CI c.item.1 rc W)) hT ho hd (wanted_plain rfl) rfl (by decide) (by decide) (exec_buildOne 51 39 (.tmp 80) rfl v0 Tryz.underlying51 hiI hzI hsI (by decide) (by decide) rfl) ((Ext.refl _).alloc _) (PON.made hx.size h1 h2 h3)
      | 4,ho,hlv,hd=>cases oi ho;have v0:=od dd hT tz t7;exact yxe hT rX ho hd W.agg (exec_load_row _ _ rfl w6.heap.size v0 _ _ _ _ (hx.blockAt HRt.out) Tryz.underlying54 rfl (rvInfo W))
      | 5,ho,hlv,hd=>cases oi ho;have v1:=nw dd hT hd tz 4 82 (W.agg);obtain⟨L,p,e0,h1,h2,h3,h4,h5⟩:PON wt.heap.size c.item.1 (U 81) wz:=hT.facts 3 (by decide) (dep hd 3 (by kernel_rfl)) (fun c e=>by injection e with e;subst e;cases hl:lv 7 with | false=>rfl | true=>exact absurd (dep (hT.shut 7 _ rfl hl) 5 (by kernel_rfl)) (by rw[hlv];decide));have v0:Act.eval ⟨over Tv U,dd⟩ (.tmp 81)=_:=eval_new (t:=Tv) (d:=dd) e0 (by show 81<Tv.size;omega);exact yxe hT rX ho hd ((EntL.one p (c.item.1,L) W).agg) (exec_buildL 56 _ rfl [(0,.slice (some ⟨p,0,none⟩) 1 1),(1,W.agg)] (by simp[v0,v1]) _ (by kernel_rfl)) (hR:=⟨EntL.one p (c.item.1,L) W,rfl,one_in HWt.out.inn hx h1 h2 h3 (h5.off h2 (by decide) (by decide)),one_from HWF.out HMt.out h4 h1,by rw[one_ent,HWR.out],one_offT HWt.out hx h2 h5⟩)
      | 6,ho,hlv,hd =>
       cases oi ho;refine tb_extW (v:=.pointer (some ⟨wz.heap.size,0,none⟩)) (w':=wz.alloc (.cells #[.slice none 0 0,.int .i64 0,.int .i64 0,.slice none 0 0,.slice none 0 0,.slice none 0 0,.slice none 0 0] 56)) (RG.ext (bc21L_mono w.heap.size wt.heap.size w5.heap.size w6.heap.size CI c.item.1 rc W)) hT ho hd rfl rfl (by decide) ?_ ?_ ((Ext.refl _).alloc _) ⟨wz.heap.size,rfl,hx.size,heap_alloc_new _ _⟩
       · intro j hj hji hlj
         match j,hj,hlj with
         | 0,_,_=>decide
         | 1,_,_=>decide
         | 2,_,_=>decide
         | 3,_,_=>decide
         | 4,_,_=>decide
         | 5,_,_=>decide
         | 6,_,_=>exact absurd rfl hji
         | 7,_,hlj=>exact absurd (dep (hT.shut 7 _ rfl hlj) 6 (by kernel_rfl)) (by rw[hlv];decide)
         | j+8,hj,_=>exact absurd hj (by omega)
       · generalize Act.eval ⟨over Tv U,dd⟩=ev at *;simp[execOp,go_sem]
      | 7,ho,hlv,hd =>
       cases oi ho;obtain⟨q,e0,hq,hblk⟩:∃ q:Nat,U 10=some (.pointer (some ⟨q,0,none⟩))∧wt.heap.size≤q∧wz.heap[q]?=some (.cells #[.slice none 0 0,.int .i64 0,.int .i64 0,.slice none 0 0,.slice none 0 0,.slice none 0 0,.slice none 0 0] 56 (0,0)):=hT.facts 6 (by decide) (dep hd 6 (by kernel_rfl)) (fun c e=>by injection e with e;subst e;exact hlv);have v0:Act.eval ⟨over Tv U,dd⟩ (.tmp 10)=_:=eval_new (t:=Tv) (d:=dd) e0 (by show 10<Tv.size;omega);obtain⟨y,e1,h1,h2,h3,h4⟩:PNE w5.heap.size ⟨[c.item.1],rc,[]⟩ (U 83) wz:=hT.facts 5 (by decide) (dep hd 5 (by kernel_rfl)) (fun c e=>by injection e with e;subst e;exact hlv);have v1:Act.eval ⟨over Tv U,dd⟩ (.tmp 83)=_:=eval_new (t:=Tv) (d:=dd) e1 (by show 83<Tv.size;omega);have hb9:=But.setRow q wz y.cells.toArray;refine tb_store (w':=wz.setRow q y.cells.toArray) hT ho hd rfl rfl (exec_store_row 56 (.tmp 10) (.tmp 83) rfl q _ v0 v1 56 _ hblk (entInfo y) rfl (entOne y)) (hx.rowSet hq _) ⟨(q,y),e0,Nat.le_trans HMt.out hq,setRow_heap _ _ _ _ _ _ hblk,eEntO.but h1 (h4 q _ _ hblk) hb9,h2,h3⟩ ?_;intro j hj hji hlj hcj hR
       match j,hj,hR with
       | 0,_,hR=>exact hR
       | 1,_,hR=>exact hR
       | 2,_,_=>exact absurd rfl (hcj 7 rfl).1
       | 3,_,_=>exact absurd rfl (hcj 7 rfl).1
       | 4,_,hR=>exact hR
       | 5,_,_=>exact absurd rfl (hcj 7 rfl).1
       | 6,_,_=>exact absurd rfl (hcj 7 rfl).1
       | 7,_,_=>exact absurd rfl hji
       | j+8,hj,_=>exact absurd hj (by omega)
      | i+8,ho,_,_=>exact absurd ho (by simp)
    intro U wz hex hout hfin;obtain⟨W10,f10,hW10⟩:=hfin 7 (by decide) rfl
    change U 10=_ at f10
    have XE:=Hi hex;clear hex hfin;rw[over_list];simp(disch:=decide) only[overL,Nat.reduceAdd,hout,Option.getD_none];rw[f10];simp only[Option.getD_some];clear hout f10;obtain⟨hv1,hv2,hv3,hv4,hv5⟩:=hW10;obtain⟨V10,Y⟩:=W10;have HXu:=Hi (HXt.out.trans XE.out);have HNMu:=Hi (HNMt.out.ext XE.out);have HCu:=Hi (XE.out.blockAt HCt.out);have HYI:Hid (EntO wz Y):=Hi hv3;have HYB:Hid (wz.heap[V10]?=some (.cells Y.cells.toArray 56 (0,0))):=Hi hv2;have HYE1:Hid (Y.ent=⟨[c.item.1],rc,[]⟩):=Hi hv5;have HYF:Hid (eEntO.From w0.heap.size Y):=Hi (eEntO.mono hv4 HX5.out.size);have HYE:Hid (∀ q,(Value.slice b.eA nv b.ec).ownBlock=some q→eEntO.Off q Y):=Hi (fun q hq=>eEntO.frm hv4 (own_lt HNM5.out.own.e.own q (by rw[HNV.out];exact hq)));have HYO:Hid (∀ q,(Value.slice b.oA b.outl.length b.oc).ownBlock=some q→eEntO.Off q Y):=Hi (fun q hq=>eEntO.frm hv4 (own_lt HNM5.out.own.o.own q hq));have HYS:Hid (∀ q,(Value.slice b.aA b.assets.length b.ac).ownBlock=some q→eEntO.Off q Y):=Hi (fun q hq=>eEntO.frm hv4 (own_lt HNM5.out.own.s.own q hq));have HYG:Hid (eEntO.Off g Y):=Hi (eEntO.frm hv4 (blk_lt HNM5.out.row));have HYP:Hid (∀ y∈b.ents,Apart y Y):=Hi (fun y hy=>apart_new (HNM5.out.own.e.ins y hy) hv4);have H5B:Hid (b.cells.toArray[5]?=some (.slice b.eA nv b.ec)):=Hi (by rw[HCB.out];exact H5'.out);have HVF:Hid (∀ (b2:BankL) (vv:Value),b2.cells.toArray=b.cells.toArray.setIfInBounds 5 vv→∃ A n c,vv=.slice A n c):=Hi (fun b2 vv h=>by have h2:b2.cells.toArray[5]?=some vv:=(by rw[h,Array.getElem?_setIfInBounds,if_pos rfl,if_pos (by show 5<7;omega)]);exact⟨b2.eA,b2.ents.length,b2.ec,by injection h2 with h2;exact h2.symm⟩)
    have HROW0:Hid (PCk w0.heap.size g w.heap.size CC b V10 Y wz):=Hi ⟨⟨HNMu.out,HCu.out⟩,HYB.out,HYI.out⟩;clear XE hv1 hv2 hv3 hv4 hv5 HRI HCP hiI hzI hsI hbI HRt HWt HMt;obtain⟨i0,hi,hz2,hs,hb⟩:=info_parts infoEnt;have HZ:=hz;clear hz;have hz:=hz2;obtain⟨wu,rfl⟩:∃ W,W=wz:=⟨_,rfl⟩;go_wp2_with fail
    refine region_tb (by kernel_rfl) (by decide +kernel) (bc22E g k V10) ⟨rfl,rfl,rfl,rfl⟩ 13 bc22D bc22C (RG (bc22L w0.heap.size g w.heap.size nv k V10 CC b Y)) w0 HXu.out (fun i h1 h2=>by
          have h3:12≤i:=h1;have h4:i<13:=h2;obtain rfl:i=12:=by omega
          exact PCk.mono ((Ext.refl _).drew) (HROW0.out)) ?_ ?_
    · intro Tv dd lv U wz i oZ hE ho hlv hd hT;obtain⟨t0,t9,t10,tz⟩:=hE;have hx:=hT.ext;have rX:=RG.ext (bc22L_mono w0.heap.size g w.heap.size nv k V10 CC b Y)
      match i,ho,hlv,hd with
      | 0,ho,hlv,hd=>cases oi ho;exact yl1 hT rX ho hd (.pointer (some ⟨g,0,none⟩)) (od dd hT tz t0)
      | 1,ho,hlv,hd=>cases oi ho;exact yl1 hT rX ho hd (.pointer (some ⟨g,0,none⟩)) (od dd hT tz t0)
      | 2,ho,hlv,hd=>cases oi ho;exact yl1 hT rX ho hd (.pointer (some ⟨g,0,none⟩)) (nw dd hT hd tz 1 85 (.pointer (some ⟨g,0,none⟩)))
      | 3,ho,hlv,hd=>cases oi ho;exact yl1 hT rX ho hd (.pointer (some ⟨g,5,none⟩)) (nw dd hT hd tz 2 86 (.pointer (some ⟨g,0,none⟩)))
      | 4,ho,hlv,hd =>
       cases oi ho;have hnA:lv 8=false:=by
        cases hA:lv 8 with
        | false=>rfl
        | true=>exact absurd (dep (hT.shut 8 _ rfl hA) 4 (by kernel_rfl)) (by rw[hlv];decide)
       have hrow:PCk w0.heap.size g w.heap.size CC b V10 Y wz:=hT.facts 12 (by decide) (hT.past 12 (by decide)) (fun c e=>by injection e with e;subst e;exact hnA);exact yk1 hT rX ho hd (.slice b.eA nv b.ec) (nw dd hT hd tz 3 87 (.pointer (some ⟨g,5,none⟩))) ((cell_of_row _ _ 5 _ _ _ hrow.1.1.row).trans H5B.out)
      | 5,ho,hlv,hd=>cases oi ho;exact yl1 hT rX ho hd (.int .i64 (k:Int)) (od dd hT tz t9)
      | 6,ho,hlv,hd =>
       cases oi ho;have v0:=od dd hT tz t10;have hnA:lv 8=false:=by
        cases hA:lv 8 with
        | false=>rfl
        | true=>exact absurd (dep (hT.shut 7 _ rfl (dep (hT.shut 8 _ rfl hA) 7 (by kernel_rfl))) 6 (by kernel_rfl)) (by rw[hlv];decide)
       have hrow:PCk w0.heap.size g w.heap.size CC b V10 Y wz:=hT.facts 12 (by decide) (hT.past 12 (by decide)) (fun c e=>by injection e with e;subst e;exact hnA);exact yxe hT rX ho hd Y.agg (exec_load_row _ _ rfl V10 v0 _ _ _ _ hrow.2.1 Tryz.underlying56 rfl (entInfo Y))
      | 7,ho,hlv,hd =>
       cases oi ho;have v0:=nw dd hT hd tz 6 90 (Y.agg);have hnA:lv 8=false:=by
        cases hA:lv 8 with
        | false=>rfl
        | true=>exact absurd (dep (hT.shut 8 _ rfl hA) 7 (by kernel_rfl)) (by rw[hlv];decide)
       have hrow:PCk w0.heap.size g w.heap.size CC b V10 Y wz:=hT.facts 12 (by decide) (hT.past 12 (by decide)) (fun c e=>by injection e with e;subst e;exact hnA);refine tbw_yield (v:=.slice (some ⟨wz.heap.size,0,none⟩) 1 1) (RG.ext (bc22L_mono w0.heap.size g w.heap.size nv k V10 CC b Y)) hT ho hd (wanted_plain rfl) rfl (by decide) (by decide) (exec_buildOne 28 56 (.tmp 90) rfl v0 Tryz.underlying28 hi hz hs (by decide) (by decide) (by simp[EntL.agg,Value.cells])) ((Ext.refl _).alloc _) (POl.made rfl (own_lt (by have h:=hrow.1.1.own.e.own;rw[HNV.out]at h;exact h)))
      | 8,ho,hlv,hd =>
       cases oi ho;have v0:=nw dd hT hd tz 4 88 (.slice b.eA nv b.ec);have v1:=nw dd hT hd tz 5 89 (.int .i64 (k:Int));have hnA:lv 8=false:=hlv;have hrow:PCk w0.heap.size g w.heap.size CC b V10 Y wz:=hT.facts 12 (by decide) (hT.past 12 (by decide)) (fun c e=>by injection e with e;subst e;exact hnA);obtain⟨pp,hU,hblk,hoff⟩:POl (.slice b.eA nv b.ec) (Y.cells) 56 (U 91) wz:=hT.facts 7 (by decide) (dep hd 7 (by kernel_rfl)) (fun c e=>by injection e with e;subst e;exact hlv);have v2:Act.eval ⟨over Tv U,dd⟩ (.tmp 91)=_:=eval_new (t:=Tv) (d:=dd) hU (by show 91<Tv.size;omega);refine tb_callX (f:=72) (args:=#[.slice b.eA nv b.ec,.int .i64 (k:Int),.slice (some ⟨pp,0,none⟩) 1 1]) hT ho hd rfl rfl (by decide) (by decide) (exec_call3 rfl rfl v0 v1 v2 ENI.out) ?_;refine(insEnt_any w0.heap.size b.eA b.ec nv k b.ents Y HNV.out pp wz (by have h:=hrow.1.1.own.e;rw[HNV.out]at h;exact h) hx.size hk63 hbe hblk hrow.2.2 (fun q hq=>⟨HYE.out q hq,hoff q hq⟩)).mono ?_;intro e w' hr0;have hr:RetIns eEntO wz w0.heap.size (.slice b.eA b.ents.length b.ec) b.ents Y k e w':=(by rw[HNV.out];exact hr0);obtain⟨A2,c2,rfl,hn2,hkb⟩:=hrow.1.1.insE hr (by rw[HNV.out];exact hk63) HYF.out HYP.out HYO.out HYS.out HYG.out;refine⟨_,rfl,hr.ext w0 hx (fun q hq=>own_ge hrow.1.1.own.e.own q hq),⟨_,_,rfl,insBank b _ _ k Y,hkb _ _ _ _ (by decide) hrow.1.1.row,hn2.own,hn2.off,hkb _ _ _ _ (by decide) hrow.1.2,by rw[setE_cells,ins_len _ _ (by rw[HNV.out];exact hk63)]⟩,?_⟩;intro j hj hji hlj hcj hR
       match j,hj,hR with
       | 0,_,hR=>exact hR
       | 1,_,hR=>exact hR
       | 2,_,hR=>exact hR
       | 3,_,hR=>exact hR
       | 4,_,hR=>exact hR
       | 5,_,hR=>exact hR
       | 6,_,hR=>exact hR
       | 7,_,_=>exact absurd rfl (hcj 8 rfl).1
       | 8,_,_=>exact absurd rfl hji
       | 9,_,hR=>exact hR
       | 10,_,hR=>exact hR
       | 11,_,_=>exact absurd (dep (hT.shut 11 _ rfl hlj) 8 (by kernel_rfl)) (by rw[hlv];decide)
       | 12,_,_=>exact absurd rfl (hcj 8 rfl).1
       | j+13,hj,_=>exact absurd hj (by omega)
      | 9,ho,hlv,hd=>cases oi ho;exact yl1 hT rX ho hd (.pointer (some ⟨g,0,none⟩)) (nw dd hT hd tz 0 84 (.pointer (some ⟨g,0,none⟩)))
      | 10,ho,hlv,hd=>cases oi ho;exact yl1 hT rX ho hd (.pointer (some ⟨g,5,none⟩)) (nw dd hT hd tz 9 93 (.pointer (some ⟨g,0,none⟩)))
      | 11,ho,hlv,hd =>
       cases oi ho;have v0:=nw dd hT hd tz 10 94 (.pointer (some ⟨g,5,none⟩));obtain⟨b2,vv,hU,hF,hrw,hown2,hoff2,hcc,hcs⟩:PBi w0.heap.size g w.heap.size CC b 5 (fun b2:BankL=>b2.bank={ b.bank with ents:=b.bank.ents.take k ++ Y.ent :: b.bank.ents.drop k }) (U 92) wz:=hT.facts 8 (by decide) (dep hd 8 (by kernel_rfl)) (fun c e=>by injection e with e;subst e;exact hlv);have v1:Act.eval ⟨over Tv U,dd⟩ (.tmp 92)=_:=eval_new (t:=Tv) (d:=dd) hU (by show 92<Tv.size;omega);obtain⟨A2,n2,c2,rfl⟩:=HVF.out _ _ hcs;have hc:=(cell_of_row _ _ 5 _ _ _ hrw).trans H5B.out;have hfz:=frozen_of_row _ _ 5 _ _ hrw;refine tb_store (w':=wz.setCell ⟨g,5,none⟩ (.slice A2 n2 c2)) hT ho hd rfl rfl ?_ (hx.setCell HBG.out _) (PBs.of hF (Nm.mk hrw hown2 hoff2) hcc HNE.out hcs) ?_
       · generalize Act.eval ⟨over Tv U,dd⟩=ev at *;simp[execOp,v0,v1,go_sem,hc,hfz]
       · intro j hj hji hlj hcj hR
         match j,hj,hR with
         | 0,_,hR=>exact hR
         | 1,_,hR=>exact hR
         | 2,_,hR=>exact hR
         | 3,_,hR=>exact hR
         | 4,_,hR=>exact hR
         | 5,_,hR=>exact hR
         | 6,_,hR=>exact hR
         | 7,_,_=>exact absurd (dep hd 8 (by kernel_rfl)) (by rw[(hcj 8 rfl).2];decide)
         | 8,_,_=>exact absurd rfl (hcj 11 rfl).1
         | 9,_,hR=>exact hR
         | 10,_,hR=>exact hR
         | 11,_,_=>exact absurd rfl hji
         | 12,_,_=>exact absurd (dep hd 8 (by kernel_rfl)) (by rw[(hcj 8 rfl).2];decide)
         | j+13,hj,_=>exact absurd hj (by omega)
      | i+12,ho,_,_=>exact absurd ho (by simp)
    intro U wz hex hout hfin;have PS:PBs w0.heap.size g w.heap.size CC (fun b2:BankL=>b2.bank={ b.bank with ents:=b.bank.ents.take k ++ Y.ent :: b.bank.ents.drop k }) wz:=hfin 11 (by decide) rfl;have XE:=Hi hex;clear hex hfin;rw[over_list];simp(disch:=decide) only[overL,Nat.reduceAdd,hout,Option.getD_none];clear hout;obtain⟨b2,hF,hn5,-⟩:=PS;have HF:=Hi hF;have HN5:=Hi hn5;clear hF hn5;go_wp2;go_ret;refine⟨by rw[HZ.out.1];rfl,⟨b2,?_,HN5.out⟩,XE.out⟩;have h:=HF.out;rw[HZ.out.2,h,HYE1.out];unfold entI;rw[HK.out]
 · have hkn:¬ (k:Int)<(nv:Int):=(by omega);have HK:Hid (entK b.bank.ents c.item.1.id=k):=Hi (takeWhile_at HLT.out (by show k≤(b.ents.map (·.ent)).length;rw[List.length_map,HNV.out];exact hk63) (fun y hy=>by rw[List.getElem?_eq_none (by show(b.ents.map (·.ent)).length≤k;rw[List.length_map,HNV.out];omega)]at hy;cases hy));have c5:wr.cell? ⟨g,5,none⟩=some (.slice b.eA nv b.ec):=(cell_of_row _ _ 5 _ _ _ HNM8.out.row).trans (by rw[HCB.out];exact H5'.out);go_wp2;go_quiet (fail)
   go_wp2_with fail
   refine wp_gen ?_;rintro wz hwz;have XE:Hid (Ext wr wz):=Hi (by rw[hwz];exact(Ext.refl _).drewN _);clear hwz c5;obtain⟨wt,rfl⟩:∃ W,W=wz:=⟨_,rfl⟩;have HXt:=Hi (HX8.out.trans XE.out);have HNMt:=Hi (HNM8.out.ext XE.out);have HCt:=Hi (XE.out.blockAt HC8.out);have HXWt:=Hi (HE.out.trans XE.out);have HWt:=Hi (HW7.out.ext HXWt.out);have HRt:Hid (wt.heap[w6.heap.size]?=some (.cells W.cells.toArray 54 (0,0))):=Hi (by rw[HCR.out];exact HXWt.out.blockAt HR7.out);have HMt:=Hi (Nat.le_trans H75.out HXWt.out.size);have HRI:Hid (wt.rangeAt w.heap.size 7 CI.toList):=Hi (rngC HCt.out HIS.out);have HCP:Hid (∀ (W:World),Ext wt W→Calls Tryz.prog 43 #[.agg CI] W fun e w'=>RetItT W c.item.1 e w'∧Ext W w'):=Hi (fun W hx=>by rw[← HIA.out];exact bcopyItemT_any c.item.1 c.item.2 W (HIT.out.ext (HXt.out.trans hx)) HCZ.out.item);obtain⟨i1,hiI,hzI,hsI,hbI⟩:=info_parts infoIt;clear XE HE HXWt HNM8 HC8 HX8;go_wp2_with fail
   refine region_tb (by kernel_rfl) (by decide +kernel) (bc21E w.heap.size w6.heap.size) ⟨rfl,rfl,rfl⟩ 8 bc21D bc21C (RG (bc21L w.heap.size wt.heap.size w5.heap.size w6.heap.size CI c.item.1 rc W)) wt (Ext.refl _) (fun i h1 h2=>absurd h2 (Nat.not_lt.2 h1)) ?_ ?_
   · intro Tv dd lv U wz i oZ hE ho hlv hd hT;obtain⟨t3,t7,tz⟩:=hE;have hx:=hT.ext;have rX:=RG.ext (bc21L_mono w.heap.size wt.heap.size w5.heap.size w6.heap.size CI c.item.1 rc W)
     match i,ho,hlv,hd with
     | 0,ho,hlv,hd=>cases oi ho;exact yl1 hT rX ho hd (.pointer (some ⟨w.heap.size,7,none⟩)) (od dd hT tz t3)
     | 1,ho,hlv,hd=>cases oi ho;have v0:=nw dd hT hd tz 0 78 (.pointer (some ⟨w.heap.size,7,none⟩));exact yxe hT rX ho hd (.agg CI) (exec_load_arr _ _ rfl w.heap.size (7) v0 CI _ (hx.range HRI.out) Tryz.underlying39 rfl II.out)
     | 2,ho,hlv,hd=>cases oi ho;have v0:=nw dd hT hd tz 1 79 (.agg CI);refine cl hT rX ho hd (f:=43) (args:=#[.agg CI]) (exec_call1 rfl rfl v0 ENC.out) ?_;refine(HCP.out wz hx).mono ?_;rintro e w' ⟨⟨L,rfl,h1,h2,h3⟩,hb⟩;exact⟨_,rfl,hb,L,rfl,h1,eIt.mono h2 hx.size,h3⟩
     | 3,ho,hlv,hd=>cases oi ho;obtain⟨L,e0,h1,h2,h3⟩:PNI wt.heap.size c.item.1 (U 80) wz:=hT.facts 2 (by decide) (dep hd 2 (by kernel_rfl)) (fun c e=>by injection e with e;subst e;cases hl:lv 7 with | false=>rfl | true=>exact absurd (dep (hT.shut 5 _ rfl (dep (hT.shut 7 _ rfl hl) 5 (by kernel_rfl))) 3 (by kernel_rfl)) (by rw[hlv];decide));have v0:Act.eval ⟨over Tv U,dd⟩ (.tmp 80)=_:=eval_new (t:=Tv) (d:=dd) e0 (by show 80<Tv.size;omega);refine tbw_yield (v:=.slice (some ⟨wz.heap.size,0,none⟩) 1 1) (RG.ext (bc21L_mono w.heap.size wt.heap.size w5.heap.size w6.heap.size CI c.item.1 rc W)) hT ho hd (wanted_plain rfl) rfl (by decide) (by decide) (exec_buildOne 51 39 (.tmp 80) rfl v0 Tryz.underlying51 hiI hzI hsI (by decide) (by decide) rfl) ((Ext.refl _).alloc _) (PON.made hx.size h1 h2 h3)
     | 4,ho,hlv,hd=>cases oi ho;have v0:=od dd hT tz t7;exact yxe hT rX ho hd W.agg (exec_load_row _ _ rfl w6.heap.size v0 _ _ _ _ (hx.blockAt HRt.out) Tryz.underlying54 rfl (rvInfo W))
     | 5,ho,hlv,hd=>cases oi ho;have v1:=nw dd hT hd tz 4 82 (W.agg);obtain⟨L,p,e0,h1,h2,h3,h4,h5⟩:PON wt.heap.size c.item.1 (U 81) wz:=hT.facts 3 (by decide) (dep hd 3 (by kernel_rfl)) (fun c e=>by injection e with e;subst e;cases hl:lv 7 with | false=>rfl | true=>exact absurd (dep (hT.shut 7 _ rfl hl) 5 (by kernel_rfl)) (by rw[hlv];decide));have v0:Act.eval ⟨over Tv U,dd⟩ (.tmp 81)=_:=eval_new (t:=Tv) (d:=dd) e0 (by show 81<Tv.size;omega);exact yxe hT rX ho hd ((EntL.one p (c.item.1,L) W).agg) (exec_buildL 56 _ rfl [(0,.slice (some ⟨p,0,none⟩) 1 1),(1,W.agg)] (by simp[v0,v1]) _ (by kernel_rfl)) (hR:=⟨EntL.one p (c.item.1,L) W,rfl,one_in HWt.out.inn hx h1 h2 h3 (h5.off h2 (by decide) (by decide)),one_from HWF.out HMt.out h4 h1,by rw[one_ent,HWR.out],one_offT HWt.out hx h2 h5⟩)
     | 6,ho,hlv,hd =>
      cases oi ho;refine tb_extW (v:=.pointer (some ⟨wz.heap.size,0,none⟩)) (w':=wz.alloc (.cells #[.slice none 0 0,.int .i64 0,.int .i64 0,.slice none 0 0,.slice none 0 0,.slice none 0 0,.slice none 0 0] 56)) (RG.ext (bc21L_mono w.heap.size wt.heap.size w5.heap.size w6.heap.size CI c.item.1 rc W)) hT ho hd rfl rfl (by decide) ?_ ?_ ((Ext.refl _).alloc _) ⟨wz.heap.size,rfl,hx.size,heap_alloc_new _ _⟩
      · intro j hj hji hlj
        match j,hj,hlj with
        | 0,_,_=>decide
        | 1,_,_=>decide
        | 2,_,_=>decide
        | 3,_,_=>decide
        | 4,_,_=>decide
        | 5,_,_=>decide
        | 6,_,_=>exact absurd rfl hji
        | 7,_,hlj=>exact absurd (dep (hT.shut 7 _ rfl hlj) 6 (by kernel_rfl)) (by rw[hlv];decide)
        | j+8,hj,_=>exact absurd hj (by omega)
      · generalize Act.eval ⟨over Tv U,dd⟩=ev at *;simp[execOp,go_sem]
     | 7,ho,hlv,hd =>
      cases oi ho;obtain⟨q,e0,hq,hblk⟩:∃ q:Nat,U 10=some (.pointer (some ⟨q,0,none⟩))∧wt.heap.size≤q∧wz.heap[q]?=some (.cells #[.slice none 0 0,.int .i64 0,.int .i64 0,.slice none 0 0,.slice none 0 0,.slice none 0 0,.slice none 0 0] 56 (0,0)):=hT.facts 6 (by decide) (dep hd 6 (by kernel_rfl)) (fun c e=>by injection e with e;subst e;exact hlv);have v0:Act.eval ⟨over Tv U,dd⟩ (.tmp 10)=_:=eval_new (t:=Tv) (d:=dd) e0 (by show 10<Tv.size;omega);obtain⟨y,e1,h1,h2,h3,h4⟩:PNE w5.heap.size ⟨[c.item.1],rc,[]⟩ (U 83) wz:=hT.facts 5 (by decide) (dep hd 5 (by kernel_rfl)) (fun c e=>by injection e with e;subst e;exact hlv);have v1:Act.eval ⟨over Tv U,dd⟩ (.tmp 83)=_:=eval_new (t:=Tv) (d:=dd) e1 (by show 83<Tv.size;omega);have hb9:=But.setRow q wz y.cells.toArray;refine tb_store (w':=wz.setRow q y.cells.toArray) hT ho hd rfl rfl (exec_store_row 56 (.tmp 10) (.tmp 83) rfl q _ v0 v1 56 _ hblk (entInfo y) rfl (entOne y)) (hx.rowSet hq _) ⟨(q,y),e0,Nat.le_trans HMt.out hq,setRow_heap _ _ _ _ _ _ hblk,eEntO.but h1 (h4 q _ _ hblk) hb9,h2,h3⟩ ?_;intro j hj hji hlj hcj hR
      match j,hj,hR with
      | 0,_,hR=>exact hR
      | 1,_,hR=>exact hR
      | 2,_,_=>exact absurd rfl (hcj 7 rfl).1
      | 3,_,_=>exact absurd rfl (hcj 7 rfl).1
      | 4,_,hR=>exact hR
      | 5,_,_=>exact absurd rfl (hcj 7 rfl).1
      | 6,_,_=>exact absurd rfl (hcj 7 rfl).1
      | 7,_,_=>exact absurd rfl hji
      | j+8,hj,_=>exact absurd hj (by omega)
     | i+8,ho,_,_=>exact absurd ho (by simp)
   intro U wz hex hout hfin;obtain⟨W10,f10,hW10⟩:=hfin 7 (by decide) rfl
   change U 10=_ at f10
   have XE:=Hi hex;clear hex hfin;rw[over_list];simp(disch:=decide) only[overL,Nat.reduceAdd,hout,Option.getD_none];rw[f10];simp only[Option.getD_some];clear hout f10;obtain⟨hv1,hv2,hv3,hv4,hv5⟩:=hW10;obtain⟨V10,Y⟩:=W10;have HXu:=Hi (HXt.out.trans XE.out);have HNMu:=Hi (HNMt.out.ext XE.out);have HCu:=Hi (XE.out.blockAt HCt.out);have HYI:Hid (EntO wz Y):=Hi hv3;have HYB:Hid (wz.heap[V10]?=some (.cells Y.cells.toArray 56 (0,0))):=Hi hv2;have HYE1:Hid (Y.ent=⟨[c.item.1],rc,[]⟩):=Hi hv5;have HYF:Hid (eEntO.From w0.heap.size Y):=Hi (eEntO.mono hv4 HX5.out.size);have HYE:Hid (∀ q,(Value.slice b.eA nv b.ec).ownBlock=some q→eEntO.Off q Y):=Hi (fun q hq=>eEntO.frm hv4 (own_lt HNM5.out.own.e.own q (by rw[HNV.out];exact hq)));have HYO:Hid (∀ q,(Value.slice b.oA b.outl.length b.oc).ownBlock=some q→eEntO.Off q Y):=Hi (fun q hq=>eEntO.frm hv4 (own_lt HNM5.out.own.o.own q hq));have HYS:Hid (∀ q,(Value.slice b.aA b.assets.length b.ac).ownBlock=some q→eEntO.Off q Y):=Hi (fun q hq=>eEntO.frm hv4 (own_lt HNM5.out.own.s.own q hq));have HYG:Hid (eEntO.Off g Y):=Hi (eEntO.frm hv4 (blk_lt HNM5.out.row));have HYP:Hid (∀ y∈b.ents,Apart y Y):=Hi (fun y hy=>apart_new (HNM5.out.own.e.ins y hy) hv4);have H5B:Hid (b.cells.toArray[5]?=some (.slice b.eA nv b.ec)):=Hi (by rw[HCB.out];exact H5'.out);have HVF:Hid (∀ (b2:BankL) (vv:Value),b2.cells.toArray=b.cells.toArray.setIfInBounds 5 vv→∃ A n c,vv=.slice A n c):=Hi (fun b2 vv h=>by have h2:b2.cells.toArray[5]?=some vv:=(by rw[h,Array.getElem?_setIfInBounds,if_pos rfl,if_pos (by show 5<7;omega)]);exact⟨b2.eA,b2.ents.length,b2.ec,by injection h2 with h2;exact h2.symm⟩)
   have HROW0:Hid (PCk w0.heap.size g w.heap.size CC b V10 Y wz):=Hi ⟨⟨HNMu.out,HCu.out⟩,HYB.out,HYI.out⟩;clear XE hv1 hv2 hv3 hv4 hv5 HRI HCP hiI hzI hsI hbI HRt HWt HMt;obtain⟨i0,hi,hz2,hs,hb⟩:=info_parts infoEnt;have HZ:=hz;clear hz;have hz:=hz2;obtain⟨wu,rfl⟩:∃ W,W=wz:=⟨_,rfl⟩;go_wp2_with fail
   refine region_tb (by kernel_rfl) (by decide +kernel) (bc22E g k V10) ⟨rfl,rfl,rfl,rfl⟩ 13 bc22D bc22C (RG (bc22L w0.heap.size g w.heap.size nv k V10 CC b Y)) w0 HXu.out (fun i h1 h2=>by
         have h3:12≤i:=h1;have h4:i<13:=h2;obtain rfl:i=12:=by omega
         exact PCk.mono ((Ext.refl _).drew) (HROW0.out)) ?_ ?_
   · intro Tv dd lv U wz i oZ hE ho hlv hd hT;obtain⟨t0,t9,t10,tz⟩:=hE;have hx:=hT.ext;have rX:=RG.ext (bc22L_mono w0.heap.size g w.heap.size nv k V10 CC b Y)
     match i,ho,hlv,hd with
     | 0,ho,hlv,hd=>cases oi ho;exact yl1 hT rX ho hd (.pointer (some ⟨g,0,none⟩)) (od dd hT tz t0)
     | 1,ho,hlv,hd=>cases oi ho;exact yl1 hT rX ho hd (.pointer (some ⟨g,0,none⟩)) (od dd hT tz t0)
     | 2,ho,hlv,hd=>cases oi ho;exact yl1 hT rX ho hd (.pointer (some ⟨g,0,none⟩)) (nw dd hT hd tz 1 85 (.pointer (some ⟨g,0,none⟩)))
     | 3,ho,hlv,hd=>cases oi ho;exact yl1 hT rX ho hd (.pointer (some ⟨g,5,none⟩)) (nw dd hT hd tz 2 86 (.pointer (some ⟨g,0,none⟩)))
     | 4,ho,hlv,hd =>
      cases oi ho;have hnA:lv 8=false:=by
       cases hA:lv 8 with
       | false=>rfl
       | true=>exact absurd (dep (hT.shut 8 _ rfl hA) 4 (by kernel_rfl)) (by rw[hlv];decide)
      have hrow:PCk w0.heap.size g w.heap.size CC b V10 Y wz:=hT.facts 12 (by decide) (hT.past 12 (by decide)) (fun c e=>by injection e with e;subst e;exact hnA);exact yk1 hT rX ho hd (.slice b.eA nv b.ec) (nw dd hT hd tz 3 87 (.pointer (some ⟨g,5,none⟩))) ((cell_of_row _ _ 5 _ _ _ hrow.1.1.row).trans H5B.out)
     | 5,ho,hlv,hd=>cases oi ho;exact yl1 hT rX ho hd (.int .i64 (k:Int)) (od dd hT tz t9)
     | 6,ho,hlv,hd =>
      cases oi ho;have v0:=od dd hT tz t10;have hnA:lv 8=false:=by
       cases hA:lv 8 with
       | false=>rfl
       | true=>exact absurd (dep (hT.shut 7 _ rfl (dep (hT.shut 8 _ rfl hA) 7 (by kernel_rfl))) 6 (by kernel_rfl)) (by rw[hlv];decide)
      have hrow:PCk w0.heap.size g w.heap.size CC b V10 Y wz:=hT.facts 12 (by decide) (hT.past 12 (by decide)) (fun c e=>by injection e with e;subst e;exact hnA);exact yxe hT rX ho hd Y.agg (exec_load_row _ _ rfl V10 v0 _ _ _ _ hrow.2.1 Tryz.underlying56 rfl (entInfo Y))
     | 7,ho,hlv,hd =>
      cases oi ho;have v0:=nw dd hT hd tz 6 90 (Y.agg);have hnA:lv 8=false:=by
       cases hA:lv 8 with
       | false=>rfl
       | true=>exact absurd (dep (hT.shut 8 _ rfl hA) 7 (by kernel_rfl)) (by rw[hlv];decide)
      have hrow:PCk w0.heap.size g w.heap.size CC b V10 Y wz:=hT.facts 12 (by decide) (hT.past 12 (by decide)) (fun c e=>by injection e with e;subst e;exact hnA);refine tbw_yield (v:=.slice (some ⟨wz.heap.size,0,none⟩) 1 1) (RG.ext (bc22L_mono w0.heap.size g w.heap.size nv k V10 CC b Y)) hT ho hd (wanted_plain rfl) rfl (by decide) (by decide) (exec_buildOne 28 56 (.tmp 90) rfl v0 Tryz.underlying28 hi hz hs (by decide) (by decide) (by simp[EntL.agg,Value.cells])) ((Ext.refl _).alloc _) (POl.made rfl (own_lt (by have h:=hrow.1.1.own.e.own;rw[HNV.out]at h;exact h)))
     | 8,ho,hlv,hd =>
      cases oi ho;have v0:=nw dd hT hd tz 4 88 (.slice b.eA nv b.ec);have v1:=nw dd hT hd tz 5 89 (.int .i64 (k:Int));have hnA:lv 8=false:=hlv;have hrow:PCk w0.heap.size g w.heap.size CC b V10 Y wz:=hT.facts 12 (by decide) (hT.past 12 (by decide)) (fun c e=>by injection e with e;subst e;exact hnA);obtain⟨pp,hU,hblk,hoff⟩:POl (.slice b.eA nv b.ec) (Y.cells) 56 (U 91) wz:=hT.facts 7 (by decide) (dep hd 7 (by kernel_rfl)) (fun c e=>by injection e with e;subst e;exact hlv);have v2:Act.eval ⟨over Tv U,dd⟩ (.tmp 91)=_:=eval_new (t:=Tv) (d:=dd) hU (by show 91<Tv.size;omega);refine tb_callX (f:=72) (args:=#[.slice b.eA nv b.ec,.int .i64 (k:Int),.slice (some ⟨pp,0,none⟩) 1 1]) hT ho hd rfl rfl (by decide) (by decide) (exec_call3 rfl rfl v0 v1 v2 ENI.out) ?_;refine(insEnt_any w0.heap.size b.eA b.ec nv k b.ents Y HNV.out pp wz (by have h:=hrow.1.1.own.e;rw[HNV.out]at h;exact h) hx.size hk63 hbe hblk hrow.2.2 (fun q hq=>⟨HYE.out q hq,hoff q hq⟩)).mono ?_;intro e w' hr0;have hr:RetIns eEntO wz w0.heap.size (.slice b.eA b.ents.length b.ec) b.ents Y k e w':=(by rw[HNV.out];exact hr0);obtain⟨A2,c2,rfl,hn2,hkb⟩:=hrow.1.1.insE hr (by rw[HNV.out];exact hk63) HYF.out HYP.out HYO.out HYS.out HYG.out;refine⟨_,rfl,hr.ext w0 hx (fun q hq=>own_ge hrow.1.1.own.e.own q hq),⟨_,_,rfl,insBank b _ _ k Y,hkb _ _ _ _ (by decide) hrow.1.1.row,hn2.own,hn2.off,hkb _ _ _ _ (by decide) hrow.1.2,by rw[setE_cells,ins_len _ _ (by rw[HNV.out];exact hk63)]⟩,?_⟩;intro j hj hji hlj hcj hR
      match j,hj,hR with
      | 0,_,hR=>exact hR
      | 1,_,hR=>exact hR
      | 2,_,hR=>exact hR
      | 3,_,hR=>exact hR
      | 4,_,hR=>exact hR
      | 5,_,hR=>exact hR
      | 6,_,hR=>exact hR
      | 7,_,_=>exact absurd rfl (hcj 8 rfl).1
      | 8,_,_=>exact absurd rfl hji
      | 9,_,hR=>exact hR
      | 10,_,hR=>exact hR
      | 11,_,_=>exact absurd (dep (hT.shut 11 _ rfl hlj) 8 (by kernel_rfl)) (by rw[hlv];decide)
      | 12,_,_=>exact absurd rfl (hcj 8 rfl).1
      | j+13,hj,_=>exact absurd hj (by omega)
     | 9,ho,hlv,hd=>cases oi ho;exact yl1 hT rX ho hd (.pointer (some ⟨g,0,none⟩)) (nw dd hT hd tz 0 84 (.pointer (some ⟨g,0,none⟩)))
     | 10,ho,hlv,hd=>cases oi ho;exact yl1 hT rX ho hd (.pointer (some ⟨g,5,none⟩)) (nw dd hT hd tz 9 93 (.pointer (some ⟨g,0,none⟩)))
     | 11,ho,hlv,hd =>
      cases oi ho;have v0:=nw dd hT hd tz 10 94 (.pointer (some ⟨g,5,none⟩));obtain⟨b2,vv,hU,hF,hrw,hown2,hoff2,hcc,hcs⟩:PBi w0.heap.size g w.heap.size CC b 5 (fun b2:BankL=>b2.bank={ b.bank with ents:=b.bank.ents.take k ++ Y.ent :: b.bank.ents.drop k }) (U 92) wz:=hT.facts 8 (by decide) (dep hd 8 (by kernel_rfl)) (fun c e=>by injection e with e;subst e;exact hlv);have v1:Act.eval ⟨over Tv U,dd⟩ (.tmp 92)=_:=eval_new (t:=Tv) (d:=dd) hU (by show 92<Tv.size;omega);obtain⟨A2,n2,c2,rfl⟩:=HVF.out _ _ hcs;have hc:=(cell_of_row _ _ 5 _ _ _ hrw).trans H5B.out;have hfz:=frozen_of_row _ _ 5 _ _ hrw;refine tb_store (w':=wz.setCell ⟨g,5,none⟩ (.slice A2 n2 c2)) hT ho hd rfl rfl ?_ (hx.setCell HBG.out _) (PBs.of hF (Nm.mk hrw hown2 hoff2) hcc HNE.out hcs) ?_
      · generalize Act.eval ⟨over Tv U,dd⟩=ev at *;simp[execOp,v0,v1,go_sem,hc,hfz]
      · intro j hj hji hlj hcj hR
        match j,hj,hR with
        | 0,_,hR=>exact hR
        | 1,_,hR=>exact hR
        | 2,_,hR=>exact hR
        | 3,_,hR=>exact hR
        | 4,_,hR=>exact hR
        | 5,_,hR=>exact hR
        | 6,_,hR=>exact hR
        | 7,_,_=>exact absurd (dep hd 8 (by kernel_rfl)) (by rw[(hcj 8 rfl).2];decide)
        | 8,_,_=>exact absurd rfl (hcj 11 rfl).1
        | 9,_,hR=>exact hR
        | 10,_,hR=>exact hR
        | 11,_,_=>exact absurd rfl hji
        | 12,_,_=>exact absurd (dep hd 8 (by kernel_rfl)) (by rw[(hcj 8 rfl).2];decide)
        | j+13,hj,_=>exact absurd hj (by omega)
     | i+12,ho,_,_=>exact absurd ho (by simp)
   intro U wz hex hout hfin;have PS:PBs w0.heap.size g w.heap.size CC (fun b2:BankL=>b2.bank={ b.bank with ents:=b.bank.ents.take k ++ Y.ent :: b.bank.ents.drop k }) wz:=hfin 11 (by decide) rfl;have XE:=Hi hex;clear hex hfin;rw[over_list];simp(disch:=decide) only[overL,Nat.reduceAdd,hout,Option.getD_none];clear hout;obtain⟨b2,hF,hn5,-⟩:=PS;have HF:=Hi hF;have HN5:=Hi hn5;clear hF hn5;go_wp2;go_ret;refine⟨by rw[HZ.out.1];rfl,⟨b2,?_,HN5.out⟩,XE.out⟩;have h:=HF.out;rw[HZ.out.2,h,HYE1.out];unfold entI;rw[HK.out]
end Bk
end Go.Proofs.YtfnmgcblhebdbaaGreatDoor
