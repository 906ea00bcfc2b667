/- bank.suits, bank.setModel: contracts. Conditions: those of each theorem. -/
import Derived.Test.YtfnmgcblhebdbaaGreatDoorZ30
import Derived.Test.YtfnmgcblhebdbaaGreatDoorZ32
import Derived.Test.YtfnmgcblhebdbaaGreatDoorZ18
import Derived.Test.YtfnmgcblhebdbaaGreatDoorZ25
import Derived.Test.YtfnmgcblhebdbaaGreatDoorZ35
namespace Go.Proofs.YtfnmgcblhebdbaaGreatDoor
set_option maxRecDepth 100000
set_option maxHeartbeats 12800000
open Go.RowKit
namespace Bk
def suitE (np:Nat)(kind pts:Int)(rows:List (List Int)):Int :=
 if kind=6 then 19 else if Rw.mdlE rows (np:Int)≠0 then Rw.mdlE rows (np:Int)else if((rows.getD 0 []).length:Int)≠IntKind.i64.wrap (pts+1)then 19 else 0
theorem mdl_pos{rows:List (List Int)}{n:Int}(h:Rw.mdlE rows n=0):1≤rows.length:=by
 unfold Rw.mdlE at h;split at h
 · cases h
 · rename_i h1
   omega
theorem slx_L{w:World}{A:Option Addr}{xs:List IL}(h:SlX eIL w A xs):SlL w A xs:=⟨h.sl,h.ins⟩
def su6L (n1 _n2:Nat)(MC:Array Value)(vc pts:Int):List (Option Value→World→Prop):=sl [.agg MC,.int .i64 vc,.pointer (some ⟨n1,9,none⟩),.int .i64 pts,.int .i64 (IntKind.i64.wrap (pts+1)),.bool (vc != IntKind.i64.wrap (pts+1))]
def su6D:List Nat:=[20,21,22,23,24,25]
def su6E (n1 n2:Nat)(t:Array Value):Prop:=t.getD 4 undef=.pointer (some ⟨n1,0,none⟩)∧t.getD 5 undef=.pointer (some ⟨n2,0,none⟩)∧t.size=26

theorem suits_any(CB CI:Array Value)(gA mA:Option Addr)(gc mc np n:Nat)(ls:List IL)(kd pt:Int)(hb1:CB[1]?=some (.slice gA np gc))(hi2:CI[2]?=some (.int .i64 kd))(hi9:CI[9]?=some (.int .i64 pt))(hn:ls.length=n)(w:World)(h:SlX eIL w mA ls)(hn48:n≤140737488355328){v:Int}(hv:suitE np kd pt (ls.map (·.xs))=v) :
    Calls Tryz.prog 79 #[.agg CB,.agg CI,.agg #[.slice mA n mc]] w fun e w'=>e=.returned (.int .i64 v)∧Ext w w':=by
 obtain⟨MC,hmc⟩:∃ C:Array Value,#[.slice mA n mc]=C:=⟨_,rfl⟩;have X0:Hid (Ext w (((w.alloc (.cells CB 31)).alloc (.cells CI 39)).alloc (.cells MC 46))):=Hi ((((Ext.refl _).alloc _).alloc _).alloc _);have HB0:Hid ((((w.alloc (.cells CB 31)).alloc (.cells CI 39)).alloc (.cells MC 46)).heap[w.heap.size]?=some (.cells CB 31 (0,0))):=Hi (Ext.blockAt ((Ext.refl _).alloc _) (two_fst' _ _ _));have HI0:Hid ((((w.alloc (.cells CB 31)).alloc (.cells CI 39)).alloc (.cells MC 46)).heap[w.heap.size+1]?=some (.cells CI 39 (0,0))):=Hi (Ext.blockAt ((Ext.refl _).alloc _) (heap_new_at _ _ _ (by simp)));have HM0:Hid ((((w.alloc (.cells CB 31)).alloc (.cells CI 39)).alloc (.cells MC 46)).heap[w.heap.size+1+1]?=some (.cells MC 46 (0,0))):=Hi (heap_new_at _ _ _ (by simp));have IM:Hid ((Tryz.prog.info? 46).map (·.size)=some MC.size):=Hi (infoMd (by rw[← hmc];rfl));have c2:(((w.alloc (.cells CB 31)).alloc (.cells CI 39)).alloc (.cells MC 46)).cell? ⟨w.heap.size+1,2,none⟩=some (.int .i64 kd):=(cell_of_row _ _ 2 _ _ _ HI0.out).trans hi2;have c1:(((w.alloc (.cells CB 31)).alloc (.cells CI 39)).alloc (.cells MC 46)).cell? ⟨w.heap.size,1,none⟩=some (.slice gA np gc):=(cell_of_row _ _ 1 _ _ _ HB0.out).trans hb1;have HI9:=Hi hi9;have HV:=Hi hv;obtain⟨u1,hu1⟩:∃ u,Rw.mdlE (Rw.xss ls) (np:Int)=u:=⟨_,rfl⟩;obtain⟨cn,hcn⟩:∃ u,((Rw.xss ls).getD 0 []).length=u:=⟨_,rfl⟩;have HU1:=Hi hu1;have HCN:=Hi hcn;have HN:=Hi hn;have HMC:=Hi hmc;have K:=Hi (fun(W:World) (hx:Ext w W)=>kmdl_any mA mc ls hn (np:Int) hu1 W (slx_L (h.ext hx)) hn48);have K2:=Hi (fun(W:World) (hx:Ext w W) (h1:1≤n)=>kcats_any mA mc ls hn hcn W (slx_L (h.ext hx)) h1 hn48);rw[hmc]at K K2 ⊢;have ENK:=Hi (enters_of Tryz.func116 (by kernel_rfl) rfl);clear hb1 hi2 hi9 hn h hv hu1 hcn hmc;go_enter Tryz.func79,Tryz.ntmps79
 by_cases hk:kd=6
 · have hz:Hid (v=19):=Hi (by rw[← HV.out];unfold suitE;rw[if_pos hk]);have t1:(kd == 6)=true:=(by rw[beq_iff_eq];exact hk);clear hk;go_wp2;go_ret;exact⟨by rw[hz.out];rfl,X0.out⟩
 have t1:(kd == 6)=false:=by rw[beq_eq_false_iff_ne];exact hk
 have HK:=Hi hk;clear hk;go_wp2_with (with_reducible refine wpList_load_row rfl 46 (.tmp 5) rfl (w.heap.size+1+1) (by with_unfolding_all rfl) _ MC _ _ HM0.out Tryz.underlying46 rfl IM.out ?_)
 with_reducible refine(K.out _ X0.out).mono ?_
 rintro e w1 ⟨rfl,hb⟩;have X1:=Hi (X0.out.trans hb);have HI1:=Hi (hb.blockAt HI0.out);have HM1:=Hi (hb.blockAt HM0.out);clear hb c1 c2;by_cases hu:u1=0;case neg =>
  have hz:Hid (v=u1):=Hi (by rw[← HV.out];unfold suitE;rw[if_neg HK.out,show Rw.mdlE (ls.map (·.xs)) (np:Int)=u1 from HU1.out,if_pos hu]);go_wp2;go_ret;exact⟨by rw[hz.out];rfl,X1.out⟩
 case pos =>
 subst hu;have hpos:1≤n:=by have:=mdl_pos HU1.out;rw[Rw.xss_len,HN.out]at this;exact this
 have HVV:Hid (v=if((cn:Int)≠IntKind.i64.wrap (pt+1))then 19 else 0):=Hi (by rw[← HV.out];unfold suitE;rw[if_neg HK.out,show Rw.mdlE (ls.map (·.xs)) (np:Int)=0 from HU1.out,if_neg (by simp),show((ls.map (·.xs)).getD 0 []).length=cn from HCN.out]);have HM2:=HM1;have HCT:Hid (∀ (W:World),Ext w1 W→Calls Tryz.prog 116 #[.agg MC] W fun e w'=>e=.returned (.int .i64 (cn:Int))∧Ext W w'):=Hi (fun W hx=>K2.out W (X1.out.trans hx) hpos);have HP9:Hid (w1.cell? ⟨w.heap.size+1,9,none⟩=some (.int .i64 pt)):=Hi ((cell_of_row _ _ 9 _ _ _ HI1.out).trans HI9.out);go_wp2_with fail
 refine region_tb (by kernel_rfl) (by decide +kernel) (su6E (w.heap.size+1) (w.heap.size+1+1)) ⟨rfl,rfl,rfl⟩ 6 su6D (fun _=>none) (RG (su6L (w.heap.size+1) (w.heap.size+1+1) MC ((cn:Int)) pt)) w1 (Ext.refl _) (fun i h1 h2=>absurd h2 (Nat.not_lt.2 h1)) ?_ ?_
 · intro Tv dd lv U wz i oZ hE ho hlv hd hT;obtain⟨t4,t5,tz⟩:=hE;have hx:=hT.ext;have rX:=RG.ext (l:=su6L (w.heap.size+1) (w.heap.size+1+1) MC ((cn:Int)) pt) (sl_mono _)
   match i,ho,hlv,hd with
   | 0,ho,hlv,hd=>cases oi ho;have v0:=od dd hT tz t5;exact yxe hT rX ho hd (.agg MC) (exec_load_row _ _ rfl (w.heap.size+1+1) v0 _ _ _ _ (hx.blockAt HM2.out) Tryz.underlying46 rfl IM.out)
   | 1,ho,hlv,hd=>cases oi ho;have v0:=nw dd hT hd tz 0 20 (.agg MC);refine cl hT rX ho hd (f:=116) (args:=#[.agg MC]) (exec_call1 rfl rfl v0 ENK.out) ?_;refine(HCT.out wz hx).mono ?_;rintro e w' ⟨rfl,hb⟩;exact⟨_,rfl,hb,rfl⟩
   | 2,ho,hlv,hd=>cases oi ho;exact yl1 hT rX ho hd (.pointer (some ⟨w.heap.size+1,9,none⟩)) (od dd hT tz t4)
   | 3,ho,hlv,hd=>cases oi ho;exact yk1 hT rX ho hd (.int .i64 pt) (nw dd hT hd tz 2 22 (.pointer (some ⟨w.heap.size+1,9,none⟩))) (hx.keep HP9.out)
   | 4,ho,hlv,hd=>cases oi ho;have v1:Act.eval ⟨over Tv U,dd⟩ (.const (.int .i64 1))=.int .i64 1:=rfl;exact yl2 hT rX ho hd (.int .i64 (IntKind.i64.wrap (pt+1))) (nw dd hT hd tz 3 23 (.int .i64 pt)) v1
   | 5,ho,hlv,hd=>cases oi ho;exact yl2 hT rX ho hd (.bool ((cn:Int) != IntKind.i64.wrap (pt+1))) (nw dd hT hd tz 1 21 (.int .i64 (cn:Int))) (nw dd hT hd tz 4 24 (.int .i64 (IntKind.i64.wrap (pt+1))))
   | i+6,ho,_,_=>exact absurd ho (by simp)
 intro U wz hex hout hfin;have f25:U 25=some (.bool ((cn:Int) != IntKind.i64.wrap (pt+1))):=hfin 5 (by decide) rfl;have XE:=Hi hex;clear hex hfin;rw[over_list];simp(disch:=decide) only[overL,Nat.reduceAdd,hout,Option.getD_none];rw[f25];simp only[Option.getD_some];clear hout f25;by_cases hc:(cn:Int)=IntKind.i64.wrap (pt+1)
 · have t2:((cn:Int) != IntKind.i64.wrap (pt+1))=false:=(by rw[bne_eq_false_iff_eq];exact hc);have hz:Hid (v=0):=Hi (by rw[HVV.out,if_neg (fun h=>h hc)]);rw[t2];clear hc;go_wp2;go_ret;exact⟨by rw[hz.out];rfl,X1.out.trans XE.out⟩
 · have t2:((cn:Int) != IntKind.i64.wrap (pt+1))=true:=(by rw[bne_iff_ne];exact hc);have hz:Hid (v=19):=Hi (by rw[HVV.out,if_pos hc]);rw[t2];clear hc;go_wp2;go_ret;exact⟨by rw[hz.out];rfl,X1.out.trans XE.out⟩
end Bk
set_option maxRecDepth 100000
set_option maxHeartbeats 12800000
open Go.RowKit
namespace Bk
def EntL.withMd (e:EntL)(A:Option Addr)(c:Nat)(ys:List IL):EntL:={ e with rA:=A,rc:=c,rows:=ys }
theorem withMd_ent(e:EntL)(A:Option Addr)(c:Nat)(ys:List IL):(e.withMd A c ys).ent={ e.ent with rows:=ys.map (·.xs) }:=rfl
theorem off_md{e:EntL}{A:Option Addr}{c:Nat}{ys:List IL}{M q:Nat}(hf:FromX eIL M A ys)(hq:q<M)(h:eEntO.Off q e):eEntO.Off q (e.withMd A c ys):=⟨⟨h.1.vs,h.1.ap,h.1.fa,h.1.log,hf.off hq⟩,h.2⟩
theorem in_md{e:EntL}{A:Option Addr}{c:Nat}{ys:List IL}{M:Nat}{w:World}(h:eEntO.In w e)(hr:SlX eIL w A ys)(hc:ys.length≤c∧c≤maxLen)(hf:FromX eIL M A ys)(hm:∀ q,e.own=some q→q<M):eEntO.In w (e.withMd A c ys) :=
 ⟨⟨h.inn.vs,h.inn.vc,h.inn.st,h.inn.au,h.inn.ap,h.inn.fa,h.inn.log,h.inn.lc,hr,hc⟩,h.row,fun q hq=>⟨(h.ov q hq).1,(h.ov q hq).2.1,(h.ov q hq).2.2.1,hf.off (hm q hq)⟩⟩
theorem from_md{e:EntL}{A:Option Addr}{c:Nat}{ys:List IL}{M N:Nat}(h:eEntO.From N e)(hf:FromX eIL M A ys)(hm:N≤M):eEntO.From N (e.withMd A c ys):=⟨⟨h.1.vs,h.1.ap,h.1.fa,h.1.log,hf.mono hm⟩,h.2⟩
theorem apart_md{x e:EntL}{A:Option Addr}{c:Nat}{ys:List IL}{M:Nat}(h:Apart x e)(hf:FromX eIL M A ys)(hm:∀ q,x.own=some q→q<M):Apart x (e.withMd A c ys):=⟨fun q hq=>off_md hf (hm q hq) (h.1 q hq),h.2⟩
theorem Nm.putMd{N g k q:Nat}{CB:Array Value}{b:BankL}{w3 w:World}{e:EntL}{A:Option Addr}{c:Nat}{ys:List IL}(h3:Nm N g CB b w3)(hx:Ext w3 w)(hN:N≤w3.heap.size)(hq:b.eA=some ⟨q,0,none⟩)(hk:b.ents[k]?=some e)(hr:SlX eIL w A ys)(hc:ys.length≤c∧c≤maxLen)(hf:FromX eIL w3.heap.size A ys) :
    Nm N g CB (b.setE b.eA b.ec (b.ents.set k (e.withMd A c ys))) (w.setCells q (k*7+6) [.slice A ys.length c]):=by
 have h:=h3.ext hx;have hin:=h.own.e.ins e (List.mem_of_getElem? hk);have hm:∀ x∈b.ents,∀ q,x.own=some q→q<w3.heap.size:=fun x hx q hq=>own_lt (h3.own.e.ins x hx).row.own q hq;have hmem:=List.mem_of_getElem? hk;have hqe:(Value.slice b.eA b.ents.length b.ec).ownBlock=some q:=by rw[hq];rfl
 refine h.putE hq hk (in_md hin hr hc hf (hm e hmem)) (off_md hf (own_lt h3.own.e.own q hqe) (h.own.e.off q hqe e hmem)) (from_md (h.own.ef e hmem) hf hN) (fun j x hj hx=>apart_md (h.own.pw.at_ hj hx hk) hf (hm x (List.mem_of_getElem? hx))) (fun p hp=>off_md hf (own_lt h3.own.o.own p hp) (h.own.eo e hmem p hp)) (fun p hp=>off_md hf (own_lt h3.own.s.own p hp) (h.own.es e hmem p hp)) (off_md hf (blk_lt h3.row) (h.off e hmem)) (by show 6+1≤7;omega) (fun i v h1 h2 hv=>?_) (fun i v h1 hv=>?_)
 · have h2:i<7:=h2;obtain rfl:i=6:=by omega
   exact hv
 · have h1:i<6∨7≤i:=h1
   match i,h1,hv with
   | 0,_,hv=>exact hv
   | 1,_,hv=>exact hv
   | 2,_,hv=>exact hv
   | 3,_,hv=>exact hv
   | 4,_,hv=>exact hv
   | 5,_,hv=>exact hv
   | 6,h1,_=>omega
   | i+7,_,hv=>simp[EntL.withMd,EntL.cells]at hv
def setE (b:Bank)(c:Cmd):Int×List Ent :=
 if hasR c.roles 8=false then(9,b.ents)else
 match fnd b.ents c.id with
 | none=>(6,b.ents)
 | some k =>
  match b.ents[k]? with
  | none=>(6,b.ents)
  | some e =>
   match e.vers[e.vers.length-1]? with
   | none=>(6,b.ents)
   | some l =>
    if e.rev.st≠4∧e.rev.st≠5∧e.rev.st≠6 then(8,b.ents)
    else if suitE b.pts.length l.kind l.pts c.rows≠0 then(suitE b.pts.length l.kind l.pts c.rows,b.ents)
    else(0,b.ents.set k { e with rows:=c.rows })
theorem setE_role{b:Bank}{c:Cmd}(h:hasR c.roles 8=false):setE b c=(9,b.ents):=by unfold setE;rw[if_pos h]
theorem setE_none{b:Bank}{c:Cmd}(h0:hasR c.roles 8=true)(h:fnd b.ents c.id=none):setE b c=(6,b.ents):=by unfold setE;rw[if_neg (by rw[h0];simp),h]
theorem setE_some{b:Bank}{c:Cmd}{k:Nat}{e:Ent}{l:It.Item}(h0:hasR c.roles 8=true)(h:fnd b.ents c.id=some k)(he:b.ents[k]?=some e)(hl:e.vers[e.vers.length-1]?=some l):setE b c =
    if e.rev.st≠4∧e.rev.st≠5∧e.rev.st≠6 then(8,b.ents)
    else if suitE b.pts.length l.kind l.pts c.rows≠0 then(suitE b.pts.length l.kind l.pts c.rows,b.ents)
    else(0,b.ents.set k { e with rows:=c.rows }):=by
 unfold setE;rw[if_neg (by rw[h0];simp)];simp only[h,he,hl]
def as1L (g n:Nat)(CB:Array Value)(id vf:Int):List (Option Value→World→Prop):=sl [.pointer (some ⟨g,0,none⟩),.pointer (some ⟨g,0,none⟩),.agg CB,.pointer (some ⟨n,4,none⟩),.int .i64 id,.int .i64 vf,.int .i64 vf]
def as1D:List Nat:=[12,13,14,15,16,17,5]
def as1E (g n:Nat)(t:Array Value):Prop:=t.getD 0 undef=.pointer (some ⟨g,0,none⟩)∧t.getD 3 undef=.pointer (some ⟨n,0,none⟩)∧t.size=68

def as10L (g n qe kk mm bv ov vc mc nl:Nat)(mA:Option Addr)(er:Int)(CB CI:Array Value):List (Option Value→World→Prop):=sl [.pointer (some ⟨g,0,none⟩),.pointer (some ⟨g,0,none⟩),.agg CB,.pointer (some ⟨qe,kk*7,none⟩),.pointer (some ⟨qe,kk*7,none⟩),.pointer (some ⟨qe,kk*7,none⟩),.slice (some ⟨bv,ov,none⟩) mm vc,.pointer (some ⟨qe,kk*7,none⟩),.pointer (some ⟨qe,kk*7,none⟩),.pointer (some ⟨qe,kk*7,none⟩),.slice (some ⟨bv,ov,none⟩) mm vc,.int .i64 (mm:Int),.int .i64 ((mm:Int)-1),.pointer (some ⟨bv,ov+(mm-1)*17,none⟩),.agg CI,.pointer (some ⟨n,31,none⟩),.agg #[.slice mA nl mc],.int .i64 er,.int .i64 er]
def as10D:List Nat:=[41,42,43,44,45,46,47,48,49,50,51,52,53,54,55,56,57,58,8]
def as10E (g n qe kk:Nat)(t:Array Value):Prop:=t.getD 0 undef=.pointer (some ⟨g,0,none⟩)∧t.getD 3 undef=.pointer (some ⟨n,0,none⟩)∧t.getD 6 undef=.pointer (some ⟨qe,kk*7,none⟩)∧t.size=68

theorem setModel_any(w0:World)(b:BankL)(g:Nat)(c:CmdL)(CC:Array Value)(w:World)(hx0:Ext w0 w)(hg:w0.heap.size≤g)(hn:Nm w0.heap.size g b.cells.toArray b w)(hcc:c.cells.toArray=CC)(hci:c.In w0)(hcz:CmdSz c.cmd){v:Int}{o:List Ent}(hv:setE b.bank c.cmd=(v,o)) :
    Calls Tryz.prog 36 #[.pointer (some ⟨g,0,none⟩),.agg CC] w fun e w'=>e=.returned (.int .i64 v)∧RetNx w0 g (fun b2=>b2.bank={ b.bank with ents:=o }) w':=by
 have HNE:Hid (w.heap.size≠g):=Hi (by have:=blk_lt hn.row;omega);have XA:Hid (Ext w (w.alloc (.cells CC 48))):=Hi ((Ext.refl w).alloc _);have HX0:=Hi (hx0.trans XA.out);have HNM0:=Hi (hn.ext XA.out);have HC0:Hid ((w.alloc (.cells CC 48)).heap[w.heap.size]?=some (.cells CC 48 (0,0))):=Hi (heap_alloc_new w _);obtain⟨CB,hcb⟩:∃ C,b.cells.toArray=C:=⟨_,rfl⟩;have IB:Hid ((Tryz.prog.info? 31).map (·.size)=some CB.size):=Hi (infoBk (by rw[← hcb];rfl));have IC:Hid ((Tryz.prog.info? 48).map (·.size)=some CC.size):=Hi (infoCm (by rw[← hcc];rfl));have HCR:Hid (CC[2]?=some (.int .i64 c.roles)):=Hi (by rw[← hcc];rfl);have HC4:Hid (CC[4]?=some (.int .i64 c.id)):=Hi (by rw[← hcc];rfl);have HBG:Hid (w0.heap.size≤g):=Hi hg;have HV:=Hi hv;have ENF:=Hi (enters_of Tryz.func38 (by kernel_rfl) rfl);have ENS:=Hi (enters_of Tryz.func79 (by kernel_rfl) rfl);obtain⟨vf,hvf⟩:∃ v,ixV (fnd (b.ents.map (·.ent)) c.id)=v:=⟨_,rfl⟩;have HVF:=Hi hvf;have hbag:b.agg=.agg CB:=by rw[← hcb];rfl
 have HBG2:=Hi hbag;have HCB:=Hi hcb;obtain⟨nl,hnl⟩:∃ n,c.rows.length=n:=⟨_,rfl⟩;have HNL:=Hi hnl;have H31:Hid (CC[31]?=some (.slice c.mA nl c.mc)):=Hi (by rw[← hcc,← hnl];rfl);have IM:Hid ((Tryz.prog.info? 46).map (·.size)=some (#[.slice c.mA nl c.mc]:Array Value).size):=Hi (infoMd rfl);have HMD:Hid (SlX eIL w0 c.mA c.rows):=Hi hci.rows;have HMZ:Hid (nl*24≤140737488355328):=Hi (by have h:=hcz.rows;unfold CmdL.cmd at h;rw[List.length_map,hnl]at h;exact h);have HMR2:Hid (∀ r∈c.rows,r.xs.length*8≤140737488355328):=Hi (fun r hr=>hcz.row r.xs (List.mem_map.2 ⟨r,hr,rfl⟩));have H2:Hid (CC[2]?=some (.int .i64 c.roles)):=HCR;obtain⟨u0,hu0⟩:∃ u,hasR c.roles 8=u:=⟨_,rfl⟩;have HU0:=Hi hu0;clear hnl hu0 hx0 hg hn hcc hci hv hcz hcb hvf hbag;go_enter Tryz.func36,Tryz.ntmps36
 go_wp2_with (with_reducible refine wpList_load_row rfl 48 (.tmp 3) rfl (w.heap.size) (by with_unfolding_all rfl) _ CC _ _ HC0.out Tryz.underlying48 rfl IC.out ?_)
 with_reducible refine(has_any CC c.roles 8 HU0.out H2.out _).mono ?_
 rintro e w1 ⟨rfl,hb1⟩;have HX1:=Hi (HX0.out.trans hb1);have HNM1:=Hi (HNM0.out.ext hb1);have HC1:=Hi (hb1.blockAt HC0.out);clear hb1;cases u0 with
 | false=>have hz:Hid (v=9∧o=b.bank.ents):=Hi (by have h:=HV.out;rw[setE_role (b:=b.bank) (c:=c.cmd) (show hasR c.cmd.roles 8=false from HU0.out)]at h;injection h with h1 h2;exact⟨h1.symm,h2.symm⟩);go_wp2;go_ret;exact⟨by rw[hz.out.1];rfl,⟨b,by rw[hz.out.2],HNM1.out⟩,HX1.out⟩
 | true =>
 have HB1:Hid (w1.heap[g]?=some (.cells CB 31 (0,0))):=Hi (by rw[← HCB.out];exact HNM1.out.row);have CID:Hid (w1.cell? ⟨w.heap.size,4,none⟩=some (.int .i64 c.id)):=Hi ((cell_of_row _ _ 4 _ _ _ HC1.out).trans HC4.out);have HFD:=Hi (fun(W:World) (hx:Ext w1 W)=>bfind_any b c.id HVF.out W ((HNM1.out.ext hx).own.in_));rw[HBG2.out]at HFD;go_wp2_with fail
 refine region_tb (by kernel_rfl) (by decide +kernel) (as1E g w.heap.size) ⟨rfl,rfl,rfl⟩ 7 as1D (fun _=>none) (RG (as1L g w.heap.size CB c.id vf)) w1 (Ext.refl _) (fun i h1 h2=>absurd h2 (Nat.not_lt.2 h1)) ?_ ?_
 · intro Tv dd lv U wz i oZ hE ho hlv hd hT;obtain⟨t0,t3,tz⟩:=hE;have hx:=hT.ext;have rX:=RG.ext (l:=as1L g w.heap.size CB c.id vf) (sl_mono _)
   match i,ho,hlv,hd with
   | 0,ho,hlv,hd=>cases oi ho;exact yl1 hT rX ho hd (.pointer (some ⟨g,0,none⟩)) (od dd hT tz t0)
   | 1,ho,hlv,hd=>cases oi ho;exact yl1 hT rX ho hd (.pointer (some ⟨g,0,none⟩)) (nw dd hT hd tz 0 12 (.pointer (some ⟨g,0,none⟩)))
   | 2,ho,hlv,hd=>cases oi ho;have v0:=nw dd hT hd tz 1 13 (.pointer (some ⟨g,0,none⟩));exact yxe hT rX ho hd (.agg CB) (exec_load_row _ _ rfl g v0 _ _ _ _ (hx.blockAt HB1.out) Tryz.underlying31 rfl IB.out)
   | 3,ho,hlv,hd=>cases oi ho;exact yl1 hT rX ho hd (.pointer (some ⟨w.heap.size,4,none⟩)) (od dd hT tz t3)
   | 4,ho,hlv,hd=>cases oi ho;exact yk1 hT rX ho hd (.int .i64 c.id) (nw dd hT hd tz 3 15 (.pointer (some ⟨w.heap.size,4,none⟩))) (hx.keep CID.out)
   | 5,ho,hlv,hd=>cases oi ho;have v0:=nw dd hT hd tz 2 14 (.agg CB);have v1:=nw dd hT hd tz 4 16 (.int .i64 c.id);refine cl hT rX ho hd (f:=38) (args:=#[.agg CB,.int .i64 c.id]) (exec_call2 rfl rfl v0 v1 ENF.out) ?_;refine(HFD.out wz hx).mono ?_;rintro e w' ⟨rfl,hb⟩;exact⟨_,rfl,hb,rfl⟩
   | 6,ho,hlv,hd=>cases oi ho;exact yl1 hT rX ho hd (.int .i64 vf) (nw dd hT hd tz 5 17 (.int .i64 vf))
   | i+7,ho,_,_=>exact absurd ho (by simp)
 intro U wz hex hout hfin;have f5:U 5=some (.int .i64 vf):=hfin 6 (by decide) rfl;have XE:=Hi hex;clear hex hfin;rw[over_list];simp(disch:=decide) only[overL,Nat.reduceAdd,hout,Option.getD_none];rw[f5];simp only[Option.getD_some];clear hout f5;have HXz:=Hi (HX1.out.trans XE.out);have HNMz:=Hi (HNM1.out.ext XE.out);have HCz:=Hi (XE.out.blockAt HC1.out);clear XE HFD CID HB1;obtain⟨fo,hfo⟩:∃ f,fnd b.bank.ents c.id=f:=⟨_,rfl⟩;have HFO:=Hi hfo;cases fo with
 | none =>
  have hz:Hid (v=6∧o=b.bank.ents):=Hi (by have h:=HV.out;rw[setE_none (b:=b.bank) (c:=c.cmd) (show hasR c.cmd.roles 8=true from HU0.out) (show fnd b.bank.ents c.cmd.id=none from hfo)]at h;injection h with h1 h2;exact⟨h1.symm,h2.symm⟩);have hvm:vf=-1:=by rw[← HVF.out];exact congrArg ixV hfo
  subst hvm;clear hfo;go_wp2;go_ret;exact⟨by rw[hz.out.1];rfl,⟨b,by rw[hz.out.2],HNMz.out⟩,HXz.out⟩
 | some k =>
 have hvk:vf=(k:Int):=by rw[← HVF.out];exact congrArg ixV hfo
 subst hvk;obtain⟨x,l,hx,hxe,hl,-,hpos,hle⟩:=found hfo;obtain⟨q,hq⟩:=rowA HNMz.out.own.e hx;obtain⟨bb,off,hA,hbl,hcx,hin⟩:=HNMz.out.own.e.slx.1.at_ hx;rw[hq]at hA;injection hA with hA;injection hA with hA1 hA2;subst hA1 hA2;rw[Nat.zero_add]at hcx;obtain⟨m,hm⟩:∃ m,x.vs.length=m:=⟨_,rfl⟩;obtain⟨nv,hnv⟩:∃ m,b.ents.length=m:=⟨_,rfl⟩;rw[hm]at hl hpos;obtain⟨bv,ov,hvA,-,hci,hlin⟩:=hin.inn.vs.at_ hl;obtain⟨CI,-,hni,h1i,hki⟩:=itp l;have HX:=Hi hx;have HQ:=Hi hq;have HCX:Hid (wz.rangeAt q (k*7) x.cells):=Hi hcx;have HCI:Hid (wz.rangeAt bv (ov+(m-1)*17) CI.toList):=Hi (by rw[← hki];exact hci);have II:=Hi (infoItem hni);have CIP:Hid (CI[9]?=some (.int .i64 l.1.pts)):=Hi (by rw[← hki];rfl);have CIK:Hid (CI[2]?=some (.int .i64 l.1.kind)):=Hi (by rw[← hki];rfl);have CV0:Hid (wz.cell? ⟨q,k*7,none⟩=some (.slice (some ⟨bv,ov,none⟩) m x.vc)):=Hi (by have h:=hcx 0 _ rfl;rw[hvA,hm]at h;exact h);have hm63:m≤9223372036854775807:=by have h:=hin.inn.vc;unfold maxLen at h;omega
 have KW:Hid (IntKind.i64.wrap ((m:Int)-1)=(m:Int)-1):=Hi (by rw[IntKind.wrap_i64];omega);have KI:Hid ((0:Int)≤(m:Int)-1∧(m:Int)-1<(m:Int)∧((m:Int)-1).toNat=m-1∧¬ (m:Int)<1):=Hi ⟨by omega,by omega,by omega,by omega⟩;have HEIN:Hid (EntO wz x):=Hi hin;have HVV:Hid ((v,o)=if x.st≠4∧x.st≠5∧x.st≠6 then(8,b.bank.ents)
  else if suitE b.bank.pts.length l.1.kind l.1.pts c.cmd.rows≠0 then(suitE b.bank.pts.length l.1.kind l.1.pts c.cmd.rows,b.bank.ents)
  else(0,b.bank.ents.set k { x.ent with rows:=c.cmd.rows })):=Hi (HV.out.symm.trans (setE_some (b:=b.bank) (c:=c.cmd) (show hasR c.cmd.roles 8=true from HU0.out) hfo hxe hle))
 have c5:wz.cell? ⟨g,5,none⟩=some (.slice (some ⟨q,0,none⟩) nv b.ec):=(cell_of_row _ _ 5 _ _ _ HNMz.out.row).trans (by rw[← hq,← hnv];rfl);have cs:wz.cell? ⟨q,k*7+1,none⟩=some (.int .i64 x.st):=hcx 1 _ rfl;have ki0:(0:Int)≤(k:Int):=by omega
 have hkn:k<nv:=by rw[← hnv];exact(List.getElem?_eq_some_iff.1 hx).1
 have ki1:(k:Int)<(nv:Int):=by omega
 have hk0:¬ (k:Int)<0:=by omega
 clear hx hq hcx hci hni h1i hki hlin hin hvA hl hm hfo hxe hle hnv;by_cases hs:x.st≠4∧x.st≠5∧x.st≠6
 · have hz:Hid (v=8∧o=b.bank.ents):=Hi (by have h:=HVV.out;rw[if_pos hs]at h;injection h with h1 h2;exact⟨h1,h2⟩);obtain⟨h1,h2,h3⟩:=hs;have t1:(x.st != 4)=true:=(by rw[bne_iff_ne];exact h1);have t2:(x.st != 5)=true:=(by rw[bne_iff_ne];exact h2);have t3:(x.st != 6)=true:=(by rw[bne_iff_ne];exact h3);clear h1 h2 h3;go_wp2;go_ret;exact⟨by rw[hz.out.1];rfl,⟨b,by rw[hz.out.2],HNMz.out⟩,HXz.out⟩
 have HVW:Hid ((v,o)=if suitE b.bank.pts.length l.1.kind l.1.pts c.cmd.rows≠0 then(suitE b.bank.pts.length l.1.kind l.1.pts c.cmd.rows,b.bank.ents)
  else(0,b.bank.ents.set k { x.ent with rows:=c.cmd.rows })):=Hi (by have h:=HVV.out;rw[if_neg hs]at h;exact h)
 have hcase:(x.st != 4)=false∨((x.st != 4)=true∧(x.st != 5)=false)∨((x.st != 4)=true∧(x.st != 5)=true∧(x.st != 6)=false):=by
  by_cases h1:x.st=4
  · exact Or.inl (by rw[bne_eq_false_iff_eq];exact h1)
  · by_cases h2:x.st=5
    · exact Or.inr (Or.inl ⟨by rw[bne_iff_ne];exact h1,by rw[bne_eq_false_iff_eq];exact h2⟩)
    · exact Or.inr (Or.inr ⟨by rw[bne_iff_ne];exact h1,by rw[bne_iff_ne];exact h2,by rw[bne_eq_false_iff_eq];rcases Decidable.em (x.st=6)with h3 | h3;exact h3;exact absurd ⟨h1,h2,h3⟩ hs⟩)
 clear hs;obtain⟨np,hnp⟩:∃ n,b.gp.xs.length=n:=⟨_,rfl⟩;have HBy:Hid (wz.heap[g]?=some (.cells CB 31 (0,0))):=Hi (by rw[← HCB.out];exact HNMz.out.row);have HMR:Hid (wz.rangeAt w.heap.size 31 (#[.slice c.mA nl c.mc]:Array Value).toList):=Hi (rngC HCz.out (fun j u hu=>by
  match j,hu with
  | 0,hu=>rw[← hu];exact H31.out
  | j+1,hu=>simp at hu))
 obtain⟨er,her⟩:∃ r,suitE np l.1.kind l.1.pts (c.rows.map (·.xs))=r:=⟨_,rfl⟩;have HER:Hid (suitE b.bank.pts.length l.1.kind l.1.pts c.cmd.rows=er):=Hi (by rw[← her,← hnp];rfl);rw[HER.out]at HVW;have hb1:CB[1]?=some (.slice b.gp.A np b.gp.c):=by rw[← HCB.out,← hnp];rfl
 have HSU:Hid (∀ (W:World),Ext wz W→Calls Tryz.prog 79 #[.agg CB,.agg CI,.agg #[.slice c.mA nl c.mc]] W fun e w'=>e=.returned (.int .i64 er)∧Ext W w'):=Hi (fun W hx=>suits_any CB CI b.gp.A c.mA b.gp.c c.mc np nl c.rows l.1.kind l.1.pts hb1 CIK.out CIP.out HNL.out W (HMD.out.ext (HXz.out.trans hx)) (by have:=HMZ.out;omega) her);have HNW:Hid (w0.heap.size≤wz.heap.size):=Hi HXz.out.size;clear her hnp hb1;obtain⟨w1z,rfl⟩:∃ W,W=wz:=⟨_,rfl⟩;rcases hcase with t1 | ⟨t1,t2⟩ | ⟨t1,t2,t3⟩
 · go_wp2;clear c5 cs;go_wp2_with fail
   refine region_tb (by kernel_rfl) (by decide +kernel) (as10E g w.heap.size q k) ⟨rfl,rfl,rfl,rfl⟩ 19 as10D (fun _=>none) (RG (as10L g w.heap.size q k m bv ov x.vc c.mc nl c.mA er CB CI)) w1z (Ext.refl _) (fun i h1 h2=>absurd h2 (Nat.not_lt.2 h1)) ?_ ?_
   · intro Tv dd lv U wz i oZ hE ho hlv hd hT;obtain⟨t0,t3,t6,tz⟩:=hE;have hx:=hT.ext;have rX:=RG.ext (l:=as10L g w.heap.size q k m bv ov x.vc c.mc nl c.mA er CB CI) (sl_mono _)
     match i,ho,hlv,hd with
     | 0,ho,hlv,hd=>cases oi ho;exact yl1 hT rX ho hd (.pointer (some ⟨g,0,none⟩)) (od dd hT tz t0)
     | 1,ho,hlv,hd=>cases oi ho;exact yl1 hT rX ho hd (.pointer (some ⟨g,0,none⟩)) (nw dd hT hd tz 0 41 (.pointer (some ⟨g,0,none⟩)))
     | 2,ho,hlv,hd=>cases oi ho;have v0:=nw dd hT hd tz 1 42 (.pointer (some ⟨g,0,none⟩));exact yxe hT rX ho hd (.agg CB) (exec_load_row _ _ rfl g v0 _ _ _ _ (hx.blockAt HBy.out) Tryz.underlying31 rfl IB.out)
     | 3,ho,hlv,hd=>cases oi ho;exact yl1 hT rX ho hd (.pointer (some ⟨q,k*7,none⟩)) (od dd hT tz t6)
     | 4,ho,hlv,hd=>cases oi ho;exact yl1 hT rX ho hd (.pointer (some ⟨q,k*7,none⟩)) (nw dd hT hd tz 3 44 (.pointer (some ⟨q,k*7,none⟩)))
     | 5,ho,hlv,hd=>cases oi ho;exact yl1 hT rX ho hd (.pointer (some ⟨q,k*7,none⟩)) (nw dd hT hd tz 4 45 (.pointer (some ⟨q,k*7,none⟩)))
     | 6,ho,hlv,hd=>cases oi ho;exact yk1 hT rX ho hd (.slice (some ⟨bv,ov,none⟩) m x.vc) (nw dd hT hd tz 5 46 (.pointer (some ⟨q,k*7,none⟩))) (hx.keep CV0.out)
     | 7,ho,hlv,hd=>cases oi ho;exact yl1 hT rX ho hd (.pointer (some ⟨q,k*7,none⟩)) (od dd hT tz t6)
     | 8,ho,hlv,hd=>cases oi ho;exact yl1 hT rX ho hd (.pointer (some ⟨q,k*7,none⟩)) (nw dd hT hd tz 7 48 (.pointer (some ⟨q,k*7,none⟩)))
     | 9,ho,hlv,hd=>cases oi ho;exact yl1 hT rX ho hd (.pointer (some ⟨q,k*7,none⟩)) (nw dd hT hd tz 8 49 (.pointer (some ⟨q,k*7,none⟩)))
     | 10,ho,hlv,hd=>cases oi ho;exact yk1 hT rX ho hd (.slice (some ⟨bv,ov,none⟩) m x.vc) (nw dd hT hd tz 9 50 (.pointer (some ⟨q,k*7,none⟩))) (hx.keep CV0.out)
     | 11,ho,hlv,hd=>cases oi ho;exact yl1 hT rX ho hd (.int .i64 (m:Int)) (nw dd hT hd tz 10 51 (.slice (some ⟨bv,ov,none⟩) m x.vc))
     | 12,ho,hlv,hd=>cases oi ho;have v1:Act.eval ⟨over Tv U,dd⟩ (.const (.int .i64 1))=.int .i64 1:=rfl;exact yk2 hT rX ho hd (.int .i64 ((m:Int)-1)) (nw dd hT hd tz 11 52 (.int .i64 (m:Int))) v1 KW.out
     | 13,ho,hlv,hd=>cases oi ho;exact yk2 hT rX ho hd (.pointer (some ⟨bv,ov+(m-1)*17,none⟩)) (nw dd hT hd tz 6 47 (.slice (some ⟨bv,ov,none⟩) m x.vc)) (nw dd hT hd tz 12 53 (.int .i64 ((m:Int)-1))) KI.out
     | 14,ho,hlv,hd=>cases oi ho;have v0:=nw dd hT hd tz 13 54 (.pointer (some ⟨bv,ov+(m-1)*17,none⟩));exact yxe hT rX ho hd (.agg CI) (exec_load_arr _ _ rfl bv (ov+(m-1)*17) v0 CI _ (hx.range HCI.out) Tryz.underlying39 rfl II.out)
     | 15,ho,hlv,hd=>cases oi ho;exact yl1 hT rX ho hd (.pointer (some ⟨w.heap.size,31,none⟩)) (od dd hT tz t3)
     | 16,ho,hlv,hd=>cases oi ho;have v0:=nw dd hT hd tz 15 56 (.pointer (some ⟨w.heap.size,31,none⟩));exact yxe hT rX ho hd (.agg #[.slice c.mA nl c.mc]) (exec_load_arr _ _ rfl w.heap.size (31) v0 #[.slice c.mA nl c.mc] _ (hx.range HMR.out) Tryz.underlying46 rfl IM.out)
     | 17,ho,hlv,hd=>cases oi ho;have v0:=nw dd hT hd tz 2 43 (.agg CB);have v1:=nw dd hT hd tz 14 55 (.agg CI);have v2:=nw dd hT hd tz 16 57 (.agg #[.slice c.mA nl c.mc]);refine cl hT rX ho hd (f:=79) (args:=#[.agg CB,.agg CI,.agg #[.slice c.mA nl c.mc]]) (exec_call3 rfl rfl v0 v1 v2 ENS.out) ?_;refine(HSU.out wz hx).mono ?_;rintro e w' ⟨rfl,hb⟩;exact⟨_,rfl,hb,rfl⟩
     | 18,ho,hlv,hd=>cases oi ho;exact yl1 hT rX ho hd (.int .i64 er) (nw dd hT hd tz 17 58 (.int .i64 er))
     | i+19,ho,_,_=>exact absurd ho (by simp)
   intro U wz hex hout hfin;have f8:U 8=some (.int .i64 er):=hfin 18 (by decide) rfl;have XE:=Hi hex;clear hex hfin;rw[over_list];simp(disch:=decide) only[overL,Nat.reduceAdd,hout,Option.getD_none];rw[f8];simp only[Option.getD_some];clear hout f8;have HXx:=Hi (HXz.out.trans XE.out);have HNMx:=Hi (HNMz.out.ext XE.out);by_cases he:er=0;case neg =>
    have hz:Hid (v=er∧o=b.bank.ents):=Hi (by have h:=HVW.out;rw[if_pos he]at h;injection h with h1 h2;exact⟨h1,h2⟩);go_wp2;go_ret;exact⟨by rw[hz.out.1];rfl,⟨b,by rw[hz.out.2],HNMx.out⟩,HXx.out⟩
   case pos =>
   subst he;have hz:Hid (v=0∧o=b.bank.ents.set k { x.ent with rows:=c.cmd.rows }):=Hi (by have h:=HVW.out;rw[if_neg (by simp)]at h;injection h with h1 h2;exact⟨h1,h2⟩);have HMRx:=Hi (XE.out.range HMR.out);have HCXx:Hid (∀ (j:Nat) (u:Value),x.cells[j]?=some u→wz.cell? ⟨q,k*7+j,none⟩=some u):=Hi (XE.out.range HCX.out);go_wp2_with (with_reducible refine wpList_load_arr rfl 46 (.tmp 63) rfl (w.heap.size) 31 (by with_unfolding_all rfl) #[.slice c.mA nl c.mc] _ HMRx.out Tryz.underlying46 rfl IM.out ?_)
   with_reducible refine(bcopyModel_any c.mA c.mc c.rows HNL.out _ (HMD.out.ext HXx.out) HMZ.out HMR2.out).mono ?_
   rintro e w9 ⟨⟨A9,c9,ys,rfl,hrx,hgt⟩,hb9⟩;obtain⟨hpl,hpf⟩:=hgt.plain;have hyl:ys.length=nl:=by have h:=congrArg List.length hrx;unfold rxs at h;rw[List.length_map,List.length_map]at h;exact h.trans HNL.out
   rw[HNL.out];have HRX:=Hi hrx;have HYL:=Hi hyl;have HX9:=Hi (HXx.out.trans hb9);have HNM9:=Hi (HNMx.out.ext hb9);have hqe:(Value.slice b.eA b.ents.length b.ec).ownBlock=some q:=(by rw[HQ.out];rfl);obtain⟨cq,hbq⟩:=own_block HNM9.out.own.e.own q hqe;have hqge:=own_ge HNM9.out.own.e.own q hqe;have HXf:=Hi (Ext.setCells hqge [.slice A9 nl c9] (k*7+6) w9 HX9.out);have HST1:Hid (∀ j,j<(#[.slice A9 nl c9]:Array Value).toList.length→(w9.cell? ⟨q,k*7+6+j,none⟩).isSome=true):=Hi (fun j hj=>by
    have hj:j<1:=hj;obtain rfl:j=0:=by omega
    have h:=hb9.keep (HCXx.out 6 _ rfl);rw[Nat.add_zero,h];rfl)
   have HST2:Hid (∀ j,j<(#[.slice A9 nl c9]:Array Value).toList.length→w9.frozen? ⟨q,k*7+6+j,none⟩=false):=Hi (fun j _=>frozen_of_row _ _ _ _ _ hbq);have HST3:Hid ((#[.slice A9 nl c9]:Array Value).all (·.oneCell')=true):=Hi (by simp[Value.oneCell']);have IM9:Hid ((Tryz.prog.info? 46).map (·.size)=some (#[.slice A9 nl c9]:Array Value).size):=Hi (infoMd rfl);have hfin:=Nm.putMd HNMx.out hb9 (Nat.le_trans HNW.out XE.out.size) HQ.out HX.out hpl ⟨hgt.le,hgt.mx⟩ hpf;rw[hyl]at hfin;have HFIN:=Hi hfin;clear hqe hbq hqge hfin hpl hpf hgt hrx hyl hb9;go_wp2_with (with_reducible refine wpList_store_at rfl 46 (.tmp 67) (.tmp 65) rfl q (k*7+6) #[.slice A9 nl c9] (by with_unfolding_all rfl) (by with_unfolding_all rfl) IM9.out HST1.out HST2.out HST3.out ?_)
   go_ret;refine⟨by rw[hz.out.1];rfl,⟨_,?_,by rw[putE_cells];exact HFIN.out⟩,HXf.out⟩;rw[hz.out.2];show(⟨b.now,b.gp.xs,b.gq.xs,b.outl,b.assets,(b.ents.set k (x.withMd A9 c9 ys)).map (·.ent),b.enem⟩:Bank)=_;rw[set_map,withMd_ent,show ys.map (·.xs)=c.cmd.rows from HRX.out];rfl
 · go_wp2;clear c5 cs;go_wp2_with fail
   refine region_tb (by kernel_rfl) (by decide +kernel) (as10E g w.heap.size q k) ⟨rfl,rfl,rfl,rfl⟩ 19 as10D (fun _=>none) (RG (as10L g w.heap.size q k m bv ov x.vc c.mc nl c.mA er CB CI)) w1z (Ext.refl _) (fun i h1 h2=>absurd h2 (Nat.not_lt.2 h1)) ?_ ?_
   · intro Tv dd lv U wz i oZ hE ho hlv hd hT;obtain⟨t0,t3,t6,tz⟩:=hE;have hx:=hT.ext;have rX:=RG.ext (l:=as10L g w.heap.size q k m bv ov x.vc c.mc nl c.mA er CB CI) (sl_mono _)
     match i,ho,hlv,hd with
     | 0,ho,hlv,hd=>cases oi ho;exact yl1 hT rX ho hd (.pointer (some ⟨g,0,none⟩)) (od dd hT tz t0)
     | 1,ho,hlv,hd=>cases oi ho;exact yl1 hT rX ho hd (.pointer (some ⟨g,0,none⟩)) (nw dd hT hd tz 0 41 (.pointer (some ⟨g,0,none⟩)))
     | 2,ho,hlv,hd=>cases oi ho;have v0:=nw dd hT hd tz 1 42 (.pointer (some ⟨g,0,none⟩));exact yxe hT rX ho hd (.agg CB) (exec_load_row _ _ rfl g v0 _ _ _ _ (hx.blockAt HBy.out) Tryz.underlying31 rfl IB.out)
     | 3,ho,hlv,hd=>cases oi ho;exact yl1 hT rX ho hd (.pointer (some ⟨q,k*7,none⟩)) (od dd hT tz t6)
     | 4,ho,hlv,hd=>cases oi ho;exact yl1 hT rX ho hd (.pointer (some ⟨q,k*7,none⟩)) (nw dd hT hd tz 3 44 (.pointer (some ⟨q,k*7,none⟩)))
     | 5,ho,hlv,hd=>cases oi ho;exact yl1 hT rX ho hd (.pointer (some ⟨q,k*7,none⟩)) (nw dd hT hd tz 4 45 (.pointer (some ⟨q,k*7,none⟩)))
     | 6,ho,hlv,hd=>cases oi ho;exact yk1 hT rX ho hd (.slice (some ⟨bv,ov,none⟩) m x.vc) (nw dd hT hd tz 5 46 (.pointer (some ⟨q,k*7,none⟩))) (hx.keep CV0.out)
     | 7,ho,hlv,hd=>cases oi ho;exact yl1 hT rX ho hd (.pointer (some ⟨q,k*7,none⟩)) (od dd hT tz t6)
     | 8,ho,hlv,hd=>cases oi ho;exact yl1 hT rX ho hd (.pointer (some ⟨q,k*7,none⟩)) (nw dd hT hd tz 7 48 (.pointer (some ⟨q,k*7,none⟩)))
     | 9,ho,hlv,hd=>cases oi ho;exact yl1 hT rX ho hd (.pointer (some ⟨q,k*7,none⟩)) (nw dd hT hd tz 8 49 (.pointer (some ⟨q,k*7,none⟩)))
     | 10,ho,hlv,hd=>cases oi ho;exact yk1 hT rX ho hd (.slice (some ⟨bv,ov,none⟩) m x.vc) (nw dd hT hd tz 9 50 (.pointer (some ⟨q,k*7,none⟩))) (hx.keep CV0.out)
     | 11,ho,hlv,hd=>cases oi ho;exact yl1 hT rX ho hd (.int .i64 (m:Int)) (nw dd hT hd tz 10 51 (.slice (some ⟨bv,ov,none⟩) m x.vc))
     | 12,ho,hlv,hd=>cases oi ho;have v1:Act.eval ⟨over Tv U,dd⟩ (.const (.int .i64 1))=.int .i64 1:=rfl;exact yk2 hT rX ho hd (.int .i64 ((m:Int)-1)) (nw dd hT hd tz 11 52 (.int .i64 (m:Int))) v1 KW.out
     | 13,ho,hlv,hd=>cases oi ho;exact yk2 hT rX ho hd (.pointer (some ⟨bv,ov+(m-1)*17,none⟩)) (nw dd hT hd tz 6 47 (.slice (some ⟨bv,ov,none⟩) m x.vc)) (nw dd hT hd tz 12 53 (.int .i64 ((m:Int)-1))) KI.out
     | 14,ho,hlv,hd=>cases oi ho;have v0:=nw dd hT hd tz 13 54 (.pointer (some ⟨bv,ov+(m-1)*17,none⟩));exact yxe hT rX ho hd (.agg CI) (exec_load_arr _ _ rfl bv (ov+(m-1)*17) v0 CI _ (hx.range HCI.out) Tryz.underlying39 rfl II.out)
     | 15,ho,hlv,hd=>cases oi ho;exact yl1 hT rX ho hd (.pointer (some ⟨w.heap.size,31,none⟩)) (od dd hT tz t3)
     | 16,ho,hlv,hd=>cases oi ho;have v0:=nw dd hT hd tz 15 56 (.pointer (some ⟨w.heap.size,31,none⟩));exact yxe hT rX ho hd (.agg #[.slice c.mA nl c.mc]) (exec_load_arr _ _ rfl w.heap.size (31) v0 #[.slice c.mA nl c.mc] _ (hx.range HMR.out) Tryz.underlying46 rfl IM.out)
     | 17,ho,hlv,hd=>cases oi ho;have v0:=nw dd hT hd tz 2 43 (.agg CB);have v1:=nw dd hT hd tz 14 55 (.agg CI);have v2:=nw dd hT hd tz 16 57 (.agg #[.slice c.mA nl c.mc]);refine cl hT rX ho hd (f:=79) (args:=#[.agg CB,.agg CI,.agg #[.slice c.mA nl c.mc]]) (exec_call3 rfl rfl v0 v1 v2 ENS.out) ?_;refine(HSU.out wz hx).mono ?_;rintro e w' ⟨rfl,hb⟩;exact⟨_,rfl,hb,rfl⟩
     | 18,ho,hlv,hd=>cases oi ho;exact yl1 hT rX ho hd (.int .i64 er) (nw dd hT hd tz 17 58 (.int .i64 er))
     | i+19,ho,_,_=>exact absurd ho (by simp)
   intro U wz hex hout hfin;have f8:U 8=some (.int .i64 er):=hfin 18 (by decide) rfl;have XE:=Hi hex;clear hex hfin;rw[over_list];simp(disch:=decide) only[overL,Nat.reduceAdd,hout,Option.getD_none];rw[f8];simp only[Option.getD_some];clear hout f8;have HXx:=Hi (HXz.out.trans XE.out);have HNMx:=Hi (HNMz.out.ext XE.out);by_cases he:er=0;case neg =>
    have hz:Hid (v=er∧o=b.bank.ents):=Hi (by have h:=HVW.out;rw[if_pos he]at h;injection h with h1 h2;exact⟨h1,h2⟩);go_wp2;go_ret;exact⟨by rw[hz.out.1];rfl,⟨b,by rw[hz.out.2],HNMx.out⟩,HXx.out⟩
   case pos =>
   subst he;have hz:Hid (v=0∧o=b.bank.ents.set k { x.ent with rows:=c.cmd.rows }):=Hi (by have h:=HVW.out;rw[if_neg (by simp)]at h;injection h with h1 h2;exact⟨h1,h2⟩);have HMRx:=Hi (XE.out.range HMR.out);have HCXx:Hid (∀ (j:Nat) (u:Value),x.cells[j]?=some u→wz.cell? ⟨q,k*7+j,none⟩=some u):=Hi (XE.out.range HCX.out);go_wp2_with (with_reducible refine wpList_load_arr rfl 46 (.tmp 63) rfl (w.heap.size) 31 (by with_unfolding_all rfl) #[.slice c.mA nl c.mc] _ HMRx.out Tryz.underlying46 rfl IM.out ?_)
   with_reducible refine(bcopyModel_any c.mA c.mc c.rows HNL.out _ (HMD.out.ext HXx.out) HMZ.out HMR2.out).mono ?_
   rintro e w9 ⟨⟨A9,c9,ys,rfl,hrx,hgt⟩,hb9⟩;obtain⟨hpl,hpf⟩:=hgt.plain;have hyl:ys.length=nl:=by have h:=congrArg List.length hrx;unfold rxs at h;rw[List.length_map,List.length_map]at h;exact h.trans HNL.out
   rw[HNL.out];have HRX:=Hi hrx;have HYL:=Hi hyl;have HX9:=Hi (HXx.out.trans hb9);have HNM9:=Hi (HNMx.out.ext hb9);have hqe:(Value.slice b.eA b.ents.length b.ec).ownBlock=some q:=(by rw[HQ.out];rfl);obtain⟨cq,hbq⟩:=own_block HNM9.out.own.e.own q hqe;have hqge:=own_ge HNM9.out.own.e.own q hqe;have HXf:=Hi (Ext.setCells hqge [.slice A9 nl c9] (k*7+6) w9 HX9.out);have HST1:Hid (∀ j,j<(#[.slice A9 nl c9]:Array Value).toList.length→(w9.cell? ⟨q,k*7+6+j,none⟩).isSome=true):=Hi (fun j hj=>by
    have hj:j<1:=hj;obtain rfl:j=0:=by omega
    have h:=hb9.keep (HCXx.out 6 _ rfl);rw[Nat.add_zero,h];rfl)
   have HST2:Hid (∀ j,j<(#[.slice A9 nl c9]:Array Value).toList.length→w9.frozen? ⟨q,k*7+6+j,none⟩=false):=Hi (fun j _=>frozen_of_row _ _ _ _ _ hbq);have HST3:Hid ((#[.slice A9 nl c9]:Array Value).all (·.oneCell')=true):=Hi (by simp[Value.oneCell']);have IM9:Hid ((Tryz.prog.info? 46).map (·.size)=some (#[.slice A9 nl c9]:Array Value).size):=Hi (infoMd rfl);have hfin:=Nm.putMd HNMx.out hb9 (Nat.le_trans HNW.out XE.out.size) HQ.out HX.out hpl ⟨hgt.le,hgt.mx⟩ hpf;rw[hyl]at hfin;have HFIN:=Hi hfin;clear hqe hbq hqge hfin hpl hpf hgt hrx hyl hb9;go_wp2_with (with_reducible refine wpList_store_at rfl 46 (.tmp 67) (.tmp 65) rfl q (k*7+6) #[.slice A9 nl c9] (by with_unfolding_all rfl) (by with_unfolding_all rfl) IM9.out HST1.out HST2.out HST3.out ?_)
   go_ret;refine⟨by rw[hz.out.1];rfl,⟨_,?_,by rw[putE_cells];exact HFIN.out⟩,HXf.out⟩;rw[hz.out.2];show(⟨b.now,b.gp.xs,b.gq.xs,b.outl,b.assets,(b.ents.set k (x.withMd A9 c9 ys)).map (·.ent),b.enem⟩:Bank)=_;rw[set_map,withMd_ent,show ys.map (·.xs)=c.cmd.rows from HRX.out];rfl
 · go_wp2;clear c5 cs;go_wp2_with fail
   refine region_tb (by kernel_rfl) (by decide +kernel) (as10E g w.heap.size q k) ⟨rfl,rfl,rfl,rfl⟩ 19 as10D (fun _=>none) (RG (as10L g w.heap.size q k m bv ov x.vc c.mc nl c.mA er CB CI)) w1z (Ext.refl _) (fun i h1 h2=>absurd h2 (Nat.not_lt.2 h1)) ?_ ?_
   · intro Tv dd lv U wz i oZ hE ho hlv hd hT;obtain⟨t0,t3,t6,tz⟩:=hE;have hx:=hT.ext;have rX:=RG.ext (l:=as10L g w.heap.size q k m bv ov x.vc c.mc nl c.mA er CB CI) (sl_mono _)
     match i,ho,hlv,hd with
     | 0,ho,hlv,hd=>cases oi ho;exact yl1 hT rX ho hd (.pointer (some ⟨g,0,none⟩)) (od dd hT tz t0)
     | 1,ho,hlv,hd=>cases oi ho;exact yl1 hT rX ho hd (.pointer (some ⟨g,0,none⟩)) (nw dd hT hd tz 0 41 (.pointer (some ⟨g,0,none⟩)))
     | 2,ho,hlv,hd=>cases oi ho;have v0:=nw dd hT hd tz 1 42 (.pointer (some ⟨g,0,none⟩));exact yxe hT rX ho hd (.agg CB) (exec_load_row _ _ rfl g v0 _ _ _ _ (hx.blockAt HBy.out) Tryz.underlying31 rfl IB.out)
     | 3,ho,hlv,hd=>cases oi ho;exact yl1 hT rX ho hd (.pointer (some ⟨q,k*7,none⟩)) (od dd hT tz t6)
     | 4,ho,hlv,hd=>cases oi ho;exact yl1 hT rX ho hd (.pointer (some ⟨q,k*7,none⟩)) (nw dd hT hd tz 3 44 (.pointer (some ⟨q,k*7,none⟩)))
     | 5,ho,hlv,hd=>cases oi ho;exact yl1 hT rX ho hd (.pointer (some ⟨q,k*7,none⟩)) (nw dd hT hd tz 4 45 (.pointer (some ⟨q,k*7,none⟩)))
     | 6,ho,hlv,hd=>cases oi ho;exact yk1 hT rX ho hd (.slice (some ⟨bv,ov,none⟩) m x.vc) (nw dd hT hd tz 5 46 (.pointer (some ⟨q,k*7,none⟩))) (hx.keep CV0.out)
     | 7,ho,hlv,hd=>cases oi ho;exact yl1 hT rX ho hd (.pointer (some ⟨q,k*7,none⟩)) (od dd hT tz t6)
     | 8,ho,hlv,hd=>cases oi ho;exact yl1 hT rX ho hd (.pointer (some ⟨q,k*7,none⟩)) (nw dd hT hd tz 7 48 (.pointer (some ⟨q,k*7,none⟩)))
     | 9,ho,hlv,hd=>cases oi ho;exact yl1 hT rX ho hd (.pointer (some ⟨q,k*7,none⟩)) (nw dd hT hd tz 8 49 (.pointer (some ⟨q,k*7,none⟩)))
     | 10,ho,hlv,hd=>cases oi ho;exact yk1 hT rX ho hd (.slice (some ⟨bv,ov,none⟩) m x.vc) (nw dd hT hd tz 9 50 (.pointer (some ⟨q,k*7,none⟩))) (hx.keep CV0.out)
     | 11,ho,hlv,hd=>cases oi ho;exact yl1 hT rX ho hd (.int .i64 (m:Int)) (nw dd hT hd tz 10 51 (.slice (some ⟨bv,ov,none⟩) m x.vc))
     | 12,ho,hlv,hd=>cases oi ho;have v1:Act.eval ⟨over Tv U,dd⟩ (.const (.int .i64 1))=.int .i64 1:=rfl;exact yk2 hT rX ho hd (.int .i64 ((m:Int)-1)) (nw dd hT hd tz 11 52 (.int .i64 (m:Int))) v1 KW.out
     | 13,ho,hlv,hd=>cases oi ho;exact yk2 hT rX ho hd (.pointer (some ⟨bv,ov+(m-1)*17,none⟩)) (nw dd hT hd tz 6 47 (.slice (some ⟨bv,ov,none⟩) m x.vc)) (nw dd hT hd tz 12 53 (.int .i64 ((m:Int)-1))) KI.out
     | 14,ho,hlv,hd=>cases oi ho;have v0:=nw dd hT hd tz 13 54 (.pointer (some ⟨bv,ov+(m-1)*17,none⟩));exact yxe hT rX ho hd (.agg CI) (exec_load_arr _ _ rfl bv (ov+(m-1)*17) v0 CI _ (hx.range HCI.out) Tryz.underlying39 rfl II.out)
     | 15,ho,hlv,hd=>cases oi ho;exact yl1 hT rX ho hd (.pointer (some ⟨w.heap.size,31,none⟩)) (od dd hT tz t3)
     | 16,ho,hlv,hd=>cases oi ho;have v0:=nw dd hT hd tz 15 56 (.pointer (some ⟨w.heap.size,31,none⟩));exact yxe hT rX ho hd (.agg #[.slice c.mA nl c.mc]) (exec_load_arr _ _ rfl w.heap.size (31) v0 #[.slice c.mA nl c.mc] _ (hx.range HMR.out) Tryz.underlying46 rfl IM.out)
     | 17,ho,hlv,hd=>cases oi ho;have v0:=nw dd hT hd tz 2 43 (.agg CB);have v1:=nw dd hT hd tz 14 55 (.agg CI);have v2:=nw dd hT hd tz 16 57 (.agg #[.slice c.mA nl c.mc]);refine cl hT rX ho hd (f:=79) (args:=#[.agg CB,.agg CI,.agg #[.slice c.mA nl c.mc]]) (exec_call3 rfl rfl v0 v1 v2 ENS.out) ?_;refine(HSU.out wz hx).mono ?_;rintro e w' ⟨rfl,hb⟩;exact⟨_,rfl,hb,rfl⟩
     | 18,ho,hlv,hd=>cases oi ho;exact yl1 hT rX ho hd (.int .i64 er) (nw dd hT hd tz 17 58 (.int .i64 er))
     | i+19,ho,_,_=>exact absurd ho (by simp)
   intro U wz hex hout hfin;have f8:U 8=some (.int .i64 er):=hfin 18 (by decide) rfl;have XE:=Hi hex;clear hex hfin;rw[over_list];simp(disch:=decide) only[overL,Nat.reduceAdd,hout,Option.getD_none];rw[f8];simp only[Option.getD_some];clear hout f8;have HXx:=Hi (HXz.out.trans XE.out);have HNMx:=Hi (HNMz.out.ext XE.out);by_cases he:er=0;case neg =>
    have hz:Hid (v=er∧o=b.bank.ents):=Hi (by have h:=HVW.out;rw[if_pos he]at h;injection h with h1 h2;exact⟨h1,h2⟩);go_wp2;go_ret;exact⟨by rw[hz.out.1];rfl,⟨b,by rw[hz.out.2],HNMx.out⟩,HXx.out⟩
   case pos =>
   subst he;have hz:Hid (v=0∧o=b.bank.ents.set k { x.ent with rows:=c.cmd.rows }):=Hi (by have h:=HVW.out;rw[if_neg (by simp)]at h;injection h with h1 h2;exact⟨h1,h2⟩);have HMRx:=Hi (XE.out.range HMR.out);have HCXx:Hid (∀ (j:Nat) (u:Value),x.cells[j]?=some u→wz.cell? ⟨q,k*7+j,none⟩=some u):=Hi (XE.out.range HCX.out);go_wp2_with (with_reducible refine wpList_load_arr rfl 46 (.tmp 63) rfl (w.heap.size) 31 (by with_unfolding_all rfl) #[.slice c.mA nl c.mc] _ HMRx.out Tryz.underlying46 rfl IM.out ?_)
   with_reducible refine(bcopyModel_any c.mA c.mc c.rows HNL.out _ (HMD.out.ext HXx.out) HMZ.out HMR2.out).mono ?_
   rintro e w9 ⟨⟨A9,c9,ys,rfl,hrx,hgt⟩,hb9⟩;obtain⟨hpl,hpf⟩:=hgt.plain;have hyl:ys.length=nl:=by have h:=congrArg List.length hrx;unfold rxs at h;rw[List.length_map,List.length_map]at h;exact h.trans HNL.out
   rw[HNL.out];have HRX:=Hi hrx;have HYL:=Hi hyl;have HX9:=Hi (HXx.out.trans hb9);have HNM9:=Hi (HNMx.out.ext hb9);have hqe:(Value.slice b.eA b.ents.length b.ec).ownBlock=some q:=(by rw[HQ.out];rfl);obtain⟨cq,hbq⟩:=own_block HNM9.out.own.e.own q hqe;have hqge:=own_ge HNM9.out.own.e.own q hqe;have HXf:=Hi (Ext.setCells hqge [.slice A9 nl c9] (k*7+6) w9 HX9.out);have HST1:Hid (∀ j,j<(#[.slice A9 nl c9]:Array Value).toList.length→(w9.cell? ⟨q,k*7+6+j,none⟩).isSome=true):=Hi (fun j hj=>by
    have hj:j<1:=hj;obtain rfl:j=0:=by omega
    have h:=hb9.keep (HCXx.out 6 _ rfl);rw[Nat.add_zero,h];rfl)
   have HST2:Hid (∀ j,j<(#[.slice A9 nl c9]:Array Value).toList.length→w9.frozen? ⟨q,k*7+6+j,none⟩=false):=Hi (fun j _=>frozen_of_row _ _ _ _ _ hbq);have HST3:Hid ((#[.slice A9 nl c9]:Array Value).all (·.oneCell')=true):=Hi (by simp[Value.oneCell']);have IM9:Hid ((Tryz.prog.info? 46).map (·.size)=some (#[.slice A9 nl c9]:Array Value).size):=Hi (infoMd rfl);have hfin:=Nm.putMd HNMx.out hb9 (Nat.le_trans HNW.out XE.out.size) HQ.out HX.out hpl ⟨hgt.le,hgt.mx⟩ hpf;rw[hyl]at hfin;have HFIN:=Hi hfin;clear hqe hbq hqge hfin hpl hpf hgt hrx hyl hb9;go_wp2_with (with_reducible refine wpList_store_at rfl 46 (.tmp 67) (.tmp 65) rfl q (k*7+6) #[.slice A9 nl c9] (by with_unfolding_all rfl) (by with_unfolding_all rfl) IM9.out HST1.out HST2.out HST3.out ?_)
   go_ret;refine⟨by rw[hz.out.1];rfl,⟨_,?_,by rw[putE_cells];exact HFIN.out⟩,HXf.out⟩;rw[hz.out.2];show(⟨b.now,b.gp.xs,b.gq.xs,b.outl,b.assets,(b.ents.set k (x.withMd A9 c9 ys)).map (·.ent),b.enem⟩:Bank)=_;rw[set_map,withMd_ent,show ys.map (·.xs)=c.cmd.rows from HRX.out];rfl
end Bk
end Go.Proofs.YtfnmgcblhebdbaaGreatDoor
namespace Go.Proofs.YtfnmgcblhebdbaaGreatDoor
open Go.RowKit
namespace Bk
theorem Nm.cell{N g:Nat}{CB:Array Value}{b:BankL}{w:World}(h:Nm N g CB b w){q k j:Nat}{x:EntL}{u:Value}(hq:b.eA=some ⟨q,0,none⟩)(hk:b.ents[k]?=some x)(hu:x.cells[j]?=some u):w.cell? ⟨q,k*7+j,none⟩=some u:=by obtain⟨bb,off,hA,-,hcx,-⟩:=h.own.e.slx.1.at_ hk;rw[hq]at hA;injection hA with hA;injection hA with hA1 hA2;subst hA1 hA2;have h2:=hcx j u hu;rwa [Nat.zero_add]at h2
theorem MidV.cell{N g:Nat}{CB:Array Value}{b:BankL}{q k:Nat}{y x:EntL}{w:World}(h:MidV N g CB b q k y w)(hk:b.ents[k]?=some x):w.cell? ⟨q,k*7,none⟩=some (.slice x.vA x.vs.length x.vc):=by have h5:=h.own.cells rfl (k*7+0) _ (flatten_at (map_len (E:=eEnt) b.ents) (by rw[List.getElem?_map,hk];rfl) (show x.cells[0]?=_ from rfl));rwa [Addr.add_lit,Nat.zero_add]at h5
theorem MidV.free{N g:Nat}{CB:Array Value}{b:BankL}{q k:Nat}{y:EntL}{w:World}(h:MidV N g CB b q k y w)(j:Nat):w.frozen? ⟨q,j,none⟩=false:=by obtain⟨cur,hb⟩:=own_block h.own q rfl;exact frozen_of_row _ _ j _ _ hb
def PVA (N g n0:Nat)(CC:Array Value)(b:BankL)(q k:Nat)(x:EntL)(it:It.Item)(u:Option Value)(w:World):Prop :=
 ∃ (A:Option Addr) (c:Nat) (y:ItL),u=some (.slice A (x.vs.length+1) c)∧y.1=it∧MidV N g b.cells.toArray b q k (x.withV A c (x.vs ++ [y])) w∧w.heap[n0]?=some (.cells CC 48 (0,0))
theorem PVA.mono{N g n0:Nat}{CC:Array Value}{b:BankL}{q k:Nat}{x:EntL}{it:It.Item}{u:Option Value}{w w':World}(he:Ext w w')(h:PVA N g n0 CC b q k x it u w):PVA N g n0 CC b q k x it u w':=by obtain⟨A,c,y,h1,h2,h3,h4⟩:=h;exact⟨A,c,y,h1,h2,h3.ext he,he.blockAt h4⟩
def PVS (N g n0:Nat)(CC:Array Value)(b:BankL)(k:Nat)(x:EntL)(it:It.Item)(w:World):Prop :=
 ∃ (A:Option Addr) (c:Nat) (y:ItL),y.1=it∧Nm N g b.cells.toArray (b.setE b.eA b.ec (b.ents.set k (x.withV A c (x.vs ++ [y])))) w∧w.heap[n0]?=some (.cells CC 48 (0,0))
theorem PVS.mono{N g n0:Nat}{CC:Array Value}{b:BankL}{k:Nat}{x:EntL}{it:It.Item}{w w':World}(he:Ext w w')(h:PVS N g n0 CC b k x it w):PVS N g n0 CC b k x it w':=by obtain⟨A,c,y,h2,h3,h4⟩:=h;exact⟨A,c,y,h2,h3.ext he,he.blockAt h4⟩
theorem MidV.stored{N g n0:Nat}{CC:Array Value}{b:BankL}{q k:Nat}{x:EntL}{it:It.Item}{A:Option Addr}{c:Nat}{y:ItL}{w:World}(h2:y.1=it)(h3:MidV N g b.cells.toArray b q k (x.withV A c (x.vs ++ [y])) w)(h4:w.heap[n0]?=some (.cells CC 48 (0,0)))(hk:b.ents[k]?=some x) :
    PVS N g n0 CC b k x it (w.setCell ⟨q,k*7,none⟩ (.slice A (x.vs.length+1) c)):=by
 obtain⟨cur,hb⟩:=own_block h3.own q rfl;refine⟨A,c,y,h2,?_,?_⟩
 · have h:=h3.sto hk;have hl:(x.vs ++ [y]).length=x.vs.length+1:=(by simp);rw[hl]at h;exact h
 · exact KeepB.but hb (But.setCell w ⟨q,k*7,none⟩ _) _ _ _ _ (by decide) h4
theorem appV_run{w0 wM w:World}{g k q n0:Nat}{CC:Array Value}{b:BankL}{x:EntL}{it:It.Item}{u:Option Value}(hM:Nm w0.heap.size g b.cells.toArray b wM)(hxt:Ext wM w)(hX0:Ext w0 w)(hX1:Ext w0 wM)(hq:b.eA=some ⟨q,0,none⟩)(hk:b.ents[k]?=some x)(hc:w.heap[n0]?=some (.cells CC 48 (0,0)))
    (h1:POne eIt wM.heap.size (fun y:ItL=>y.1=it) u w) (hbytes:(x.vs.length+1)*216≤140737488355328) :
    ∃ y u' w',u=some y∧(Builtin.append_ #[51,51] 51 #[.slice x.vA x.vs.length x.vc,y]).run Tryz.prog w=.ok u' w'∧Ext w0 w'∧PVA w0.heap.size g n0 CC b q k x it (some u') w':=by
 obtain⟨y,p,rfl,h2,h3,h4,h5⟩:=h1;obtain⟨i1,hi,hz,hs,hb⟩:=info_parts infoIt;have hmem:=List.mem_of_getElem? hk;have hEx:=(hM.ext hxt).own.e.ins x hmem;have hfx:=hM.own.ef x hmem;obtain⟨v',w',hrun,hown,hgr,hat⟩:=run_append_sl (P:=Tryz.prog) w 0 51 51 39 i1 _ 17 216 Tryz.underlying51 hi hz hs hb rfl (by omega) (.slice x.vA x.vs.length x.vc) x.vs.length _ hEx.row.own (some ⟨p,0,none⟩) 1 [eIt.enc y] h2
  (fun c hc=>by rw[List.mem_singleton]at hc;rw[hc];exact eIt.len y) (fun c hc=>by rw[List.mem_singleton]at hc;rw[hc];exact eIt.one y) (by show x.vs.length+1≤maxLen;unfold maxLen;omega) (by simpa using hbytes) (Nat.zero_le _)
 simp only[List.length_singleton,List.flatten_cons,List.flatten_nil,List.append_nil]at hown;obtain⟨A,c,rfl⟩:=own_form hown;have hrow:=hEx.row.app h3 (fun z hz=>eIt.frm h4 (own_lt (hM.own.e.ins x hmem).row.own z hz)) (Ext.refl _) hown hgr hat;have hmid:=hM.appV hxt hX1.size hq hk h4 hrow hgr hat;refine⟨_,_,w',rfl,hrun,hX0.grown hgr (fun z hz=>hfx.2 z hz),A,c,y,rfl,h5,hmid,?_⟩;cases hv:x.own with
 | none=>rw[show(Value.slice x.vA x.vs.length x.vc).ownBlock=none from hv]at hgr;exact(grown_none hgr).blockAt hc
 | some z=>rw[show(Value.slice x.vA x.vs.length x.vc).ownBlock=some z from hv]at hgr;obtain⟨cur,hzb⟩:=own_block hEx.row.own z hv;exact KeepB.but hzb (But.grown hgr) _ _ _ _ (by decide) hc
theorem PNI.pnew{N:Nat}{it:It.Item}{u:Option Value}{w:World}(h:PNI N it u w):PNew eIt N (fun y:ItL=>y.1=it) (fun y:ItL=>It.agg y.1 y.2) u w:=by obtain⟨L,h1,h2,h3,-⟩:=h;exact⟨(it,L),h1,h2,h3,rfl⟩
def rvsF (mj:Bool)(it:It.Item)(e:Ent):Ent:={ e with vers:=e.vers ++ [it],rows:=if mj then[]else e.rows }
def rvsG (es:List Ent)(c:Cmd)(k:Nat)(e:Ent)(l:It.Item):Int×List Ent :=
 if e.rev.st=1 then(if c.user=e.rev.au then(0,es.set k (rvsF (It.major l c.item) c.item e))else(10,es))
 else if It.major l c.item=true then
  (if Rev.allowedE e.rev ⟨9,c.user,c.roles,c.time⟩≠0 then(Rev.allowedE e.rev ⟨9,c.user,c.roles,c.time⟩,es)
   else(0,es.set k (rvsF true c.item { e with rev:=Rev.applyR e.rev ⟨9,c.user,c.roles,c.time⟩ })))
 else if e.rev.st=2∨e.rev.st=3∨e.rev.st=7 then(8,es)
 else(0,es.set k (rvsF false c.item e))
def rvsE (b:Bank)(c:Cmd)(rf:Int):Int×List Ent :=
 if hasR c.roles 1=false then(9,b.ents)
 else match fnd b.ents c.item.id with
 | none=>(6,b.ents)
 | some k =>
  match b.ents[k]? with
  | none=>(6,b.ents)
  | some e =>
   match e.vers[e.vers.length-1]? with
   | none=>(6,b.ents)
   | some l=>if It.succ l c.item≠0 then(It.succ l c.item,b.ents)else if rf≠0 then(rf,b.ents)else rvsG b.ents c k e l
theorem rvsE_none{b:Bank}{c:Cmd}{rf:Int}(h0:hasR c.roles 1=true)(h:fnd b.ents c.item.id=none):rvsE b c rf=(6,b.ents):=by unfold rvsE;rw[if_neg (by rw[h0];simp),h]
theorem rvsE_some{b:Bank}{c:Cmd}{rf:Int}{k:Nat}{e:Ent}{l:It.Item}(h0:hasR c.roles 1=true)(h:fnd b.ents c.item.id=some k)(he:b.ents[k]?=some e)(hl:e.vers[e.vers.length-1]?=some l) :
    rvsE b c rf=if It.succ l c.item≠0 then(It.succ l c.item,b.ents)else if rf≠0 then(rf,b.ents)else rvsG b.ents c k e l:=by
 unfold rvsE;rw[if_neg (by rw[h0];simp)];simp only[h,he,hl]
theorem setBank(b:BankL)(k:Nat)(y:EntL):(b.setE b.eA b.ec (b.ents.set k y)).bank={ b.bank with ents:=b.bank.ents.set k y.ent }:=by show(⟨b.now,b.gp.xs,b.gq.xs,b.outl,b.assets,(b.ents.set k y).map (·.ent),b.enem⟩:Bank)=⟨b.now,b.gp.xs,b.gq.xs,b.outl,b.assets,(b.ents.map (·.ent)).set k y.ent,b.enem⟩;rw[set_map]
theorem withV_rvs(x:EntL)(A:Option Addr)(c:Nat)(y:ItL):(x.withV A c (x.vs ++ [y])).ent=rvsF false y.1 x.ent:=by unfold rvsF EntL.withV EntL.ent;simp
end Bk
end Go.Proofs.YtfnmgcblhebdbaaGreatDoor
