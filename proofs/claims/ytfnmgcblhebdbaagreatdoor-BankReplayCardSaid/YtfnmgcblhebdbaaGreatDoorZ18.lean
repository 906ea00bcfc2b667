/- bank.addTopic: a contract. Conditions: those of each theorem. -/
import Derived.Test.YtfnmgcblhebdbaaGreatDoorZ14
import Derived.Test.YtfnmgcblhebdbaaGreatDoorZ17
namespace Go.Proofs.YtfnmgcblhebdbaaGreatDoor
set_option maxRecDepth 100000
set_option maxHeartbeats 12800000
open Go.RowKit
namespace Bk
def PBk (N g n0:Nat)(CC:Array Value)(b:BankL)(w:World):Prop:=Nm N g b.cells.toArray b w∧w.heap[n0]?=some (.cells CC 48 (0,0))
theorem PBk.mono{N g n0:Nat}{CC:Array Value}{b:BankL}{w w':World}(he:Ext w w')(h:PBk N g n0 CC b w):PBk N g n0 CC b w':=⟨h.1.ext he,he.blockAt h.2⟩
def POl (v:Value)(cs:List Value)(T:TypeId)(u:Option Value)(w:World):Prop:=∃ p,u=some (.slice (some ⟨p,0,none⟩) 1 1)∧w.heap[p]?=some (.cells cs.toArray T (0,0))∧∀ q,v.ownBlock=some q→p≠q
theorem POl.mono{v:Value}{cs:List Value}{T:TypeId}{u:Option Value}{w w':World}(he:Ext w w')(h:POl v cs T u w):POl v cs T u w':=h.elim fun p h=>⟨p,h.1,he.blockAt h.2.1,h.2.2⟩
theorem POl.made{v:Value}{cs:List Value}{T:TypeId}{w:World}{CS:Array Value}(e:cs.toArray=CS)(hv:∀ q,v.ownBlock=some q→q<w.heap.size):POl v cs T (some (.slice (some ⟨w.heap.size,0,none⟩) 1 1)) (w.alloc (.cells CS T)) :=
 ⟨w.heap.size,rfl,by rw[e];exact heap_alloc_new _ _,fun q hq=>by have:=hv q hq;omega⟩
def PBi (N g n0:Nat)(CC:Array Value)(b:BankL)(o:Nat)(F:BankL→Prop)(u:Option Value)(w:World):Prop :=
 ∃ (b2:BankL) (v:Value),u=some v∧F b2∧w.heap[g]?=some (.cells b.cells.toArray 31 (0,0))∧OwnBk N b2 w∧(∀ x∈b2.ents,eEntO.Off g x)∧w.heap[n0]?=some (.cells CC 48 (0,0))∧b2.cells.toArray=b.cells.toArray.setIfInBounds o v
theorem PBi.mono{N g n0:Nat}{CC:Array Value}{b:BankL}{o:Nat}{F:BankL→Prop}{u:Option Value}{w w':World}(he:Ext w w')(h:PBi N g n0 CC b o F u w):PBi N g n0 CC b o F u w':=by obtain⟨b2,v,h1,h2,h3,h4,h5,h6,h7⟩:=h;exact⟨b2,v,h1,h2,he.blockAt h3,h4.ext he,h5,he.blockAt h6,h7⟩
def PBs (N g n0:Nat)(CC:Array Value)(F:BankL→Prop)(w:World):Prop:=∃ b2:BankL,F b2∧PBk N g n0 CC b2 w
theorem PBs.mono{N g n0:Nat}{CC:Array Value}{F:BankL→Prop}{w w':World}(he:Ext w w')(h:PBs N g n0 CC F w):PBs N g n0 CC F w':=h.elim fun b2 h=>⟨b2,h.1,h.2.mono he⟩
theorem PBs.of{N g n0:Nat}{CC CB:Array Value}{F:BankL→Prop}{b2:BankL}{o:Nat}{v:Value}{w:World}(hF:F b2)(h:Nm N g CB b2 w)(hc:w.heap[n0]?=some (.cells CC 48 (0,0)))(hne:n0≠g)(hcs:b2.cells.toArray=CB.setIfInBounds o v):PBs N g n0 CC F (w.setCell ⟨g,o,none⟩ v):=by have h2:=h.store o v;rw[← hcs]at h2;exact⟨b2,hF,h2,by rw[(But.setCell w ⟨g,o,none⟩ v).2 n0 (blk_lt hc) hne];exact hc⟩
def strLt (a b:ByteArray):Bool:=Op.bytesLess a.toList b.toList
def topK (o:List Tpc)(s:ByteArray):Nat:=(o.takeWhile fun t=>strLt t.1 s).length
theorem topK_le(o:List Tpc)(s:ByteArray):topK o s≤o.length:=by unfold topK;exact(List.takeWhile_sublist _).length_le
theorem takeWhile_at{X:Type}{p:X→Bool}{l:List X}{k:Nat}(h:∀ (j:Nat) (x:X),j<k→l[j]?=some x→p x=true)(hk:k≤l.length)(he:∀ x,l[k]?=some x→p x=false):(l.takeWhile p).length=k:=by
 induction l generalizing k with
 | nil=>simp at hk;subst hk;rfl
 | cons a l ih =>
  cases k with
  | zero=>have:=he a rfl;simp[this]
  | succ k=>have h0:=h 0 a (by omega) rfl;rw[List.takeWhile_cons,if_pos h0,List.length_cons,ih (k:=k) (fun j x hj hx=>h (j+1) x (by omega) hx) (by simpa using hk) (fun x hx=>he x hx)]
def topI (o:List Tpc)(t:Tpc):List Tpc:=o.take (topK o t.1) ++ t :: o.drop (topK o t.1)
def adT (b:Bank)(roles:Int)(t:Tpc):Int×List Tpc :=
 if hasR roles 16=false then(9,b.outl)else if hasT b.outl t.1=true then(7,b.outl)else(ctE (topI b.outl t),topI b.outl t)
structure RetNx (w0:World)(g:Nat)(F:BankL→Prop)(w':World):Prop where
 out:∃ b2:BankL,F b2∧Nm w0.heap.size g b2.cells.toArray b2 w'
 ext:Ext w0 w'
def ah3L (g n:Nat)(CB:Array Value)(s:ByteArray)(uu:Bool):List (Option Value→World→Prop):=sl [.pointer (some ⟨g,0,none⟩),.pointer (some ⟨g,0,none⟩),.agg CB,.pointer (some ⟨n,24,none⟩),.pointer (some ⟨n,24,none⟩),.string s,.bool uu]
def ah3D:List Nat:=[11,12,13,14,15,16,17]
def ah3E (g n:Nat)(t:Array Value):Prop:=t.getD 0 undef=.pointer (some ⟨g,0,none⟩)∧t.getD 3 undef=.pointer (some ⟨n,0,none⟩)∧t.size=62

def ah8L (N g n0 nn kk:Nat)(_CB CC:Array Value)(b:BankL)(tp:Tpc):List (Option Value→World→Prop):=[sv (.pointer (some ⟨g,0,none⟩)),
 sv (.pointer (some ⟨g,0,none⟩)),
 sv (.pointer (some ⟨g,0,none⟩)),
 sv (.pointer (some ⟨g,3,none⟩)),
 sv (.slice b.oA nn b.oc),
 sv (.int .i64 (kk:Int)),
 sv (.pointer (some ⟨n0,24,none⟩)),
 sv (.agg #[.string tp.1,.string tp.2]),
 fun u w=>POl (.slice b.oA nn b.oc) (tcl tp) 41 u w,
 fun u w=>PBi N g n0 CC b 3 (fun b2:BankL=>b2.bank={ b.bank with outl:=b.outl.take kk ++ tp :: b.outl.drop kk }) u w,
 sv (.pointer (some ⟨g,0,none⟩)),
 sv (.pointer (some ⟨g,3,none⟩)),
 fun _ w=>PBs N g n0 CC (fun b2:BankL=>b2.bank={ b.bank with outl:=b.outl.take kk ++ tp :: b.outl.drop kk }) w,
 fun _ w=>PBk N g n0 CC b w]
theorem ah8L_mono(N g n0 nn kk:Nat)(CB CC:Array Value)(b:BankL)(tp:Tpc):AllMono (ah8L N g n0 nn kk CB CC b tp):=⟨mono_val _,mono_val _,mono_val _,mono_val _,mono_val _,mono_val _,mono_val _,mono_val _,(fun _ _ _ he h=>POl.mono he h),(fun _ _ _ he h=>PBi.mono he h),mono_val _,mono_val _,(fun _ _ _ he h=>PBs.mono he h),(fun _ _ _ he h=>PBk.mono he h),trivial⟩
def ah8D:List Nat:=[41,42,43,44,45,46,47,48,49,50,51,52,900,901]
def ah8C (j:Nat):Option Nat:=if j=8 then some 9 else if j=9 then some 12 else if j=13 then some 9 else none
def ah8E (g n0 kk:Nat)(t:Array Value):Prop:=t.getD 0 undef=.pointer (some ⟨g,0,none⟩)∧t.getD 3 undef=.pointer (some ⟨n0,0,none⟩)∧t.getD 5 undef=.int .i64 (kk:Int)∧t.size=62

theorem addTopic_any(w0:World)(b:BankL)(g:Nat)(c:CmdL)(CC:Array Value)(w:World)(hx0:Ext w0 w)(hg:w0.heap.size≤g)(hn:Nm w0.heap.size g b.cells.toArray b w)(hcc:c.cells.toArray=CC)(hci:c.In w0)(hG:Gm w0)(hbig:(b.outl.length+1)*32≤140737488355328){v:Int}{o:List Tpc}(hv:adT b.bank c.roles c.topic=(v,o)) :
    Calls Tryz.prog 30 #[.pointer (some ⟨g,0,none⟩),.agg CC] w fun e w'=>e=.returned (.int .i64 v)∧RetNx w0 g (fun b2=>b2.bank={ b.bank with outl:=o }) w':=by
 obtain⟨nn,hnn⟩:∃ n,b.outl.length=n:=⟨_,rfl⟩;rw[hnn]at hbig;have HN:=Hi hnn;have HNE:Hid (w.heap.size≠g):=Hi (by have:=blk_lt hn.row;omega);have XA:Hid (Ext w (w.alloc (.cells CC 48))):=Hi ((Ext.refl w).alloc _);have HX0:=Hi (hx0.trans XA.out);have HNM0:=Hi (hn.ext XA.out);have HC0:Hid ((w.alloc (.cells CC 48)).heap[w.heap.size]?=some (.cells CC 48 (0,0))):=Hi (heap_alloc_new w _);obtain⟨CB,hcb⟩:∃ C,b.cells.toArray=C:=⟨_,rfl⟩;have HCB:=Hi hcb;have H3:Hid (CB[3]?=some (.slice b.oA nn b.oc)):=Hi (by rw[← hcb,← hnn];rfl);have H3':Hid (b.cells.toArray[3]?=some (.slice b.oA nn b.oc)):=Hi (by rw[← hnn];rfl);have IB:Hid ((Tryz.prog.info? 31).map (·.size)=some CB.size):=Hi (infoBk (by rw[← hcb];rfl));have IC:Hid ((Tryz.prog.info? 48).map (·.size)=some CC.size):=Hi (infoCm (by rw[← hcc];rfl));have H2:Hid (CC[2]?=some (.int .i64 c.roles)):=Hi (by rw[← hcc];rfl);have HA:Hid (CC[24]?=some (.string c.topic.1)):=Hi (by rw[← hcc];rfl);have HT:Hid (CC[25]?=some (.string c.topic.2)):=Hi (by rw[← hcc];rfl);have HGM:=Hi hG;have HW0:=Hi hx0.size;have HTI:=Hi hci.topic;have HBG:Hid (w0.heap.size≤g):=Hi hg;have HV:=Hi hv;have hn63:nn≤9223372036854775807:=by omega
 have IT:Hid ((Tryz.prog.info? 41).map (·.size)=some (#[.string c.topic.1,.string c.topic.2]:Array Value).size):=Hi (infoTp rfl);have ENH:=Hi (enters_of Tryz.func63 (by kernel_rfl) rfl);have ENI:=Hi (enters_of Tryz.func64 (by kernel_rfl) rfl);obtain⟨u0,hu0⟩:∃ u,hasR c.roles 16=u:=⟨_,rfl⟩;obtain⟨u1,hu1⟩:∃ u,hasT b.outl c.topic.1=u:=⟨_,rfl⟩;have HU:=Hi hu1;have HU0:=Hi hu0;have HVF:Hid (∀ (b2:BankL) (vv:Value),b2.cells.toArray=b.cells.toArray.setIfInBounds 3 vv→∃ A n c,vv=.slice A n c):=Hi (fun b2 vv h=>by
  have h2:b2.cells.toArray[3]?=some vv:=by rw[h,Array.getElem?_setIfInBounds,if_pos rfl,if_pos (by show 3<7;omega)]
  exact⟨b2.oA,b2.outl.length,b2.oc,by injection h2 with h2;exact h2.symm⟩)
 clear hx0 hg hn hcc hci hG hv hnn hcb hu0 hu1;go_enter Tryz.func30,Tryz.ntmps30
 go_wp2_with (with_reducible refine wpList_load_row rfl 48 (.tmp 3) rfl (w.heap.size) (by with_unfolding_all rfl) _ CC _ _ HC0.out Tryz.underlying48 rfl IC.out ?_)
 with_reducible refine(has_any CC c.roles 16 HU0.out H2.out _).mono ?_
 rintro e w1 ⟨rfl,hb1⟩;have HX1:=Hi (HX0.out.trans hb1);have HNM1:=Hi (HNM0.out.ext hb1);have HC1:=Hi (hb1.blockAt HC0.out);clear hb1;cases u0 with
 | false=>have hz:Hid (v=9∧o=b.outl):=Hi (by have h:=HV.out;unfold adT at h;rw[if_pos HU0.out]at h;injection h with h1 h2;exact⟨h1.symm,h2.symm⟩);go_wp2;go_ret;exact⟨by rw[hz.out.1];rfl,⟨b,by rw[hz.out.2];rfl,HNM1.out⟩,HX1.out⟩
 | true =>
 have HB1:Hid (w1.heap[g]?=some (.cells CB 31 (0,0))):=Hi (by rw[← HCB.out];exact HNM1.out.row);have HC24:Hid (w1.cell? ⟨w.heap.size,24,none⟩=some (.string c.topic.1)):=Hi ((cell_of_row _ _ 24 _ _ _ HC1.out).trans HA.out);go_wp2_with fail
 refine region_tb (by kernel_rfl) (by decide +kernel) (ah3E g w.heap.size) ⟨rfl,rfl,rfl⟩ 7 ah3D (fun _=>none) (RG (ah3L g w.heap.size CB c.topic.1 u1)) w1 (Ext.refl _) (fun i h1 h2=>absurd h2 (Nat.not_lt.2 h1)) ?_ ?_
 · intro Tv dd lv U wz i oZ hE ho hlv hd hT;obtain⟨t0,t3,tz⟩:=hE;have hx:=hT.ext;have rX:=RG.ext (l:=ah3L g w.heap.size CB c.topic.1 u1) (sl_mono _)
   match i,ho,hlv,hd with
   | 0,ho,hlv,hd=>cases oi ho;exact yl1 hT rX ho hd (.pointer (some ⟨g,0,none⟩)) (od dd hT tz t0)
   | 1,ho,hlv,hd=>cases oi ho;exact yl1 hT rX ho hd (.pointer (some ⟨g,0,none⟩)) (nw dd hT hd tz 0 11 (.pointer (some ⟨g,0,none⟩)))
   | 2,ho,hlv,hd=>cases oi ho;have v0:=nw dd hT hd tz 1 12 (.pointer (some ⟨g,0,none⟩));exact yxe hT rX ho hd (.agg CB) (exec_load_row _ _ rfl g v0 _ _ _ _ (hx.blockAt HB1.out) Tryz.underlying31 rfl IB.out)
   | 3,ho,hlv,hd=>cases oi ho;exact yl1 hT rX ho hd (.pointer (some ⟨w.heap.size,24,none⟩)) (od dd hT tz t3)
   | 4,ho,hlv,hd=>cases oi ho;exact yl1 hT rX ho hd (.pointer (some ⟨w.heap.size,24,none⟩)) (nw dd hT hd tz 3 14 (.pointer (some ⟨w.heap.size,24,none⟩)))
   | 5,ho,hlv,hd=>cases oi ho;exact yk1 hT rX ho hd (.string c.topic.1) (nw dd hT hd tz 4 15 (.pointer (some ⟨w.heap.size,24,none⟩))) (hx.keep HC24.out)
   | 6,ho,hlv,hd=>cases oi ho;have v0:=nw dd hT hd tz 2 13 (.agg CB);have v1:=nw dd hT hd tz 5 16 (.string c.topic.1);refine cl hT rX ho hd (f:=63) (args:=#[.agg CB,.string c.topic.1]) (exec_call2 rfl rfl v0 v1 ENH.out) ?_;refine(hasT_any CB b.oA b.oc nn b.outl c.topic.1 HN.out HU.out H3.out wz (HNM1.out.own.o.slx.1.ext hx) hn63).mono ?_;rintro e w' ⟨rfl,hb⟩;exact⟨_,rfl,hb,rfl⟩
   | i+7,ho,_,_=>exact absurd ho (by simp)
 intro U wz hex hout hfin;have f17:U 17=some (.bool u1):=hfin 6 (by decide) rfl;have XE:=Hi hex;clear hex hfin;rw[over_list];simp(disch:=decide) only[overL,Nat.reduceAdd,hout,Option.getD_none];rw[f17];simp only[Option.getD_some];clear hout f17;have HX2:=Hi (HX1.out.trans XE.out);have HNM2:=Hi (HNM1.out.ext XE.out);have HC2:=Hi (XE.out.blockAt HC1.out);clear XE;cases u1 with
 | true=>have hz:Hid (v=7∧o=b.outl):=Hi (by have h:=HV.out;unfold adT at h;rw[if_neg (by rw[HU0.out];simp),if_pos (show hasT b.bank.outl c.topic.1=true from HU.out)]at h;injection h with h1 h2;exact⟨h1.symm,h2.symm⟩);go_wp2;go_ret;exact⟨by rw[hz.out.1];rfl,⟨b,by rw[hz.out.2];rfl,HNM2.out⟩,HX2.out⟩
 | false =>
 go_wp2;go_loopw [5] (fun i wr=>∃ k:Nat,k≤nn∧i=.int .i64 k∧Hid (∀ (j:Nat) (x:Tpc),j<k→b.outl[j]?=some x→strLt x.1 c.topic.1=true)∧Hid (Ext wz wr)) (fun i _=>nn-(intOf i).toNat)
 case atStart=>exact⟨0,by omega,rfl,Hi (fun j x h=>by omega),Hi (Ext.refl _)⟩
 case round =>
 obtain⟨k,hk,rfl,HLT,HE⟩:=hrel;have HNM3:=Hi (HNM2.out.ext HE.out);have HC3:=Hi (HE.out.blockAt HC2.out);have HX3:=Hi (HX2.out.trans HE.out);have c24:wr.cell? ⟨w.heap.size,24,none⟩=some (.string c.topic.1):=(cell_of_row _ _ 24 _ _ _ HC3.out).trans HA.out;by_cases hlt:k<nn
 · obtain⟨x,hx⟩:∃ x,b.outl[k]?=some x:=⟨b.outl[k]'(by rw[HN.out];exact hlt),List.getElem?_eq_getElem _⟩;obtain⟨bb,off,hA,hbl,hcx,-⟩:=HNM3.out.own.o.slx.1.at_ hx;have HX:=Hi hx;have g0:wr.cell? ⟨bb,off+k*2,none⟩=some (.string x.1):=hcx 0 _ rfl;have c3:wr.cell? ⟨g,3,none⟩=some (.slice (some ⟨bb,off,none⟩) nn b.oc):=(cell_of_row _ _ 3 _ _ _ HNM3.out.row).trans (by rw[H3'.out,hA]);have ki0:(0:Int)≤(k:Int):=(by omega);have ki1:(k:Int)<(nn:Int):=(by omega);obtain⟨u2,hu2⟩:∃ u,Op.bytesLess x.1.toList c.topic.1.toList=u:=⟨_,rfl⟩;have U2:=Hi hu2;clear hx hcx hA;cases u2 with
   | true =>
    go_wp2;go_quiet (fail)
    go_wp2;go_roundw;case rel=>exact⟨k+1,by omega,by go_num,Hi (fun j y hj hy=>by
        rcases Nat.lt_or_ge j k with h1 | h1
        · exact HLT.out j y h1 hy
        · obtain rfl:j=k:=by omega
          rw[HX.out]at hy;injection hy with hy;rw[← hy];exact U2.out),Hi (HE.out.drewN _)⟩
    case measure=>simp[intOf];omega
   | false =>
    have hk63:k≤nn:=(by omega);have HK:Hid (topK b.outl c.topic.1=k):=Hi (takeWhile_at HLT.out (by rw[HN.out];exact hk63) (fun y hy=>by rw[HX.out]at hy;injection hy with hy;rw[← hy];exact U2.out));go_wp2;go_quiet (fail)
    go_wp2_with fail
    have HROW0:Hid (∀ q,PBk w0.heap.size g w.heap.size CC b (wr.drewN q)):=Hi (fun q=>PBk.mono ((Ext.refl _).drewN q) ⟨HNM3.out,HC3.out⟩);obtain⟨i0,hi,hxi⟩:=Option.map_eq_some_iff.1 infoTpF;simp only[Prod.mk.injEq]at hxi;obtain⟨hz,hs,-⟩:=hxi;clear c3 c24 g0;go_wp2_with fail
    refine region_tb (by kernel_rfl) (by decide +kernel) (ah8E g w.heap.size k) ⟨rfl,rfl,rfl,rfl⟩ 14 ah8D ah8C (RG (ah8L w0.heap.size g w.heap.size nn k CB CC b c.topic)) w0 (HX3.out.drewN _) (fun i h1 h2=>by
          have h3:13≤i:=h1;have h4:i<14:=h2;obtain rfl:i=13:=by omega
          exact PBk.mono ((Ext.refl _).drew) (HROW0.out _)) ?_ ?_
    · intro Tv dd lv U wz i oZ hE ho hlv hd hT;obtain⟨t0,t3,t5,tz⟩:=hE;have hx:=hT.ext;have rX:=RG.ext (ah8L_mono w0.heap.size g w.heap.size nn k CB CC b c.topic)
      match i,ho,hlv,hd with
      | 0,ho,hlv,hd=>cases oi ho;exact yl1 hT rX ho hd (.pointer (some ⟨g,0,none⟩)) (od dd hT tz t0)
      | 1,ho,hlv,hd=>cases oi ho;exact yl1 hT rX ho hd (.pointer (some ⟨g,0,none⟩)) (od dd hT tz t0)
      | 2,ho,hlv,hd=>cases oi ho;exact yl1 hT rX ho hd (.pointer (some ⟨g,0,none⟩)) (nw dd hT hd tz 1 42 (.pointer (some ⟨g,0,none⟩)))
      | 3,ho,hlv,hd=>cases oi ho;exact yl1 hT rX ho hd (.pointer (some ⟨g,3,none⟩)) (nw dd hT hd tz 2 43 (.pointer (some ⟨g,0,none⟩)))
      | 4,ho,hlv,hd =>
       cases oi ho;have hnA:lv 9=false:=by
        cases hA:lv 9 with
        | false=>rfl
        | true=>exact absurd (dep (hT.shut 9 _ rfl hA) 4 (by kernel_rfl)) (by rw[hlv];decide)
       have hrow:PBk w0.heap.size g w.heap.size CC b wz:=hT.facts 13 (by decide) (hT.past 13 (by decide)) (fun c e=>by injection e with e;subst e;exact hnA);exact yk1 hT rX ho hd (.slice b.oA nn b.oc) (nw dd hT hd tz 3 44 (.pointer (some ⟨g,3,none⟩))) ((cell_of_row _ _ 3 _ _ _ hrow.1.row).trans H3'.out)
      | 5,ho,hlv,hd=>cases oi ho;exact yl1 hT rX ho hd (.int .i64 (k:Int)) (od dd hT tz t5)
      | 6,ho,hlv,hd=>cases oi ho;exact yl1 hT rX ho hd (.pointer (some ⟨w.heap.size,24,none⟩)) (od dd hT tz t3)
      | 7,ho,hlv,hd =>
       cases oi ho;have v0:=nw dd hT hd tz 6 47 (.pointer (some ⟨w.heap.size,24,none⟩));have hnA:lv 9=false:=by
        cases hA:lv 9 with
        | false=>rfl
        | true=>exact absurd (dep (hT.shut 8 _ rfl (dep (hT.shut 9 _ rfl hA) 8 (by kernel_rfl))) 7 (by kernel_rfl)) (by rw[hlv];decide)
       have hrow:PBk w0.heap.size g w.heap.size CC b wz:=hT.facts 13 (by decide) (hT.past 13 (by decide)) (fun c e=>by injection e with e;subst e;exact hnA);have hrg:=rng2 (o:=24) hrow.2 HA.out HT.out;exact yxe hT rX ho hd (.agg #[.string c.topic.1,.string c.topic.2]) (exec_load_arr _ _ rfl w.heap.size 24 v0 #[.string c.topic.1,.string c.topic.2] _ hrg Tryz.underlying41 rfl IT.out)
      | 8,ho,hlv,hd =>
       cases oi ho;have v0:=nw dd hT hd tz 7 48 (.agg #[.string c.topic.1,.string c.topic.2]);have hnA:lv 9=false:=by
        cases hA:lv 9 with
        | false=>rfl
        | true=>exact absurd (dep (hT.shut 9 _ rfl hA) 8 (by kernel_rfl)) (by rw[hlv];decide)
       have hrow:PBk w0.heap.size g w.heap.size CC b wz:=hT.facts 13 (by decide) (hT.past 13 (by decide)) (fun c e=>by injection e with e;subst e;exact hnA);refine tbw_yield (v:=.slice (some ⟨wz.heap.size,0,none⟩) 1 1) (RG.ext (ah8L_mono w0.heap.size g w.heap.size nn k CB CC b c.topic)) hT ho hd (wanted_plain rfl) rfl (by decide) (by decide) (exec_buildOne 26 41 (.tmp 48) rfl v0 Tryz.underlying26 hi hz hs (by decide) (by decide) (by simp[Value.cells])) ((Ext.refl _).alloc _) (POl.made rfl (own_lt (by have h:=hrow.1.own.o.own;rw[HN.out]at h;exact h)))
      | 9,ho,hlv,hd =>
       cases oi ho;have v0:=nw dd hT hd tz 4 45 (.slice b.oA nn b.oc);have v1:=nw dd hT hd tz 5 46 (.int .i64 (k:Int));have hnA:lv 9=false:=hlv;have hrow:PBk w0.heap.size g w.heap.size CC b wz:=hT.facts 13 (by decide) (hT.past 13 (by decide)) (fun c e=>by injection e with e;subst e;exact hnA);obtain⟨pp,hU,hblk,hoff⟩:POl (.slice b.oA nn b.oc) (tcl c.topic) 41 (U 49) wz:=hT.facts 8 (by decide) (dep hd 8 (by kernel_rfl)) (fun c e=>by injection e with e;subst e;exact hlv);have v2:Act.eval ⟨over Tv U,dd⟩ (.tmp 49)=_:=eval_new (t:=Tv) (d:=dd) hU (by show 49<Tv.size;omega);refine tb_callX (f:=64) (args:=#[.slice b.oA nn b.oc,.int .i64 (k:Int),.slice (some ⟨pp,0,none⟩) 1 1]) hT ho hd rfl rfl (by decide) (by decide) (exec_call3 rfl rfl v0 v1 v2 ENI.out) ?_;refine(insTpc_any w0.heap.size b.oA b.oc nn k b.outl c.topic HN.out pp wz (by have h:=hrow.1.own.o;rw[HN.out]at h;exact h) hx.size hk63 hbig hblk HTI.out (fun q hq=>⟨trivial,hoff q hq⟩)).mono ?_;intro e w' hr0;have hr:RetIns eTpc wz w0.heap.size (.slice b.oA b.outl.length b.oc) b.outl c.topic k e w':=(by rw[HN.out];exact hr0);obtain⟨A2,c2,rfl,hn2,hkb⟩:=hrow.1.insO hr (by rw[HN.out];exact hk63);refine⟨_,rfl,hr.ext w0 hx (fun q hq=>own_ge hrow.1.own.o.own q hq),⟨_,_,rfl,rfl,hkb _ _ _ _ (by decide) hrow.1.row,hn2.own,hn2.off,hkb _ _ _ _ (by decide) hrow.2,by rw[setO_cells,ins_len _ _ (by rw[HN.out];exact hk63)]⟩,?_⟩;intro j hj hji hlj hcj hR
       match j,hj,hR with
       | 0,_,hR=>exact hR
       | 1,_,hR=>exact hR
       | 2,_,hR=>exact hR
       | 3,_,hR=>exact hR
       | 4,_,hR=>exact hR
       | 5,_,hR=>exact hR
       | 6,_,hR=>exact hR
       | 7,_,hR=>exact hR
       | 8,_,_=>exact absurd rfl (hcj 9 rfl).1
       | 9,_,_=>exact absurd rfl hji
       | 10,_,hR=>exact hR
       | 11,_,hR=>exact hR
       | 12,_,_=>exact absurd (dep (hT.shut 12 _ rfl hlj) 9 (by kernel_rfl)) (by rw[hlv];decide)
       | 13,_,_=>exact absurd rfl (hcj 9 rfl).1
       | j+14,hj,_=>exact absurd hj (by omega)
      | 10,ho,hlv,hd=>cases oi ho;exact yl1 hT rX ho hd (.pointer (some ⟨g,0,none⟩)) (nw dd hT hd tz 0 41 (.pointer (some ⟨g,0,none⟩)))
      | 11,ho,hlv,hd=>cases oi ho;exact yl1 hT rX ho hd (.pointer (some ⟨g,3,none⟩)) (nw dd hT hd tz 10 51 (.pointer (some ⟨g,0,none⟩)))
      | 12,ho,hlv,hd =>
       cases oi ho;have v0:=nw dd hT hd tz 11 52 (.pointer (some ⟨g,3,none⟩));obtain⟨b2,vv,hU,hF,hrw,hown2,hoff2,hcc,hcs⟩:PBi w0.heap.size g w.heap.size CC b 3 (fun b2:BankL=>b2.bank={ b.bank with outl:=b.outl.take k ++ c.topic :: b.outl.drop k }) (U 50) wz:=hT.facts 9 (by decide) (dep hd 9 (by kernel_rfl)) (fun c e=>by injection e with e;subst e;exact hlv);have v1:Act.eval ⟨over Tv U,dd⟩ (.tmp 50)=_:=eval_new (t:=Tv) (d:=dd) hU (by show 50<Tv.size;omega);obtain⟨A2,n2,c2,rfl⟩:=HVF.out _ _ hcs;have hc:=(cell_of_row _ _ 3 _ _ _ hrw).trans H3'.out;have hfz:=frozen_of_row _ _ 3 _ _ hrw;refine tb_store (w':=wz.setCell ⟨g,3,none⟩ (.slice A2 n2 c2)) hT ho hd rfl rfl ?_ (hx.setCell HBG.out _) (PBs.of hF (Nm.mk hrw hown2 hoff2) hcc HNE.out hcs) ?_
       · generalize Act.eval ⟨over Tv U,dd⟩=ev at *;simp[execOp,v0,v1,go_sem,hc,hfz]
       · intro j hj hji hlj hcj hR
         match j,hj,hR with
         | 0,_,hR=>exact hR
         | 1,_,hR=>exact hR
         | 2,_,hR=>exact hR
         | 3,_,hR=>exact hR
         | 4,_,hR=>exact hR
         | 5,_,hR=>exact hR
         | 6,_,hR=>exact hR
         | 7,_,hR=>exact hR
         | 8,_,_=>exact absurd (dep hd 9 (by kernel_rfl)) (by rw[(hcj 9 rfl).2];decide)
         | 9,_,_=>exact absurd rfl (hcj 12 rfl).1
         | 10,_,hR=>exact hR
         | 11,_,hR=>exact hR
         | 12,_,_=>exact absurd rfl hji
         | 13,_,_=>exact absurd (dep hd 9 (by kernel_rfl)) (by rw[(hcj 9 rfl).2];decide)
         | j+14,hj,_=>exact absurd hj (by omega)
      | i+13,ho,_,_=>exact absurd ho (by simp)
    intro U wz hex hout hfin;have PS:PBs w0.heap.size g w.heap.size CC (fun b2:BankL=>b2.bank={ b.bank with outl:=b.outl.take k ++ c.topic :: b.outl.drop k }) wz:=hfin 12 (by decide) rfl;have XE:=Hi hex;clear hex hfin;rw[over_list];simp(disch:=decide) only[overL,Nat.reduceAdd,hout,Option.getD_none];clear hout;obtain⟨b2,hF,hn4,hc4⟩:=PS;have eo:b2.outl=topI b.outl c.topic:=by have h:=congrArg Bank.outl hF;unfold topI;rw[HK.out];exact h
    have hol:b2.outl.length=nn+1:=by rw[eo];unfold topI;rw[ins_len _ _ (topK_le _ _),HN.out]
    have EO:=Hi eo;have HOL:=Hi hol;have HF:=Hi hF;have HN4:=Hi hn4;have HX4:=XE;obtain⟨h1,h2,h3,h4⟩:=hn4.own.o.slx;have HSL:=Hi h1;have hc5:nn+1≤b2.oc:=(by omega);have hc6:b2.oc≤9223372036854775807:=(by unfold maxLen at h4;omega);have c3:wz.cell? ⟨g,3,none⟩=some (.slice b2.oA (nn+1) b2.oc):=(cell_of_row _ _ 3 _ _ _ hn4.row).trans (by rw[← hol];rfl);have HVV:Hid (v=ctE b2.outl∧o=b2.outl):=Hi (by have h:=HV.out;unfold adT at h;rw[if_neg (by rw[HU0.out];simp),if_neg (by rw[show hasT b.bank.outl c.topic.1=false from HU.out];simp)]at h;injection h with h1 h2;rw[eo];exact⟨h1.symm,h2.symm⟩)
    clear eo hol hF hn4 hc4 h1 h2 h3 h4 XE;go_wp2_with fail
    with_reducible refine(ctCheck_any b2.oA b2.oc (nn+1) b2.outl HOL.out rfl _ HSL.out hc5 (by omega) hc6 (HGM.out.ext HX4.out)).mono ?_
    rintro e w4 ⟨⟨ix,rfl⟩,hb4⟩;have HB4:=Hi hb4;clear hb4 c3;go_wp2;go_ret;refine⟨by rw[HVV.out.1];rfl,⟨b2,?_,HN4.out.ext HB4.out⟩,HX4.out.trans HB4.out⟩;have h:=HF.out;rw[HVV.out.2,EO.out];rw[h];unfold topI;rw[HK.out]
 · have hk63:k≤nn:=hk;have hkn:¬ (k:Int)<(nn:Int):=(by omega);have HK:Hid (topK b.outl c.topic.1=k):=Hi (takeWhile_at HLT.out (by rw[HN.out];exact hk63) (fun y hy=>by rw[List.getElem?_eq_none (by rw[HN.out];omega)]at hy;cases hy));have c3:wr.cell? ⟨g,3,none⟩=some (.slice b.oA nn b.oc):=(cell_of_row _ _ 3 _ _ _ HNM3.out.row).trans H3'.out;go_wp2;go_quiet (fail)
   go_wp2_with fail
   have HROW0:Hid (∀ q,PBk w0.heap.size g w.heap.size CC b (wr.drewN q)):=Hi (fun q=>PBk.mono ((Ext.refl _).drewN q) ⟨HNM3.out,HC3.out⟩);obtain⟨i0,hi,hxi⟩:=Option.map_eq_some_iff.1 infoTpF;simp only[Prod.mk.injEq]at hxi;obtain⟨hz,hs,-⟩:=hxi;clear c3 c24;go_wp2_with fail
   refine region_tb (by kernel_rfl) (by decide +kernel) (ah8E g w.heap.size k) ⟨rfl,rfl,rfl,rfl⟩ 14 ah8D ah8C (RG (ah8L w0.heap.size g w.heap.size nn k CB CC b c.topic)) w0 (HX3.out.drewN _) (fun i h1 h2=>by
         have h3:13≤i:=h1;have h4:i<14:=h2;obtain rfl:i=13:=by omega
         exact PBk.mono ((Ext.refl _).drew) (HROW0.out _)) ?_ ?_
   · intro Tv dd lv U wz i oZ hE ho hlv hd hT;obtain⟨t0,t3,t5,tz⟩:=hE;have hx:=hT.ext;have rX:=RG.ext (ah8L_mono w0.heap.size g w.heap.size nn k CB CC b c.topic)
     match i,ho,hlv,hd with
     | 0,ho,hlv,hd=>cases oi ho;exact yl1 hT rX ho hd (.pointer (some ⟨g,0,none⟩)) (od dd hT tz t0)
     | 1,ho,hlv,hd=>cases oi ho;exact yl1 hT rX ho hd (.pointer (some ⟨g,0,none⟩)) (od dd hT tz t0)
     | 2,ho,hlv,hd=>cases oi ho;exact yl1 hT rX ho hd (.pointer (some ⟨g,0,none⟩)) (nw dd hT hd tz 1 42 (.pointer (some ⟨g,0,none⟩)))
     | 3,ho,hlv,hd=>cases oi ho;exact yl1 hT rX ho hd (.pointer (some ⟨g,3,none⟩)) (nw dd hT hd tz 2 43 (.pointer (some ⟨g,0,none⟩)))
     | 4,ho,hlv,hd =>
      cases oi ho;have hnA:lv 9=false:=by
       cases hA:lv 9 with
       | false=>rfl
       | true=>exact absurd (dep (hT.shut 9 _ rfl hA) 4 (by kernel_rfl)) (by rw[hlv];decide)
      have hrow:PBk w0.heap.size g w.heap.size CC b wz:=hT.facts 13 (by decide) (hT.past 13 (by decide)) (fun c e=>by injection e with e;subst e;exact hnA);exact yk1 hT rX ho hd (.slice b.oA nn b.oc) (nw dd hT hd tz 3 44 (.pointer (some ⟨g,3,none⟩))) ((cell_of_row _ _ 3 _ _ _ hrow.1.row).trans H3'.out)
     | 5,ho,hlv,hd=>cases oi ho;exact yl1 hT rX ho hd (.int .i64 (k:Int)) (od dd hT tz t5)
     | 6,ho,hlv,hd=>cases oi ho;exact yl1 hT rX ho hd (.pointer (some ⟨w.heap.size,24,none⟩)) (od dd hT tz t3)
     | 7,ho,hlv,hd =>
      cases oi ho;have v0:=nw dd hT hd tz 6 47 (.pointer (some ⟨w.heap.size,24,none⟩));have hnA:lv 9=false:=by
       cases hA:lv 9 with
       | false=>rfl
       | true=>exact absurd (dep (hT.shut 8 _ rfl (dep (hT.shut 9 _ rfl hA) 8 (by kernel_rfl))) 7 (by kernel_rfl)) (by rw[hlv];decide)
      have hrow:PBk w0.heap.size g w.heap.size CC b wz:=hT.facts 13 (by decide) (hT.past 13 (by decide)) (fun c e=>by injection e with e;subst e;exact hnA);have hrg:=rng2 (o:=24) hrow.2 HA.out HT.out;exact yxe hT rX ho hd (.agg #[.string c.topic.1,.string c.topic.2]) (exec_load_arr _ _ rfl w.heap.size 24 v0 #[.string c.topic.1,.string c.topic.2] _ hrg Tryz.underlying41 rfl IT.out)
     | 8,ho,hlv,hd =>
      cases oi ho;have v0:=nw dd hT hd tz 7 48 (.agg #[.string c.topic.1,.string c.topic.2]);have hnA:lv 9=false:=by
       cases hA:lv 9 with
       | false=>rfl
       | true=>exact absurd (dep (hT.shut 9 _ rfl hA) 8 (by kernel_rfl)) (by rw[hlv];decide)
      have hrow:PBk w0.heap.size g w.heap.size CC b wz:=hT.facts 13 (by decide) (hT.past 13 (by decide)) (fun c e=>by injection e with e;subst e;exact hnA);refine tbw_yield (v:=.slice (some ⟨wz.heap.size,0,none⟩) 1 1) (RG.ext (ah8L_mono w0.heap.size g w.heap.size nn k CB CC b c.topic)) hT ho hd (wanted_plain rfl) rfl (by decide) (by decide) (exec_buildOne 26 41 (.tmp 48) rfl v0 Tryz.underlying26 hi hz hs (by decide) (by decide) (by simp[Value.cells])) ((Ext.refl _).alloc _) (POl.made rfl (own_lt (by have h:=hrow.1.own.o.own;rw[HN.out]at h;exact h)))
     | 9,ho,hlv,hd =>
      cases oi ho;have v0:=nw dd hT hd tz 4 45 (.slice b.oA nn b.oc);have v1:=nw dd hT hd tz 5 46 (.int .i64 (k:Int));have hnA:lv 9=false:=hlv;have hrow:PBk w0.heap.size g w.heap.size CC b wz:=hT.facts 13 (by decide) (hT.past 13 (by decide)) (fun c e=>by injection e with e;subst e;exact hnA);obtain⟨pp,hU,hblk,hoff⟩:POl (.slice b.oA nn b.oc) (tcl c.topic) 41 (U 49) wz:=hT.facts 8 (by decide) (dep hd 8 (by kernel_rfl)) (fun c e=>by injection e with e;subst e;exact hlv);have v2:Act.eval ⟨over Tv U,dd⟩ (.tmp 49)=_:=eval_new (t:=Tv) (d:=dd) hU (by show 49<Tv.size;omega);refine tb_callX (f:=64) (args:=#[.slice b.oA nn b.oc,.int .i64 (k:Int),.slice (some ⟨pp,0,none⟩) 1 1]) hT ho hd rfl rfl (by decide) (by decide) (exec_call3 rfl rfl v0 v1 v2 ENI.out) ?_;refine(insTpc_any w0.heap.size b.oA b.oc nn k b.outl c.topic HN.out pp wz (by have h:=hrow.1.own.o;rw[HN.out]at h;exact h) hx.size hk63 hbig hblk HTI.out (fun q hq=>⟨trivial,hoff q hq⟩)).mono ?_;intro e w' hr0;have hr:RetIns eTpc wz w0.heap.size (.slice b.oA b.outl.length b.oc) b.outl c.topic k e w':=(by rw[HN.out];exact hr0);obtain⟨A2,c2,rfl,hn2,hkb⟩:=hrow.1.insO hr (by rw[HN.out];exact hk63);refine⟨_,rfl,hr.ext w0 hx (fun q hq=>own_ge hrow.1.own.o.own q hq),⟨_,_,rfl,rfl,hkb _ _ _ _ (by decide) hrow.1.row,hn2.own,hn2.off,hkb _ _ _ _ (by decide) hrow.2,by rw[setO_cells,ins_len _ _ (by rw[HN.out];exact hk63)]⟩,?_⟩;intro j hj hji hlj hcj hR
      match j,hj,hR with
      | 0,_,hR=>exact hR
      | 1,_,hR=>exact hR
      | 2,_,hR=>exact hR
      | 3,_,hR=>exact hR
      | 4,_,hR=>exact hR
      | 5,_,hR=>exact hR
      | 6,_,hR=>exact hR
      | 7,_,hR=>exact hR
      | 8,_,_=>exact absurd rfl (hcj 9 rfl).1
      | 9,_,_=>exact absurd rfl hji
      | 10,_,hR=>exact hR
      | 11,_,hR=>exact hR
      | 12,_,_=>exact absurd (dep (hT.shut 12 _ rfl hlj) 9 (by kernel_rfl)) (by rw[hlv];decide)
      | 13,_,_=>exact absurd rfl (hcj 9 rfl).1
      | j+14,hj,_=>exact absurd hj (by omega)
     | 10,ho,hlv,hd=>cases oi ho;exact yl1 hT rX ho hd (.pointer (some ⟨g,0,none⟩)) (nw dd hT hd tz 0 41 (.pointer (some ⟨g,0,none⟩)))
     | 11,ho,hlv,hd=>cases oi ho;exact yl1 hT rX ho hd (.pointer (some ⟨g,3,none⟩)) (nw dd hT hd tz 10 51 (.pointer (some ⟨g,0,none⟩)))
     | 12,ho,hlv,hd =>
      cases oi ho;have v0:=nw dd hT hd tz 11 52 (.pointer (some ⟨g,3,none⟩));obtain⟨b2,vv,hU,hF,hrw,hown2,hoff2,hcc,hcs⟩:PBi w0.heap.size g w.heap.size CC b 3 (fun b2:BankL=>b2.bank={ b.bank with outl:=b.outl.take k ++ c.topic :: b.outl.drop k }) (U 50) wz:=hT.facts 9 (by decide) (dep hd 9 (by kernel_rfl)) (fun c e=>by injection e with e;subst e;exact hlv);have v1:Act.eval ⟨over Tv U,dd⟩ (.tmp 50)=_:=eval_new (t:=Tv) (d:=dd) hU (by show 50<Tv.size;omega);obtain⟨A2,n2,c2,rfl⟩:=HVF.out _ _ hcs;have hc:=(cell_of_row _ _ 3 _ _ _ hrw).trans H3'.out;have hfz:=frozen_of_row _ _ 3 _ _ hrw;refine tb_store (w':=wz.setCell ⟨g,3,none⟩ (.slice A2 n2 c2)) hT ho hd rfl rfl ?_ (hx.setCell HBG.out _) (PBs.of hF (Nm.mk hrw hown2 hoff2) hcc HNE.out hcs) ?_
      · generalize Act.eval ⟨over Tv U,dd⟩=ev at *;simp[execOp,v0,v1,go_sem,hc,hfz]
      · intro j hj hji hlj hcj hR
        match j,hj,hR with
        | 0,_,hR=>exact hR
        | 1,_,hR=>exact hR
        | 2,_,hR=>exact hR
        | 3,_,hR=>exact hR
        | 4,_,hR=>exact hR
        | 5,_,hR=>exact hR
        | 6,_,hR=>exact hR
        | 7,_,hR=>exact hR
        | 8,_,_=>exact absurd (dep hd 9 (by kernel_rfl)) (by rw[(hcj 9 rfl).2];decide)
        | 9,_,_=>exact absurd rfl (hcj 12 rfl).1
        | 10,_,hR=>exact hR
        | 11,_,hR=>exact hR
        | 12,_,_=>exact absurd rfl hji
        | 13,_,_=>exact absurd (dep hd 9 (by kernel_rfl)) (by rw[(hcj 9 rfl).2];decide)
        | j+14,hj,_=>exact absurd hj (by omega)
     | i+13,ho,_,_=>exact absurd ho (by simp)
   intro U wz hex hout hfin;have PS:PBs w0.heap.size g w.heap.size CC (fun b2:BankL=>b2.bank={ b.bank with outl:=b.outl.take k ++ c.topic :: b.outl.drop k }) wz:=hfin 12 (by decide) rfl;have XE:=Hi hex;clear hex hfin;rw[over_list];simp(disch:=decide) only[overL,Nat.reduceAdd,hout,Option.getD_none];clear hout;obtain⟨b2,hF,hn4,hc4⟩:=PS;have eo:b2.outl=topI b.outl c.topic:=by have h:=congrArg Bank.outl hF;unfold topI;rw[HK.out];exact h
   have hol:b2.outl.length=nn+1:=by rw[eo];unfold topI;rw[ins_len _ _ (topK_le _ _),HN.out]
   have EO:=Hi eo;have HOL:=Hi hol;have HF:=Hi hF;have HN4:=Hi hn4;have HX4:=XE;obtain⟨h1,h2,h3,h4⟩:=hn4.own.o.slx;have HSL:=Hi h1;have hc5:nn+1≤b2.oc:=(by omega);have hc6:b2.oc≤9223372036854775807:=(by unfold maxLen at h4;omega);have c3:wz.cell? ⟨g,3,none⟩=some (.slice b2.oA (nn+1) b2.oc):=(cell_of_row _ _ 3 _ _ _ hn4.row).trans (by rw[← hol];rfl);have HVV:Hid (v=ctE b2.outl∧o=b2.outl):=Hi (by have h:=HV.out;unfold adT at h;rw[if_neg (by rw[HU0.out];simp),if_neg (by rw[show hasT b.bank.outl c.topic.1=false from HU.out];simp)]at h;injection h with h1 h2;rw[eo];exact⟨h1.symm,h2.symm⟩)
   clear eo hol hF hn4 hc4 h1 h2 h3 h4 XE;go_wp2_with fail
   with_reducible refine(ctCheck_any b2.oA b2.oc (nn+1) b2.outl HOL.out rfl _ HSL.out hc5 (by omega) hc6 (HGM.out.ext HX4.out)).mono ?_
   rintro e w4 ⟨⟨ix,rfl⟩,hb4⟩;have HB4:=Hi hb4;clear hb4 c3;go_wp2;go_ret;refine⟨by rw[HVV.out.1];rfl,⟨b2,?_,HN4.out.ext HB4.out⟩,HX4.out.trans HB4.out⟩;have h:=HF.out;rw[HVV.out.2,EO.out];rw[h];unfold topI;rw[HK.out]
end Bk
set_option maxRecDepth 100000
set_option maxHeartbeats 12800000
open Go.RowKit
namespace Bk
def astK (o:List Ast)(id:Int):Nat:=(o.takeWhile fun a=>decide (a.id<id)).length
theorem astK_le(o:List Ast)(id:Int):astK o id≤o.length:=(List.takeWhile_sublist _).length_le
def astI (o:List Ast)(a:Ast):List Ast:=o.take (astK o a.id) ++ a :: o.drop (astK o a.id)
def adA (b:Bank)(roles:Int)(a:Ast):Int×List Ast :=
 if hasR roles 17=false then(9,b.assets)else if astE a≠0 then(astE a,b.assets)else if(astF b.assets a.id).isSome=true then(7,b.assets)else if 200≤b.assets.length then(5,b.assets)else(0,astI b.assets a)
def astC (o:Option Ast):Array Value:=match o with | some a=>(scl a).toArray | none=>#[.int .i64 0,.int .i64 0,.string ⟨#[]⟩,.int .i64 0,.int .i64 0]
theorem astC_size(o:Option Ast):(astC o).size=5:=by cases o <;> rfl
theorem astC_one(o:Option Ast):(astC o).all (·.oneCell')=true:=by cases o <;> simp[astC,scl,Value.oneCell']
theorem rngC{w:World}{n o:Nat}{CS:Array Value}{T:TypeId}{L:List Value}(h:w.heap[n]?=some (.cells CS T (0,0)))(hl:∀ (j:Nat) (v:Value),L[j]?=some v→CS[o+j]?=some v):w.rangeAt n o L:=fun j v hv=>(cell_of_row _ _ (o+j) _ _ _ h).trans (hl j v hv)
theorem cmd_ast{c:CmdL}{CC:Array Value}(h:c.cells.toArray=CC):∀ (j:Nat) (v:Value),(scl c.asset)[j]?=some v→CC[26+j]?=some v:=by
 subst h;intro j v hv
 match j,hv with
 | 0,hv=>exact hv
 | 1,hv=>exact hv
 | 2,hv=>exact hv
 | 3,hv=>exact hv
 | 4,hv=>exact hv
 | j+5,hv=>simp[scl]at hv
def aj6L (g n nb nn:Nat)(id:Int)(uo:Option Ast)(b:BankL):List (Option Value→World→Prop):=[sv (.pointer (some ⟨g,0,none⟩)),
 sv (.pointer (some ⟨g,0,none⟩)),
 sv (.pointer (some ⟨g,4,none⟩)),
 sv (.slice b.aA nn b.ac),
 sv (.pointer (some ⟨n,26,none⟩)),
 sv (.pointer (some ⟨n,26,none⟩)),
 sv (.int .i64 id),
 sv (.tuple #[.agg (astC uo),.bool uo.isSome]),
 sv (.tuple #[.agg (astC uo),.bool uo.isSome]),
 sv (.agg (astC uo)),
 sv (.bool uo.isSome),
 fun u w=>∃ q:Nat,
 u=some (.pointer (some ⟨q,0,none⟩))∧nb≤q∧w.heap[q]?=some (.cells #[.int .i64 0,.int .i64 0,.string ⟨#[]⟩,.int .i64 0,.int .i64 0] 43 (0,0)),
 fun _ _=>True,
 sv (.bool uo.isSome)]
theorem aj6L_mono(g n nb nn:Nat)(id:Int)(uo:Option Ast)(b:BankL):AllMono (aj6L g n nb nn id uo b):=⟨mono_val _,mono_val _,mono_val _,mono_val _,mono_val _,mono_val _,mono_val _,mono_val _,mono_val _,mono_val _,mono_val _,(fun _ _ _ he h=>h.elim fun q h=>⟨q,h.1,h.2.1,he.blockAt h.2.2⟩),(fun _ _ _ _ _=>trivial),mono_val _,trivial⟩
def aj6D:List Nat:=[19,20,21,22,23,24,25,26,18,27,28,6,900,7]
def aj6C (j:Nat):Option Nat:=if j=11 then some 12 else none
def aj6E (g n:Nat)(t:Array Value):Prop:=t.getD 0 undef=.pointer (some ⟨g,0,none⟩)∧t.getD 3 undef=.pointer (some ⟨n,0,none⟩)∧t.size=71

def aj8L (N g n0 nn kk:Nat)(CC ACS:Array Value)(b:BankL)(tp:Ast):List (Option Value→World→Prop):=[sv (.pointer (some ⟨g,0,none⟩)),
 sv (.pointer (some ⟨g,0,none⟩)),
 sv (.pointer (some ⟨g,0,none⟩)),
 sv (.pointer (some ⟨g,4,none⟩)),
 sv (.slice b.aA nn b.ac),
 sv (.int .i64 (kk:Int)),
 sv (.pointer (some ⟨n0,26,none⟩)),
 sv (.agg ACS),
 fun u w=>POl (.slice b.aA nn b.ac) (scl tp) 43 u w,
 fun u w=>PBi N g n0 CC b 4 (fun b2:BankL=>b2.bank={ b.bank with assets:=b.assets.take kk ++ tp :: b.assets.drop kk }) u w,
 sv (.pointer (some ⟨g,0,none⟩)),
 sv (.pointer (some ⟨g,4,none⟩)),
 fun _ w=>PBs N g n0 CC (fun b2:BankL=>b2.bank={ b.bank with assets:=b.assets.take kk ++ tp :: b.assets.drop kk }) w,
 fun _ w=>PBk N g n0 CC b w]
theorem aj8L_mono(N g n0 nn kk:Nat)(CC ACS:Array Value)(b:BankL)(tp:Ast):AllMono (aj8L N g n0 nn kk CC ACS b tp):=⟨mono_val _,mono_val _,mono_val _,mono_val _,mono_val _,mono_val _,mono_val _,mono_val _,(fun _ _ _ he h=>POl.mono he h),(fun _ _ _ he h=>PBi.mono he h),mono_val _,mono_val _,(fun _ _ _ he h=>PBs.mono he h),(fun _ _ _ he h=>PBk.mono he h),trivial⟩
def aj8D:List Nat:=[59,60,61,62,63,64,65,66,67,68,69,70,900,901]
def aj8C (j:Nat):Option Nat:=if j=8 then some 9 else if j=9 then some 12 else if j=13 then some 9 else none
def aj8E (g n0 kk:Nat)(t:Array Value):Prop:=t.getD 0 undef=.pointer (some ⟨g,0,none⟩)∧t.getD 3 undef=.pointer (some ⟨n0,0,none⟩)∧t.getD 8 undef=.int .i64 (kk:Int)∧t.size=71

theorem addAsset_any(w0:World)(b:BankL)(g:Nat)(c:CmdL)(CC:Array Value)(w:World)(hx0:Ext w0 w)(hg:w0.heap.size≤g)(hn:Nm w0.heap.size g b.cells.toArray b w)(hcc:c.cells.toArray=CC)(hci:c.In w0)(hbig:(b.assets.length+1)*48≤140737488355328){v:Int}{o:List Ast}(hv:adA b.bank c.roles c.asset=(v,o)) :
    Calls Tryz.prog 31 #[.pointer (some ⟨g,0,none⟩),.agg CC] w fun e w'=>e=.returned (.int .i64 v)∧RetNx w0 g (fun b2=>b2.bank={ b.bank with assets:=o }) w':=by
 obtain⟨nn,hnn⟩:∃ n,b.assets.length=n:=⟨_,rfl⟩;rw[hnn]at hbig;have HN:=Hi hnn;have HNE:Hid (w.heap.size≠g):=Hi (by have:=blk_lt hn.row;omega);have XA:Hid (Ext w (w.alloc (.cells CC 48))):=Hi ((Ext.refl w).alloc _);have HX0:=Hi (hx0.trans XA.out);have HNM0:=Hi (hn.ext XA.out);have HC0:Hid ((w.alloc (.cells CC 48)).heap[w.heap.size]?=some (.cells CC 48 (0,0))):=Hi (heap_alloc_new w _);have H4':Hid (b.cells.toArray[4]?=some (.slice b.aA nn b.ac)):=Hi (by rw[← hnn];rfl);have IC:Hid ((Tryz.prog.info? 48).map (·.size)=some CC.size):=Hi (infoCm (by rw[← hcc];rfl));have H2:Hid (CC[2]?=some (.int .i64 c.roles)):=Hi (by rw[← hcc];rfl);have HA:Hid (CC[26]?=some (.int .i64 c.asset.id)):=Hi (by rw[← hcc];rfl);have HAS:=Hi (cmd_ast hcc);obtain⟨ACS,hac⟩:∃ A,(scl c.asset).toArray=A:=⟨_,rfl⟩;have HAC:=Hi hac;have IA5:Hid ((Tryz.prog.info? 43).map (·.size)=some 5):=Hi (by kernel_rfl);have IT:Hid ((Tryz.prog.info? 43).map (·.size)=some ACS.size):=Hi (by rw[← hac];exact IA5.out);have HTI:=Hi hci.asset;have HBG:Hid (w0.heap.size≤g):=Hi hg;have HV:=Hi hv;have hn63:nn≤9223372036854775807:=by omega
 have ENF:=Hi (enters_of Tryz.func66 (by kernel_rfl) rfl);have ENI:=Hi (enters_of Tryz.func67 (by kernel_rfl) rfl);obtain⟨u0,hu0⟩:∃ u,hasR c.roles 17=u:=⟨_,rfl⟩;obtain⟨u1,hu1⟩:∃ u,astE c.asset=u:=⟨_,rfl⟩;obtain⟨u2,hu2⟩:∃ u,astF b.assets c.asset.id=u:=⟨_,rfl⟩;have HU0:=Hi hu0;have HU1:=Hi hu1;have HU2:=Hi hu2;have HVF:Hid (∀ (b2:BankL) (vv:Value),b2.cells.toArray=b.cells.toArray.setIfInBounds 4 vv→∃ A n c,vv=.slice A n c):=Hi (fun b2 vv h=>by
  have h2:b2.cells.toArray[4]?=some vv:=by rw[h,Array.getElem?_setIfInBounds,if_pos rfl,if_pos (by show 4<7;omega)]
  exact⟨b2.aA,b2.assets.length,b2.ac,by injection h2 with h2;exact h2.symm⟩)
 clear hx0 hg hn hcc hci hv hnn hu0 hu1 hu2 hac;go_enter Tryz.func31,Tryz.ntmps31
 go_wp2_with (with_reducible refine wpList_load_row rfl 48 (.tmp 3) rfl (w.heap.size) (by with_unfolding_all rfl) _ CC _ _ HC0.out Tryz.underlying48 rfl IC.out ?_)
 with_reducible refine(has_any CC c.roles 17 HU0.out H2.out _).mono ?_
 rintro e w1 ⟨rfl,hb1⟩;have HX1:=Hi (HX0.out.trans hb1);have HNM1:=Hi (HNM0.out.ext hb1);have HC1:=Hi (hb1.blockAt HC0.out);clear hb1;cases u0 with
 | false=>have hz:Hid (v=9∧o=b.assets):=Hi (by have h:=HV.out;unfold adA at h;rw[if_pos HU0.out]at h;injection h with h1 h2;exact⟨h1.symm,h2.symm⟩);go_wp2;go_ret;exact⟨by rw[hz.out.1];rfl,⟨b,by rw[hz.out.2];rfl,HNM1.out⟩,HX1.out⟩
 | true =>
 have HRG:Hid (w1.rangeAt w.heap.size 26 ACS.toList):=Hi (rngC HC1.out (by rw[← HAC.out];exact HAS.out));go_wp2_with (with_reducible refine wpList_load_arr rfl 43 (.tmp 12) rfl (w.heap.size) 26 (by with_unfolding_all rfl) ACS _ HRG.out Tryz.underlying43 rfl IT.out ?_)
 with_reducible refine(astValid_any c.asset ACS HAC.out HU1.out _).mono ?_
 rintro e w2 ⟨rfl,hb2⟩;have HX2:=Hi (HX1.out.trans hb2);have HNM2:=Hi (HNM1.out.ext hb2);have HC2:=Hi (hb2.blockAt HC1.out);clear hb2;by_cases hu:u1=0;case neg =>
  have hz:Hid (v=u1∧o=b.assets):=Hi (by have h:=HV.out;unfold adA at h;rw[if_neg (by rw[HU0.out];simp),HU1.out,if_pos hu]at h;injection h with h1 h2;exact⟨h1.symm,h2.symm⟩);go_wp2;go_ret;exact⟨by rw[hz.out.1];rfl,⟨b,by rw[hz.out.2];rfl,HNM2.out⟩,HX2.out⟩
 case pos =>
 have HU:=Hi hu;subst hu;have HC4:Hid (w2.cell? ⟨g,4,none⟩=some (.slice b.aA nn b.ac)):=Hi ((cell_of_row _ _ 4 _ _ _ HNM2.out.row).trans H4'.out);have HC26:Hid (w2.cell? ⟨w.heap.size,26,none⟩=some (.int .i64 c.asset.id)):=Hi ((cell_of_row _ _ 26 _ _ _ HC2.out).trans HA.out);go_wp2_with fail
 refine region_tb (by kernel_rfl) (by decide +kernel) (aj6E g w.heap.size) ⟨rfl,rfl,rfl⟩ 14 aj6D aj6C (RG (aj6L g w.heap.size w2.heap.size nn c.asset.id u2 b)) w2 (Ext.refl _) (fun i h1 h2=>absurd h2 (Nat.not_lt.2 h1)) ?_ ?_
 · intro Tv dd lv U wz i oZ hE ho hlv hd hT;obtain⟨t0,t3,tz⟩:=hE;have hx:=hT.ext;have rX:=RG.ext (aj6L_mono g w.heap.size w2.heap.size nn c.asset.id u2 b)
   match i,ho,hlv,hd with
   | 0,ho,hlv,hd=>cases oi ho;exact yl1 hT rX ho hd (.pointer (some ⟨g,0,none⟩)) (od dd hT tz t0)
   | 1,ho,hlv,hd=>cases oi ho;exact yl1 hT rX ho hd (.pointer (some ⟨g,0,none⟩)) (nw dd hT hd tz 0 19 (.pointer (some ⟨g,0,none⟩)))
   | 2,ho,hlv,hd=>cases oi ho;exact yl1 hT rX ho hd (.pointer (some ⟨g,4,none⟩)) (nw dd hT hd tz 1 20 (.pointer (some ⟨g,0,none⟩)))
   | 3,ho,hlv,hd=>cases oi ho;exact yk1 hT rX ho hd (.slice b.aA nn b.ac) (nw dd hT hd tz 2 21 (.pointer (some ⟨g,4,none⟩))) (hx.keep HC4.out)
   | 4,ho,hlv,hd=>cases oi ho;exact yl1 hT rX ho hd (.pointer (some ⟨w.heap.size,26,none⟩)) (od dd hT tz t3)
   | 5,ho,hlv,hd=>cases oi ho;exact yl1 hT rX ho hd (.pointer (some ⟨w.heap.size,26,none⟩)) (nw dd hT hd tz 4 23 (.pointer (some ⟨w.heap.size,26,none⟩)))
   | 6,ho,hlv,hd=>cases oi ho;exact yk1 hT rX ho hd (.int .i64 c.asset.id) (nw dd hT hd tz 5 24 (.pointer (some ⟨w.heap.size,26,none⟩))) (hx.keep HC26.out)
   | 7,ho,hlv,hd=>cases oi ho;have v0:=nw dd hT hd tz 3 22 (.slice b.aA nn b.ac);have v1:=nw dd hT hd tz 6 25 (.int .i64 c.asset.id);refine cl hT rX ho hd (f:=66) (args:=#[.slice b.aA nn b.ac,.int .i64 c.asset.id]) (exec_call2 rfl rfl v0 v1 ENF.out) ?_;refine(astFind_any b.aA b.ac nn b.assets c.asset.id HN.out HU2.out wz (HNM2.out.own.s.slx.1.ext hx) hn63).mono ?_;rintro e w' ⟨rfl,hb⟩;exact⟨_,rfl,hb,rfl⟩
   | 8,ho,hlv,hd=>cases oi ho;exact yl1 hT rX ho hd (.tuple #[.agg (astC u2),.bool u2.isSome]) (nw dd hT hd tz 7 26 (.tuple #[.agg (astC u2),.bool u2.isSome]))
   | 9,ho,hlv,hd=>cases oi ho;exact yl1 hT rX ho hd (.agg (astC u2)) (nw dd hT hd tz 8 18 (.tuple #[.agg (astC u2),.bool u2.isSome]))
   | 10,ho,hlv,hd=>cases oi ho;exact yl1 hT rX ho hd (.bool u2.isSome) (nw dd hT hd tz 8 18 (.tuple #[.agg (astC u2),.bool u2.isSome]))
   | 11,ho,hlv,hd=>cases oi ho;refine tbw_yield (v:=.pointer (some ⟨wz.heap.size,0,none⟩)) (RG.ext (aj6L_mono g w.heap.size w2.heap.size nn c.asset.id u2 b)) hT ho hd (wanted_plain rfl) rfl (by decide) (by decide) ?_ ((Ext.refl _).alloc (.cells #[.int .i64 0,.int .i64 0,.string ⟨#[]⟩,.int .i64 0,.int .i64 0] 43)) ⟨wz.heap.size,rfl,hx.size,heap_alloc_new _ _⟩;generalize Act.eval ⟨over Tv U,dd⟩=ev at *;simp[execOp,go_sem]
   | 12,ho,hlv,hd =>
    cases oi ho;have v1:=nw dd hT hd tz 9 27 (.agg (astC u2));obtain⟨q,e0,hq,hblk⟩:∃ q:Nat,U 6=some (.pointer (some ⟨q,0,none⟩))∧w2.heap.size≤q∧wz.heap[q]?=some (.cells #[.int .i64 0,.int .i64 0,.string ⟨#[]⟩,.int .i64 0,.int .i64 0] 43 (0,0)):=hT.facts 11 (by decide) (dep hd 11 (by kernel_rfl)) (fun c e=>by injection e with e;subst e;exact hlv);have v0:Act.eval ⟨over Tv U,dd⟩ (.tmp 6)=_:=eval_new (t:=Tv) (d:=dd) e0 (by show 6<Tv.size;omega);refine tb_store (w':=wz.setRow q (astC u2)) hT ho hd rfl rfl (exec_store_row 43 (.tmp 6) (.tmp 27) rfl q _ v0 v1 43 _ hblk (Hi (by rw[astC_size];exact IA5.out)).out (astC_size u2).symm (astC_one u2)) (hx.rowSet hq _) trivial ?_;intro j hj hji hlj hcj hR
    match j,hj,hR with
    | 0,_,hR=>exact hR
    | 1,_,hR=>exact hR
    | 2,_,hR=>exact hR
    | 3,_,hR=>exact hR
    | 4,_,hR=>exact hR
    | 5,_,hR=>exact hR
    | 6,_,hR=>exact hR
    | 7,_,hR=>exact hR
    | 8,_,hR=>exact hR
    | 9,_,hR=>exact hR
    | 10,_,hR=>exact hR
    | 11,_,_=>exact absurd rfl (hcj 12 rfl).1
    | 12,_,_=>exact absurd rfl hji
    | 13,_,hR=>exact hR
    | j+14,hj,_=>exact absurd hj (by omega)
   | 13,ho,hlv,hd=>cases oi ho;exact yl1 hT rX ho hd (.bool u2.isSome) (nw dd hT hd tz 10 28 (.bool u2.isSome))
   | i+14,ho,_,_=>exact absurd ho (by simp)
 intro U wz hex hout hfin;have f7:U 7=some (.bool u2.isSome):=hfin 13 (by decide) rfl;have XE:=Hi hex;clear hex hfin;rw[over_list];simp(disch:=decide) only[overL,Nat.reduceAdd,hout,Option.getD_none];rw[f7];simp only[Option.getD_some];clear hout f7;have HX3:=Hi (HX2.out.trans XE.out);have HNM3:=Hi (HNM2.out.ext XE.out);have HC3:=Hi (XE.out.blockAt HC2.out);clear XE HC4 HC26;cases u2 with
 | some a0=>have hz:Hid (v=7∧o=b.assets):=Hi (by have h:=HV.out;unfold adA at h;rw[if_neg (by rw[HU0.out];simp),if_neg (by rw[HU1.out];simp),if_pos (by rw[show astF b.bank.assets c.asset.id=_ from HU2.out];rfl)]at h;injection h with h1 h2;exact⟨h1.symm,h2.symm⟩);simp only[Option.isSome_some];go_wp2;go_ret;exact⟨by rw[hz.out.1];rfl,⟨b,by rw[hz.out.2];rfl,HNM3.out⟩,HX3.out⟩
 | none =>
 simp only[Option.isSome_none];have c4:wz.cell? ⟨g,4,none⟩=some (.slice b.aA nn b.ac):=(cell_of_row _ _ 4 _ _ _ HNM3.out.row).trans H4'.out;by_cases hmx:200≤nn
 · have hmi:(200:Int)≤(nn:Int):=(by omega);have hz:Hid (v=5∧o=b.assets):=Hi (by have h:=HV.out;unfold adA at h;rw[if_neg (by rw[HU0.out];simp),if_neg (by rw[HU1.out];simp),if_neg (by rw[show astF b.bank.assets c.asset.id=_ from HU2.out];simp),if_pos (by show 200≤b.assets.length;rw[HN.out];exact hmx)]at h;injection h with h1 h2;exact⟨h1.symm,h2.symm⟩);go_wp2;go_ret;exact⟨by rw[hz.out.1];rfl,⟨b,by rw[hz.out.2];rfl,HNM3.out⟩,HX3.out⟩
 have hmi:¬ (200:Int)≤(nn:Int):=by omega
 have hz:Hid (v=0∧o=astI b.assets c.asset):=Hi (by have h:=HV.out;unfold adA at h;rw[if_neg (by rw[HU0.out];simp),if_neg (by rw[HU1.out];simp),if_neg (by rw[show astF b.bank.assets c.asset.id=_ from HU2.out];simp),if_neg (by show ¬ 200≤b.assets.length;rw[HN.out];exact hmx)]at h;injection h with h1 h2;exact⟨h1.symm,h2.symm⟩);go_wp2;clear c4;go_loopw [8] (fun i wr=>∃ k:Nat,k≤nn∧i=.int .i64 k∧Hid (∀ (j:Nat) (x:Ast),j<k→b.assets[j]?=some x→decide (x.id<c.asset.id)=true)∧Hid (Ext wz wr)) (fun i _=>nn-(intOf i).toNat)
 case atStart=>exact⟨0,by omega,rfl,Hi (fun j x h=>by omega),Hi (Ext.refl _)⟩
 case round =>
 obtain⟨k,hk,rfl,HLT,HE⟩:=hrel;have HNM4:=Hi (HNM3.out.ext HE.out);have HC4:=Hi (HE.out.blockAt HC3.out);have HX4:=Hi (HX3.out.trans HE.out);have c26:wr.cell? ⟨w.heap.size,26,none⟩=some (.int .i64 c.asset.id):=(cell_of_row _ _ 26 _ _ _ HC4.out).trans HA.out;by_cases hlt:k<nn
 · obtain⟨x,hx⟩:∃ x,b.assets[k]?=some x:=⟨b.assets[k]'(by rw[HN.out];exact hlt),List.getElem?_eq_getElem _⟩;obtain⟨bb,off,hA,hbl,hcx,-⟩:=HNM4.out.own.s.slx.1.at_ hx;have HX:=Hi hx;have g0:wr.cell? ⟨bb,off+k*5,none⟩=some (.int .i64 x.id):=hcx 0 _ rfl;have c4:wr.cell? ⟨g,4,none⟩=some (.slice (some ⟨bb,off,none⟩) nn b.ac):=(cell_of_row _ _ 4 _ _ _ HNM4.out.row).trans (by rw[H4'.out,hA]);have ki0:(0:Int)≤(k:Int):=(by omega);have ki1:(k:Int)<(nn:Int):=(by omega);clear hx hcx hA;by_cases hc:x.id<c.asset.id
   · go_wp2;go_quiet (fail)
     go_wp2;go_roundw;case rel=>exact⟨k+1,by omega,by go_num,Hi (fun j y hj hy=>by
         rcases Nat.lt_or_ge j k with h1 | h1
         · exact HLT.out j y h1 hy
         · obtain rfl:j=k:=by omega
           rw[HX.out]at hy;injection hy with hy;rw[← hy];exact decide_eq_true hc),Hi (HE.out.drewN _)⟩
     case measure=>simp[intOf];omega
   · have hk63:k≤nn:=(by omega);have HK:Hid (astK b.assets c.asset.id=k):=Hi (takeWhile_at HLT.out (by rw[HN.out];exact hk63) (fun y hy=>by rw[HX.out]at hy;injection hy with hy;rw[← hy];exact decide_eq_false hc));go_wp2;go_quiet (fail)
     go_wp2_with fail
     have HROW0:Hid (∀ q,PBk w0.heap.size g w.heap.size CC b (wr.drewN q)):=Hi (fun q=>PBk.mono ((Ext.refl _).drewN q) ⟨HNM4.out,HC4.out⟩);have HZ:=hz;clear hz;obtain⟨i0,hi,hz,hs,hb⟩:=info_parts infoAst;clear c4 c26 g0;go_wp2_with fail
     refine region_tb (by kernel_rfl) (by decide +kernel) (aj8E g w.heap.size k) ⟨rfl,rfl,rfl,rfl⟩ 14 aj8D aj8C (RG (aj8L w0.heap.size g w.heap.size nn k CC ACS b c.asset)) w0 (HX4.out.drewN _) (fun i h1 h2=>by
           have h3:13≤i:=h1;have h4:i<14:=h2;obtain rfl:i=13:=by omega
           exact PBk.mono ((Ext.refl _).drew) (HROW0.out _)) ?_ ?_
     · intro Tv dd lv U wz i oZ hE ho hlv hd hT;obtain⟨t0,t3,t8,tz⟩:=hE;have hx:=hT.ext;have rX:=RG.ext (aj8L_mono w0.heap.size g w.heap.size nn k CC ACS b c.asset)
       match i,ho,hlv,hd with
       | 0,ho,hlv,hd=>cases oi ho;exact yl1 hT rX ho hd (.pointer (some ⟨g,0,none⟩)) (od dd hT tz t0)
       | 1,ho,hlv,hd=>cases oi ho;exact yl1 hT rX ho hd (.pointer (some ⟨g,0,none⟩)) (od dd hT tz t0)
       | 2,ho,hlv,hd=>cases oi ho;exact yl1 hT rX ho hd (.pointer (some ⟨g,0,none⟩)) (nw dd hT hd tz 1 60 (.pointer (some ⟨g,0,none⟩)))
       | 3,ho,hlv,hd=>cases oi ho;exact yl1 hT rX ho hd (.pointer (some ⟨g,4,none⟩)) (nw dd hT hd tz 2 61 (.pointer (some ⟨g,0,none⟩)))
       | 4,ho,hlv,hd =>
        cases oi ho;have hnA:lv 9=false:=by
         cases hA:lv 9 with
         | false=>rfl
         | true=>exact absurd (dep (hT.shut 9 _ rfl hA) 4 (by kernel_rfl)) (by rw[hlv];decide)
        have hrow:PBk w0.heap.size g w.heap.size CC b wz:=hT.facts 13 (by decide) (hT.past 13 (by decide)) (fun c e=>by injection e with e;subst e;exact hnA);exact yk1 hT rX ho hd (.slice b.aA nn b.ac) (nw dd hT hd tz 3 62 (.pointer (some ⟨g,4,none⟩))) ((cell_of_row _ _ 4 _ _ _ hrow.1.row).trans H4'.out)
       | 5,ho,hlv,hd=>cases oi ho;exact yl1 hT rX ho hd (.int .i64 (k:Int)) (od dd hT tz t8)
       | 6,ho,hlv,hd=>cases oi ho;exact yl1 hT rX ho hd (.pointer (some ⟨w.heap.size,26,none⟩)) (od dd hT tz t3)
       | 7,ho,hlv,hd =>
        cases oi ho;have v0:=nw dd hT hd tz 6 65 (.pointer (some ⟨w.heap.size,26,none⟩));have hnA:lv 9=false:=by
         cases hA:lv 9 with
         | false=>rfl
         | true=>exact absurd (dep (hT.shut 8 _ rfl (dep (hT.shut 9 _ rfl hA) 8 (by kernel_rfl))) 7 (by kernel_rfl)) (by rw[hlv];decide)
        have hrow:PBk w0.heap.size g w.heap.size CC b wz:=hT.facts 13 (by decide) (hT.past 13 (by decide)) (fun c e=>by injection e with e;subst e;exact hnA);have hrg:=rngC (o:=26) (L:=ACS.toList) hrow.2 (by rw[← HAC.out];exact HAS.out);exact yxe hT rX ho hd (.agg ACS) (exec_load_arr _ _ rfl w.heap.size 26 v0 ACS _ hrg Tryz.underlying43 rfl IT.out)
       | 8,ho,hlv,hd =>
        cases oi ho;have v0:=nw dd hT hd tz 7 66 (.agg ACS);have hnA:lv 9=false:=by
         cases hA:lv 9 with
         | false=>rfl
         | true=>exact absurd (dep (hT.shut 9 _ rfl hA) 8 (by kernel_rfl)) (by rw[hlv];decide)
        have hrow:PBk w0.heap.size g w.heap.size CC b wz:=hT.facts 13 (by decide) (hT.past 13 (by decide)) (fun c e=>by injection e with e;subst e;exact hnA);refine tbw_yield (v:=.slice (some ⟨wz.heap.size,0,none⟩) 1 1) (RG.ext (aj8L_mono w0.heap.size g w.heap.size nn k CC ACS b c.asset)) hT ho hd (wanted_plain rfl) rfl (by decide) (by decide) (exec_buildOne 27 43 (.tmp 66) rfl v0 Tryz.underlying27 hi hz hs (by decide) (by decide) (by simp[Value.cells,← HAC.out,scl])) ((Ext.refl _).alloc _) (POl.made HAC.out (own_lt (by have h:=hrow.1.own.s.own;rw[HN.out]at h;exact h)))
       | 9,ho,hlv,hd =>
        cases oi ho;have v0:=nw dd hT hd tz 4 63 (.slice b.aA nn b.ac);have v1:=nw dd hT hd tz 5 64 (.int .i64 (k:Int));have hnA:lv 9=false:=hlv;have hrow:PBk w0.heap.size g w.heap.size CC b wz:=hT.facts 13 (by decide) (hT.past 13 (by decide)) (fun c e=>by injection e with e;subst e;exact hnA);obtain⟨pp,hU,hblk,hoff⟩:POl (.slice b.aA nn b.ac) (scl c.asset) 43 (U 67) wz:=hT.facts 8 (by decide) (dep hd 8 (by kernel_rfl)) (fun c e=>by injection e with e;subst e;exact hlv);have v2:Act.eval ⟨over Tv U,dd⟩ (.tmp 67)=_:=eval_new (t:=Tv) (d:=dd) hU (by show 67<Tv.size;omega);refine tb_callX (f:=67) (args:=#[.slice b.aA nn b.ac,.int .i64 (k:Int),.slice (some ⟨pp,0,none⟩) 1 1]) hT ho hd rfl rfl (by decide) (by decide) (exec_call3 rfl rfl v0 v1 v2 ENI.out) ?_;refine(insAst_any w0.heap.size b.aA b.ac nn k b.assets c.asset HN.out pp wz (by have h:=hrow.1.own.s;rw[HN.out]at h;exact h) hx.size hk63 hbig hblk HTI.out (fun q hq=>⟨trivial,hoff q hq⟩)).mono ?_;intro e w' hr0;have hr:RetIns eAst wz w0.heap.size (.slice b.aA b.assets.length b.ac) b.assets c.asset k e w':=(by rw[HN.out];exact hr0);obtain⟨A2,c2,rfl,hn2,hkb⟩:=hrow.1.insS hr (by rw[HN.out];exact hk63);refine⟨_,rfl,hr.ext w0 hx (fun q hq=>own_ge hrow.1.own.s.own q hq),⟨_,_,rfl,rfl,hkb _ _ _ _ (by decide) hrow.1.row,hn2.own,hn2.off,hkb _ _ _ _ (by decide) hrow.2,by rw[setS_cells,ins_len _ _ (by rw[HN.out];exact hk63)]⟩,?_⟩;intro j hj hji hlj hcj hR
        match j,hj,hR with
        | 0,_,hR=>exact hR
        | 1,_,hR=>exact hR
        | 2,_,hR=>exact hR
        | 3,_,hR=>exact hR
        | 4,_,hR=>exact hR
        | 5,_,hR=>exact hR
        | 6,_,hR=>exact hR
        | 7,_,hR=>exact hR
        | 8,_,_=>exact absurd rfl (hcj 9 rfl).1
        | 9,_,_=>exact absurd rfl hji
        | 10,_,hR=>exact hR
        | 11,_,hR=>exact hR
        | 12,_,_=>exact absurd (dep (hT.shut 12 _ rfl hlj) 9 (by kernel_rfl)) (by rw[hlv];decide)
        | 13,_,_=>exact absurd rfl (hcj 9 rfl).1
        | j+14,hj,_=>exact absurd hj (by omega)
       | 10,ho,hlv,hd=>cases oi ho;exact yl1 hT rX ho hd (.pointer (some ⟨g,0,none⟩)) (nw dd hT hd tz 0 59 (.pointer (some ⟨g,0,none⟩)))
       | 11,ho,hlv,hd=>cases oi ho;exact yl1 hT rX ho hd (.pointer (some ⟨g,4,none⟩)) (nw dd hT hd tz 10 69 (.pointer (some ⟨g,0,none⟩)))
       | 12,ho,hlv,hd =>
        cases oi ho;have v0:=nw dd hT hd tz 11 70 (.pointer (some ⟨g,4,none⟩));obtain⟨b2,vv,hU,hF,hrw,hown2,hoff2,hcc,hcs⟩:PBi w0.heap.size g w.heap.size CC b 4 (fun b2:BankL=>b2.bank={ b.bank with assets:=b.assets.take k ++ c.asset :: b.assets.drop k }) (U 68) wz:=hT.facts 9 (by decide) (dep hd 9 (by kernel_rfl)) (fun c e=>by injection e with e;subst e;exact hlv);have v1:Act.eval ⟨over Tv U,dd⟩ (.tmp 68)=_:=eval_new (t:=Tv) (d:=dd) hU (by show 68<Tv.size;omega);obtain⟨A2,n2,c2,rfl⟩:=HVF.out _ _ hcs;have hc:=(cell_of_row _ _ 4 _ _ _ hrw).trans H4'.out;have hfz:=frozen_of_row _ _ 4 _ _ hrw;refine tb_store (w':=wz.setCell ⟨g,4,none⟩ (.slice A2 n2 c2)) hT ho hd rfl rfl ?_ (hx.setCell HBG.out _) (PBs.of hF (Nm.mk hrw hown2 hoff2) hcc HNE.out hcs) ?_
        · generalize Act.eval ⟨over Tv U,dd⟩=ev at *;simp[execOp,v0,v1,go_sem,hc,hfz]
        · intro j hj hji hlj hcj hR
          match j,hj,hR with
          | 0,_,hR=>exact hR
          | 1,_,hR=>exact hR
          | 2,_,hR=>exact hR
          | 3,_,hR=>exact hR
          | 4,_,hR=>exact hR
          | 5,_,hR=>exact hR
          | 6,_,hR=>exact hR
          | 7,_,hR=>exact hR
          | 8,_,_=>exact absurd (dep hd 9 (by kernel_rfl)) (by rw[(hcj 9 rfl).2];decide)
          | 9,_,_=>exact absurd rfl (hcj 12 rfl).1
          | 10,_,hR=>exact hR
          | 11,_,hR=>exact hR
          | 12,_,_=>exact absurd rfl hji
          | 13,_,_=>exact absurd (dep hd 9 (by kernel_rfl)) (by rw[(hcj 9 rfl).2];decide)
          | j+14,hj,_=>exact absurd hj (by omega)
       | i+13,ho,_,_=>exact absurd ho (by simp)
     intro U wz hex hout hfin;have PS:PBs w0.heap.size g w.heap.size CC (fun b2:BankL=>b2.bank={ b.bank with assets:=b.assets.take k ++ c.asset :: b.assets.drop k }) wz:=hfin 12 (by decide) rfl;have XE:=Hi hex;clear hex hfin;rw[over_list];simp(disch:=decide) only[overL,Nat.reduceAdd,hout,Option.getD_none];clear hout;obtain⟨b2,hF,hn5,-⟩:=PS;have HF:=Hi hF;have HN5:=Hi hn5;clear hF hn5;go_wp2;go_ret;refine⟨by rw[HZ.out.1];rfl,⟨b2,?_,HN5.out⟩,XE.out⟩;have h:=HF.out;rw[HZ.out.2,h];unfold astI;rw[HK.out]
 · have hk63:k≤nn:=hk;have hkn:¬ (k:Int)<(nn:Int):=(by omega);have HK:Hid (astK b.assets c.asset.id=k):=Hi (takeWhile_at HLT.out (by rw[HN.out];exact hk63) (fun y hy=>by rw[List.getElem?_eq_none (by rw[HN.out];omega)]at hy;cases hy));have c4:wr.cell? ⟨g,4,none⟩=some (.slice b.aA nn b.ac):=(cell_of_row _ _ 4 _ _ _ HNM4.out.row).trans H4'.out;go_wp2;go_quiet (fail)
   go_wp2_with fail
   have HROW0:Hid (∀ q,PBk w0.heap.size g w.heap.size CC b (wr.drewN q)):=Hi (fun q=>PBk.mono ((Ext.refl _).drewN q) ⟨HNM4.out,HC4.out⟩);have HZ:=hz;clear hz;obtain⟨i0,hi,hz,hs,hb⟩:=info_parts infoAst;clear c4 c26;go_wp2_with fail
   refine region_tb (by kernel_rfl) (by decide +kernel) (aj8E g w.heap.size k) ⟨rfl,rfl,rfl,rfl⟩ 14 aj8D aj8C (RG (aj8L w0.heap.size g w.heap.size nn k CC ACS b c.asset)) w0 (HX4.out.drewN _) (fun i h1 h2=>by
         have h3:13≤i:=h1;have h4:i<14:=h2;obtain rfl:i=13:=by omega
         exact PBk.mono ((Ext.refl _).drew) (HROW0.out _)) ?_ ?_
   · intro Tv dd lv U wz i oZ hE ho hlv hd hT;obtain⟨t0,t3,t8,tz⟩:=hE;have hx:=hT.ext;have rX:=RG.ext (aj8L_mono w0.heap.size g w.heap.size nn k CC ACS b c.asset)
     match i,ho,hlv,hd with
     | 0,ho,hlv,hd=>cases oi ho;exact yl1 hT rX ho hd (.pointer (some ⟨g,0,none⟩)) (od dd hT tz t0)
     | 1,ho,hlv,hd=>cases oi ho;exact yl1 hT rX ho hd (.pointer (some ⟨g,0,none⟩)) (od dd hT tz t0)
     | 2,ho,hlv,hd=>cases oi ho;exact yl1 hT rX ho hd (.pointer (some ⟨g,0,none⟩)) (nw dd hT hd tz 1 60 (.pointer (some ⟨g,0,none⟩)))
     | 3,ho,hlv,hd=>cases oi ho;exact yl1 hT rX ho hd (.pointer (some ⟨g,4,none⟩)) (nw dd hT hd tz 2 61 (.pointer (some ⟨g,0,none⟩)))
     | 4,ho,hlv,hd =>
      cases oi ho;have hnA:lv 9=false:=by
       cases hA:lv 9 with
       | false=>rfl
       | true=>exact absurd (dep (hT.shut 9 _ rfl hA) 4 (by kernel_rfl)) (by rw[hlv];decide)
      have hrow:PBk w0.heap.size g w.heap.size CC b wz:=hT.facts 13 (by decide) (hT.past 13 (by decide)) (fun c e=>by injection e with e;subst e;exact hnA);exact yk1 hT rX ho hd (.slice b.aA nn b.ac) (nw dd hT hd tz 3 62 (.pointer (some ⟨g,4,none⟩))) ((cell_of_row _ _ 4 _ _ _ hrow.1.row).trans H4'.out)
     | 5,ho,hlv,hd=>cases oi ho;exact yl1 hT rX ho hd (.int .i64 (k:Int)) (od dd hT tz t8)
     | 6,ho,hlv,hd=>cases oi ho;exact yl1 hT rX ho hd (.pointer (some ⟨w.heap.size,26,none⟩)) (od dd hT tz t3)
     | 7,ho,hlv,hd =>
      cases oi ho;have v0:=nw dd hT hd tz 6 65 (.pointer (some ⟨w.heap.size,26,none⟩));have hnA:lv 9=false:=by
       cases hA:lv 9 with
       | false=>rfl
       | true=>exact absurd (dep (hT.shut 8 _ rfl (dep (hT.shut 9 _ rfl hA) 8 (by kernel_rfl))) 7 (by kernel_rfl)) (by rw[hlv];decide)
      have hrow:PBk w0.heap.size g w.heap.size CC b wz:=hT.facts 13 (by decide) (hT.past 13 (by decide)) (fun c e=>by injection e with e;subst e;exact hnA);have hrg:=rngC (o:=26) (L:=ACS.toList) hrow.2 (by rw[← HAC.out];exact HAS.out);exact yxe hT rX ho hd (.agg ACS) (exec_load_arr _ _ rfl w.heap.size 26 v0 ACS _ hrg Tryz.underlying43 rfl IT.out)
     | 8,ho,hlv,hd =>
      cases oi ho;have v0:=nw dd hT hd tz 7 66 (.agg ACS);have hnA:lv 9=false:=by
       cases hA:lv 9 with
       | false=>rfl
       | true=>exact absurd (dep (hT.shut 9 _ rfl hA) 8 (by kernel_rfl)) (by rw[hlv];decide)
      have hrow:PBk w0.heap.size g w.heap.size CC b wz:=hT.facts 13 (by decide) (hT.past 13 (by decide)) (fun c e=>by injection e with e;subst e;exact hnA);refine tbw_yield (v:=.slice (some ⟨wz.heap.size,0,none⟩) 1 1) (RG.ext (aj8L_mono w0.heap.size g w.heap.size nn k CC ACS b c.asset)) hT ho hd (wanted_plain rfl) rfl (by decide) (by decide) (exec_buildOne 27 43 (.tmp 66) rfl v0 Tryz.underlying27 hi hz hs (by decide) (by decide) (by simp[Value.cells,← HAC.out,scl])) ((Ext.refl _).alloc _) (POl.made HAC.out (own_lt (by have h:=hrow.1.own.s.own;rw[HN.out]at h;exact h)))
     | 9,ho,hlv,hd =>
      cases oi ho;have v0:=nw dd hT hd tz 4 63 (.slice b.aA nn b.ac);have v1:=nw dd hT hd tz 5 64 (.int .i64 (k:Int));have hnA:lv 9=false:=hlv;have hrow:PBk w0.heap.size g w.heap.size CC b wz:=hT.facts 13 (by decide) (hT.past 13 (by decide)) (fun c e=>by injection e with e;subst e;exact hnA);obtain⟨pp,hU,hblk,hoff⟩:POl (.slice b.aA nn b.ac) (scl c.asset) 43 (U 67) wz:=hT.facts 8 (by decide) (dep hd 8 (by kernel_rfl)) (fun c e=>by injection e with e;subst e;exact hlv);have v2:Act.eval ⟨over Tv U,dd⟩ (.tmp 67)=_:=eval_new (t:=Tv) (d:=dd) hU (by show 67<Tv.size;omega);refine tb_callX (f:=67) (args:=#[.slice b.aA nn b.ac,.int .i64 (k:Int),.slice (some ⟨pp,0,none⟩) 1 1]) hT ho hd rfl rfl (by decide) (by decide) (exec_call3 rfl rfl v0 v1 v2 ENI.out) ?_;refine(insAst_any w0.heap.size b.aA b.ac nn k b.assets c.asset HN.out pp wz (by have h:=hrow.1.own.s;rw[HN.out]at h;exact h) hx.size hk63 hbig hblk HTI.out (fun q hq=>⟨trivial,hoff q hq⟩)).mono ?_;intro e w' hr0;have hr:RetIns eAst wz w0.heap.size (.slice b.aA b.assets.length b.ac) b.assets c.asset k e w':=(by rw[HN.out];exact hr0);obtain⟨A2,c2,rfl,hn2,hkb⟩:=hrow.1.insS hr (by rw[HN.out];exact hk63);refine⟨_,rfl,hr.ext w0 hx (fun q hq=>own_ge hrow.1.own.s.own q hq),⟨_,_,rfl,rfl,hkb _ _ _ _ (by decide) hrow.1.row,hn2.own,hn2.off,hkb _ _ _ _ (by decide) hrow.2,by rw[setS_cells,ins_len _ _ (by rw[HN.out];exact hk63)]⟩,?_⟩;intro j hj hji hlj hcj hR
      match j,hj,hR with
      | 0,_,hR=>exact hR
      | 1,_,hR=>exact hR
      | 2,_,hR=>exact hR
      | 3,_,hR=>exact hR
      | 4,_,hR=>exact hR
      | 5,_,hR=>exact hR
      | 6,_,hR=>exact hR
      | 7,_,hR=>exact hR
      | 8,_,_=>exact absurd rfl (hcj 9 rfl).1
      | 9,_,_=>exact absurd rfl hji
      | 10,_,hR=>exact hR
      | 11,_,hR=>exact hR
      | 12,_,_=>exact absurd (dep (hT.shut 12 _ rfl hlj) 9 (by kernel_rfl)) (by rw[hlv];decide)
      | 13,_,_=>exact absurd rfl (hcj 9 rfl).1
      | j+14,hj,_=>exact absurd hj (by omega)
     | 10,ho,hlv,hd=>cases oi ho;exact yl1 hT rX ho hd (.pointer (some ⟨g,0,none⟩)) (nw dd hT hd tz 0 59 (.pointer (some ⟨g,0,none⟩)))
     | 11,ho,hlv,hd=>cases oi ho;exact yl1 hT rX ho hd (.pointer (some ⟨g,4,none⟩)) (nw dd hT hd tz 10 69 (.pointer (some ⟨g,0,none⟩)))
     | 12,ho,hlv,hd =>
      cases oi ho;have v0:=nw dd hT hd tz 11 70 (.pointer (some ⟨g,4,none⟩));obtain⟨b2,vv,hU,hF,hrw,hown2,hoff2,hcc,hcs⟩:PBi w0.heap.size g w.heap.size CC b 4 (fun b2:BankL=>b2.bank={ b.bank with assets:=b.assets.take k ++ c.asset :: b.assets.drop k }) (U 68) wz:=hT.facts 9 (by decide) (dep hd 9 (by kernel_rfl)) (fun c e=>by injection e with e;subst e;exact hlv);have v1:Act.eval ⟨over Tv U,dd⟩ (.tmp 68)=_:=eval_new (t:=Tv) (d:=dd) hU (by show 68<Tv.size;omega);obtain⟨A2,n2,c2,rfl⟩:=HVF.out _ _ hcs;have hc:=(cell_of_row _ _ 4 _ _ _ hrw).trans H4'.out;have hfz:=frozen_of_row _ _ 4 _ _ hrw;refine tb_store (w':=wz.setCell ⟨g,4,none⟩ (.slice A2 n2 c2)) hT ho hd rfl rfl ?_ (hx.setCell HBG.out _) (PBs.of hF (Nm.mk hrw hown2 hoff2) hcc HNE.out hcs) ?_
      · generalize Act.eval ⟨over Tv U,dd⟩=ev at *;simp[execOp,v0,v1,go_sem,hc,hfz]
      · intro j hj hji hlj hcj hR
        match j,hj,hR with
        | 0,_,hR=>exact hR
        | 1,_,hR=>exact hR
        | 2,_,hR=>exact hR
        | 3,_,hR=>exact hR
        | 4,_,hR=>exact hR
        | 5,_,hR=>exact hR
        | 6,_,hR=>exact hR
        | 7,_,hR=>exact hR
        | 8,_,_=>exact absurd (dep hd 9 (by kernel_rfl)) (by rw[(hcj 9 rfl).2];decide)
        | 9,_,_=>exact absurd rfl (hcj 12 rfl).1
        | 10,_,hR=>exact hR
        | 11,_,hR=>exact hR
        | 12,_,_=>exact absurd rfl hji
        | 13,_,_=>exact absurd (dep hd 9 (by kernel_rfl)) (by rw[(hcj 9 rfl).2];decide)
        | j+14,hj,_=>exact absurd hj (by omega)
     | i+13,ho,_,_=>exact absurd ho (by simp)
   intro U wz hex hout hfin;have PS:PBs w0.heap.size g w.heap.size CC (fun b2:BankL=>b2.bank={ b.bank with assets:=b.assets.take k ++ c.asset :: b.assets.drop k }) wz:=hfin 12 (by decide) rfl;have XE:=Hi hex;clear hex hfin;rw[over_list];simp(disch:=decide) only[overL,Nat.reduceAdd,hout,Option.getD_none];clear hout;obtain⟨b2,hF,hn5,-⟩:=PS;have HF:=Hi hF;have HN5:=Hi hn5;clear hF hn5;go_wp2;go_ret;refine⟨by rw[HZ.out.1];rfl,⟨b2,?_,HN5.out⟩,XE.out⟩;have h:=HF.out;rw[HZ.out.2,h];unfold astI;rw[HK.out]
end Bk
end Go.Proofs.YtfnmgcblhebdbaaGreatDoor
