/- enemy.ordered, enemy.Are: contracts. Conditions: those of each theorem. -/
import Derived.Test.YtfnmgcblhebdbaaGreatDoorZ19
import Derived.Test.YtfnmgcblhebdbaaGreatDoorZ25
namespace Go.Proofs.YtfnmgcblhebdbaaGreatDoor
set_option maxRecDepth 100000
set_option maxHeartbeats 25600000
open Go.RowKit
namespace Bk
namespace En
def ordP (p:Int×Int):Int×Int:=(min p.1 p.2,max p.1 p.2)
def areE (l:List (Int×Int))(p:Int×Int):Bool:=!decide (p.1=p.2) && l.any fun x=>decide (ordP x=ordP p)
theorem run_eql_par(p q:Int×Int){v:Bool}(hv:decide (p=q)=v)(w:World):(binOp .eql 80 (.agg #[.int .i64 p.1,.int .i64 p.2]) (.agg #[.int .i64 q.1,.int .i64 q.2])).run Tryz.prog w=.ok (.bool v) w:=by
 subst hv;obtain⟨a,b⟩:=p;obtain⟨a',b'⟩:=q;simp only[Prod.mk.injEq]
 go_simp
 repeat (split <;> simp_all)
theorem run_neq_par(p q:Int×Int){v:Bool}(hv:(!decide (p=q))=v)(w:World):(binOp .neq 80 (.agg #[.int .i64 p.1,.int .i64 p.2]) (.agg #[.int .i64 q.1,.int .i64 q.2])).run Tryz.prog w=.ok (.bool v) w:=by
 subst hv;obtain⟨a,b⟩:=p;obtain⟨a',b'⟩:=q;simp only[Prod.mk.injEq]
 go_simp
 repeat (split <;> simp_all)
theorem infoP{CS:Array Value}(h:CS.size=2):(Tryz.prog.info? 80).map (·.size)=some CS.size:=by rw[h];kernel_rfl
theorem parp(p:Int×Int):∃ CS:Array Value,.agg #[.int .i64 p.1,.int .i64 p.2]=Value.agg CS∧CS.size=2∧CS.all (·.oneCell')=true∧CS.toList=pcl p∧CS[0]?=some (.int .i64 p.1)∧CS[1]?=some (.int .i64 p.2):=⟨_,rfl,rfl,by simp[Value.oneCell'],rfl,rfl,rfl⟩
theorem ordered_any(a b:Int){p:Int×Int}(hp:ordP (a,b)=p)(w:World):Calls Tryz.prog 112 #[.int .i64 a,.int .i64 b] w fun e w'=>e=.returned (.agg #[.int .i64 p.1,.int .i64 p.2])∧Ext w w':=by
 subst hp;have HZ:Hid ((w.alloc (.cells #[.int .i64 (min a b),.int .i64 (max a b)] 80)).heap[w.heap.size]?=some (.cells #[.int .i64 (min a b),.int .i64 (max a b)] 80 (0,0))):=Hi (heap_alloc_new w _);have IA:Hid ((Tryz.prog.info? 80).map (·.size)=some (#[.int .i64 (min a b),.int .i64 (max a b)]:Array Value).size):=Hi (by kernel_rfl);have XA:Hid (Ext w (w.alloc (.cells #[.int .i64 (min a b),.int .i64 (max a b)] 80))):=Hi ((Ext.refl _).alloc _);go_enter Tryz.func112,Tryz.ntmps112
 go_wp2_with fail
 refine bodyPost_ret (v:=.agg #[.int .i64 (min a b),.int .i64 (max a b)]) (results_oneR Tryz.results112 _ _ (w.heap.size) _ _ _ _ rfl HZ.out Tryz.underlying80 rfl IA.out) rfl ?_;exact⟨rfl,XA.out⟩
def en7L (q9 _q7:Nat)(p:Int×Int)(o _tt:Int×Int)(CT:Array Value)(uu:Bool):List (Option Value→World→Prop):=sl [.pointer (some ⟨q9,0,none⟩),.int .i64 p.1,.pointer (some ⟨q9,1,none⟩),.int .i64 p.2,.agg #[.int .i64 o.1,.int .i64 o.2],.agg CT,.bool uu]
def en7D:List Nat:=[22,23,24,25,26,27,28]
def en7E (q9 q7:Nat)(t:Array Value):Prop:=t.getD 7 undef=.pointer (some ⟨q7,0,none⟩)∧t.getD 9 undef=.pointer (some ⟨q9,0,none⟩)∧t.size=30

theorem are_any(A:Option Addr)(c n:Nat)(l:List (Int×Int))(p:Int×Int)(hn:l.length=n){v:Bool}(hv:areE l p=v)(w:World)(h:SlX ePar w A l)(hn63:n≤9223372036854775807) :
    Calls Tryz.prog 111 #[.slice A n c,.int .i64 p.1,.int .i64 p.2] w fun e w'=>e=.returned (.bool v)∧Ext w w':=by
 have H:=Hi h;have HN:=Hi hn;have HV:=Hi hv;have ENO:=Hi (enters_of Tryz.func112 (by kernel_rfl) rfl);clear h hn hv;by_cases he:p.1=p.2
 · have hz:Hid (v=false):=Hi (by have h:=HV.out;unfold areE at h;rw[decide_eq_true he]at h;exact h.symm);have h1:(p.1 == p.2)=true:=(by rw[beq_iff_eq];exact he);clear he;go_enter Tryz.func111,Tryz.ntmps111
   go_wp2;go_ret;exact⟨by rw[hz.out];rfl,Ext.refl _⟩
 have h1:(p.1 == p.2)=false:=by rw[beq_eq_false_iff_ne];exact he
 have HVV:Hid ((l.any fun x=>decide (ordP x=ordP p))=v):=Hi (by have h:=HV.out;unfold areE at h;rw[decide_eq_false he]at h;exact h);obtain⟨t,ht⟩:∃ t,ordP p=t:=⟨_,rfl⟩;have HT:=Hi ht;obtain⟨CT,hta,hnt,h1t,hkt,ht0,ht1⟩:=parp t;have HTA:=Hi hta;have IT:=Hi (infoP hnt);have NT:Hid ((#[.int .i64 0,.int .i64 0]:Array Value).size=CT.size):=Hi hnt.symm;have OT:=Hi h1t;clear he hta hnt h1t hkt ht0 ht1 ht;go_enter Tryz.func111,Tryz.ntmps111
 go_wp2_with fail
 with_reducible refine(ordered_any p.1 p.2 HT.out _).mono ?_
 rintro e w1 ⟨rfl,hb1⟩;have HX1:=Hi (hb1.alloc (.cells CT 80));have HB7:Hid ((w1.alloc (.cells CT 80)).heap[w1.heap.size]?=some (.cells CT 80 (0,0))):=Hi (heap_alloc_new w1 _);clear hb1;rw[HTA.out];go_wp2_with (with_reducible refine wpList_store_new rfl 80 (.tmp 7) (.tmp 15) rfl _ CT 80 (by with_unfolding_all rfl) (by with_unfolding_all rfl) IT.out (by with_unfolding_all exact NT.out) OT.out ?_)
 generalize w1.alloc (.cells CT 80)=w2 at HX1 HB7 ⊢;go_loopw [18] (fun i wr=>∃ k:Nat,k≤n∧i=.int .i64 k∧Hid (((l.take k).any fun x=>decide (ordP x=t))=false)∧Hid (Ext w2 wr)) (fun i _=>n-(intOf i).toNat)
 case atStart=>exact⟨0,by omega,rfl,Hi rfl,Hi (Ext.refl _)⟩
 case round =>
 obtain⟨k,hk,rfl,HF,HE⟩:=hrel;by_cases hlt:k<n
 · obtain⟨x,hx⟩:∃ x,l[k]?=some x:=⟨l[k]'(by rw[HN.out];exact hlt),List.getElem?_eq_getElem _⟩;obtain⟨bb,off,rfl,hbl,hcx,-⟩:=((H.out.ext HX1.out).ext HE.out).at_ hx;have HX:=Hi hx;obtain⟨CX,hxa,hnx,h1x,hkx,hx0,hx1⟩:=parp x;have IX:=Hi (infoP hnx);have NX:Hid (CX.size=2):=Hi hnx;have OX:=Hi h1x;have HC:Hid (wr.rangeAt bb (off+k*2) CX.toList):=Hi (by rw[hkx];exact hcx);have HXA:Hid (Ext wr (wr.alloc (.cells CX 80))):=Hi ((Ext.refl _).alloc _);have HB9:Hid ((wr.alloc (.cells CX 80)).heap[wr.heap.size]?=some (.cells CX 80 (0,0))):=Hi (heap_alloc_new wr _);have C0:Hid ((wr.alloc (.cells CX 80)).cell? ⟨wr.heap.size,0,none⟩=some (.int .i64 x.1)):=Hi ((cell_of_row _ _ 0 _ _ _ HB9.out).trans hx0);have C1:Hid ((wr.alloc (.cells CX 80)).cell? ⟨wr.heap.size,1,none⟩=some (.int .i64 x.2)):=Hi ((cell_of_row _ _ 1 _ _ _ HB9.out).trans hx1);have HB71:Hid ((wr.alloc (.cells CX 80)).heap[w1.heap.size]?=some (.cells CT 80 (0,0))):=Hi ((HE.out.trans HXA.out).blockAt HB7.out);obtain⟨o,ho⟩:∃ o,ordP (x.1,x.2)=o:=⟨_,rfl⟩;have HOX:=Hi ho;obtain⟨u,hu⟩:∃ u,decide (o=t)=u:=⟨_,rfl⟩;have HU:=Hi hu;have ki0:(0:Int)≤(k:Int):=(by omega);have ki1:(k:Int)<(n:Int):=(by omega);clear hx hcx hxa hnx h1x hkx hx0 hx1 ho hu;go_wp2_with (first
    | (with_reducible refine wpList_load_arr rfl 80 (.tmp 20) rfl bb (off+k*2) (by with_unfolding_all rfl) CX _ HC.out Tryz.underlying80 rfl IX.out ?_)
    | (with_reducible refine wpList_store_new rfl 80 (.tmp 9) (.tmp 21) rfl _ CX 80 (by with_unfolding_all rfl) (by with_unfolding_all rfl) IX.out (by with_unfolding_all exact NX.out.symm) OX.out ?_))
   simp only[Act.put];go_wp2_with fail
   refine region_tb (by kernel_rfl) (by decide +kernel) (en7E wr.heap.size w1.heap.size) ⟨rfl,rfl,rfl⟩ 7 en7D (fun _=>none) (RG (en7L wr.heap.size w1.heap.size x o t CT u)) (wr.alloc (.cells CX 80)) (Ext.refl _) (fun i h1 h2=>absurd h2 (Nat.not_lt.2 h1)) ?_ ?_
   · intro Tv dd lv U wz i oZ hE ho hlv hd hT;obtain⟨t7,t9,tz⟩:=hE;have hx:=hT.ext;have rX:=RG.ext (l:=en7L wr.heap.size w1.heap.size x o t CT u) (sl_mono _)
     match i,ho,hlv,hd with
     | 0,ho,hlv,hd=>cases oi ho;exact yl1 hT rX ho hd (.pointer (some ⟨wr.heap.size,0,none⟩)) (od dd hT tz t9)
     | 1,ho,hlv,hd=>cases oi ho;exact yk1 hT rX ho hd (.int .i64 x.1) (nw dd hT hd tz 0 22 (.pointer (some ⟨wr.heap.size,0,none⟩))) (hx.keep C0.out)
     | 2,ho,hlv,hd=>cases oi ho;exact yl1 hT rX ho hd (.pointer (some ⟨wr.heap.size,1,none⟩)) (od dd hT tz t9)
     | 3,ho,hlv,hd=>cases oi ho;exact yk1 hT rX ho hd (.int .i64 x.2) (nw dd hT hd tz 2 24 (.pointer (some ⟨wr.heap.size,1,none⟩))) (hx.keep C1.out)
     | 4,ho,hlv,hd=>cases oi ho;have v0:=nw dd hT hd tz 1 23 (.int .i64 x.1);have v1:=nw dd hT hd tz 3 25 (.int .i64 x.2);refine cl hT rX ho hd (f:=112) (args:=#[.int .i64 x.1,.int .i64 x.2]) (exec_call2 rfl rfl v0 v1 ENO.out) ?_;refine(ordered_any x.1 x.2 HOX.out wz).mono ?_;rintro e w' ⟨rfl,hb⟩;exact⟨_,rfl,hb,rfl⟩
     | 5,ho,hlv,hd=>cases oi ho;have v0:=od dd hT tz t7;exact yxe hT rX ho hd (.agg CT) (exec_load_row _ _ rfl w1.heap.size v0 _ _ _ _ (hx.blockAt HB71.out) Tryz.underlying80 rfl IT.out)
     | 6,ho,hlv,hd=>cases oi ho;have v0:=nw dd hT hd tz 4 26 (.agg #[.int .i64 o.1,.int .i64 o.2]);have v1:=nw dd hT hd tz 5 27 (.agg CT);refine yxe hT rX ho hd (.bool u) ?_;have hE:=run_eql_par o t HU.out wz;rw[HTA.out]at hE;generalize Act.eval ⟨over Tv U,dd⟩=ev at *;simp[execOp,eqGuard,v0,v1,hE]
     | i+7,ho,_,_=>exact absurd ho (by simp)
   intro U wz hex hout hfin;have f28:U 28=some (.bool u):=hfin 6 (by decide) rfl;have XE:=Hi hex;clear hex hfin;rw[over_list];simp(disch:=decide) only[overL,Nat.reduceAdd,hout,Option.getD_none];rw[f28];simp only[Option.getD_some];clear hout f28;cases u with
   | true=>have hz:Hid (v=true):=Hi (by rw[← HVV.out,List.any_eq_true];exact⟨x,List.mem_of_getElem? HX.out,by rw[HT.out,← HU.out];exact congrArg (fun z=>decide (z=t)) HOX.out⟩);go_wp2;go_ret;exact⟨by rw[hz.out];rfl,(HX1.out.trans HE.out).trans (HXA.out.trans XE.out)⟩
   | false =>
    go_wp2;go_roundw;case rel=>exact⟨k+1,by omega,by go_num,Hi (by rw[List.take_add_one,HX.out,List.any_append,HF.out];show(false || (decide (ordP x=t) || false))=false;rw[show ordP x=o from HOX.out,HU.out];rfl),Hi ((HE.out.trans HXA.out).trans XE.out)⟩
    case measure=>simp[intOf];omega
 · have hz:Hid (v=false):=Hi (by have h:=HF.out;rw[List.take_of_length_le (by rw[HN.out];omega),← HT.out]at h;exact HVV.out.symm.trans h)
   have hkn:¬ (k:Int)<(n:Int):=(by omega);go_wp2;go_ret;exact⟨by rw[hz.out];rfl,HX1.out.trans HE.out⟩
end En
end Bk
end Go.Proofs.YtfnmgcblhebdbaaGreatDoor
