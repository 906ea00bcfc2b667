/- asset.Missing: whether something is missing: a contract. Conditions: those of each theorem. -/
import Derived.Test.YtfnmgcblhebdbaaGreatDoorZ37
import Derived.Test.YtfnmgcblhebdbaaGreatDoorZ38
import Derived.Test.YtfnmgcblhebdbaaGreatDoorZ12
import Derived.Test.YtfnmgcblhebdbaaGreatDoorZ11
namespace Go.Proofs.YtfnmgcblhebdbaaGreatDoor
set_option maxRecDepth 100000
set_option maxHeartbeats 25600000
open Go.RowKit
namespace Bk
def usR (l:List Ast)(r day:Int):Bool:=match astF l r with
 | none=>false
 | some a=>astU a day == 0
def misR (refs:List Int)(l:List Ast)(day:Int):Bool:=refs.any fun r=>!usR l r day
def usF (l:List Ast)(day:Int)(id:Int):Option Bool:=(astF l id).map fun a=>astU a day == 0
theorem usF_get(l:List Ast)(day id:Int):(usF l day id).getD false=usR l id day:=by unfold usF usR;cases astF l id <;> rfl
theorem astF_snoc{l:List Ast}{k:Nat}{x:Ast}(hx:l[k]?=some x)(id:Int):astF (l.take (k+1)) id=(astF (l.take k) id).or (if x.id=id then some x else none):=by
 unfold astF;rw[List.take_add_one,hx,List.find?_append]
 congr 1
 by_cases h:x.id=id <;> simp[h]
theorem usF_seen{l:List Ast}{k:Nat}{x:Ast}{day:Int}(hx:l[k]?=some x)(h:(usF (l.take k) day x.id).isSome=true):usF (l.take (k+1)) day=usF (l.take k) day:=by
 funext id
 unfold usF at *;rw[astF_snoc hx];by_cases he:x.id=id
 · subst he;cases hf:astF (l.take k) x.id with
   | none=>rw[hf]at h;cases h
   | some a=>rfl
 · rw[if_neg he,Option.or_none]
theorem usF_new{l:List Ast}{k:Nat}{x:Ast}{day:Int}(hx:l[k]?=some x)(h:(usF (l.take k) day x.id).isSome=false):usF (l.take (k+1)) day=fun y=>if y=x.id then some (astU x day == 0)else usF (l.take k) day y:=by
 funext id
 unfold usF at *;rw[astF_snoc hx];by_cases he:id=x.id
 · subst he;cases hf:astF (l.take k) x.id with
   | none=>simp
   | some a=>rw[hf]at h;cases h
 · rw[if_neg he,if_neg (fun e=>he e.symm),Option.or_none]
theorem exec_mapUpdate{P:Program}{ev:Operand→Value}{o:Oper}{w w':World}(t:TypeId)(m x v:Operand)(ho:o.op=.mapUpdate t m x v){vm vx vv:Value}(hm:ev m=vm)(hx:ev x=vx)(hv:ev v=vv)(hr:(Instr.mapUpdate t vm vx vv).run P w=.ok () w'):(execOp ev o).run P w=.ok .skip w':=by simp[execOp,ho,hm,hx,hv,hr,Result.andThen]
def ms7L (q9 mb kk:Nat)(id dy uu:Int)(ACS:Array Value)(ff:Int→Option Bool):List (Option Value→World→Prop):=[sv (.map (some mb)),
 sv (.pointer (some ⟨q9,0,none⟩)),
 sv (.int .i64 id),
 sv (.agg ACS),
 sv (.int .i64 dy),
 sv (.int .i64 uu),
 sv (.bool (uu == 0)),
 fun _ w=>MpB w mb (kk+1) (fun y=>if y=id then some (uu == 0)else ff y),
 fun _ w=>MpB w mb kk ff,
 fun _ w=>w.heap[q9]?=some (.cells ACS 43 (0,0))]
theorem ms7L_mono(q9 mb kk:Nat)(id dy uu:Int)(ACS:Array Value)(ff:Int→Option Bool):AllMono (ms7L q9 mb kk id dy uu ACS ff):=⟨mono_val _,mono_val _,mono_val _,mono_val _,mono_val _,mono_val _,mono_val _,(fun _ _ _ he h=>MpB.ext h he),(fun _ _ _ he h=>MpB.ext h he),(fun _ _ _ he h=>he.blockAt h),trivial⟩
def ms7D:List Nat:=[31,32,33,34,35,36,37,900,901,902]
def ms7C (j:Nat):Option Nat:=if j=8 then some 7 else none
def ms7E (q9 mb:Nat)(dy:Int)(t:Array Value):Prop:=t.getD 2 undef=.int .i64 dy∧t.getD 7 undef=.map (some mb)∧t.getD 9 undef=.pointer (some ⟨q9,0,none⟩)∧t.size=58

theorem missing_any(rA:Option Addr)(rc nr:Nat)(refs:List Int)(aA:Option Addr)(ac nl:Nat)(l:List Ast)(day:Int)(hnr:refs.length=nr)(hnl:l.length=nl)(w:World)(hr:SlX eI w rA refs)(hl:SlX eAst w aA l)(hbr:nr*8≤140737488355328)(hbl:nl*48≤140737488355328) :
    Calls Tryz.prog 106 #[.slice rA nr rc,.slice aA nl ac,.int .i64 day] w fun e w'=>(∃ A n c,e=.returned (.slice A n c)∧(n=0↔misR refs l day=false))∧Ext w w':=by
 have HNR:=Hi hnr;have HNL:=Hi hnl;have HR:=Hi hr;have HL:=Hi hl;have hr63:nr≤9223372036854775807:=by omega
 have hl63:nl≤9223372036854775807:=by omega
 have IA5:Hid ((Tryz.prog.info? 43).map (·.size)=some 5):=Hi (by kernel_rfl);have ENU:=Hi (enters_of Tryz.func134 (by kernel_rfl) rfl);have X0:Hid (Ext w (w.alloc (.map #[] 0))):=Hi ((Ext.refl _).alloc _);have HM0:Hid (MpB (w.alloc (.map #[] 0)) w.heap.size 0 (usF (l.take 0) day)):=Hi (MpB.made w);obtain⟨i0,hi0,hz0,hz1,hz2⟩:=info_parts infoI;clear hnr hnl hr hl;have hmm:=@run_makeMap Tryz.prog;go_enter Tryz.func106,Tryz.ntmps106
 go_wp2;go_loopw [18] (fun i wr=>∃ k:Nat,k≤nl∧i=.int .i64 k∧Hid (MpB wr w.heap.size k (usF (l.take k) day))∧Hid (Ext w wr)) (fun i _=>nl-(intOf i).toNat)
 case atStart=>exact⟨0,by omega,rfl,HM0,X0⟩
 case round =>
 obtain⟨k,hk,rfl,HM,HE⟩:=hrel;by_cases hlt:k<nl
 · obtain⟨x,hx⟩:∃ x,l[k]?=some x:=⟨l[k]'(by rw[HNL.out];exact hlt),List.getElem?_eq_getElem _⟩;obtain⟨bb,off,rfl,hbl2,hc,hin⟩:=(HL.out.ext HE.out).at_ hx;have HX:=Hi hx;have HI64:=Hi hin.2.1;have HKM:Hid (k<maxLen):=Hi (by unfold maxLen;omega);obtain⟨ACS,hcs,hsz,h1c,hcl⟩:=astp x;have HAC:=Hi hcs;have ONE:=Hi h1c;have HC:Hid (wr.rangeAt bb (off+k*5) ACS.toList):=Hi (by rw[hcl];exact hc);have IA:Hid ((Tryz.prog.info? 43).map (·.size)=some ACS.size):=Hi (by rw[hsz];exact IA5.out);have NI:Hid (ACS.size=5):=Hi hsz;have HAI:Hid (ACS[0]?=some (.int .i64 x.id)):=Hi (by rw[← hcs];rfl);have ki0:(0:Int)≤(k:Int):=(by omega);have ki1:(k:Int)<(nl:Int):=(by omega);have XA:Hid (Ext wr (wr.alloc (.cells ACS 43))):=Hi ((Ext.refl _).alloc _);have HBA:Hid ((wr.alloc (.cells ACS 43)).heap[wr.heap.size]?=some (.cells ACS 43 (0,0))):=Hi (heap_alloc_new wr _);have HMA:=Hi (HM.out.ext XA.out);have HXA:=Hi (HE.out.trans XA.out);have c0:(wr.alloc (.cells ACS 43)).cell? ⟨wr.heap.size,0,none⟩=some (.int .i64 x.id):=(cell_of_row _ _ 0 _ _ _ HBA.out).trans HAI.out;have hlk:=HMA.out.look HI64.out true;rw[if_pos rfl]at hlk;obtain⟨s,hs⟩:∃ s,(usF (l.take k) day x.id).isSome=s:=⟨_,rfl⟩;rw[hs]at hlk;have HS:=Hi hs;obtain⟨u,hu⟩:∃ u,astU x day=u:=⟨_,rfl⟩;have HU:=Hi hu;have HQN:Hid (wr.heap.size≠w.heap.size):=Hi (by have:=HM.out.lt;omega);clear hx hc hin hcs hsz h1c hcl hs hu;cases s with
   | true =>
    go_wp2_with (first
     | (with_reducible refine wpList_load_arr rfl 43 (.tmp 20) rfl bb (off+k*5) (by with_unfolding_all rfl) ACS _ HC.out Tryz.underlying43 rfl IA.out ?_)
     | (with_reducible refine wpList_store_new rfl 43 (.tmp 9) (.tmp 21) rfl _ ACS 43 (by with_unfolding_all rfl) (by with_unfolding_all rfl) IA.out (by with_unfolding_all exact NI.out.symm) ONE.out ?_))
    go_roundw;case rel=>exact⟨k+1,by omega,by go_num,Hi (by rw[usF_seen HX.out HS.out];obtain⟨D,h1,h2,h3⟩:=HMA.out;exact⟨D,h1.mono (by omega),h2,h3⟩),HXA⟩
    case measure=>simp[intOf];omega
   | false =>
    go_wp2_with (first
     | (with_reducible refine wpList_load_arr rfl 43 (.tmp 20) rfl bb (off+k*5) (by with_unfolding_all rfl) ACS _ HC.out Tryz.underlying43 rfl IA.out ?_)
     | (with_reducible refine wpList_store_new rfl 43 (.tmp 9) (.tmp 21) rfl _ ACS 43 (by with_unfolding_all rfl) (by with_unfolding_all rfl) IA.out (by with_unfolding_all exact NI.out.symm) ONE.out ?_))
    go_wp2_with fail
    refine region_tb (by kernel_rfl) (by decide +kernel) (ms7E wr.heap.size w.heap.size day) ⟨rfl,rfl,rfl,rfl⟩ 10 ms7D ms7C (RG (ms7L wr.heap.size w.heap.size k x.id day u ACS ((usF (l.take k) day)))) w HXA.out (fun i h1 h2=>by
    have h3:8≤i:=h1;have h4:i<10:=h2;rcases(show i=8∨i=9 by omega)with rfl | rfl
    · exact MpB.ext HMA.out (Ext.refl _).drew
    · exact HBA.out) ?_ ?_
    · intro Tv dd lv U wz i oZ hE ho hlv hd hT;obtain⟨t2,t7,t9,tz⟩:=hE;have hx:=hT.ext;have rX:=RG.ext (ms7L_mono wr.heap.size w.heap.size k x.id day u ACS ((usF (l.take k) day)))
      match i,ho,hlv,hd with
      | 0,ho,hlv,hd=>cases oi ho;exact yl1 hT rX ho hd (.map (some w.heap.size)) (od dd hT tz t7)
      | 1,ho,hlv,hd=>cases oi ho;exact yl1 hT rX ho hd (.pointer (some ⟨wr.heap.size,0,none⟩)) (od dd hT tz t9)
      | 2,ho,hlv,hd=>cases oi ho;have hblk:wz.heap[wr.heap.size]?=some (.cells ACS 43 (0,0)):=hT.facts 9 (by decide) (hT.past 9 (by decide)) (fun c e=>by cases e);exact yk1 hT rX ho hd (.int .i64 x.id) (nw dd hT hd tz 1 32 (.pointer (some ⟨wr.heap.size,0,none⟩))) ((cell_of_row _ _ 0 _ _ _ hblk).trans HAI.out)
      | 3,ho,hlv,hd=>cases oi ho;have v0:=od dd hT tz t9;have hblk:wz.heap[wr.heap.size]?=some (.cells ACS 43 (0,0)):=hT.facts 9 (by decide) (hT.past 9 (by decide)) (fun c e=>by cases e);exact yxe hT rX ho hd (.agg ACS) (exec_load_row _ _ rfl wr.heap.size v0 _ _ _ _ hblk Tryz.underlying43 rfl IA.out)
      | 4,ho,hlv,hd=>cases oi ho;exact yl1 hT rX ho hd (.int .i64 day) (od dd hT tz t2)
      | 5,ho,hlv,hd=>cases oi ho;have v0:=nw dd hT hd tz 3 34 (.agg ACS);have v1:=nw dd hT hd tz 4 35 (.int .i64 day);refine cl hT rX ho hd (f:=134) (args:=#[.agg ACS,.int .i64 day]) (exec_call2 rfl rfl v0 v1 ENU.out) ?_;refine(astUse_any x ACS HAC.out day HU.out wz).mono ?_;rintro e w' ⟨rfl,hb⟩;exact⟨_,rfl,hb,rfl⟩
      | 6,ho,hlv,hd=>cases oi ho;have v1:Act.eval ⟨over Tv U,dd⟩ (.const (.int .i64 0))=.int .i64 0:=rfl;exact yl2 hT rX ho hd (.bool (u == 0)) (nw dd hT hd tz 5 36 (.int .i64 u)) v1
      | 7,ho,hlv,hd =>
       cases oi ho;have v0:=nw dd hT hd tz 0 31 (.map (some w.heap.size));have v1:=nw dd hT hd tz 2 33 (.int .i64 x.id);have v2:=nw dd hT hd tz 6 37 (.bool (u == 0));have hm:MpB wz w.heap.size k (usF (l.take k) day):=hT.facts 8 (by decide) (hT.past 8 (by decide)) (fun c e=>by injection e with e;subst e;exact hlv);obtain⟨w9,hrun,hm9,hg9⟩:=hm.put HI64.out (u == 0) HKM.out;refine tb_store (w':=w9) hT ho hd rfl rfl (exec_mapUpdate _ _ _ _ rfl v0 v1 v2 hrun) (hx.grown hg9 (fun j hj=>by injection hj with hj;omega)) hm9 ?_;intro j hj hji hlj hcj hR
       match j,hj,hR with
       | 0,_,hR=>exact hR
       | 1,_,hR=>exact hR
       | 2,_,hR=>exact hR
       | 3,_,hR=>exact hR
       | 4,_,hR=>exact hR
       | 5,_,hR=>exact hR
       | 6,_,hR=>exact hR
       | 7,_,_=>exact absurd rfl hji
       | 8,_,_=>exact absurd rfl (hcj 7 rfl).1
       | 9,_,hR=>exact(hg9.block _ (blk_lt hR) (fun e=>by injection e with e;exact HQN.out e)).trans hR
       | j+10,hj,_=>exact absurd hj (by omega)
      | i+8,ho,_,_=>exact absurd ho (by simp)
    intro U wz hex hout hfin;have HM9:Hid (MpB wz w.heap.size (k+1) (fun y=>if y=x.id then some (u == 0)else usF (l.take k) day y)):=Hi (hfin 7 (by decide) rfl);have XE:=Hi hex;clear hex hfin;rw[over_list];simp(disch:=decide) only[overL,Nat.reduceAdd,hout,Option.getD_none];clear hout;go_wp2;go_roundw;case rel=>exact⟨k+1,by omega,by go_num,Hi (by rw[usF_new HX.out HS.out,HU.out];exact HM9.out),XE⟩
    case measure=>simp[intOf];omega
 · obtain rfl:k=nl:=by omega
   have hk1:¬ (k:Int)<(k:Int):=(by omega);have HME:Hid (MpB wr w.heap.size k (usF l day)):=Hi (by have h:=HM.out;rw[List.take_of_length_le (by rw[HNL.out];exact Nat.le_refl _)]at h;exact h);go_wp2;clear hmm HM0 X0;obtain⟨wl,rfl⟩:∃ W,W=wr:=⟨_,rfl⟩;have HLW:Hid (w.heap.size≤wl.heap.size):=Hi HE.out.size;go_loopw [41,12] (fun i v wr=>∃ j:Nat,j≤nr∧i=.int .i64 j∧wr.ownsRow wl.heap.size 3 1 v ((refs.take j).filter fun r=>!usR l r day).length (((refs.take j).filter fun r=>!usR l r day).map (Value.int .i64))∧Ext wl wr) (fun i _ _=>nr-(intOf i).toNat)
   case atStart=>exact⟨0,by omega,rfl,own_nil _ _ _ _,Ext.refl _⟩
   case round =>
   obtain⟨j,hj,rfl,hown,he⟩:=hrel;by_cases hlt:j<nr
   · obtain⟨r,hr⟩:∃ r,refs[j]?=some r:=⟨refs[j]'(by rw[HNR.out];exact hlt),List.getElem?_eq_getElem _⟩;obtain⟨bb,off,rfl,hbl2,hc,hin⟩:=((HR.out.ext HE.out).ext he).at_ hr;have c0:wr.cell? ⟨bb,off+j,none⟩=some (.int .i64 r):=by have h:=hc 0 _ rfl;rw[Nat.add_zero,show eI.k=1 from rfl,Nat.mul_one]at h;exact h
     have ji0:(0:Int)≤(j:Int):=(by omega);have ji1:(j:Int)<(nr:Int):=(by omega);have hlk:=(HME.out.ext he).look hin false;rw[if_neg (by decide),usF_get]at hlk;have HTK:Hid (((refs.take (j+1)).filter fun r=>!usR l r day)=((refs.take j).filter fun r=>!usR l r day) ++ if usR l r day then[]else[r]):=Hi (by
      rw[List.take_add_one,hr,List.filter_append]
      congr 1
      show([r].filter fun r=>!usR l r day)=_;rw[List.filter_cons];cases usR l r day <;> rfl)
     have HO:=Hi hown;have HLE:Hid (((refs.take j).filter fun r=>!usR l r day).length≤j):=Hi (Nat.le_trans (List.length_filter_le _ _) (by rw[List.length_take];omega));have hE2:=Hi he;obtain⟨s,hs⟩:∃ s,usR l r day=s:=⟨_,rfl⟩;rw[hs]at hlk HTK;clear hr hc hin hown he hs;cases s with
     | true =>
      go_wp2;go_roundw;case rel=>exact⟨j+1,by omega,by go_num,by rw[HTK.out,if_pos rfl,List.append_nil];exact HO.out,hE2.out⟩
      case measure=>simp[intOf];omega
     | false =>
      have HSZ:Hid ((((refs.take j).filter fun r=>!usR l r day).length+1)*8≤140737488355328):=Hi (by have:=HLE.out;omega);have hsz:=HSZ.out;have hszr:=hE2.out.size;obtain⟨F,hF⟩:∃ F,((refs.take j).filter fun r=>!usR l r day)=F:=⟨_,rfl⟩;rw[hF]at HTK HO hsz;clear HLE HSZ hF;go_wp2_with (at_builtin;refine wpList_append_lies _ rfl _ _ 22 rfl wl.heap.size 3 i0 (.int .i64 0) 1 8 Tryz.underlying22 hi0 hz0 hz1 hz2 rfl (by decide) _ _ _ rfl (HO.out.alloc _) ⟨wr.heap.size,0,none⟩ 1 1 [.int .i64 r] rfl rfl (cell_one_new _ _ _) (by simp[Value.oneCell']) (by decide) (by unfold maxLen;omega) (by omega) (by simp;omega) (wr.heap.size+1) (by simp) ?_;intro gg cap w2 hown2 hgrow2 hat2 hlt2)
      have HO2:=Hi hown2;have HE2:=Hi ((hE2.out.alloc _).grown hgrow2 (own_ge HO.out));clear hown2 hgrow2 hat2 hlt2;go_wp2;go_roundw;case rel=>exact⟨j+1,by omega,by go_num,by rw[HTK.out,if_neg (by decide),List.length_append,List.map_append];exact HO2.out,HE2.out⟩
      case measure=>simp[intOf];omega
   · obtain rfl:j=nr:=by omega
     have hj1:¬ (j:Int)<(j:Int):=(by omega);rw[List.take_of_length_le (by rw[HNR.out];exact Nat.le_refl _)]at hown;have HFL:Hid ((refs.filter fun r=>!usR l r day).length≤j):=Hi (Nat.le_trans (List.length_filter_le _ _) (by rw[HNR.out];exact Nat.le_refl _));have HZ:Hid ((refs.filter fun r=>!usR l r day).length=0↔misR refs l day=false):=Hi (by unfold misR;rw[List.length_eq_zero_iff,List.filter_eq_nil_iff,List.any_eq_false])
     obtain⟨F,hF⟩:∃ F,(refs.filter fun r=>!usR l r day)=F:=⟨_,rfl⟩;rw[hF]at hown HFL HZ;have HO:=Hi hown;have hE2:=Hi he;clear hown he hF;go_wp2_with fail
     with_reducible refine(sort_own wl wl.heap.size (Nat.le_refl _) _ F rfl (by have:=HFL.out;omega) _ hE2.out HO.out).mono ?_
     rintro e w1 ⟨rfl,ho1,hx1⟩;have HO1:=Hi ho1;have HX1:=Hi hx1;obtain⟨A1,c1,rfl⟩:=own_form ho1;have HB:Hid (((A1=none∧F.length=0)∨∃ g,A1=some ⟨g,0,none⟩∧w.heap.size≤g∧IntB w1 g F.length)∧F.length≤c1∧c1≤9223372036854775807):=Hi (by
      rcases ho1.2 with ⟨e,hz⟩ | ⟨g,cap,cur,e,hbase,hgb,r1,r2,r3,r4⟩
      · injection e with e1 _ e3;subst e1 e3;exact⟨Or.inl ⟨rfl,hz⟩,by omega,by omega⟩
      · injection e with e1 _ e3;subst e1 e3;refine⟨Or.inr ⟨g,rfl,by have:=HLW.out;omega,cur,hgb,by omega,fun i hi=>?_⟩,r1,by unfold maxLen at r2;omega⟩;have hil:i<(It.sorted F).length:=by have:=ho1.1;rw[List.length_map,Nat.mul_one]at this;omega
        refine⟨(It.sorted F)[i],?_⟩;have h4:(cur.toList.take (F.length*1))[i]?=some (.int .i64 (It.sorted F)[i]):=(by rw[r4,List.getElem?_map,List.getElem?_eq_getElem hil];rfl);rw[List.getElem?_take,if_pos (by omega)]at h4;simpa using h4)
     have HEW:=Hi ((HE.out.trans HX1.out));clear ho1 hx1 HO1 HX1;go_wp2_with fail
     with_reducible refine(compI_any w A1 c1 F.length F.length _ HEW.out HB.out.1 (Nat.le_refl _) HB.out.2.1 HB.out.2.2).mono ?_
     rintro e w2 ⟨⟨A2,n2,c2,rfl,h2⟩,hx2⟩;have H2:=Hi (h2.trans HZ.out);have HX2:=Hi hx2;clear h2 hx2;go_wp2;go_ret;exact⟨⟨A2,n2,c2,rfl,H2.out⟩,HX2.out⟩
end Bk
end Go.Proofs.YtfnmgcblhebdbaaGreatDoor
