/- The outline of one topic: contracts for the law's first example. Conditions: those of each theorem. -/
import Derived.Test.YtfnmgcblhebdbaaGreatDoorZ12
import Derived.Test.YtfnmgcblhebdbaaGreatDoorZ16
import Derived.WalkMore
import Derived.Deep.LoopGhost
namespace Go.Proofs.YtfnmgcblhebdbaaGreatDoor
open Go.RowKit
namespace Bk
theorem infoTp{CS:Array Value}(h:CS.size=2):(Tryz.prog.info? 41).map (·.size)=some CS.size:=by rw[h];kernel_rfl
end Bk
end Go.Proofs.YtfnmgcblhebdbaaGreatDoor
namespace Go.Proofs.YtfnmgcblhebdbaaGreatDoor
set_option maxRecDepth 100000
set_option maxHeartbeats 25600000
open Go.RowKit
namespace Bk
def lastDot (s:ByteArray):Nat→Option Nat
 | 0=>none
 | n+1=>if It.by_ s n=46 then some n else lastDot s n
theorem lastDot_lt{s:ByteArray}:∀ {n k:Nat},lastDot s n=some k→k<n
 | n+1,k,h=>by
  unfold lastDot at h;split at h
  · injection h with h;omega
  · have:=lastDot_lt h;omega
def parC (s:ByteArray):Option ByteArray:=(lastDot s s.size).map fun k=>s.extract 0 k
theorem lastIx_any(s:ByteArray){v:Int}(hv:ixV (lastDot s s.size)=v)(hs:s.size≤9223372036854775807)(w:World):Calls Tryz.prog 143 #[.string s,.int .u8 46] w fun e w'=>e=.returned (.int .i64 v)∧Ext w w':=by
 have HV:=Hi hv;clear hv;go_enter Tryz.func143,Tryz.ntmps143
 go_wp2;go_loopw [5] (fun i wr=>∃ k:Nat,k≤s.size∧i=.int .i64 ((k:Int)-1)∧Hid (lastDot s s.size=lastDot s k)∧Hid (Ext w wr)) (fun i _=>(intOf i+1).toNat)
 case atStart=>exact⟨s.size,Nat.le_refl _,by go_num,Hi rfl,Hi (Ext.refl _)⟩
 case round =>
  obtain⟨k,hk,rfl,HL,HE⟩:=hrel;cases k with
  | zero=>have hz:Hid (v=-1):=Hi (by rw[← HV.out,HL.out];rfl);go_wp2;go_ret;exact⟨by rw[hz.out];rfl,HE.out⟩
  | succ m =>
   have hm:m<s.size:=(by omega);have hby:=It.by_at s hm;have e1:((m+1:Nat):Int)-1=(m:Int):=(by omega);have e2:(0:Int)≤(m:Int):=(by omega);have e3:(m:Int)<(s.size:Int):=(by omega);rw[e1];by_cases hb:(s[m].toNat:Int)=46
   · have hz:Hid (v=(m:Int)):=Hi (by rw[← HV.out,HL.out];unfold lastDot;rw[if_pos (by rw[hby];exact hb)];rfl);have hb2:s[m].toNat=46:=(by omega);have hb3:s[m]=46:=UInt8.toNat_inj.1 (by rw[hb2];rfl);clear hby;go_wp2;go_ret;exact⟨by rw[hz.out];rfl,HE.out⟩
   · have hz:Hid (lastDot s s.size=lastDot s m):=Hi (by rw[HL.out];unfold lastDot;rw[if_neg (by rw[hby];exact hb)];cases m <;> rfl);have hb2:¬ s[m].toNat=46:=(by omega);have hb3:¬ s[m]=46:=fun e=>hb2 (by rw[e];rfl);clear hby;go_wp2;go_roundw;case rel=>exact⟨m,by omega,by go_num,hz,HE⟩
     case measure=>simp[intOf]
theorem lastB2_any(s:ByteArray){v:Int}(hv:ixV (lastDot s s.size)=v)(hs:s.size≤9223372036854775807)(w:World):Calls Tryz.prog 120 #[.string s,.int .u8 46] w fun e w'=>e=.returned (.int .i64 v)∧Ext w w':=by
 have K:=Hi (lastIx_any s hv hs w);clear hv;go_enter Tryz.func120,Tryz.ntmps120
 go_wp2_with fail
 with_reducible refine K.out.mono ?_
 rintro e w1 ⟨rfl,hb⟩;go_wp2;go_ret;exact⟨rfl,hb⟩
theorem parent_any(s:ByteArray){o:Option ByteArray}(ho:parC s=o)(hs:s.size≤9223372036854775807)(w:World):Calls Tryz.prog 91 #[.string s] w fun e w'=>e=.returned (.tuple #[.string (o.getD ⟨#[]⟩),.bool o.isSome])∧Ext w w':=by
 obtain⟨l,hl⟩:∃ l,lastDot s s.size=l:=⟨_,rfl⟩;have K:=Hi (lastB2_any s (v:=ixV l) (by rw[hl]) hs w);have HL:=Hi hl;have HO:=Hi ho;clear ho hl;go_enter Tryz.func91,Tryz.ntmps91
 go_wp2_with fail
 with_reducible refine K.out.mono ?_
 rintro e w1 ⟨rfl,hb⟩;have HB:=Hi hb;clear hb;cases l with
 | none =>
  have hz:Hid (o=none):=Hi (by rw[← HO.out];unfold parC;rw[HL.out];rfl);simp only[ixV];go_wp2
  go_ret2
  exact⟨by rw[hz.out];rfl,HB.out⟩
 | some k =>
  have hk:k<s.size:=lastDot_lt HL.out;have hz:Hid (o=some (s.extract 0 k)):=Hi (by rw[← HO.out];unfold parC;rw[HL.out];rfl);simp only[ixV];have e1:¬ (k:Int)<0:=by omega
  have e2:(k:Int)≤(s.size:Int):=by omega
  have e3:k≤s.size:=by omega
  go_wp2
  go_ret2
  exact⟨by rw[hz.out];rfl,HB.out⟩
theorem title2_any(s:ByteArray)(w:World)(hs:s.size≤9223372036854775807) :
    Calls Tryz.prog 90 #[.string s] w fun e w'=>e=.returned (.bool (It.prn s 60 false))∧Ext w w':=by
 obtain⟨v,hv⟩:∃ v,It.prn s 60 false=v:=⟨_,rfl⟩;have HV:=Hi hv;rw[hv];clear hv;go_enter Tryz.func90,Tryz.ntmps90
 go_wp2
 go_loop [3] (fun i=>∃ k:Nat,k≤s.size∧i=.int .i64 k∧Hid (It.allN (fun i=>It.okc false (It.by_ s i)) k=true)) (fun i=>s.size-(intOf i).toNat)
 case atStart=>exact⟨0,by omega,rfl,Hi rfl⟩
 case round =>
  obtain⟨k,hk,rfl,HA⟩:=hrel;by_cases hlt:k<s.size
  · have hby:=It.by_at s hlt;have HE:Hid ((fun i=>It.okc false (It.by_ s i)) k=false→Hid (v=false)):=Hi fun g=>Hi (by rw[← HV.out];unfold It.prn;rw[It.allN_no hlt g];simp)
    have HN:Hid ((fun i=>It.okc false (It.by_ s i)) k=true→Hid (It.allN (fun i=>It.okc false (It.by_ s i)) (k+1)=true)):=Hi fun g=>Hi (It.allN_next HA.out g);rcases(show((s[k].toNat:Int)<32)∨(32≤(s[k].toNat:Int)∧126<(s[k].toNat:Int))∨(32≤(s[k].toNat:Int)∧(s[k].toNat:Int)≤126)by omega)with h1 | ⟨h1,h2⟩ | ⟨h1,h2⟩
    · have HF:=HE.out (by show It.okc false (It.by_ s k)=false;rw[hby];unfold It.okc;simp;omega);clear hby;go_wp2
      all_goals
       go_ret;exact⟨ret_bool HF.out.symm,Ext.refl _⟩
    · have HF:=HE.out (by show It.okc false (It.by_ s k)=false;rw[hby];unfold It.okc;simp;omega);clear hby;go_wp2
      all_goals
       go_ret;exact⟨ret_bool HF.out.symm,Ext.refl _⟩
    · have HF:=HN.out (by show It.okc false (It.by_ s k)=true;rw[hby];unfold It.okc;simp;omega);clear hby;go_wp2
      all_goals
       go_round
       case rel=>exact⟨k+1,by omega,by go_num,HF⟩
       case measure=>simp[intOf];omega
  · obtain rfl:k=s.size:=by omega
    have HF:Hid (v=(decide (1≤s.size) && decide (s.size≤60))):=Hi (by rw[← HV.out];unfold It.prn;rw[HA.out,Bool.and_true]);rcases(show(s.size<1)∨(1≤s.size∧60<s.size)∨(1≤s.size∧s.size≤60)by omega)with h1 | ⟨h1,h2⟩ | ⟨h1,h2⟩
    · have HF2:Hid (v=false):=Hi (by rw[HF.out,decide_eq_false (by omega)];rfl);go_wp2;go_ret;exact⟨ret_bool (by first | exact HF2.out.symm | (rw[HF2.out];exact decide_eq_false (by omega)) | (rw[HF2.out];exact decide_eq_true (by omega))),Ext.refl _⟩
    · have HF2:Hid (v=false):=Hi (by rw[HF.out,decide_eq_false (show ¬ s.size≤60 by omega),Bool.and_false]);go_wp2;go_ret;exact⟨ret_bool (by first | exact HF2.out.symm | (rw[HF2.out];exact decide_eq_false (by omega)) | (rw[HF2.out];exact decide_eq_true (by omega))),Ext.refl _⟩
    · have HF2:Hid (v=true):=Hi (by rw[HF.out,decide_eq_true h1,decide_eq_true h2];rfl);go_wp2;go_ret;exact⟨ret_bool (by first | exact HF2.out.symm | (rw[HF2.out];exact decide_eq_false (by omega)) | (rw[HF2.out];exact decide_eq_true (by omega))),Ext.refl _⟩
end Bk
set_option maxRecDepth 100000
set_option maxHeartbeats 51200000
open Go.RowKit
namespace Bk
def strLe (a b:ByteArray):Bool:=Op.bytesLess a.toList b.toList || a.toList == b.toList
def topE (o:List Tpc)(k:Nat)(x:Tpc):Int :=
 if It.codeC x.1=false then 2 else if It.prn x.2 60 false=false then 1 else if(decide (0<k) && strLe x.1 ((o.getD (k-1) (⟨#[]⟩,⟨#[]⟩)).1))=true then 23
 else match parC x.1 with
  | none=>0
  | some p=>if hasT (o.take k) p=true then 0 else 6
def ctN (o:List Tpc):Nat→Int
 | 0=>0
 | n+1=>if ctN o n≠0 then ctN o n else match o[n]? with
   | some x=>topE o n x
   | none=>0
def ctE (o:List Tpc):Int:=if 200<o.length then 5 else ctN o o.length
theorem ctN_next{o:List Tpc}{k:Nat}{x:Tpc}(h:ctN o k=0)(hx:o[k]?=some x):ctN o (k+1)=topE o k x:=by show(if ctN o k≠0 then ctN o k else match o[k]? with | some x=>topE o k x | none=>0)=_;rw[if_neg (by simp[h]),hx]
theorem ctN_stay{o:List Tpc}{m:Nat}(h:ctN o m≠0):∀ n,m≤n→ctN o n=ctN o m
 | 0,hn=>by rw[Nat.le_zero.1 hn]
 | n+1,hn=>by
  rcases Nat.lt_or_ge n m with h1 | h1
  · rw[show n+1=m by omega]
  · have h2:=ctN_stay h n h1;show(if ctN o n≠0 then ctN o n else _)=_;rw[if_pos (by rw[h2];exact h),h2]
theorem ctN_bad{o:List Tpc}{k n:Nat}{x:Tpc}{v:Int}(h:ctN o k=0)(hx:o[k]?=some x)(hn:k<n)(hv:topE o k x=v)(h0:v≠0):ctN o n=v:=by have h1:=(ctN_next h hx).trans hv;rw[ctN_stay (m:=k+1) (by rw[h1];exact h0) n hn,h1]
theorem topE_ok{o:List Tpc}{k:Nat}{x:Tpc}(h1:It.codeC x.1=true)(h2:It.prn x.2 60 false=true)(h3:(decide (0<k) && strLe x.1 ((o.getD (k-1) (⟨#[]⟩,⟨#[]⟩)).1))=false) :
    topE o k x=match parC x.1 with
     | none=>0
     | some p=>if hasT (o.take k) p=true then 0 else 6:=by
 unfold topE;rw[if_neg (by simp[h1]),if_neg (by simp[h2]),if_neg (by rw[h3];exact Bool.false_ne_true)]
theorem tk_at{xs:List Tpc}{k j:Nat}{x:Tpc}(h:xs[j]?=some x)(hj:j<k):(xs.take k)[j]?=some x:=by rw[List.getElem?_take,if_pos hj,h]
theorem ctCheck_any(A:Option Addr)(c n:Nat)(xs:List Tpc)(hn:xs.length=n){v:Int}(hv:ctE xs=v)(w:World)(h:SlX eTpc w A xs)(hc:n≤c)(hn63:n≤9223372036854775807)(_hc63:c≤9223372036854775807)(hg:Gm w) :
    Calls Tryz.prog 54 #[.slice A n c] w fun e w'=>(∃ i:Int,e=.returned (.tuple #[.int .i64 v,.int .i64 i]))∧Ext w w':=by
 have H:=Hi h;have HG:=Hi hg;have HN:=Hi hn;have HV:=Hi hv;clear h hg hn hv;go_enter Tryz.func54,Tryz.ntmps54
 by_cases hbig:200<n
 · have hb1:(200:Int)<(n:Int):=(by omega);have hz:Hid (v=5):=Hi (by rw[← HV.out];unfold ctE;rw[if_pos (by rw[HN.out];exact hbig)]);go_wp2
   try go_step3
   try go_wp2
   try rw[Exit.noGoto_ret]
   go_ret2
   exact⟨⟨200,by rw[hz.out];rfl⟩,Ext.refl _⟩
 have hb1:¬ (200:Int)<(n:Int):=by omega
 have HE0:Hid (v=ctN xs n):=Hi (by rw[← HV.out];unfold ctE;rw[if_neg (by rw[HN.out];exact hbig),HN.out]);go_wp2
 go_step3
 go_wp2
 go_step3
 go_wp2;go_loopw [15] (fun i wr=>∃ k:Nat,k≤n∧i=.int .i64 k∧Hid (ctN xs k=0)∧Hid (Ext w wr)) (fun i _=>n-(intOf i).toNat)
 case atStart=>exact⟨0,by omega,rfl,Hi rfl,Hi (Ext.refl _)⟩
 case round =>
  obtain⟨k,hk,rfl,HF,HE⟩:=hrel;by_cases hlt:k<n
  · obtain⟨x,hx⟩:∃ x,xs[k]?=some x:=⟨xs[k]'(by rw[HN.out];exact hlt),List.getElem?_eq_getElem _⟩;obtain⟨b,off,rfl,hb,hcc,hin⟩:=(H.out.ext HE.out).at_ hx;have HX:=Hi hx;have HS1:=Hi hin.1;have HS2:=Hi hin.2;have ki0:(0:Int)≤(k:Int):=(by omega);have ki1:(k:Int)<(n:Int):=(by omega);have HC:Hid (wr.rangeAt b (off+k*2) (#[.string x.1,.string x.2]:Array Value).toList):=Hi hcc;have IT:Hid ((Tryz.prog.info? 41).map (·.size)=some (#[.string x.1,.string x.2]:Array Value).size):=Hi (infoTp rfl);have XW:Hid (Ext wr (wr.alloc (.cells #[.string x.1,.string x.2] 41))):=Hi ((Ext.refl _).alloc _);have c0:(wr.alloc (.cells #[.string x.1,.string x.2] 41)).cell? ⟨wr.heap.size,0,none⟩=some (.string x.1):=World.cell?_alloc_new _ _ _ _;have C1:Hid ((wr.alloc (.cells #[.string x.1,.string x.2] 41)).cell? ⟨wr.heap.size,1,none⟩=some (.string x.2)):=Hi (World.cell?_alloc_new _ _ _ _);have C0:=Hi c0;obtain⟨u1,hu1⟩:∃ u,It.codeC x.1=u:=⟨_,rfl⟩;obtain⟨u2,hu2⟩:∃ u,It.prn x.2 60 false=u:=⟨_,rfl⟩;have U1:=Hi hu1;have U2:=Hi hu2;clear hx hcc hin hu1 hu2;go_wp2_with (first
     | (with_reducible refine wpList_load_arr rfl 41 (.tmp 18) rfl b (off+k*2) (by with_unfolding_all rfl) #[.string x.1,.string x.2] _ HC.out Tryz.underlying41 rfl IT.out ?_)
     | (with_reducible refine wpList_store_new rfl 41 (.tmp 5) (.tmp 19) rfl _ #[.string x.1,.string x.2] 41 (by with_unfolding_all rfl) (by with_unfolding_all rfl) IT.out (by with_unfolding_all rfl) (by simp[Value.oneCell']) ?_))
    have K:=cvalid_any x.1 (wr.alloc (.cells #[.string x.1,.string x.2] 41)) (by have:=HS1.out;omega) (HG.out.ext (HE.out.trans XW.out));rw[U1.out]at K;with_reducible refine K.mono ?_
    rintro e w1 ⟨rfl,hb1⟩;have X1:=Hi ((HE.out.trans XW.out).trans hb1);have d0:=hb1.keep C0.out;have d1:=hb1.keep C1.out;have D0:=Hi d0;clear K hb1 c0;cases u1 with
    | false =>
     have hz:Hid (v=2):=Hi (HE0.out.trans (ctN_bad HF.out HX.out hlt (by unfold topE;rw[if_pos U1.out]) (by decide)));go_wp2
     try rw[Exit.noGoto_ret]
     go_ret2
     exact⟨⟨_,by rw[hz.out];rfl⟩,X1.out⟩
    | true =>
    go_wp2_with fail
    have K2:=title2_any x.2 w1 (by have:=HS2.out;omega);rw[U2.out]at K2;with_reducible refine K2.mono ?_
    rintro e w2 ⟨rfl,hb2⟩;have X2:=Hi (X1.out.trans hb2);have e0:=hb2.keep D0.out;have E0:=Hi e0;clear hb2 d0 d1 K2;cases u2 with
    | false =>
     have hz:Hid (v=1):=Hi (HE0.out.trans (ctN_bad HF.out HX.out hlt (by unfold topE;rw[if_neg (by simp[U1.out]),if_pos U2.out]) (by decide)));go_wp2
     try rw[Exit.noGoto_ret]
     go_ret2
     exact⟨⟨_,by rw[hz.out];rfl⟩,X2.out⟩
    | true =>
    obtain⟨u3,hu3⟩:∃ u,(decide (0<k) && strLe x.1 ((xs.getD (k-1) (⟨#[]⟩,⟨#[]⟩)).1))=u:=⟨_,rfl⟩;have U3:=Hi hu3;clear hu3;have KEY:Hid (u3=true→v=23):=Hi (fun h=>HE0.out.trans (ctN_bad HF.out HX.out hlt (by unfold topE;rw[if_neg (by simp[U1.out]),if_neg (by simp[U2.out]),if_pos (U3.out.trans h)]) (by decide)));have KEN:Hid (u3=false→topE xs k x=match parC x.1 with
     | none=>0
     | some p=>if hasT (xs.take k) p=true then 0 else 6):=Hi (fun h=>topE_ok U1.out U2.out (U3.out.trans h))
    obtain⟨o,ho⟩:∃ o,parC x.1=o:=⟨_,rfl⟩;have HO:=Hi ho;clear ho;by_cases hk0:k=0
    · subst hk0;have hu:u3=false:=(by rw[← U3.out];rfl);subst hu;go_wp2;go_quiet (fail)
      go_wp2_with fail
      with_reducible refine(parent_any x.1 HO.out (by have:=HS1.out;omega) _).mono ?_
      rintro e w3 ⟨rfl,hb3⟩;have X3:=Hi ((X2.out.drewN _).trans hb3);clear hb3;cases o with
      | none =>
       have hnx:Hid (ctN xs (0+1)=0):=Hi ((ctN_next HF.out HX.out).trans (by rw[KEN.out (by simp),HO.out]));go_wp2;go_roundw;case rel=>exact⟨0+1,by omega,by go_num,hnx,X3⟩
       case measure=>simp[intOf];omega
      | some p =>
       go_wp2;go_loopw [56] (fun i wr=>i=.int .i64 0∧Hid (Ext w wr)) (fun _ _=>0)
       case atStart=>exact⟨rfl,X3⟩
       case round =>
        obtain⟨rfl,HEI⟩:=hrel;have hz:Hid (v=6):=Hi (HE0.out.trans (ctN_bad HF.out HX.out hlt (by rw[KEN.out (by simp),HO.out];exact if_neg (by simp[hasT])) (by decide)));go_wp2
        try rw[Exit.noGoto_ret]
        go_ret2
        exact⟨⟨_,by rw[hz.out];rfl⟩,HEI.out⟩
    · obtain⟨y,hy⟩:∃ y,xs[k-1]?=some y:=⟨xs[k-1]'(by rw[HN.out];omega),List.getElem?_eq_getElem _⟩;obtain⟨b',off',hA,-,hyc,-⟩:=(H.out.ext X2.out).at_ hy;injection hA with hA;injection hA with hA1 hA2;subst hA1 hA2;have g0:w2.cell? ⟨b,off+(k-1)*2,none⟩=some (.string y.1):=hyc 0 _ rfl;have hgd:xs.getD (k-1) (⟨#[]⟩,⟨#[]⟩)=y:=(by rw[List.getD_eq_getElem?_getD,hy];rfl);have hcmp:(Op.bytesLess x.1.toList y.1.toList || x.1.toList == y.1.toList)=u3:=by have h3:=U3.out;rw[hgd,decide_eq_true (by omega),Bool.true_and]at h3;exact h3
      have kp:0<k:=(by omega);have kw:IntKind.i64.wrap ((k:Int)-1)=(k:Int)-1:=(by rw[IntKind.wrap_i64];omega);have kt:((k:Int)-1).toNat=k-1:=(by omega);have k0:(0:Int)≤(k:Int)-1:=(by omega);have k1:(k:Int)-1<(n:Int):=(by omega);clear hy hyc hgd;cases u3 with
      | true =>
       have hz:=Hi (KEY.out rfl);go_wp2;go_quiet (fail)
       go_wp2
       try rw[Exit.noGoto_ret]
       go_ret2
       exact⟨⟨_,by rw[hz.out];rfl⟩,X2.out.drewN _⟩
      | false =>
       go_wp2;go_quiet (fail)
       go_wp2_with fail
       with_reducible refine(parent_any x.1 HO.out (by have:=HS1.out;omega) _).mono ?_
       rintro e w3 ⟨rfl,hb3⟩;have X3:=Hi ((X2.out.drewN _).trans hb3);clear hb3 g0 hcmp;cases o with
       | none =>
        have hnx:Hid (ctN xs (k+1)=0):=Hi ((ctN_next HF.out HX.out).trans (by rw[KEN.out (by simp),HO.out]));go_wp2;go_roundw;case rel=>exact⟨k+1,by omega,by go_num,hnx,X3⟩
        case measure=>simp[intOf];omega
       | some p =>
        go_wp2;go_loopw [56] (fun i wr=>∃ j:Nat,j≤k∧i=.int .i64 j∧Hid (hasT (xs.take j) p=false)∧Hid (Ext w wr)) (fun i _=>k-(intOf i).toNat)
        case atStart=>exact⟨0,by omega,rfl,Hi rfl,X3⟩
        case round =>
         obtain⟨j,hj,rfl,HJ,HEI⟩:=hrel;by_cases hjl:j<k
         · obtain⟨y2,hy2⟩:∃ y,xs[j]?=some y:=⟨xs[j]'(by rw[HN.out];omega),List.getElem?_eq_getElem _⟩;obtain⟨b2,off2,hA2,-,hyc2,-⟩:=(H.out.ext HEI.out).at_ hy2;injection hA2 with hA2;injection hA2 with hB1 hB2;subst hB1 hB2;have HY2:=Hi hy2;have HC2:Hid (wr.rangeAt b (off+j*2) (#[.string y2.1,.string y2.2]:Array Value).toList):=Hi hyc2;have IT2:Hid ((Tryz.prog.info? 41).map (·.size)=some (#[.string y2.1,.string y2.2]:Array Value).size):=Hi (infoTp rfl);have XW2:Hid (Ext wr (wr.alloc (.cells #[.string y2.1,.string y2.2] 41))):=Hi ((Ext.refl _).alloc _);have cz:(wr.alloc (.cells #[.string y2.1,.string y2.2] 41)).cell? ⟨wr.heap.size,0,none⟩=some (.string y2.1):=World.cell?_alloc_new _ _ _ _;have ji0:(0:Int)≤(j:Int):=(by omega);have ji1:(j:Int)<(k:Int):=(by omega);obtain⟨u4,hu4⟩:∃ u,(y2.1.toList == p.toList)=u:=⟨_,rfl⟩;have U4:=Hi hu4;clear hy2 hyc2;cases u4 with
           | true =>
            have hnx:Hid (ctN xs (k+1)=0):=Hi ((ctN_next HF.out HX.out).trans (by rw[KEN.out (by simp),HO.out];exact if_pos (hasT_yes (tk_at HY2.out hjl) U4.out)));go_wp2_with (first
             | (with_reducible refine wpList_load_arr rfl 41 (.tmp 58) rfl b (off+j*2) (by with_unfolding_all rfl) #[.string y2.1,.string y2.2] _ HC2.out Tryz.underlying41 rfl IT2.out ?_)
             | (with_reducible refine wpList_store_new rfl 41 (.tmp 9) (.tmp 59) rfl _ #[.string y2.1,.string y2.2] 41 (by with_unfolding_all rfl) (by with_unfolding_all rfl) IT2.out (by with_unfolding_all rfl) (by simp[Value.oneCell']) ?_))
            exact⟨⟨k+1,by omega,by go_num,hnx,Hi (HEI.out.trans XW2.out)⟩,by simp[intOf];omega⟩
           | false =>
            go_wp2_with (first
             | (with_reducible refine wpList_load_arr rfl 41 (.tmp 58) rfl b (off+j*2) (by with_unfolding_all rfl) #[.string y2.1,.string y2.2] _ HC2.out Tryz.underlying41 rfl IT2.out ?_)
             | (with_reducible refine wpList_store_new rfl 41 (.tmp 9) (.tmp 59) rfl _ #[.string y2.1,.string y2.2] 41 (by with_unfolding_all rfl) (by with_unfolding_all rfl) IT2.out (by with_unfolding_all rfl) (by simp[Value.oneCell']) ?_))
            go_roundw;case rel=>exact⟨j+1,by omega,by go_num,Hi (hasT_next HJ.out HY2.out U4.out),Hi (HEI.out.trans XW2.out)⟩
            case measure=>simp[intOf];omega
         · obtain rfl:j=k:=by omega
           have hz:Hid (v=6):=Hi (HE0.out.trans (ctN_bad HF.out HX.out hlt (by rw[KEN.out (by simp),HO.out];exact if_neg (by rw[HJ.out];exact Bool.false_ne_true)) (by decide)));go_wp2
           try rw[Exit.noGoto_ret]
           go_ret2
           exact⟨⟨_,by rw[hz.out];rfl⟩,HEI.out⟩
  · obtain rfl:k=n:=by omega
    have hz:Hid (v=0):=Hi (HE0.out.trans HF.out);go_wp2
    try rw[Exit.noGoto_ret]
    go_ret2
    exact⟨⟨0,by rw[hz.out];rfl⟩,HE.out⟩
end Bk
end Go.Proofs.YtfnmgcblhebdbaaGreatDoor
namespace Go.Proofs.YtfnmgcblhebdbaaGreatDoor
open Go.RowKit
namespace Bk
theorem infoTpF:(Tryz.prog.info? 41).map (fun i=>(i.zero,i.size,i.bytes))=some (some (.agg #[.string ⟨#[]⟩,.string ⟨#[]⟩]),2,32):=by kernel_rfl
end Bk
namespace Bk
theorem rng2{w:World}{n o:Nat}{CS:Array Value}{T:TypeId}{a b:Value}(h:w.heap[n]?=some (.cells CS T (0,0)))(h1:CS[o]?=some a)(h2:CS[o+1]?=some b):w.rangeAt n o (#[a,b]:Array Value).toList:=fun j v hv=>by
 match j,hv with
 | 0,hv=>injection hv with hv;subst hv;exact(cell_of_row _ _ o _ _ _ h).trans h1
 | 1,hv=>injection hv with hv;subst hv;exact(cell_of_row _ _ (o+1) _ _ _ h).trans h2
 | j+2,hv=>simp at hv
end Bk
end Go.Proofs.YtfnmgcblhebdbaaGreatDoor
