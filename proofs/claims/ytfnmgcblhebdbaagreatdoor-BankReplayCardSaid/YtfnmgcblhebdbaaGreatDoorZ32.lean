/- Posterior weights in plain words: rules of a grid, of a model, of a pool, weights after steps. No conditions. -/
import Derived.Test.YtfnmgcblhebdbaaGreatDoorZ31
import Derived.Test.YtfnmgcblhebdbaaGreatDoorZ24
import Derived.Test.YtfnmgcblhebdbaaGreatDoorZ4
namespace Go.Proofs.YtfnmgcblhebdbaaGreatDoor
namespace Rw
def rowE (k:Nat)(l:List Int):Int:=if l.length≠k then 1 else if l.all (fun x=>It.wi x 1 1000)=false then 3 else if l.sum≠1000 then 19 else 0
def rowAt (rows:List (List Int))(k i:Nat):Int:=rowE k (rows.getD i [])
def mdlE (rows:List (List Int))(n:Int):Int:=if n<1∨21<n∨(rows.length:Int)≠n then 1 else if(rows.getD 0 []).length<2∨6<(rows.getD 0 []).length then 3 else Rs.fstN (rowAt rows (rows.getD 0 []).length) rows.length
def prior (pr:List Int):List Nat:=pr.map Int.toNat
end Rw
set_option maxRecDepth 100000
set_option maxHeartbeats 6400000
open Go.RowKit
namespace Rw
theorem rowE_len{k:Nat}{l:List Int}(h:l.length≠k):rowE k l=1:=by unfold rowE;rw[if_pos h]
theorem rowE_no{l:List Int}{j:Nat}{x:Int}(hx:l[j]?=some x)(hb:It.wi x 1 1000=false):rowE l.length l=3:=by unfold rowE;rw[if_neg (by simp),if_pos];rw[List.all_eq_false];exact⟨x,List.mem_of_getElem? hx,by rw[hb];simp⟩
theorem rowE_sum{l:List Int}(h:(l.all fun x=>It.wi x 1 1000)=true):rowE l.length l=if l.sum≠1000 then 19 else 0:=by unfold rowE;rw[if_neg (by simp),if_neg (by rw[h];simp)]
theorem sum_next{l:List Int}{j:Nat}{x:Int}(hx:l[j]?=some x):(l.take (j+1)).sum=(l.take j).sum+x:=by rw[List.take_add_one,hx,List.sum_append];simp
theorem all_next{p:Int→Bool}{l:List Int}{k:Nat}{x:Int}(hx:l[k]?=some x)(h:(l.take k).all p=true)(hb:p x=true):(l.take (k+1)).all p=true:=by rw[List.take_add_one,hx,List.all_append,h];simp[hb]
theorem rowAt_at{rows:List (List Int)}{k i:Nat}{l:List Int}(h:rows[i]?=some l):rowAt rows k i=rowE k l:=by unfold rowAt;rw[List.getD_eq_getElem?_getD,h];rfl
theorem mdlE_no{rows:List (List Int)}{n:Int}(h:n<1∨21<n∨(rows.length:Int)≠n):mdlE rows n=1:=by unfold mdlE;rw[if_pos h]
theorem mdlE_cats{rows:List (List Int)}{n:Nat}{l:List Int}(h1:1≤n)(h2:n≤21)(h3:rows.length=n)(h0:rows[0]?=some l)(h:l.length<2∨6<l.length):mdlE rows (n:Int)=3:=by
 unfold mdlE;have e:rows.getD 0 []=l:=by rw[List.getD_eq_getElem?_getD,h0];rfl
 rw[if_neg (by omega),e,if_pos h]
theorem mdlE_rest{rows:List (List Int)}{n:Nat}{l:List Int}(h1:1≤n)(h2:n≤21)(h3:rows.length=n)(h0:rows[0]?=some l)(h:2≤l.length∧l.length≤6):mdlE rows (n:Int)=Rs.fstN (rowAt rows l.length) n:=by
 unfold mdlE;have e:rows.getD 0 []=l:=by rw[List.getD_eq_getElem?_getD,h0];rfl
 rw[if_neg (by omega),e,if_neg (by omega),h3]
def xss (ls:List IL):List (List Int):=ls.map (·.xs)
theorem xss_at{ls:List IL}{i:Nat}{h:IL}(hi:ls[i]?=some h):(xss ls)[i]?=some h.xs:=by unfold xss;rw[List.getElem?_map,hi];rfl
theorem xss_len(ls:List IL):(xss ls).length=ls.length:=List.length_map _
end Rw
theorem kmdl_any(A:Option Addr)(c:Nat)(ls:List IL){n:Nat}(hn:ls.length=n)(k:Int){v:Int}(hv:Rw.mdlE (Rw.xss ls) k=v)(w:World)(h:SlL w A ls)(hb:n≤140737488355328) :
    Calls Tryz.prog 115 #[.agg #[.slice A n c],.int .i64 k] w fun e w'=>e=.returned (.int .i64 v)∧Ext w w':=by
 have H:=Hi h;have HV:=Hi hv;have HN:=Hi hn;have HL:Hid ((Rw.xss ls).length=n):=Hi ((Rw.xss_len ls).trans hn);clear h hv hn;rcases(show k<1∨(1≤k∧21<k)∨(1≤k∧k≤21∧(n:Int)≠k)∨(1≤n∧n≤21∧(n:Int)=k)by omega)with h1 | ⟨h1,h2⟩ | ⟨h1,h2,h3⟩ | ⟨h1,h2,h3⟩
 · have HF:Hid (v=1):=Hi (by rw[← HV.out];exact Rw.mdlE_no (Or.inl h1));go_enter Tryz.func115,Tryz.ntmps115
   go_wp2;go_ret;exact⟨ret_int HF.out.symm,(Ext.refl _).alloc _⟩
 · have HF:Hid (v=1):=Hi (by rw[← HV.out];exact Rw.mdlE_no (Or.inr (Or.inl h2)));go_enter Tryz.func115,Tryz.ntmps115
   go_wp2;go_ret;exact⟨ret_int HF.out.symm,(Ext.refl _).alloc _⟩
 · have HF:Hid (v=1):=Hi (by rw[← HV.out];exact Rw.mdlE_no (Or.inr (Or.inr (by rw[HL.out];exact h3))));have t0:((n:Int) != k)=true:=(by rw[bne_iff_ne];exact h3);clear h3;go_enter Tryz.func115,Tryz.ntmps115
   go_wp2;go_ret;exact⟨ret_int HF.out.symm,(Ext.refl _).alloc _⟩
 · subst h3;have t0:((n:Int) != (n:Int))=false:=(by simp);obtain⟨g0,hg0⟩:∃ x,ls[0]?=some x:=⟨ls[0]'(by rw[HN.out];omega),List.getElem?_eq_getElem _⟩;obtain⟨b,off,rfl,hbb,c0,hi0⟩:=H.out.at_ hg0;rw[Nat.add_zero]at c0;obtain⟨A0,cc0,l0⟩:=g0;have hcap:l0.length≤9223372036854775807:=by have:=hi0.2.1;have:=hi0.2.2.1;unfold maxLen at *;simp only at *;omega
   have HG0:Hid ((Rw.xss ls)[0]?=some l0):=Hi (Rw.xss_at hg0);clear hg0 hi0
   dsimp only at c0
   obtain⟨m,hm⟩:∃ m,l0.length=m:=⟨_,rfl⟩;rw[hm]at c0 hcap;have HM:=Hi hm;clear hm;have nn0:(1:Int)≤(n:Int):=(by omega);have nn1:(n:Int)≤21:=(by omega);have X1:Ext w (w.alloc (.cells #[.slice (some ⟨b,off,none⟩) n c] 46)):=(Ext.refl _).alloc _;have n0:0<n:=(by omega);have HC0:=Hi c0;rcases(show m<2∨(2≤m∧6<m)∨(2≤m∧m≤6)by omega)with h3 | ⟨h3,h4⟩ | ⟨h3,h4⟩
   · have HF:Hid (v=3):=Hi (by rw[← HV.out];exact Rw.mdlE_cats h1 h2 HL.out HG0.out (by rw[HM.out];omega));go_enter Tryz.func115,Tryz.ntmps115
     go_wp2;go_ret;exact⟨ret_int HF.out.symm,X1⟩
   · have HF:Hid (v=3):=Hi (by rw[← HV.out];exact Rw.mdlE_cats h1 h2 HL.out HG0.out (by rw[HM.out];omega));go_enter Tryz.func115,Tryz.ntmps115
     go_wp2;go_ret;exact⟨ret_int HF.out.symm,X1⟩
   · have HF:Hid (v=Rs.fstN (Rw.rowAt (Rw.xss ls) m) n):=Hi (by rw[← HV.out,Rw.mdlE_rest h1 h2 HL.out HG0.out (by rw[HM.out];omega),HM.out]);go_enter Tryz.func115,Tryz.ntmps115
     go_wp2;clear c0;go_loopw [38] (fun i wr=>∃ k:Nat,k≤n∧i=.int .i64 k∧Hid (Rs.fstN (Rw.rowAt (Rw.xss ls) m) k=0)∧Hid (Ext (w.alloc (.cells #[.slice (some ⟨b,off,none⟩) n c] 46)) wr)) (fun i _=>n-(intOf i).toNat)
     case atStart=>exact⟨0,by omega,rfl,Hi rfl,Hi (Ext.refl _)⟩
     case round =>
      obtain⟨k,hk,rfl,HZ,HE⟩:=hrel;by_cases hlt:k<n
      · obtain⟨g,hg⟩:∃ x,ls[k]?=some x:=⟨ls[k]'(by rw[HN.out];exact hlt),List.getElem?_eq_getElem _⟩;obtain⟨b',off',hA',hbb',cx,hix⟩:=(H.out.ext (X1.trans HE.out)).at_ hg;obtain⟨rfl,rfl⟩:b=b'∧off=off':=by cases hA';exact⟨rfl,rfl⟩
        obtain⟨Ax,ccx,lx⟩:=g;have hcx:lx.length≤9223372036854775807:=by have:=hix.2.1;have:=hix.2.2.1;unfold maxLen at *;simp only at *;omega
        have HSX:Hid (SlI wr Ax lx):=Hi hix.1;have HRX:Hid (Rw.rowAt (Rw.xss ls) m k=Rw.rowE m lx):=Hi (Rw.rowAt_at (Rw.xss_at hg))
        dsimp only at cx
        obtain⟨p,hp⟩:∃ p,lx.length=p:=⟨_,rfl⟩;rw[hp]at cx hcx;have HP:=Hi hp;clear hp hg hix hA';have cb:wr.cell? ⟨w.heap.size,0,none⟩=some (.slice (some ⟨b,off,none⟩) n c):=HE.out.keep (World.cell?_alloc_new _ _ _ _);have ki0:(0:Int)≤(k:Int):=(by omega);have ki1:(k:Int)<(n:Int):=(by omega);by_cases hpm:p=m;case neg =>
         have t1:((p:Int) != (m:Int))=true:=(by rw[bne_iff_ne];omega);have HF2:Hid (v=1):=Hi (by rw[HF.out];exact Rs.fstN_hit hlt HZ.out (HRX.out.trans (Rw.rowE_len (by rw[HP.out];exact hpm))) (by decide));clear hpm;go_wp2;go_ret;exact⟨ret_int HF2.out.symm,X1.trans HE.out⟩
        subst hpm;have t1:((p:Int) != (p:Int))=false:=(by simp);go_wp2
        go_loop [48,8] (fun i s=>∃ (j:Nat) (q:Int),j≤p∧i=.int .i64 j∧s=.int .i64 q∧0≤q∧q≤1000*j∧Hid (q=(lx.take j).sum)∧Hid ((lx.take j).all (fun x=>It.wi x 1 1000)=true)) (fun i _=>p-(intOf i).toNat)
        case atStart=>exact⟨0,0,by omega,rfl,rfl,by omega,by omega,Hi (by simp),Hi (by simp)⟩
        case round =>
         clear cx;obtain⟨j,q,hj,rfl,rfl,hq0,hq1,HQ,HA⟩:=hrel;by_cases hjt:j<p
         · obtain⟨b2,off2,x,rfl,hb2,hx,hc2⟩:=HSX.out.at_ (i:=j) (by rw[HP.out];exact hjt);have HX:=Hi hx;have jj0:(0:Int)≤(j:Int):=(by omega);have jj1:(j:Int)<(p:Int):=(by omega);clear hx;rcases(show x<1∨(1≤x∧1000<x)∨(1≤x∧x≤1000)by omega)with h1 | ⟨h1,h2⟩ | ⟨h1,h2⟩
           · have HF2:Hid (v=3):=Hi (by rw[HF.out];exact Rs.fstN_hit hlt HZ.out (HRX.out.trans (by rw[← HP.out];exact Rw.rowE_no HX.out (by unfold It.wi;simp;omega))) (by decide));go_wp2;go_ret;exact⟨ret_int HF2.out.symm,X1.trans HE.out⟩
           · have HF2:Hid (v=3):=Hi (by rw[HF.out];exact Rs.fstN_hit hlt HZ.out (HRX.out.trans (by rw[← HP.out];exact Rw.rowE_no HX.out (by unfold It.wi;simp;omega))) (by decide));go_wp2;go_ret;exact⟨ret_int HF2.out.symm,X1.trans HE.out⟩
           · have HQ2:Hid (q+x=(lx.take (j+1)).sum):=Hi (by rw[Rw.sum_next HX.out,HQ.out]);have HA2:=Hi (Rw.all_next HX.out HA.out (by unfold It.wi;simp;omega));go_wp2
             go_round
             case rel=>exact⟨j+1,q+x,by omega,by go_num,rfl,by omega,by omega,HQ2,HA2⟩
             case measure=>simp[intOf];omega
         · obtain rfl:j=p:=by omega
           have HT:Hid (lx.take j=lx):=Hi (by rw[← HP.out,List.take_length]);have HFR:Hid (Rw.rowAt (Rw.xss ls) j k=if q≠1000 then 19 else 0):=Hi (by have:=HA.out;rw[HT.out]at this;rw[HRX.out];have e:=Rw.rowE_sum this;rw[HP.out]at e;rw[e,HQ.out,HT.out])
           by_cases hq:q=1000
           · have t2:(q != 1000)=false:=(by rw[hq];rfl);have HF2:Hid (Rs.fstN (Rw.rowAt (Rw.xss ls) j) (k+1)=0):=Hi (Rs.fstN_next HZ.out (by rw[HFR.out,if_neg (by simpa using hq)]));clear hq;go_wp2;go_roundw;case rel=>exact⟨k+1,by omega,by go_num,HF2,HE⟩
             case measure=>simp[intOf];omega
           · have t2:(q != 1000)=true:=(by rw[bne_iff_ne];exact hq);have HF2:Hid (v=19):=Hi (by rw[HF.out];exact Rs.fstN_hit hlt HZ.out (by rw[HFR.out,if_pos hq]) (by decide));clear hq;go_wp2;go_ret;exact⟨ret_int HF2.out.symm,X1.trans HE.out⟩
      · obtain rfl:k=n:=by omega
        have HF2:Hid (v=0):=Hi (by rw[HF.out];exact HZ.out);go_wp2;go_ret;exact⟨ret_int HF2.out.symm,X1.trans HE.out⟩
theorem kcats_any(A:Option Addr)(c:Nat)(ls:List IL){n:Nat}(hn:ls.length=n){v:Nat}(hv:((Rw.xss ls).getD 0 []).length=v)(w:World)(h:SlL w A ls)(h1:1≤n)(hb:n≤140737488355328) :
    Calls Tryz.prog 116 #[.agg #[.slice A n c]] w fun e w'=>e=.returned (.int .i64 (v:Int))∧Ext w w':=by
 obtain⟨g0,hg0⟩:∃ x,ls[0]?=some x:=⟨ls[0]'(by rw[hn];omega),List.getElem?_eq_getElem _⟩;obtain⟨b,off,rfl,hbb,c0,hi0⟩:=h.at_ hg0;rw[Nat.add_zero]at c0;have HG:Hid (g0.xs.length=v):=Hi (by rw[← hv,List.getD_eq_getElem?_getD,Rw.xss_at hg0];rfl);obtain⟨A0,cc0,l0⟩:=g0;have H1:=Hi hn;clear hn hv h hg0 hi0
 dsimp only at c0 HG
 rw[HG.out]at c0;have t0:((n:Int) == 0)=false:=by rw[beq_eq_false_iff_ne];omega
 have n0:0<n:=by omega
 have n1:(0:Int)<(n:Int):=by omega
 go_enter Tryz.func116,Tryz.ntmps116
 go_wp2;go_ret;exact⟨rfl,(Ext.refl _).alloc _⟩
end Go.Proofs.YtfnmgcblhebdbaaGreatDoor
