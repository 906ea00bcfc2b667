/- The bank's sameItem, slices.EqualFunc at items and at rows: contracts. Conditions: those of each theorem. -/
import Derived.Test.YtfnmgcblhebdbaaGreatDoorV35
import Derived.Test.YtfnmgcblhebdbaaGreatDoorV12
namespace Go.Proofs.YtfnmgcblhebdbaaGreatDoor
open Go.RowKit
namespace Bk
theorem equalInt_any(A:Option Addr)(c:Nat)(xs:List Int)(B:Option Addr)(d:Nat)(ys:List Int){n m:Nat}(hn:xs.length=n)(hm:ys.length=m){v:Bool}(hv:v=true↔xs=ys)(hl:n≤9223372036854775807)(w:World)(ha:SlI w A xs)(hb:SlI w B ys)(hl2:m≤9223372036854775807) :
    Calls Tryz.prog 47 #[.slice A n c,.slice B m d] w fun e w'=>e=.returned (.bool v)∧Ext w w':=by
 subst hn hm;refine(equalI_any A c B d xs ys w ha hb hl hl2).mono ?_;rintro e w' ⟨rfl,q,rfl⟩;exact⟨ret_bool (by unfold It.eqI;rw[Bool.eq_iff_iff,decide_eq_true_iff,hv]),(Ext.refl _).drewN q⟩
end Bk
namespace Bk
set_option maxRecDepth 100000 in
set_option maxHeartbeats 25600000 in
theorem bsameReview_any(x y:RvL){v:Bool}(hv:v=true↔x.rc=y.rc)(w:World)(hx:x.In w)(hy:y.In w) :
    Calls Tryz.prog 87 #[x.agg,y.agg] w fun e w'=>e=.returned (.bool v)∧Ext w w':=by
 obtain⟨CA,hca,hna,-,hka⟩:=x.packed;obtain⟨CB,hcb,hnb,-,hkb⟩:=y.packed;rw[hca,hcb];have HV:=Hi hv;clear hv;obtain⟨n_ap,hn_ap⟩:∃ n,x.ap.xs.length=n:=⟨_,rfl⟩;obtain⟨m_ap,hm_ap⟩:∃ n,y.ap.xs.length=n:=⟨_,rfl⟩;obtain⟨n_fa,hn_fa⟩:∃ n,x.fa.xs.length=n:=⟨_,rfl⟩;obtain⟨m_fa,hm_fa⟩:∃ n,y.fa.xs.length=n:=⟨_,rfl⟩;obtain⟨n_log,hn_log⟩:∃ n,x.log.length=n:=⟨_,rfl⟩;obtain⟨m_log,hm_log⟩:∃ n,y.log.length=n:=⟨_,rfl⟩;have J0:Hid (CA[0]?=some (.int .i64 x.st)∧CB[0]?=some (.int .i64 y.st)):=Hi ⟨by rw[← hka];rfl,by rw[← hkb];rfl⟩;have J1:Hid (CA[1]?=some (.int .i64 x.au)∧CB[1]?=some (.int .i64 y.au)):=Hi ⟨by rw[← hka];rfl,by rw[← hkb];rfl⟩;have J2:Hid (CA[2]?=some (.slice x.ap.A n_ap x.ap.c)∧CB[2]?=some (.slice y.ap.A m_ap y.ap.c)):=Hi ⟨by rw[← hka,← hn_ap];rfl,by rw[← hkb,← hm_ap];rfl⟩;have J3:Hid (CA[3]?=some (.slice x.fa.A n_fa x.fa.c)∧CB[3]?=some (.slice y.fa.A m_fa y.fa.c)):=Hi ⟨by rw[← hka,← hn_fa];rfl,by rw[← hkb,← hm_fa];rfl⟩;have J4:Hid (CA[4]?=some (.slice x.lA n_log x.lc)∧CB[4]?=some (.slice y.lA m_log y.lc)):=Hi ⟨by rw[← hka,← hn_log];rfl,by rw[← hkb,← hm_log];rfl⟩;have K2:=Hi (fun(v:Bool) (hv:v=true↔x.ap.xs=y.ap.xs) (W:World) (h:Ext w W)=>equalInt_any x.ap.A x.ap.c x.ap.xs y.ap.A y.ap.c y.ap.xs hn_ap hm_ap (v:=v) hv (by rw[← hn_ap];exact sl_len63 ⟨hx.ap.2.1,hx.ap.2.2.1⟩) W (hx.ap.ext h).1 (hy.ap.ext h).1 (by rw[← hm_ap];exact sl_len63 ⟨hy.ap.2.1,hy.ap.2.2.1⟩));have K3:=Hi (fun(v:Bool) (hv:v=true↔x.fa.xs=y.fa.xs) (W:World) (h:Ext w W)=>equalInt_any x.fa.A x.fa.c x.fa.xs y.fa.A y.fa.c y.fa.xs hn_fa hm_fa (v:=v) hv (by rw[← hn_fa];exact sl_len63 ⟨hx.fa.2.1,hx.fa.2.2.1⟩) W (hx.fa.ext h).1 (hy.fa.ext h).1 (by rw[← hm_fa];exact sl_len63 ⟨hy.fa.2.1,hy.fa.2.2.1⟩));have K4:=Hi (fun(v:Bool) (hv:v=true↔x.log=y.log) (W:World) (h:Ext w W)=>equalAct_any x.lA x.lc x.log y.lA y.lc y.log hn_log hm_log (v:=v) hv (by rw[← hn_log];exact sl_len63 hx.lc) W (hx.log.ext h) (hy.log.ext h));clear hx hy hca hcb hna hnb hka hkb hn_ap hm_ap hn_fa hm_fa hn_log hm_log;have X_0:Hid (Ext w ((w.alloc (.cells CA 54)).alloc (.cells CB 54))):=Hi (((Ext.refl _).alloc _).alloc _);have HA_0:Hid (((w.alloc (.cells CA 54)).alloc (.cells CB 54)).heap[w.heap.size]?=some (.cells CA 54 (0,0))):=Hi (two_fst' _ _ _);have HB_0:Hid (((w.alloc (.cells CA 54)).alloc (.cells CB 54)).heap[w.heap.size+1]?=some (.cells CB 54 (0,0))):=Hi (heap_new_at _ _ _ (by simp));have ca0:((w.alloc (.cells CA 54)).alloc (.cells CB 54)).cell? ⟨w.heap.size,0,none⟩=some (.int .i64 x.st):=(cell_of_row _ _ 0 _ _ _ HA_0.out).trans J0.out.1;have cb0:((w.alloc (.cells CA 54)).alloc (.cells CB 54)).cell? ⟨w.heap.size+1,0,none⟩=some (.int .i64 y.st):=(cell_of_row _ _ 0 _ _ _ HB_0.out).trans J0.out.2;have ca1:((w.alloc (.cells CA 54)).alloc (.cells CB 54)).cell? ⟨w.heap.size,1,none⟩=some (.int .i64 x.au):=(cell_of_row _ _ 1 _ _ _ HA_0.out).trans J1.out.1;have cb1:((w.alloc (.cells CA 54)).alloc (.cells CB 54)).cell? ⟨w.heap.size+1,1,none⟩=some (.int .i64 y.au):=(cell_of_row _ _ 1 _ _ _ HB_0.out).trans J1.out.2;have ca2:((w.alloc (.cells CA 54)).alloc (.cells CB 54)).cell? ⟨w.heap.size,2,none⟩=some (.slice x.ap.A n_ap x.ap.c):=(cell_of_row _ _ 2 _ _ _ HA_0.out).trans J2.out.1;have cb2:((w.alloc (.cells CA 54)).alloc (.cells CB 54)).cell? ⟨w.heap.size+1,2,none⟩=some (.slice y.ap.A m_ap y.ap.c):=(cell_of_row _ _ 2 _ _ _ HB_0.out).trans J2.out.2;go_enter Tryz.func87,Tryz.ntmps87
 by_cases hq:x.st=y.st;case neg =>
  have HF:=Hi (no_eq HV.out (fun e=>hq (congrArg Rev.Rec.st e)));have t0:(x.st == y.st)=false:=by rw[beq_eq_false_iff_ne];exact hq
  clear hq;go_wp2;go_ret;exact⟨ret_bool HF.out.symm,X_0.out⟩
 have Q0:=Hi hq;have t0:(x.st == y.st)=true:=by rw[hq];simp
 clear hq;by_cases hq:x.au=y.au;case neg =>
  have HF:=Hi (no_eq HV.out (fun e=>hq (congrArg Rev.Rec.au e)));have t1:(x.au == y.au)=false:=by rw[beq_eq_false_iff_ne];exact hq
  clear hq;go_wp2;go_ret;exact⟨ret_bool HF.out.symm,X_0.out⟩
 have Q1:=Hi hq;have t1:(x.au == y.au)=true:=by rw[hq];simp
 clear hq;by_cases hq:x.ap.xs=y.ap.xs;case neg =>
  have HF:=Hi (no_eq HV.out (fun e=>hq (congrArg Rev.Rec.ap e)));have K:=Hi (K2.out false (fa hq));clear hq;go_wp2_with fail
  with_reducible refine(K.out _ X_0.out).mono ?_
  rintro e w9 ⟨rfl,hb⟩;go_wp2;go_ret;exact⟨ret_bool HF.out.symm,X_0.out.trans hb⟩
 have Q2:=Hi hq;have K:=Hi (K2.out true (tr hq));clear hq;go_wp2_with fail
 with_reducible refine(K.out _ X_0.out).mono ?_
 rintro e w1 ⟨rfl,hb⟩;have X_1:=Hi (X_0.out.trans hb);have HA_1:=Hi (hb.blockAt HA_0.out);have HB_1:=Hi (hb.blockAt HB_0.out);clear hb K X_0 HA_0 HB_0 ca0 cb0 ca1 cb1 ca2 cb2 t0 t1;have ca3:w1.cell? ⟨w.heap.size,3,none⟩=some (.slice x.fa.A n_fa x.fa.c):=(cell_of_row _ _ 3 _ _ _ HA_1.out).trans J3.out.1;have cb3:w1.cell? ⟨w.heap.size+1,3,none⟩=some (.slice y.fa.A m_fa y.fa.c):=(cell_of_row _ _ 3 _ _ _ HB_1.out).trans J3.out.2;by_cases hq:x.fa.xs=y.fa.xs;case neg =>
  have HF:=Hi (no_eq HV.out (fun e=>hq (congrArg Rev.Rec.fa e)));have K:=Hi (K3.out false (fa hq));clear hq;go_wp2_with fail
  with_reducible refine(K.out _ X_1.out).mono ?_
  rintro e w9 ⟨rfl,hb⟩;go_wp2;go_ret;exact⟨ret_bool HF.out.symm,X_1.out.trans hb⟩
 have Q3:=Hi hq;have K:=Hi (K3.out true (tr hq));clear hq;go_wp2_with fail
 with_reducible refine(K.out _ X_1.out).mono ?_
 rintro e w2 ⟨rfl,hb⟩;have X_2:=Hi (X_1.out.trans hb);have HA_2:=Hi (hb.blockAt HA_1.out);have HB_2:=Hi (hb.blockAt HB_1.out);clear hb K X_1 HA_1 HB_1 ca3 cb3 ;have ca4:w2.cell? ⟨w.heap.size,4,none⟩=some (.slice x.lA n_log x.lc):=(cell_of_row _ _ 4 _ _ _ HA_2.out).trans J4.out.1;have cb4:w2.cell? ⟨w.heap.size+1,4,none⟩=some (.slice y.lA m_log y.lc):=(cell_of_row _ _ 4 _ _ _ HB_2.out).trans J4.out.2;by_cases hq:x.log=y.log;case neg =>
  have HF:=Hi (no_eq HV.out (fun e=>hq (congrArg Rev.Rec.log e)));have K:=Hi (K4.out false (fa hq));clear hq;go_wp2_with fail
  with_reducible refine(K.out _ X_2.out).mono ?_
  rintro e w9 ⟨rfl,hb⟩;go_wp2;go_ret;exact⟨ret_bool HF.out.symm,X_2.out.trans hb⟩
 have Q4:=Hi hq;have K:=Hi (K4.out true (tr hq));clear hq;go_wp2_with fail
 with_reducible refine(K.out _ X_2.out).mono ?_
 rintro e w3 ⟨rfl,hb⟩;have X_3:=Hi (X_2.out.trans hb);have HA_3:=Hi (hb.blockAt HA_2.out);have HB_3:=Hi (hb.blockAt HB_2.out);clear hb K X_2 HA_2 HB_2 ca4 cb4 ;have HF:=Hi (yes_eq HV.out (by unfold RvL.rc;rw[Q0.out,Q1.out,Q2.out,Q3.out,Q4.out]));go_wp2;go_ret;exact⟨ret_bool HF.out.symm,X_3.out⟩
end Bk
end Go.Proofs.YtfnmgcblhebdbaaGreatDoor
