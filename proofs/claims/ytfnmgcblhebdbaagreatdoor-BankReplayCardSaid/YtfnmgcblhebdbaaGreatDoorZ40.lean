/- bank.references: a contract. Conditions: those of each theorem. -/
import Derived.Test.YtfnmgcblhebdbaaGreatDoorZ39
import Derived.Test.YtfnmgcblhebdbaaGreatDoorZ18
namespace Go.Proofs.YtfnmgcblhebdbaaGreatDoor
set_option maxRecDepth 100000
set_option maxHeartbeats 12800000
open Go.RowKit
namespace Bk
def refE (b:Bank)(s:ByteArray)(al:List Int)(time:Int):Int :=
 if hasT b.outl s=false then 6 else if misR al b.assets (wrap64 (time.tdiv 86400))=true then 17 else 0
theorem refs_any(CB CC:Array Value)(b:BankL)(c:CmdL)(no na ns:Nat)(hno:b.outl.length=no)(hna:b.assets.length=na)(hns:c.item.1.assets.length=ns)(hcb:b.cells.toArray=CB)(hcc:c.cells.toArray=CC){v:Int}(hv:refE b.bank c.item.1.cont c.item.1.assets c.time=v)(w:World)(ho:SlX eTpc w b.oA b.outl)(ha:SlX eAst w b.aA b.assets)(hs:SlX eI w c.item.2.sA c.item.1.assets)
    (hno63:no≤9223372036854775807) (hbr:ns*8≤140737488355328) (hbl:na*48≤140737488355328) :
    Calls Tryz.prog 69 #[.agg CB,.agg CC] w fun e w'=>e=.returned (.int .i64 v)∧Ext w w':=by
 have X0:Hid (Ext w ((w.alloc (.cells CB 31)).alloc (.cells CC 48))):=Hi (((Ext.refl _).alloc _).alloc _);have HB0:Hid (((w.alloc (.cells CB 31)).alloc (.cells CC 48)).heap[w.heap.size]?=some (.cells CB 31 (0,0))):=Hi (two_fst' _ _ _);have HC0:Hid (((w.alloc (.cells CB 31)).alloc (.cells CC 48)).heap[w.heap.size+1]?=some (.cells CC 48 (0,0))):=Hi (heap_new_at _ _ _ (by simp));have IB:Hid ((Tryz.prog.info? 31).map (·.size)=some CB.size):=Hi (infoBk (by rw[← hcb];rfl));have B3:Hid (CB[3]?=some (.slice b.oA no b.oc)):=Hi (by rw[← hcb,← hno];rfl);have B4:Hid (CB[4]?=some (.slice b.aA na b.ac)):=Hi (by rw[← hcb,← hna];rfl);have C17:Hid (CC[17]?=some (.string c.item.1.cont)):=Hi (by rw[← hcc];rfl);have C22:Hid (CC[22]?=some (.slice c.item.2.sA ns c.item.2.sc)):=Hi (by rw[← hcc,← hns];rfl);have C3:Hid (CC[3]?=some (.int .i64 c.time)):=Hi (by rw[← hcc];rfl);have HO:=Hi ho;have HA:=Hi ha;have HS:=Hi hs;have HV:=Hi hv;have HNO:=Hi hno;have HNA:=Hi hna;have HNS:=Hi hns;have c17:((w.alloc (.cells CB 31)).alloc (.cells CC 48)).cell? ⟨w.heap.size+1,17,none⟩=some (.string c.item.1.cont):=(cell_of_row _ _ 17 _ _ _ HC0.out).trans C17.out;obtain⟨u,hu⟩:∃ u,hasT b.outl c.item.1.cont=u:=⟨_,rfl⟩;have HU:=Hi hu;clear hv ho ha hs hno hna hns hcb hcc hu;go_enter Tryz.func69,Tryz.ntmps69
 go_wp2_with (with_reducible refine wpList_load_row rfl 31 (.tmp 2) rfl (w.heap.size) (by with_unfolding_all rfl) _ CB _ _ HB0.out Tryz.underlying31 rfl IB.out ?_)
 with_reducible refine(hasT_any CB b.oA b.oc no b.outl c.item.1.cont HNO.out HU.out B3.out _ (HO.out.ext X0.out) hno63).mono ?_
 rintro e w1 ⟨rfl,hb1⟩;have HX1:=Hi (X0.out.trans hb1);have HB1:=Hi (hb1.blockAt HB0.out);have HC1:=Hi (hb1.blockAt HC0.out);clear hb1 c17;cases u with
 | false=>have hz:Hid (v=6):=Hi (by have h:=HV.out;unfold refE at h;rw[if_pos (show hasT b.bank.outl c.item.1.cont=false from HU.out)]at h;exact h.symm);go_wp2;go_ret;exact⟨by rw[hz.out];rfl,HX1.out⟩
 | true =>
 have c22:w1.cell? ⟨w.heap.size+1,22,none⟩=some (.slice c.item.2.sA ns c.item.2.sc):=(cell_of_row _ _ 22 _ _ _ HC1.out).trans C22.out;have c3:w1.cell? ⟨w.heap.size+1,3,none⟩=some (.int .i64 c.time):=(cell_of_row _ _ 3 _ _ _ HC1.out).trans C3.out;have b4:w1.cell? ⟨w.heap.size,4,none⟩=some (.slice b.aA na b.ac):=(cell_of_row _ _ 4 _ _ _ HB1.out).trans B4.out;go_wp2_with fail
 with_reducible refine(missing_any c.item.2.sA c.item.2.sc ns c.item.1.assets b.aA b.ac na b.assets (wrap64 (c.time.tdiv 86400)) HNS.out HNA.out _ (HS.out.ext HX1.out) (HA.out.ext HX1.out) hbr hbl).mono ?_
 rintro e w2 ⟨⟨A3,n3,c3',rfl,h3⟩,hb2⟩;have HX2:=Hi (HX1.out.trans hb2);have H3:=Hi h3;clear hb2 c22 c3 b4 h3;by_cases hn3:n3=0
 · have hz:Hid (v=0):=Hi (by have h:=HV.out;unfold refE at h;rw[if_neg (by rw[show hasT b.bank.outl c.item.1.cont=true from HU.out];simp),if_neg (by rw[show misR c.item.1.assets b.bank.assets (wrap64 (c.time.tdiv 86400))=false from H3.out.1 hn3];simp)]at h;exact h.symm);have hi:¬ (0:Int)<(n3:Int):=(by omega);go_wp2;go_ret;exact⟨by rw[hz.out];rfl,HX2.out⟩
 · have hz:Hid (v=17):=Hi (by
     have h:=HV.out;unfold refE at h;rw[if_neg (by rw[show hasT b.bank.outl c.item.1.cont=true from HU.out];simp),if_pos (by
      cases hm:misR c.item.1.assets b.bank.assets (wrap64 (c.time.tdiv 86400))with
      | true=>rfl
      | false=>exact absurd (H3.out.2 hm) hn3)]at h
     exact h.symm)
   have hi:(0:Int)<(n3:Int):=(by omega);go_wp2;go_ret;exact⟨by rw[hz.out];rfl,HX2.out⟩
end Bk
end Go.Proofs.YtfnmgcblhebdbaaGreatDoor
