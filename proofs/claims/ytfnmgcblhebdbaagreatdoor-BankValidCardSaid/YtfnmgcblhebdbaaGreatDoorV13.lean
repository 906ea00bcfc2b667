/- The reference's comparisons of models, review records and entries: contracts. Conditions: those of each theorem. -/
import Derived.Test.YtfnmgcblhebdbaaGreatDoorV8
import Derived.Test.YtfnmgcblhebdbaaGreatDoorV12
namespace Go.Proofs.YtfnmgcblhebdbaaGreatDoor
open Go.RowKit
namespace Bk
theorem wpList_load_arr_w{P:Program}{ops:Array Oper}{rest:List Oper}{op:Oper}{a:Act}{w:World}{Q:Exit→Act→World→Prop}(hw:Region.wanted op (yielded ops a.tmps)=true)(ty:TypeId)(x:Operand)(ho:op.op=.load ty x)
    (b o:Nat) (hx:a.eval x=.pointer (some ⟨b,o,none⟩)) (CS:Array Value) (d:TypeDesc) (hc:w.rangeAt b o CS.toList)
    (hu:P.underlying ty=some d) (hd:d.isRow=true) (hi:(P.info? ty).map (·.size)=some CS.size)
    (h:wpList P ops Q rest (a.put op.dst (.agg CS)) w):wpList P ops Q (op :: rest) a w :=
 Go.BigFrame.wpList_want hw fun _ hK=>wp_load_mid ty x ho b o hx CS.toList d hc hu hd (by simpa using hi) (hK _ _ h)
theorem range_of{w:World}{b:Nat}{CC:Array Value}{t:TypeId}{fr:Nat×Nat}(hb:w.heap[b]?=some (.cells CC t fr))(o:Nat){l:List Value}(h:∀ j v,l[j]?=some v→CC[o+j]?=some v):w.rangeAt b o l:=fun j v hv=>by rw[cell_of_row w b (o+j) CC t fr hb];exact h j v hv
end Bk
namespace Bk
set_option maxRecDepth 100000 in
set_option maxHeartbeats 12800000 in
theorem cut_any(A:Option Addr)(c n:Nat){m:Nat}(hm:min n 40=m)(w:World)(hc:n≤c)(h63:c≤9223372036854775807) :
    Calls Tryz.prog 10 #[.slice A n c] w fun e w'=>e=.returned (.slice A m c)∧w=w':=by
 by_cases h:(40:Int)<(n:Int)
 · obtain rfl:m=40:=by omega
   have h1:40≤c:=(by omega);have h2:(40:Int)≤(c:Int):=(by omega);clear hm;go_enter Tryz.func10,Tryz.ntmps10
   go_wp2;go_ret;exact⟨rfl,rfl⟩
 · obtain rfl:m=n:=by omega
   clear hm;go_enter Tryz.func10,Tryz.ntmps10
   go_wp2;go_ret;exact⟨rfl,rfl⟩
end Bk
end Go.Proofs.YtfnmgcblhebdbaaGreatDoor
