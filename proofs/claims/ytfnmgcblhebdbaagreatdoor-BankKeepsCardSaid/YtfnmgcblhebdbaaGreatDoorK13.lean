/- The reference's comparisons of models, review records and entries: contracts. Conditions: those of each theorem. -/
import Derived.Test.YtfnmgcblhebdbaaGreatDoorK8
import Derived.Test.YtfnmgcblhebdbaaGreatDoorK12
namespace Go.Proofs.YtfnmgcblhebdbaaGreatDoor
open Go.RowKit
namespace Bk
end Bk
namespace Bk
set_option maxRecDepth 100000 in
set_option maxHeartbeats 12800000 in
theorem cut_any(A:Option Addr)(c n:Nat){m:Nat}(hm:min n 40=m)(w:World)(hc:n≤c)(h63:c≤9223372036854775807) :
    Calls Tryz.prog 10 #[.slice A n c] w fun e w'=>e=.returned (.slice A m c)∧w=w':=by
 by_cases h:(40:Int)<(n:Int)
 · obtain rfl:m=40:=by omega
   have h1:40≤c:=by omega
   have h2:(40:Int)≤(c:Int):=by omega
   clear hm
   go_enter Tryz.func10,Tryz.ntmps10
   go_wp2
   go_ret
   exact⟨rfl,rfl⟩
 · obtain rfl:m=n:=by omega
   clear hm
   go_enter Tryz.func10,Tryz.ntmps10
   go_wp2
   go_ret
   exact⟨rfl,rfl⟩
end Bk
end Go.Proofs.YtfnmgcblhebdbaaGreatDoor
