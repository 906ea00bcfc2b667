/- review.New, review.Apply and their counterparts in the reference: contracts for the walk. Conditions: those of each theorem. -/
import Derived.Test.YtfnmgcblhebdbaaGreatDoorK22
import Derived.Test.YtfnmgcblhebdbaaGreatDoorK5
import Derived.Test.YtfnmgcblhebdbaaGreatDoorK10
import Derived.Test.YtfnmgcblhebdbaaGreatDoorK7
import Derived.Deep.DeepCutAuto
import Derived.Test.YtfnmgcblhebdbaaGreatDoorK3
namespace Go.Proofs.YtfnmgcblhebdbaaGreatDoor
open Go.RowKit

def RetRev (r:Rev.Rec)(er:Int)(w:World)(e:Ending)(w':World):Prop :=
 ∃ (P:Option Addr) (pc:Nat) (Q:Option Addr) (qc:Nat) (L:Option Addr) (lc:Nat),e=.returned (.tuple #[.agg #[.int .i64 r.st,.int .i64 r.au,.slice P r.ap.length pc,.slice Q r.fa.length qc,.slice L r.log.length lc],.int .i64 er]) ∧
  RevIn w' r.st r.au P pc r.ap Q qc r.fa L lc r.log∧Ext w w'∧Fresh P w∧Fresh Q w∧Fresh L w∧Bk.TyA 3 w' P r.ap.length∧Bk.TyA 3 w' Q r.fa.length∧Bk.TyA 116 w' L r.log.length

theorem rev_nil(w:World)(st au:Int)(h1:In64 st)(h2:In64 au):RevIn w st au none 0 [] none 0 [] none 0 [] :=
 ⟨⟨SlI.nil _ _,Nat.le_refl _,Nat.zero_le _,fun x hx=>by simp at hx⟩,⟨SlI.nil _ _,Nat.le_refl _,Nat.zero_le _,fun x hx=>by simp at hx⟩,SlA.nil _ _,Nat.le_refl _,Nat.zero_le _,fun a ha=>by simp at ha,h1,h2⟩

set_option maxHeartbeats 800000 in
theorem new_any(au:Int)(w:World):Calls Tryz.prog 70 #[.int .i64 au] w (RetRev (Rev.newR au) (Rev.newE au) w):=by
 by_cases h:au<1∨9999999<au
 · have E:Hid (Rev.newR au=Rev.zero∧Rev.newE au=3):=Hi ⟨by unfold Rev.newR;rw[if_pos h],by unfold Rev.newE;rw[if_pos h]⟩
   have h':au<1∨(1≤au∧9999999<au):=by omega
   clear h
   rcases h' with h | ⟨h1,h2⟩
   all_goals
    go_enter Tryz.func70,Tryz.ntmps70
    go_wp2
    refine bodyPost_ret (v:=.tuple #[.agg #[.int .i64 0,.int .i64 0,.slice none 0 0,.slice none 0 0,.slice none 0 0],.int .i64 3]) (by simp[results,Tryz.results70,go_sem]) rfl ?_
    rw[E.out.1,E.out.2]
    exact⟨none,0,none,0,none,0,rfl,rev_nil _ _ _ (by unfold In64;decide) (by unfold In64;decide),(Ext.refl _).alloc _,Fresh.none _,Fresh.none _,Fresh.none _,Or.inl rfl,Or.inl rfl,Or.inl rfl⟩
 · have E:Hid (Rev.newR au=⟨1,au,[],[],[]⟩∧Rev.newE au=0):=Hi ⟨by unfold Rev.newR;rw[if_neg h],by unfold Rev.newE;rw[if_neg h]⟩
   have h1:1≤au:=by omega
   have h2:au≤9999999:=by omega
   clear h
   go_enter Tryz.func70,Tryz.ntmps70
   go_wp2
   refine bodyPost_ret (v:=.tuple #[.agg #[.int .i64 1,.int .i64 au,.slice none 0 0,.slice none 0 0,.slice none 0 0],.int .i64 0]) (by simp[results,Tryz.results70,go_sem]) rfl ?_
   rw[E.out.1,E.out.2]
   exact⟨none,0,none,0,none,0,rfl,rev_nil _ 1 au ⟨by decide,by decide⟩ ⟨by omega,by omega⟩,(Ext.refl _).alloc _,Fresh.none _,Fresh.none _,Fresh.none _,Or.inl rfl,Or.inl rfl,Or.inl rfl⟩
-- APPLY
theorem Ext.free{a b:World}(h:Ext a b){p:Addr}{v:Value}(hp:a.cell? p=some v)(hf:a.frozen? p=false):b.frozen? p=false:=by
 rw[Below.frozen h (World.block_lt_of_cell? a p hp)];exact hf
def ACut (W:World)(st au:Int)(ap fa:List Int)(log:List Rev.Act)(k u ro t:Int)(p:Value)(w:World):Prop :=
 ∃ g x y z,p=.pointer (some ⟨g,0,none⟩)∧W.heap.size≤g∧w.heap[g]?=some (.cells #[.int .i64 st,.int .i64 au,x,y,z] 54 (0,0))∧w.ownsRow W.heap.size 3 1 x ap.length (ap.map fun x=>[Value.int .i64 x]).flatten∧w.ownsRow W.heap.size 3 1 y fa.length (fa.map fun x=>[Value.int .i64 x]).flatten∧w.ownsRow W.heap.size 116 4 z (log.length+1) ((log.map Rev.Act.cells).flatten ++ [.int .i64 k,.int .i64 u,.int .i64 ro,.int .i64 t])∧(∀ q,y.ownBlock=some q→x.ownBlock≠some q)∧Ext W w
theorem SlI.of_flat{w:World}{base:Nat}{e:TypeId}{v:Value}{xs:List Int}(h:w.ownsRow base e 1 v xs.length (xs.map fun x=>[Value.int .i64 x]).flatten):∃ A c,v=.slice A xs.length c∧xs.length≤c∧c≤maxLen∧SlI w A xs:=by
 obtain⟨A,c,h1,h2,h3,h4⟩:=Sl.of_own (k:=1) (fun c hc=>by obtain⟨x,-,rfl⟩:=List.mem_map.1 hc;rfl) (by simp) h
 rw[List.length_map]at h1 h2
 exact⟨A,c,h1,h2,h3,h4⟩
theorem SlA.of_flat{w:World}{base:Nat}{e:TypeId}{v:Value}{log:List Rev.Act}(h:w.ownsRow base e 4 v log.length (log.map Rev.Act.cells).flatten):∃ A c,v=.slice A log.length c∧log.length≤c∧c≤maxLen∧SlA w A log:=by
 obtain⟨A,c,h1,h2,h3,h4⟩:=Sl.of_own (k:=4) (fun c hc=>by obtain⟨x,-,rfl⟩:=List.mem_map.1 hc;rfl) (by simp) h
 rw[List.length_map]at h1 h2
 exact⟨A,c,h1,h2,h3,h4⟩
theorem ints_flat(xs:List Int)(v:Int):(xs.map fun x=>[Value.int .i64 x]).flatten ++ [.int .i64 v]=((xs ++ [v]).map fun x=>[Value.int .i64 x]).flatten:=by
 rw[List.map_append,List.flatten_append];simp
theorem rev_of_own{w wF:World}{base:Nat}{st0 au0 st au:Int}{P Q L A1 A2 A3:Option Addr}{pc qc lc c1 c2 c3:Nat}{ap0 fa0 ap fa:List Int}{log0 log:List Rev.Act}(_h:RevIn w st0 au0 P pc ap0 Q qc fa0 L lc log0)
    (hs:In64 st) (hau:In64 au) (h1:∀ x∈ap,In64 x) (h2:∀ x∈fa,In64 x) (h3:∀ a∈log,a.In)
    (hox:wF.ownsRow base 3 1 (.slice A1 ap.length c1) ap.length (ap.map fun x=>[Value.int .i64 x]).flatten) (hoy:wF.ownsRow base 3 1 (.slice A2 fa.length c2) fa.length (fa.map fun x=>[Value.int .i64 x]).flatten)
    (hoz:wF.ownsRow base 116 4 (.slice A3 log.length c3) log.length (log.map Rev.Act.cells).flatten):RevIn wF st au A1 c1 ap A2 c2 fa A3 c3 log:=by
 obtain⟨X,xc,e1,p1,p2,p3⟩:=SlI.of_flat hox
 obtain⟨Y,yc,e2,q1,q2,q3⟩:=SlI.of_flat hoy
 obtain⟨Z,zc,e3,r1,r2,r3⟩:=SlA.of_flat hoz
 injection e1 with e1 _ e1'
 injection e2 with e2 _ e2'
 injection e3 with e3 _ e3'
 subst e1 e1' e2 e2' e3 e3'
 exact⟨⟨p3,p1,p2,h1⟩,⟨q3,q1,q2,h2⟩,r3,r1,r2,h3,hs,hau⟩
theorem act_in{log:List Rev.Act}{a:Rev.Act}(h:∀ x∈log,x.In)(ha:a.In):∀ x∈log ++ [a],x.In:=fun x hx=>by
 rcases List.mem_append.1 hx with g | g
 · exact h x g
 · simp at g;subst g;exact ha
theorem fin_rev{w wF:World}{base:Nat}{st0 st au:Int}{P Q L A1 A2 A3:Option Addr}{pc qc lc c1 c2 c3:Nat}{ap fa:List Int}{log:List Rev.Act}{a:Rev.Act}(h:RevIn w st0 au P pc ap Q qc fa L lc log)(ha:a.In)(hs:In64 st)
    (hox:wF.ownsRow base 3 1 (.slice A1 ap.length c1) ap.length (ap.map fun x=>[Value.int .i64 x]).flatten) (hoy:wF.ownsRow base 3 1 (.slice A2 fa.length c2) fa.length (fa.map fun x=>[Value.int .i64 x]).flatten)
    (hoz:wF.ownsRow base 116 4 (.slice A3 (log.length+1) c3) (log.length+1) ((log ++ [a]).map Rev.Act.cells).flatten) (he:Ext w wF) (hbase:w.heap.size≤base) :
    RetRev ⟨st,au,ap,fa,log ++ [a]⟩ 0 w (.returned (.tuple #[.agg #[.int .i64 st,.int .i64 au,.slice A1 ap.length c1,.slice A2 fa.length c2,.slice A3 (log.length+1) c3],.int .i64 0])) wF:=by
 have e:(log ++ [a]).length=log.length+1:=by simp
 rw[← e]at hoz
 exact⟨A1,c1,A2,c2,A3,c3,by simp,rev_of_own h hs h.2.2.2.2.2.2.2 h.1.2.2.2 h.2.1.2.2.2 (act_in h.2.2.2.2.2.1 ha) hox hoy hoz,he,Fresh.own hox hbase,Fresh.own hoy hbase,Fresh.own hoz hbase,Bk.TyA.of_own hox,Bk.TyA.of_own hoy,Bk.TyA.of_own hoz⟩
theorem fin_rev3{w wF:World}{base:Nat}{st0 au:Int}{P Q L A3:Option Addr}{pc qc lc c3:Nat}{ap fa:List Int}{log:List Rev.Act}{a:Rev.Act}(h:RevIn w st0 au P pc ap Q qc fa L lc log)(ha:a.In)
    (hoz:wF.ownsRow base 116 4 (.slice A3 (log.length+1) c3) (log.length+1) ((log ++ [a]).map Rev.Act.cells).flatten) (he:Ext w wF) (hbase:w.heap.size≤base) :
    RetRev ⟨1,au,[],[],log ++ [a]⟩ 0 w (.returned (.tuple #[.agg #[.int .i64 1,.int .i64 au,.slice none 0 0,.slice none 0 0,.slice A3 (log.length+1) c3],.int .i64 0])) wF:=by
 have e:(log ++ [a]).length=log.length+1:=by simp
 rw[← e]at hoz
 exact⟨none,0,none,0,A3,c3,by simp,rev_of_own h (show In64 1 from⟨by decide,by decide⟩) h.2.2.2.2.2.2.2 (fun x hx=>by simp at hx) (fun x hx=>by simp at hx) (act_in h.2.2.2.2.2.1 ha) (own_nil _ _ _ _) (own_nil _ _ _ _) hoz,he,Fresh.none _,Fresh.none _,Fresh.own hoz hbase,Or.inl rfl,Or.inl rfl,Bk.TyA.of_own hoz⟩
theorem int_in{xs:List Int}{v:Int}(h:∀ x∈xs,In64 x)(hv:In64 v):∀ x∈xs ++ [v],In64 x:=fun x hx=>by
 rcases List.mem_append.1 hx with g | g
 · exact h x g
 · simp at g;subst g;exact hv
theorem fin_rev2{w wF:World}{base:Nat}{st0 st au:Int}{P Q L A1 A2 A3:Option Addr}{pc qc lc c1 c2 c3:Nat}{ap fa:List Int}{log:List Rev.Act}{a:Rev.Act}(h:RevIn w st0 au P pc ap Q qc fa L lc log)(ha:a.In)(hs:In64 st)
    (hox:wF.ownsRow base 3 1 (.slice A1 (ap.length+1) c1) (ap.length+1) ((ap.map fun x=>[Value.int .i64 x]).flatten ++ [.int .i64 a.user])) (hoy:wF.ownsRow base 3 1 (.slice A2 fa.length c2) fa.length (fa.map fun x=>[Value.int .i64 x]).flatten)
    (hoz:wF.ownsRow base 116 4 (.slice A3 (log.length+1) c3) (log.length+1) ((log ++ [a]).map Rev.Act.cells).flatten) (he:Ext w wF) (hbase:w.heap.size≤base) :
    RetRev ⟨st,au,ap ++ [a.user],fa,log ++ [a]⟩ 0 w (.returned (.tuple #[.agg #[.int .i64 st,.int .i64 au,.slice A1 (ap.length+1) c1,.slice A2 fa.length c2,.slice A3 (log.length+1) c3],.int .i64 0])) wF:=by
 have e:(log ++ [a]).length=log.length+1:=by simp
 have e':(ap ++ [a.user]).length=ap.length+1:=by simp
 rw[← e]at hoz
 rw[ints_flat,← e']at hox
 exact⟨A1,c1,A2,c2,A3,c3,by simp,rev_of_own h hs h.2.2.2.2.2.2.2 (int_in h.1.2.2.2 ha.2.1) h.2.1.2.2.2 (act_in h.2.2.2.2.2.1 ha) hox hoy hoz,he,Fresh.own hox hbase,Fresh.own hoy hbase,Fresh.own hoz hbase,Bk.TyA.of_own hox,Bk.TyA.of_own hoy,Bk.TyA.of_own hoz⟩
theorem fin_rev4{w wF:World}{base:Nat}{st0 st au:Int}{P Q L A1 A2 A3:Option Addr}{pc qc lc c1 c2 c3:Nat}{ap fa:List Int}{log:List Rev.Act}{a:Rev.Act}(h:RevIn w st0 au P pc ap Q qc fa L lc log)(ha:a.In)(hs:In64 st)
    (hox:wF.ownsRow base 3 1 (.slice A1 ap.length c1) ap.length (ap.map fun x=>[Value.int .i64 x]).flatten) (hoy:wF.ownsRow base 3 1 (.slice A2 (fa.length+1) c2) (fa.length+1) ((fa.map fun x=>[Value.int .i64 x]).flatten ++ [.int .i64 a.user]))
    (hoz:wF.ownsRow base 116 4 (.slice A3 (log.length+1) c3) (log.length+1) ((log ++ [a]).map Rev.Act.cells).flatten) (he:Ext w wF) (hbase:w.heap.size≤base) :
    RetRev ⟨st,au,ap,fa ++ [a.user],log ++ [a]⟩ 0 w (.returned (.tuple #[.agg #[.int .i64 st,.int .i64 au,.slice A1 ap.length c1,.slice A2 (fa.length+1) c2,.slice A3 (log.length+1) c3],.int .i64 0])) wF:=by
 have e:(log ++ [a]).length=log.length+1:=by simp
 have e':(fa ++ [a.user]).length=fa.length+1:=by simp
 rw[← e]at hoz
 rw[ints_flat,← e']at hoy
 exact⟨A1,c1,A2,c2,A3,c3,by simp,rev_of_own h hs h.2.2.2.2.2.2.2 h.1.2.2.2 (int_in h.2.1.2.2.2 ha.2.1) (act_in h.2.2.2.2.2.1 ha) hox hoy hoz,he,Fresh.own hox hbase,Fresh.own hoy hbase,Fresh.own hoz hbase,Bk.TyA.of_own hox,Bk.TyA.of_own hoy,Bk.TyA.of_own hoz⟩

theorem log_flat(log:List Rev.Act)(k u ro t:Int):(log.map Rev.Act.cells).flatten ++ [.int .i64 k,.int .i64 u,.int .i64 ro,.int .i64 t]=((log ++ [(⟨k,u,ro,t⟩:Rev.Act)]).map Rev.Act.cells).flatten:=by
 rw[List.map_append,List.flatten_append];simp[Rev.Act.cells]

set_option maxRecDepth 100000 in
set_option maxHeartbeats 6400000 in
theorem apply_any(st au:Int)(P:Option Addr)(pc:Nat)(ap:List Int)(Q:Option Addr)(qc:Nat)(fa:List Int)(L:Option Addr)(lc:Nat)(log:List Rev.Act)(k u ro t:Int)(w:World)(h:RevIn w st au P pc ap Q qc fa L lc log)(hb1:ap.length≤1000000)(hb2:fa.length≤1000000)(hin:(⟨k,u,ro,t⟩:Rev.Act).In) :
    Calls Tryz.prog 75 #[.agg #[.int .i64 st,.int .i64 au,.slice P ap.length pc,.slice Q fa.length qc,.slice L log.length lc],.agg #[.int .i64 k,.int .i64 u,.int .i64 ro,.int .i64 t]] w (RetRev (Rev.applyR ⟨st,au,ap,fa,log⟩ ⟨k,u,ro,t⟩) (Rev.allowedE ⟨st,au,ap,fa,log⟩ ⟨k,u,ro,t⟩) w):=by
 have H:=Hi h
 have HIN:=Hi hin
 clear h hin
 have hx0:Ext w (((w.alloc (.cells #[.int .i64 st,.int .i64 au,.slice P ap.length pc,.slice Q fa.length qc,.slice L log.length lc] 54)).alloc (.cells #[.int .i64 k,.int .i64 u,.int .i64 ro,.int .i64 t] 116)).alloc (.cells #[.int .i64 0,.int .i64 0,.slice none 0 0,.slice none 0 0,.slice none 0 0] 54)):=(((Ext.refl _).alloc _).alloc _).alloc _
 by_cases z:Rev.allowedE ⟨st,au,ap,fa,log⟩ ⟨k,u,ro,t⟩=0
 · have Z:=Hi z
   have HNX:Hid (Rev.applyR ⟨st,au,ap,fa,log⟩ ⟨k,u,ro,t⟩=Rev.next ⟨st,au,ap,fa,log⟩ ⟨k,u,ro,t⟩):=Hi (by unfold Rev.applyR;rw[if_pos z])
   obtain⟨k1,k2,hl200⟩:=Rev.allowed_zero z
   clear z
   have hk:k=1∨k=2∨k=3∨k=4∨k=5∨k=6∨k=7∨k=8∨k=9:=by simp only at k1 k2;omega
   have hl200':log.length≤200:=by simp only at hl200;omega
   clear hl200 k1 k2
   go_enter Tryz.func75,Tryz.ntmps75
   go_wp2_with fail
   refine(allowed_any st au P pc ap Q qc fa L lc log k u ro t _ (H.out.ext hx0)).mono ?_
   rintro e w1 ⟨rfl,hb3⟩
   rw[Z.out]
   have HW:Hid (AW w.heap.size st au P pc ap Q qc fa L lc log k u ro t w1):=Hi ⟨hb3.keep (by simp[go_sem]),hb3.keep (by simp[go_sem]),hb3.keep (by simp[go_sem]),hb3.keep (by simp[go_sem]),hb3.keep (by simp[go_sem]),hb3.keep (by simp[go_sem]),hb3.keep (by simp[go_sem]),hb3.keep (by simp[go_sem]),hb3.keep (by simp[go_sem]),H.out.1.1.ext (hx0.trans hb3),H.out.2.1.1.ext (hx0.trans hb3),H.out.2.2.1.ext (hx0.trans hb3),hb1,hb2,by omega⟩
   have hx1:=hx0.trans hb3
   have a0:w1.cell? ⟨w.heap.size+1,0,none⟩=some (.int .i64 k):=hb3.keep (by simp[go_sem])
   have a1:w1.cell? ⟨w.heap.size+1,1,none⟩=some (.int .i64 u):=hb3.keep (by simp[go_sem])
   have r0:w1.cell? ⟨w.heap.size+1+1,0,none⟩=some (.int .i64 0):=hb3.keep (by simp[go_sem])
   have s0:w1.frozen? ⟨w.heap.size+1+1,0,none⟩=false:=hb3.free (v:=.int .i64 0) (by simp[go_sem]) (by simp[go_sem])
   have r1:w1.cell? ⟨w.heap.size+1+1,1,none⟩=some (.int .i64 0):=hb3.keep (by simp[go_sem])
   have s1:w1.frozen? ⟨w.heap.size+1+1,1,none⟩=false:=hb3.free (v:=.int .i64 0) (by simp[go_sem]) (by simp[go_sem])
   have r2:w1.cell? ⟨w.heap.size+1+1,2,none⟩=some (.slice none 0 0):=hb3.keep (by simp[go_sem])
   have s2:w1.frozen? ⟨w.heap.size+1+1,2,none⟩=false:=hb3.free (v:=.slice none 0 0) (by simp[go_sem]) (by simp[go_sem])
   have r3:w1.cell? ⟨w.heap.size+1+1,3,none⟩=some (.slice none 0 0):=hb3.keep (by simp[go_sem])
   have s3:w1.frozen? ⟨w.heap.size+1+1,3,none⟩=false:=hb3.free (v:=.slice none 0 0) (by simp[go_sem]) (by simp[go_sem])
   have r4:w1.cell? ⟨w.heap.size+1+1,4,none⟩=some (.slice none 0 0):=hb3.keep (by simp[go_sem])
   have s4:w1.frozen? ⟨w.heap.size+1+1,4,none⟩=false:=hb3.free (v:=.slice none 0 0) (by simp[go_sem]) (by simp[go_sem])
   have A0:=Hi a0
   have A1p:=Hi a1
   have R0:=Hi r0
   have R1:=Hi r1
   have R2:=Hi r2
   have R3:=Hi r3
   have R4:=Hi r4
   have S0:=Hi s0
   have S1:=Hi s1
   have S2:=Hi s2
   have S3:=Hi s3
   have S4:=Hi s4
   clear a0 a1 r0 r1 r2 r3 r4 s0 s1 s2 s3 s4
   go_upto_region 4 with fail
   go_cut [7]from 15 to 31 (fun p wx=>ACut w1 st au ap fa log k u ro t p wx)
   case first =>
    refine region_over (by kernel_rfl) (by decide +kernel) (AE w.heap.size) ⟨rfl,rfl,rfl⟩ (AJ w1.heap.size w.heap.size st au P pc ap Q qc fa L lc log k u ro t w1) ?_ ?_ ?_
    · refine⟨fun _ _=>rfl,(Ext.refl _).drew,fun h=>absurd h (by decide),fun _=>⟨fun h=>absurd h (by decide),fun h=>absurd h (by decide),fun h=>absurd h (by decide),fun h=>absurd h (by decide),fun h=>absurd h (by decide),fun h=>absurd h (by decide),fun h=>absurd h (by decide),fun h=>absurd h (by decide),fun h=>absurd h (by decide),fun h=>absurd h (by decide),fun h=>absurd h (by decide),fun h=>absurd h (by decide),fun h=>absurd h (by decide),fun h=>absurd h (by decide),fun h=>absurd h (by decide),fun h=>absurd h (by decide),fun h=>absurd h (by decide),fun h=>absurd h (by decide)⟩⟩
    · intro T dd l U wz i o hE ho hl hd hJ
      match i,ho,hl,hd with
      | 0,ho,hl,hd=>obtain rfl:=Option.some.inj ho;exact AJ_0 hE HW.out rfl ho rfl rfl rfl hl  hJ
      | 1,ho,hl,hd=>obtain rfl:=Option.some.inj ho;exact AJ_1 hE HW.out rfl ho rfl rfl rfl hl (dep hd 0 (by kernel_rfl)) hJ
      | 2,ho,hl,hd=>obtain rfl:=Option.some.inj ho;exact AJ_2 hE HW.out rfl ho rfl rfl rfl hl  hJ
      | 3,ho,hl,hd=>obtain rfl:=Option.some.inj ho;exact AJ_3 hE HW.out rfl ho rfl rfl rfl hl (dep hd 2 (by kernel_rfl)) hJ
      | 4,ho,hl,hd=>obtain rfl:=Option.some.inj ho;exact AJ_4 hE HW.out rfl ho rfl rfl rfl hl  hJ
      | 5,ho,hl,hd=>obtain rfl:=Option.some.inj ho;exact AJ_5 hE HW.out rfl ho rfl rfl rfl hl (dep hd 4 (by kernel_rfl)) hJ
      | 6,ho,hl,hd=>obtain rfl:=Option.some.inj ho;exact AJ_6 hE HW.out rfl ho rfl rfl rfl hl (dep hd 5 (by kernel_rfl)) hJ
      | 7,ho,hl,hd=>obtain rfl:=Option.some.inj ho;exact AJ_7 hE HW.out rfl ho rfl rfl rfl hl  hJ
      | 8,ho,hl,hd=>obtain rfl:=Option.some.inj ho;exact AJ_8 hE HW.out rfl ho rfl rfl rfl hl (dep hd 7 (by kernel_rfl)) hJ
      | 9,ho,hl,hd=>obtain rfl:=Option.some.inj ho;exact AJ_9 hE HW.out rfl ho rfl rfl rfl hl (dep hd 8 (by kernel_rfl)) (dep hd 6 (by kernel_rfl)) hJ
      | 10,ho,hl,hd=>obtain rfl:=Option.some.inj ho;exact AJ_10 hE HW.out rfl ho rfl rfl rfl hl  hJ
      | 11,ho,hl,hd=>obtain rfl:=Option.some.inj ho;exact AJ_11 hE HW.out rfl ho rfl rfl rfl hl (dep hd 10 (by kernel_rfl)) hJ
      | 12,ho,hl,hd=>obtain rfl:=Option.some.inj ho;exact AJ_12 hE HW.out rfl ho rfl rfl rfl hl (dep hd 11 (by kernel_rfl)) hJ
      | 13,ho,hl,hd=>obtain rfl:=Option.some.inj ho;exact AJ_13 hE HW.out rfl ho rfl rfl rfl hl  hJ
      | 14,ho,hl,hd=>obtain rfl:=Option.some.inj ho;exact AJ_14 hE HW.out rfl ho rfl rfl rfl hl (dep hd 13 (by kernel_rfl)) hJ
      | 15,ho,hl,hd=>obtain rfl:=Option.some.inj ho;exact AJ_15 hE HW.out rfl ho rfl rfl rfl hl (dep hd 12 (by kernel_rfl)) (dep hd 14 (by kernel_rfl)) hJ
      | 16,ho,hl,hd=>obtain rfl:=Option.some.inj ho;exact AJ_16 hE HW.out rfl ho rfl rfl rfl hl (dep hd 1 (by kernel_rfl)) (dep hd 3 (by kernel_rfl)) (dep hd 6 (by kernel_rfl)) (dep hd 9 (by kernel_rfl)) (dep hd 15 (by kernel_rfl)) hJ
      | 17,ho,hl,hd=>obtain rfl:=Option.some.inj ho;exact AJ_17 hE HW.out rfl ho rfl rfl rfl hl  hJ
      | 18,ho,hl,hd=>obtain rfl:=Option.some.inj ho;exact AJ_18 hE HW.out rfl ho rfl rfl rfl hl (dep hd 0 (by kernel_rfl)) (dep hd 1 (by kernel_rfl)) (dep hd 2 (by kernel_rfl)) (dep hd 3 (by kernel_rfl)) (dep hd 4 (by kernel_rfl)) (dep hd 5 (by kernel_rfl)) (dep hd 6 (by kernel_rfl)) (dep hd 7 (by kernel_rfl)) (dep hd 8 (by kernel_rfl)) (dep hd 9 (by kernel_rfl)) (dep hd 10 (by kernel_rfl)) (dep hd 11 (by kernel_rfl)) (dep hd 12 (by kernel_rfl)) (dep hd 13 (by kernel_rfl)) (dep hd 14 (by kernel_rfl)) (dep hd 15 (by kernel_rfl)) (dep hd 16 (by kernel_rfl)) (dep hd 17 (by kernel_rfl)) hJ
      | i+19,ho,_,_=>exact absurd ho (by simp)
    · intro U wz hJ
      obtain⟨hU,hex,hF,-⟩:=hJ
      obtain⟨-,g,x,y,z,u7,hg,hh,hox,hoy,hoz,hdis⟩:=hF rfl
      rw[over_list]
      have v0:U 0=none:=hU 0 (by decide)
      have v1:U 1=none:=hU 1 (by decide)
      have v2:U 2=none:=hU 2 (by decide)
      have v3:U 3=none:=hU 3 (by decide)
      have v4:U 4=none:=hU 4 (by decide)
      have v5:U 5=none:=hU 5 (by decide)
      have v6:U 6=none:=hU 6 (by decide)
      have v8:U 8=none:=hU 8 (by decide)
      have v9:U 9=none:=hU 9 (by decide)
      have v10:U 10=none:=hU 10 (by decide)
      have v11:U 11=none:=hU 11 (by decide)
      have v12:U 12=none:=hU 12 (by decide)
      have v13:U 13=none:=hU 13 (by decide)
      have v14:U 14=none:=hU 14 (by decide)
      have v32:U 32=none:=hU 32 (by decide)
      have v33:U 33=none:=hU 33 (by decide)
      have v34:U 34=none:=hU 34 (by decide)
      have v35:U 35=none:=hU 35 (by decide)
      have v36:U 36=none:=hU 36 (by decide)
      have v37:U 37=none:=hU 37 (by decide)
      have v38:U 38=none:=hU 38 (by decide)
      have v39:U 39=none:=hU 39 (by decide)
      have v40:U 40=none:=hU 40 (by decide)
      have v41:U 41=none:=hU 41 (by decide)
      have v42:U 42=none:=hU 42 (by decide)
      have v43:U 43=none:=hU 43 (by decide)
      have v44:U 44=none:=hU 44 (by decide)
      have v45:U 45=none:=hU 45 (by decide)
      have v46:U 46=none:=hU 46 (by decide)
      have v47:U 47=none:=hU 47 (by decide)
      have v48:U 48=none:=hU 48 (by decide)
      have v49:U 49=none:=hU 49 (by decide)
      have v50:U 50=none:=hU 50 (by decide)
      have v51:U 51=none:=hU 51 (by decide)
      have v52:U 52=none:=hU 52 (by decide)
      have v53:U 53=none:=hU 53 (by decide)
      have v54:U 54=none:=hU 54 (by decide)
      have v55:U 55=none:=hU 55 (by decide)
      have v56:U 56=none:=hU 56 (by decide)
      have v57:U 57=none:=hU 57 (by decide)
      have v58:U 58=none:=hU 58 (by decide)
      have v59:U 59=none:=hU 59 (by decide)
      have v60:U 60=none:=hU 60 (by decide)
      have v61:U 61=none:=hU 61 (by decide)
      have v62:U 62=none:=hU 62 (by decide)
      have v63:U 63=none:=hU 63 (by decide)
      have v64:U 64=none:=hU 64 (by decide)
      have v65:U 65=none:=hU 65 (by decide)
      have v66:U 66=none:=hU 66 (by decide)
      have v67:U 67=none:=hU 67 (by decide)
      have v68:U 68=none:=hU 68 (by decide)
      have v69:U 69=none:=hU 69 (by decide)
      have v70:U 70=none:=hU 70 (by decide)
      have v71:U 71=none:=hU 71 (by decide)
      have v72:U 72=none:=hU 72 (by decide)
      have v73:U 73=none:=hU 73 (by decide)
      have v74:U 74=none:=hU 74 (by decide)
      have v75:U 75=none:=hU 75 (by decide)
      have v76:U 76=none:=hU 76 (by decide)
      have v77:U 77=none:=hU 77 (by decide)
      simp only[overL,Nat.reduceAdd,v0,v1,v2,v3,v4,v5,v6,v8,v9,v10,v11,v12,v13,v14,v32,v33,v34,v35,v36,v37,v38,v39,v40,v41,v42,v43,v44,v45,v46,v47,v48,v49,v50,v51,v52,v53,v54,v55,v56,v57,v58,v59,v60,v61,v62,v63,v64,v65,v66,v67,v68,v69,v70,v71,v72,v73,v74,v75,v76,v77,u7,Option.getD_none,Option.getD_some]
      clear v0 v1 v2 v3 v4 v5 v6 v8 v9 v10 v11 v12 v13 v14 v32 v33 v34 v35 v36 v37 v38 v39 v40 v41 v42 v43 v44 v45 v46 v47 v48 v49 v50 v51 v52 v53 v54 v55 v56 v57 v58 v59 v60 v61 v62 v63 v64 v65 v66 v67 v68 v69 v70 v71 v72 v73 v74 v75 v76 v77
      go_wp2_with fail
      go_meet
      exact⟨g,x,y,z,rfl,hg,hh,hox,hoy,hoz,hdis,hex⟩
   case rest =>
    obtain⟨g,x,y,z,rfl,hg,hh,hox,hoy,hoz,hdis,hex⟩:=hcut
    have HDIS:=Hi hdis
    clear hdis
    rw[log_flat]at hoz
    have hoz':wc.ownsRow w1.heap.size 116 4 z (log ++ [(⟨k,u,ro,t⟩:Rev.Act)]).length (((log ++ [(⟨k,u,ro,t⟩:Rev.Act)]).map Rev.Act.cells).flatten):=by rw[List.length_append];exact hoz
    obtain⟨A3,c3,e3,z1,z2,z3⟩:=SlA.of_flat hoz'
    rw[List.length_append,List.length_singleton]at e3
    subst e3
    have HZ:Hid ((log ++ [(⟨k,u,ro,t⟩:Rev.Act)]).length≤c3∧c3≤maxLen∧SlA wc A3 (log ++ [(⟨k,u,ro,t⟩:Rev.Act)])):=Hi ⟨z1,z2,z3⟩
    have HNE3:=Hi (own_other hoz hh (by decide))
    have HT13:=Hi (own_types hoz hox (by decide))
    have HT23:=Hi (own_types hoz hoy (by decide))
    have HOX:=Hi hox
    have HOY:=Hi hoy
    have HOZ:=Hi hoz
    obtain⟨A1,c1,rfl⟩:=own_form hox
    obtain⟨A2,c2,rfl⟩:=own_form hoy
    have g0:wc.cell? ⟨g,0,none⟩=some (.int .i64 st):=by rw[cell_of_row _ _ _ _ _ _ hh];rfl
    have g1:wc.cell? ⟨g,1,none⟩=some (.int .i64 au):=by rw[cell_of_row _ _ _ _ _ _ hh];rfl
    have g2:wc.cell? ⟨g,2,none⟩=some (.slice A1 ap.length c1):=by rw[cell_of_row _ _ _ _ _ _ hh];rfl
    have g3:wc.cell? ⟨g,3,none⟩=some (.slice A2 fa.length c2):=by rw[cell_of_row _ _ _ _ _ _ hh];rfl
    have g4:wc.cell? ⟨g,4,none⟩=some (.slice A3 (log.length+1) c3):=by rw[cell_of_row _ _ _ _ _ _ hh];rfl
    have j0:=frozen_of_row _ _ 0 _ _ hh
    have j1:=frozen_of_row _ _ 1 _ _ hh
    have j2:=frozen_of_row _ _ 2 _ _ hh
    have j3:=frozen_of_row _ _ 3 _ _ hh
    have j4:=frozen_of_row _ _ 4 _ _ hh
    have a0:=hex.keep A0.out
    have a1:=hex.keep A1p.out
    have r0:=hex.keep R0.out
    have s0:=hex.free R0.out S0.out
    have r1:=hex.keep R1.out
    have s1:=hex.free R1.out S1.out
    have r2:=hex.keep R2.out
    have s2:=hex.free R2.out S2.out
    have r3:=hex.keep R3.out
    have s3:=hex.free R3.out S3.out
    have r4:=hex.keep R4.out
    have s4:=hex.free R4.out S4.out
    have hgn:w.heap.size+1+1<g:=Nat.lt_of_lt_of_le (World.block_lt_of_cell? w1 _ R0.out) hg
    have hgn1:w.heap.size+1<g:=by omega
    have HH:=Hi hh
    have hne1:g≠w.heap.size+1+1:=by omega
    have hne2:g≠w.heap.size+1:=by omega
    have hne1':w.heap.size+1+1≠g:=by omega
    have hne2':w.heap.size+1≠g:=by omega
    clear hh hox hoy hoz hoz' z1 z2 z3
    have hgw:w.heap.size≤g:=by omega
    have hexs:=hex.size
    have hglt:g<wc.heap.size:=World.block_lt_of_cell? wc _ g0
    have hrw:w.heap.size≤w.heap.size+1+1:=by omega
    have hr1:w.heap.size+1+1<w1.heap.size:=World.block_lt_of_cell? w1 _ R0.out
    have NG1:Hid (∀ o,(Value.slice A1 ap.length c1).ownBlock≠some (⟨g,o,none⟩:Addr).block):=Hi (fun _=>own_other HOX.out HH.out (by decide))
    have NG2:Hid (∀ o,(Value.slice A2 fa.length c2).ownBlock≠some (⟨g,o,none⟩:Addr).block):=Hi (fun _=>own_other HOY.out HH.out (by decide))
    have NG3:Hid (∀ o,(Value.slice A3 (log.length+1) c3).ownBlock≠some (⟨g,o,none⟩:Addr).block):=Hi (fun _=>own_other HOZ.out HH.out (by decide))
    have NR1:Hid (∀ o,(Value.slice A1 ap.length c1).ownBlock≠some (⟨w.heap.size+1+1,o,none⟩:Addr).block):=Hi (fun _ e=>by have:=own_ge HOX.out _ e;simp only at this;omega)
    have NR2:Hid (∀ o,(Value.slice A2 fa.length c2).ownBlock≠some (⟨w.heap.size+1+1,o,none⟩:Addr).block):=Hi (fun _ e=>by have:=own_ge HOY.out _ e;simp only at this;omega)
    have NR3:Hid (∀ o,(Value.slice A3 (log.length+1) c3).ownBlock≠some (⟨w.heap.size+1+1,o,none⟩:Addr).block):=Hi (fun _ e=>by have:=own_ge HOZ.out _ e;simp only at this;omega)
    rcases hk with rfl | rfl | rfl | rfl | rfl | rfl | rfl | rfl | rfl
    · go_wp2
      refine bodyPost_ret (v:=.tuple #[.agg #[.int .i64 2,.int .i64 au,.slice A1 ap.length c1,.slice A2 fa.length c2,.slice A3 (log.length+1) c3],.int .i64 0]) (by simp[results,Tryz.results75,go_sem,r0,r1,r2,r3,r4]) rfl ?_
      rw[HNX.out,Z.out,Rev.next_1]
      exact fin_rev (base:=w1.heap.size) H.out HIN.out ⟨by decide,by decide⟩ (ownsRow_setCell_other (ownsRow_setCell_other (ownsRow_setCell_other (ownsRow_setCell_other (ownsRow_setCell_other (ownsRow_setCell_other HOX.out (NG1.out 0) _) (NR1.out 0) _) (NR1.out 1) _) (NR1.out 2) _) (NR1.out 3) _) (NR1.out 4) _) (ownsRow_setCell_other (ownsRow_setCell_other (ownsRow_setCell_other (ownsRow_setCell_other (ownsRow_setCell_other (ownsRow_setCell_other HOY.out (NG2.out 0) _) (NR2.out 0) _) (NR2.out 1) _) (NR2.out 2) _) (NR2.out 3) _) (NR2.out 4) _) (ownsRow_setCell_other (ownsRow_setCell_other (ownsRow_setCell_other (ownsRow_setCell_other (ownsRow_setCell_other (ownsRow_setCell_other HOZ.out (NG3.out 0) _) (NR3.out 0) _) (NR3.out 1) _) (NR3.out 2) _) (NR3.out 3) _) (NR3.out 4) _) (((((((hx1.trans hex).setCell hgw _).setCell hrw _).setCell hrw _).setCell hrw _).setCell hrw _).setCell hrw _) hx1.size
    · obtain⟨i0,hi0,hz0,hz1,hz2⟩:=info_parts Tryz.infoInt
      by_cases h2:1≤ap.length
      · have h2':2≤(ap.length:Int)+1:=by omega
        go_wp2_with (at_builtin;refine wpList_append_lies _ rfl _ _ 22 rfl w1.heap.size 3 i0 (.int .i64 0) 1 8 Tryz.underlying22 hi0 hz0 hz1 hz2 rfl (by decide) _ _ _ rfl (HOX.out.alloc _) ⟨wc.heap.size,0,none⟩ 1 1 [.int .i64 u] rfl rfl (cell_one_new _ _ _) (by simp[Value.oneCell']) (by decide) (by unfold maxLen;omega) (by omega) (by simp;omega) (wc.heap.size+1) (by simp) ?_;intro gg cap w2 hown2 hgrow2 hat2 hlt2;have e2:Ext w1 w2:=(hex.alloc _).grown hgrow2 (fun q hq=>own_ge HOX.out q hq);have hh2:w2.heap[g]?=some (.cells #[.int .i64 st,.int .i64 au,.slice A1 ap.length c1,.slice A2 fa.length c2,.slice A3 (log.length+1) c3] 54 (0,0)):=(hgrow2.block g (by simp;omega) (fun e=>NG1.out 0 e.symm)).trans (((Ext.refl wc).alloc _).blockAt HH.out);have p0:w2.cell? ⟨g,0,none⟩=some (.int .i64 st):=(by rw[cell_of_row _ _ _ _ _ _ hh2];rfl);have q0:=frozen_of_row _ _ 0 _ _ hh2;have t0:=e2.keep R0.out;have v0:=e2.free R0.out S0.out;have p1:w2.cell? ⟨g,1,none⟩=some (.int .i64 au):=(by rw[cell_of_row _ _ _ _ _ _ hh2];rfl);have q1:=frozen_of_row _ _ 1 _ _ hh2;have t1:=e2.keep R1.out;have v1:=e2.free R1.out S1.out;have p2:w2.cell? ⟨g,2,none⟩=some (.slice A1 ap.length c1):=(by rw[cell_of_row _ _ _ _ _ _ hh2];rfl);have q2:=frozen_of_row _ _ 2 _ _ hh2;have t2:=e2.keep R2.out;have v2:=e2.free R2.out S2.out;have p3:w2.cell? ⟨g,3,none⟩=some (.slice A2 fa.length c2):=(by rw[cell_of_row _ _ _ _ _ _ hh2];rfl);have q3:=frozen_of_row _ _ 3 _ _ hh2;have t3:=e2.keep R3.out;have v3:=e2.free R3.out S3.out;have p4:w2.cell? ⟨g,4,none⟩=some (.slice A3 (log.length+1) c3):=(by rw[cell_of_row _ _ _ _ _ _ hh2];rfl);have q4:=frozen_of_row _ _ 4 _ _ hh2;have t4:=e2.keep R4.out;have v4:=e2.free R4.out S4.out;have b0:=e2.keep A0.out;have b1:=e2.keep A1p.out)
        refine bodyPost_ret (v:=.tuple #[.agg #[.int .i64 3,.int .i64 au,.slice (some ⟨gg,0,none⟩) (ap.length+1) cap,.slice A2 fa.length c2,.slice A3 (log.length+1) c3],.int .i64 0]) (by simp[results,Tryz.results75,go_sem,t0,t1,t2,t3,t4]) rfl ?_
        rw[HNX.out,Z.out,Rev.next_2]
        rw[if_pos (show 2≤ap.length+1 by omega)]
        have MG:∀ o,(Value.slice (some ⟨gg,0,none⟩) (ap.length+1) cap).ownBlock≠some (⟨g,o,none⟩:Addr).block:=fun _=>own_other hown2 hh2 (by decide)
        have MR:∀ o,(Value.slice (some ⟨gg,0,none⟩) (ap.length+1) cap).ownBlock≠some (⟨w.heap.size+1+1,o,none⟩:Addr).block:=fun _ e=>by have:=own_ge hown2 _ e;simp only at this;omega
        exact fin_rev2 (base:=w1.heap.size) H.out HIN.out ⟨by decide,by decide⟩ (ownsRow_setCell_other (ownsRow_setCell_other (ownsRow_setCell_other (ownsRow_setCell_other (ownsRow_setCell_other (ownsRow_setCell_other (ownsRow_setCell_other hown2 (MG 2) _) (MG 0) _) (MR 0) _) (MR 1) _) (MR 2) _) (MR 3) _) (MR 4) _) (ownsRow_setCell_other (ownsRow_setCell_other (ownsRow_setCell_other (ownsRow_setCell_other (ownsRow_setCell_other (ownsRow_setCell_other (ownsRow_setCell_other (own_grown (HOY.out.alloc _) hgrow2 (fun q hq e=>HDIS.out q hq e)) (NG2.out 2) _) (NG2.out 0) _) (NR2.out 0) _) (NR2.out 1) _) (NR2.out 2) _) (NR2.out 3) _) (NR2.out 4) _) (ownsRow_setCell_other (ownsRow_setCell_other (ownsRow_setCell_other (ownsRow_setCell_other (ownsRow_setCell_other (ownsRow_setCell_other (ownsRow_setCell_other (own_grown (HOZ.out.alloc _) hgrow2 (fun q hq e=>HT13.out q hq e)) (NG3.out 2) _) (NG3.out 0) _) (NR3.out 0) _) (NR3.out 1) _) (NR3.out 2) _) (NR3.out 3) _) (NR3.out 4) _) ((((((((hx1.trans e2).setCell hgw _).setCell hgw _).setCell hrw _).setCell hrw _).setCell hrw _).setCell hrw _).setCell hrw _) hx1.size
      · have h2':¬ 2≤(ap.length:Int)+1:=by omega
        have h2n:(ap.length:Int)+1<2:=by omega
        go_wp2_with (at_builtin;refine wpList_append_lies _ rfl _ _ 22 rfl w1.heap.size 3 i0 (.int .i64 0) 1 8 Tryz.underlying22 hi0 hz0 hz1 hz2 rfl (by decide) _ _ _ rfl (HOX.out.alloc _) ⟨wc.heap.size,0,none⟩ 1 1 [.int .i64 u] rfl rfl (cell_one_new _ _ _) (by simp[Value.oneCell']) (by decide) (by unfold maxLen;omega) (by omega) (by simp;omega) (wc.heap.size+1) (by simp) ?_;intro gg cap w2 hown2 hgrow2 hat2 hlt2;have e2:Ext w1 w2:=(hex.alloc _).grown hgrow2 (fun q hq=>own_ge HOX.out q hq);have hh2:w2.heap[g]?=some (.cells #[.int .i64 st,.int .i64 au,.slice A1 ap.length c1,.slice A2 fa.length c2,.slice A3 (log.length+1) c3] 54 (0,0)):=(hgrow2.block g (by simp;omega) (fun e=>NG1.out 0 e.symm)).trans (((Ext.refl wc).alloc _).blockAt HH.out);have p0:w2.cell? ⟨g,0,none⟩=some (.int .i64 st):=(by rw[cell_of_row _ _ _ _ _ _ hh2];rfl);have q0:=frozen_of_row _ _ 0 _ _ hh2;have t0:=e2.keep R0.out;have v0:=e2.free R0.out S0.out;have p1:w2.cell? ⟨g,1,none⟩=some (.int .i64 au):=(by rw[cell_of_row _ _ _ _ _ _ hh2];rfl);have q1:=frozen_of_row _ _ 1 _ _ hh2;have t1:=e2.keep R1.out;have v1:=e2.free R1.out S1.out;have p2:w2.cell? ⟨g,2,none⟩=some (.slice A1 ap.length c1):=(by rw[cell_of_row _ _ _ _ _ _ hh2];rfl);have q2:=frozen_of_row _ _ 2 _ _ hh2;have t2:=e2.keep R2.out;have v2:=e2.free R2.out S2.out;have p3:w2.cell? ⟨g,3,none⟩=some (.slice A2 fa.length c2):=(by rw[cell_of_row _ _ _ _ _ _ hh2];rfl);have q3:=frozen_of_row _ _ 3 _ _ hh2;have t3:=e2.keep R3.out;have v3:=e2.free R3.out S3.out;have p4:w2.cell? ⟨g,4,none⟩=some (.slice A3 (log.length+1) c3):=(by rw[cell_of_row _ _ _ _ _ _ hh2];rfl);have q4:=frozen_of_row _ _ 4 _ _ hh2;have t4:=e2.keep R4.out;have v4:=e2.free R4.out S4.out;have b0:=e2.keep A0.out;have b1:=e2.keep A1p.out)
        refine bodyPost_ret (v:=.tuple #[.agg #[.int .i64 st,.int .i64 au,.slice (some ⟨gg,0,none⟩) (ap.length+1) cap,.slice A2 fa.length c2,.slice A3 (log.length+1) c3],.int .i64 0]) (by simp[results,Tryz.results75,go_sem,t0,t1,t2,t3,t4]) rfl ?_
        rw[HNX.out,Z.out,Rev.next_2]
        rw[if_neg (show ¬ 2≤ap.length+1 by omega)]
        have MG:∀ o,(Value.slice (some ⟨gg,0,none⟩) (ap.length+1) cap).ownBlock≠some (⟨g,o,none⟩:Addr).block:=fun _=>own_other hown2 hh2 (by decide)
        have MR:∀ o,(Value.slice (some ⟨gg,0,none⟩) (ap.length+1) cap).ownBlock≠some (⟨w.heap.size+1+1,o,none⟩:Addr).block:=fun _ e=>by have:=own_ge hown2 _ e;simp only at this;omega
        exact fin_rev2 (base:=w1.heap.size) H.out HIN.out H.out.2.2.2.2.2.2.1 (ownsRow_setCell_other (ownsRow_setCell_other (ownsRow_setCell_other (ownsRow_setCell_other (ownsRow_setCell_other (ownsRow_setCell_other hown2 (MG 2) _) (MR 0) _) (MR 1) _) (MR 2) _) (MR 3) _) (MR 4) _) (ownsRow_setCell_other (ownsRow_setCell_other (ownsRow_setCell_other (ownsRow_setCell_other (ownsRow_setCell_other (ownsRow_setCell_other (own_grown (HOY.out.alloc _) hgrow2 (fun q hq e=>HDIS.out q hq e)) (NG2.out 2) _) (NR2.out 0) _) (NR2.out 1) _) (NR2.out 2) _) (NR2.out 3) _) (NR2.out 4) _) (ownsRow_setCell_other (ownsRow_setCell_other (ownsRow_setCell_other (ownsRow_setCell_other (ownsRow_setCell_other (ownsRow_setCell_other (own_grown (HOZ.out.alloc _) hgrow2 (fun q hq e=>HT13.out q hq e)) (NG3.out 2) _) (NR3.out 0) _) (NR3.out 1) _) (NR3.out 2) _) (NR3.out 3) _) (NR3.out 4) _) (((((((hx1.trans e2).setCell hgw _).setCell hrw _).setCell hrw _).setCell hrw _).setCell hrw _).setCell hrw _) hx1.size
    · go_wp2
      refine bodyPost_ret (v:=.tuple #[.agg #[.int .i64 1,.int .i64 au,.slice none 0 0,.slice none 0 0,.slice A3 (log.length+1) c3],.int .i64 0]) (by simp[results,Tryz.results75,go_sem,r0,r1,r2,r3,r4]) rfl ?_
      rw[HNX.out,Z.out,Rev.next_3]
      exact fin_rev3 (base:=w1.heap.size) H.out HIN.out (ownsRow_setCell_other (ownsRow_setCell_other (ownsRow_setCell_other (ownsRow_setCell_other (ownsRow_setCell_other (ownsRow_setCell_other (ownsRow_setCell_other (ownsRow_setCell_other HOZ.out (NG3.out 0) _) (NG3.out 2) _) (NG3.out 3) _) (NR3.out 0) _) (NR3.out 1) _) (NR3.out 2) _) (NR3.out 3) _) (NR3.out 4) _) (((((((((hx1.trans hex).setCell hgw _).setCell hgw _).setCell hgw _).setCell hrw _).setCell hrw _).setCell hrw _).setCell hrw _).setCell hrw _) hx1.size
    · obtain⟨i0,hi0,hz0,hz1,hz2⟩:=info_parts Tryz.infoInt
      go_wp2_with (at_builtin;refine wpList_append_lies _ rfl _ _ 22 rfl w1.heap.size 3 i0 (.int .i64 0) 1 8 Tryz.underlying22 hi0 hz0 hz1 hz2 rfl (by decide) _ _ _ rfl (HOY.out.alloc _) ⟨wc.heap.size,0,none⟩ 1 1 [.int .i64 u] rfl rfl (cell_one_new _ _ _) (by simp[Value.oneCell']) (by decide) (by unfold maxLen;omega) (by omega) (by simp;omega) (wc.heap.size+1) (by simp) ?_;intro gg cap w2 hown2 hgrow2 hat2 hlt2;have e2:Ext w1 w2:=(hex.alloc _).grown hgrow2 (fun q hq=>own_ge HOY.out q hq);have hh2:w2.heap[g]?=some (.cells #[.int .i64 st,.int .i64 au,.slice A1 ap.length c1,.slice A2 fa.length c2,.slice A3 (log.length+1) c3] 54 (0,0)):=(hgrow2.block g (by simp;omega) (fun e=>NG2.out 0 e.symm)).trans (((Ext.refl wc).alloc _).blockAt HH.out);have p0:w2.cell? ⟨g,0,none⟩=some (.int .i64 st):=(by rw[cell_of_row _ _ _ _ _ _ hh2];rfl);have q0:=frozen_of_row _ _ 0 _ _ hh2;have t0:=e2.keep R0.out;have v0:=e2.free R0.out S0.out;have p1:w2.cell? ⟨g,1,none⟩=some (.int .i64 au):=(by rw[cell_of_row _ _ _ _ _ _ hh2];rfl);have q1:=frozen_of_row _ _ 1 _ _ hh2;have t1:=e2.keep R1.out;have v1:=e2.free R1.out S1.out;have p2:w2.cell? ⟨g,2,none⟩=some (.slice A1 ap.length c1):=(by rw[cell_of_row _ _ _ _ _ _ hh2];rfl);have q2:=frozen_of_row _ _ 2 _ _ hh2;have t2:=e2.keep R2.out;have v2:=e2.free R2.out S2.out;have p3:w2.cell? ⟨g,3,none⟩=some (.slice A2 fa.length c2):=(by rw[cell_of_row _ _ _ _ _ _ hh2];rfl);have q3:=frozen_of_row _ _ 3 _ _ hh2;have t3:=e2.keep R3.out;have v3:=e2.free R3.out S3.out;have p4:w2.cell? ⟨g,4,none⟩=some (.slice A3 (log.length+1) c3):=(by rw[cell_of_row _ _ _ _ _ _ hh2];rfl);have q4:=frozen_of_row _ _ 4 _ _ hh2;have t4:=e2.keep R4.out;have v4:=e2.free R4.out S4.out;have b0:=e2.keep A0.out;have b1:=e2.keep A1p.out)
      refine bodyPost_ret (v:=.tuple #[.agg #[.int .i64 4,.int .i64 au,.slice A1 ap.length c1,.slice (some ⟨gg,0,none⟩) (fa.length+1) cap,.slice A3 (log.length+1) c3],.int .i64 0]) (by simp[results,Tryz.results75,go_sem,t0,t1,t2,t3,t4]) rfl ?_
      rw[HNX.out,Z.out,Rev.next_4]
      have MG:∀ o,(Value.slice (some ⟨gg,0,none⟩) (fa.length+1) cap).ownBlock≠some (⟨g,o,none⟩:Addr).block:=fun _=>own_other hown2 hh2 (by decide)
      have MR:∀ o,(Value.slice (some ⟨gg,0,none⟩) (fa.length+1) cap).ownBlock≠some (⟨w.heap.size+1+1,o,none⟩:Addr).block:=fun _ e=>by have:=own_ge hown2 _ e;simp only at this;omega
      exact fin_rev4 (base:=w1.heap.size) H.out HIN.out ⟨by decide,by decide⟩ (ownsRow_setCell_other (ownsRow_setCell_other (ownsRow_setCell_other (ownsRow_setCell_other (ownsRow_setCell_other (ownsRow_setCell_other (ownsRow_setCell_other (own_grown (HOX.out.alloc _) hgrow2 (fun q hq e=>HDIS.out q e hq)) (NG1.out 3) _) (NG1.out 0) _) (NR1.out 0) _) (NR1.out 1) _) (NR1.out 2) _) (NR1.out 3) _) (NR1.out 4) _) (ownsRow_setCell_other (ownsRow_setCell_other (ownsRow_setCell_other (ownsRow_setCell_other (ownsRow_setCell_other (ownsRow_setCell_other (ownsRow_setCell_other hown2 (MG 3) _) (MG 0) _) (MR 0) _) (MR 1) _) (MR 2) _) (MR 3) _) (MR 4) _) (ownsRow_setCell_other (ownsRow_setCell_other (ownsRow_setCell_other (ownsRow_setCell_other (ownsRow_setCell_other (ownsRow_setCell_other (ownsRow_setCell_other (own_grown (HOZ.out.alloc _) hgrow2 (fun q hq e=>HT23.out q hq e)) (NG3.out 3) _) (NG3.out 0) _) (NR3.out 0) _) (NR3.out 1) _) (NR3.out 2) _) (NR3.out 3) _) (NR3.out 4) _) ((((((((hx1.trans e2).setCell hgw _).setCell hgw _).setCell hrw _).setCell hrw _).setCell hrw _).setCell hrw _).setCell hrw _) hx1.size
    · go_wp2
      refine bodyPost_ret (v:=.tuple #[.agg #[.int .i64 5,.int .i64 au,.slice A1 ap.length c1,.slice A2 fa.length c2,.slice A3 (log.length+1) c3],.int .i64 0]) (by simp[results,Tryz.results75,go_sem,r0,r1,r2,r3,r4]) rfl ?_
      rw[HNX.out,Z.out,Rev.next_5]
      exact fin_rev (base:=w1.heap.size) H.out HIN.out ⟨by decide,by decide⟩ (ownsRow_setCell_other (ownsRow_setCell_other (ownsRow_setCell_other (ownsRow_setCell_other (ownsRow_setCell_other (ownsRow_setCell_other HOX.out (NG1.out 0) _) (NR1.out 0) _) (NR1.out 1) _) (NR1.out 2) _) (NR1.out 3) _) (NR1.out 4) _) (ownsRow_setCell_other (ownsRow_setCell_other (ownsRow_setCell_other (ownsRow_setCell_other (ownsRow_setCell_other (ownsRow_setCell_other HOY.out (NG2.out 0) _) (NR2.out 0) _) (NR2.out 1) _) (NR2.out 2) _) (NR2.out 3) _) (NR2.out 4) _) (ownsRow_setCell_other (ownsRow_setCell_other (ownsRow_setCell_other (ownsRow_setCell_other (ownsRow_setCell_other (ownsRow_setCell_other HOZ.out (NG3.out 0) _) (NR3.out 0) _) (NR3.out 1) _) (NR3.out 2) _) (NR3.out 3) _) (NR3.out 4) _) (((((((hx1.trans hex).setCell hgw _).setCell hrw _).setCell hrw _).setCell hrw _).setCell hrw _).setCell hrw _) hx1.size
    · go_wp2
      refine bodyPost_ret (v:=.tuple #[.agg #[.int .i64 6,.int .i64 au,.slice A1 ap.length c1,.slice A2 fa.length c2,.slice A3 (log.length+1) c3],.int .i64 0]) (by simp[results,Tryz.results75,go_sem,r0,r1,r2,r3,r4]) rfl ?_
      rw[HNX.out,Z.out,Rev.next_6]
      exact fin_rev (base:=w1.heap.size) H.out HIN.out ⟨by decide,by decide⟩ (ownsRow_setCell_other (ownsRow_setCell_other (ownsRow_setCell_other (ownsRow_setCell_other (ownsRow_setCell_other (ownsRow_setCell_other HOX.out (NG1.out 0) _) (NR1.out 0) _) (NR1.out 1) _) (NR1.out 2) _) (NR1.out 3) _) (NR1.out 4) _) (ownsRow_setCell_other (ownsRow_setCell_other (ownsRow_setCell_other (ownsRow_setCell_other (ownsRow_setCell_other (ownsRow_setCell_other HOY.out (NG2.out 0) _) (NR2.out 0) _) (NR2.out 1) _) (NR2.out 2) _) (NR2.out 3) _) (NR2.out 4) _) (ownsRow_setCell_other (ownsRow_setCell_other (ownsRow_setCell_other (ownsRow_setCell_other (ownsRow_setCell_other (ownsRow_setCell_other HOZ.out (NG3.out 0) _) (NR3.out 0) _) (NR3.out 1) _) (NR3.out 2) _) (NR3.out 3) _) (NR3.out 4) _) (((((((hx1.trans hex).setCell hgw _).setCell hrw _).setCell hrw _).setCell hrw _).setCell hrw _).setCell hrw _) hx1.size
    · go_wp2
      refine bodyPost_ret (v:=.tuple #[.agg #[.int .i64 5,.int .i64 au,.slice A1 ap.length c1,.slice A2 fa.length c2,.slice A3 (log.length+1) c3],.int .i64 0]) (by simp[results,Tryz.results75,go_sem,r0,r1,r2,r3,r4]) rfl ?_
      rw[HNX.out,Z.out,Rev.next_7]
      exact fin_rev (base:=w1.heap.size) H.out HIN.out ⟨by decide,by decide⟩ (ownsRow_setCell_other (ownsRow_setCell_other (ownsRow_setCell_other (ownsRow_setCell_other (ownsRow_setCell_other (ownsRow_setCell_other HOX.out (NG1.out 0) _) (NR1.out 0) _) (NR1.out 1) _) (NR1.out 2) _) (NR1.out 3) _) (NR1.out 4) _) (ownsRow_setCell_other (ownsRow_setCell_other (ownsRow_setCell_other (ownsRow_setCell_other (ownsRow_setCell_other (ownsRow_setCell_other HOY.out (NG2.out 0) _) (NR2.out 0) _) (NR2.out 1) _) (NR2.out 2) _) (NR2.out 3) _) (NR2.out 4) _) (ownsRow_setCell_other (ownsRow_setCell_other (ownsRow_setCell_other (ownsRow_setCell_other (ownsRow_setCell_other (ownsRow_setCell_other HOZ.out (NG3.out 0) _) (NR3.out 0) _) (NR3.out 1) _) (NR3.out 2) _) (NR3.out 3) _) (NR3.out 4) _) (((((((hx1.trans hex).setCell hgw _).setCell hrw _).setCell hrw _).setCell hrw _).setCell hrw _).setCell hrw _) hx1.size
    · go_wp2
      refine bodyPost_ret (v:=.tuple #[.agg #[.int .i64 7,.int .i64 au,.slice A1 ap.length c1,.slice A2 fa.length c2,.slice A3 (log.length+1) c3],.int .i64 0]) (by simp[results,Tryz.results75,go_sem,r0,r1,r2,r3,r4]) rfl ?_
      rw[HNX.out,Z.out,Rev.next_8]
      exact fin_rev (base:=w1.heap.size) H.out HIN.out ⟨by decide,by decide⟩ (ownsRow_setCell_other (ownsRow_setCell_other (ownsRow_setCell_other (ownsRow_setCell_other (ownsRow_setCell_other (ownsRow_setCell_other HOX.out (NG1.out 0) _) (NR1.out 0) _) (NR1.out 1) _) (NR1.out 2) _) (NR1.out 3) _) (NR1.out 4) _) (ownsRow_setCell_other (ownsRow_setCell_other (ownsRow_setCell_other (ownsRow_setCell_other (ownsRow_setCell_other (ownsRow_setCell_other HOY.out (NG2.out 0) _) (NR2.out 0) _) (NR2.out 1) _) (NR2.out 2) _) (NR2.out 3) _) (NR2.out 4) _) (ownsRow_setCell_other (ownsRow_setCell_other (ownsRow_setCell_other (ownsRow_setCell_other (ownsRow_setCell_other (ownsRow_setCell_other HOZ.out (NG3.out 0) _) (NR3.out 0) _) (NR3.out 1) _) (NR3.out 2) _) (NR3.out 3) _) (NR3.out 4) _) (((((((hx1.trans hex).setCell hgw _).setCell hrw _).setCell hrw _).setCell hrw _).setCell hrw _).setCell hrw _) hx1.size
    · go_wp2
      refine bodyPost_ret (v:=.tuple #[.agg #[.int .i64 1,.int .i64 au,.slice none 0 0,.slice none 0 0,.slice A3 (log.length+1) c3],.int .i64 0]) (by simp[results,Tryz.results75,go_sem,r0,r1,r2,r3,r4]) rfl ?_
      rw[HNX.out,Z.out,Rev.next_9]
      exact fin_rev3 (base:=w1.heap.size) H.out HIN.out (ownsRow_setCell_other (ownsRow_setCell_other (ownsRow_setCell_other (ownsRow_setCell_other (ownsRow_setCell_other (ownsRow_setCell_other (ownsRow_setCell_other (ownsRow_setCell_other HOZ.out (NG3.out 0) _) (NG3.out 2) _) (NG3.out 3) _) (NR3.out 0) _) (NR3.out 1) _) (NR3.out 2) _) (NR3.out 3) _) (NR3.out 4) _) (((((((((hx1.trans hex).setCell hgw _).setCell hgw _).setCell hgw _).setCell hrw _).setCell hrw _).setCell hrw _).setCell hrw _).setCell hrw _) hx1.size
 · have z':(Rev.allowedE ⟨st,au,ap,fa,log⟩ ⟨k,u,ro,t⟩ != 0)=true:=by rw[bne_iff_ne];exact z
   have E:Hid (Rev.applyR ⟨st,au,ap,fa,log⟩ ⟨k,u,ro,t⟩=Rev.zero):=Hi (by unfold Rev.applyR;rw[if_neg z])
   clear z
   go_enter Tryz.func75,Tryz.ntmps75
   go_wp2_with fail
   refine(allowed_any st au P pc ap Q qc fa L lc log k u ro t _ (H.out.ext hx0)).mono ?_
   rintro e w1 ⟨rfl,hb3⟩
   have r0:w1.cell? ⟨w.heap.size+1+1,0,none⟩=some (.int .i64 0):=hb3.keep (by simp[go_sem])
   have s0:w1.frozen? ⟨w.heap.size+1+1,0,none⟩=false:=hb3.free (v:=.int .i64 0) (by simp[go_sem]) (by simp[go_sem])
   have r1:w1.cell? ⟨w.heap.size+1+1,1,none⟩=some (.int .i64 0):=hb3.keep (by simp[go_sem])
   have s1:w1.frozen? ⟨w.heap.size+1+1,1,none⟩=false:=hb3.free (v:=.int .i64 0) (by simp[go_sem]) (by simp[go_sem])
   have r2:w1.cell? ⟨w.heap.size+1+1,2,none⟩=some (.slice none 0 0):=hb3.keep (by simp[go_sem])
   have s2:w1.frozen? ⟨w.heap.size+1+1,2,none⟩=false:=hb3.free (v:=.slice none 0 0) (by simp[go_sem]) (by simp[go_sem])
   have r3:w1.cell? ⟨w.heap.size+1+1,3,none⟩=some (.slice none 0 0):=hb3.keep (by simp[go_sem])
   have s3:w1.frozen? ⟨w.heap.size+1+1,3,none⟩=false:=hb3.free (v:=.slice none 0 0) (by simp[go_sem]) (by simp[go_sem])
   have r4:w1.cell? ⟨w.heap.size+1+1,4,none⟩=some (.slice none 0 0):=hb3.keep (by simp[go_sem])
   have s4:w1.frozen? ⟨w.heap.size+1+1,4,none⟩=false:=hb3.free (v:=.slice none 0 0) (by simp[go_sem]) (by simp[go_sem])
   have hwb:w.heap.size≤w.heap.size+1+1:=by omega
   go_wp2
   refine bodyPost_ret (v:=.tuple #[.agg #[.int .i64 0,.int .i64 0,.slice none 0 0,.slice none 0 0,.slice none 0 0],.int .i64 (Rev.allowedE ⟨st,au,ap,fa,log⟩ ⟨k,u,ro,t⟩)]) (by simp[results,Tryz.results75,go_sem,r0,r1,r2,r3,r4]) rfl ?_
   rw[E.out]
   refine⟨none,0,none,0,none,0,rfl,rev_nil _ _ _ ⟨by decide,by decide⟩ ⟨by decide,by decide⟩,?_,Fresh.none _,Fresh.none _,Fresh.none _,Or.inl rfl,Or.inl rfl,Or.inl rfl⟩
   exact(((((hx0.trans hb3).setCell hwb _).setCell hwb _).setCell hwb _).setCell hwb _).setCell hwb _
end Go.Proofs.YtfnmgcblhebdbaaGreatDoor
