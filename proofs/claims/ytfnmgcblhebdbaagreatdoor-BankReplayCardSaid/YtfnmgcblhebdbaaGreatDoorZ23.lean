/- A review record within an entry; review.Apply, review.New, action: contracts in these words. Conditions: those of each theorem. -/
import Derived.Test.YtfnmgcblhebdbaaGreatDoorZ14
import Derived.Test.YtfnmgcblhebdbaaGreatDoorZ22
namespace Go.Proofs.YtfnmgcblhebdbaaGreatDoor
set_option maxRecDepth 100000
set_option maxHeartbeats 12800000
open Go.RowKit
namespace Bk
theorem RvL.In.rev{w:World}{r:RvL}(h:r.In w):RevIn w r.st r.au r.ap.A r.ap.c r.ap.xs r.fa.A r.fa.c r.fa.xs r.lA r.lc r.log:=⟨h.ap,h.fa,h.log.sl,h.lc.1,h.lc.2,h.log.ins,h.st,h.au⟩
structure RvT (w:World)(r:RvL):Prop where
 inn:r.In w
 ap:TyA 3 w r.ap.A r.ap.xs.length
 fa:TyA 3 w r.fa.A r.fa.xs.length
 log:TyA 116 w r.lA r.log.length
theorem RvT.ext{w w':World}{r:RvL}(h:RvT w r)(he:Ext w w'):RvT w' r:=⟨h.inn.ext he,h.ap.ext he,h.fa.ext he,h.log.ext he⟩
theorem RvT.keep{w w':World}{r:RvL}{q:Nat}{cur:Array Value}{fr:Nat×Nat}(h:RvT w r)(hq:w.heap[q]?=some (.cells cur 54 fr))(hb:But q w w'):RvT w' r:=by have h1:=h.ap.off hq (by decide);have h2:=h.fa.off hq (by decide);have h3:=h.log.off hq (by decide);exact⟨⟨h.inn.st,h.inn.au,eIL.but h.inn.ap h1 hb,eIL.but h.inn.fa h2 hb,h.inn.log.but ⟨h3,fun _ _=>trivial⟩ hb,h.inn.lc⟩,h.ap.but hb h1,h.fa.but hb h2,h.log.but hb h3⟩
def RetRv (rc:Rev.Rec)(er:Int)(w:World)(e:Ending)(w':World):Prop:=∃ W:RvL,e=.returned (.tuple #[W.agg,.int .i64 er])∧W.rc=rc∧RvT w' W∧W.From w.heap.size
theorem retRev_rv{rc:Rev.Rec}{er:Int}{w:World}{e:Ending}{w':World}(h:RetRev rc er w e w'):RetRv rc er w e w'∧Ext w w':=by obtain⟨P,pc,Q,qc,L,lc,rfl,hin,hx,h1,h2,h3,t1,t2,t3⟩:=h;obtain⟨g1,g2,g3,g4,g5,g6,g7,g8⟩:=hin;exact⟨⟨⟨rc.st,rc.au,⟨P,pc,rc.ap⟩,⟨Q,qc,rc.fa⟩,L,lc,rc.log⟩,rfl,rfl,⟨⟨g7,g8,g1,g2,⟨g3,g6⟩,⟨g4,g5⟩⟩,t1,t2,t3⟩,⟨Or.inr h1,Or.inr h2,⟨Or.inr h3,fun _ _=>trivial⟩⟩⟩,hx⟩
theorem apRv_any(r:RvL)(a:Rev.Act)(w:World)(h:r.In w)(hb1:r.ap.xs.length≤1000000)(hb2:r.fa.xs.length≤1000000)(ha:ActIn a){rc:Rev.Rec}(hrc:Rev.applyR r.rc a=rc){er:Int}(her:Rev.allowedE r.rc a=er) :
    Calls Tryz.prog 75 #[r.agg,.agg #[.int .i64 a.kind,.int .i64 a.user,.int .i64 a.roles,.int .i64 a.time]] w fun e w'=>RetRv rc er w e w'∧Ext w w':=by
 subst hrc her;exact(apply_any r.st r.au r.ap.A r.ap.c r.ap.xs r.fa.A r.fa.c r.fa.xs r.lA r.lc r.log a.kind a.user a.roles a.time w h.rev hb1 hb2 ha).mono fun e w' h=>retRev_rv h
theorem nwRv_any(au:Int)(w:World){rc:Rev.Rec}(hrc:Rev.newR au=rc){er:Int}(her:Rev.newE au=er) :
    Calls Tryz.prog 70 #[.int .i64 au] w fun e w'=>RetRv rc er w e w'∧Ext w w':=by
 subst hrc her;exact(new_any au w).mono fun e w' h=>retRev_rv h
theorem action_any(CC:Array Value)(k u r t:Int)(h1:CC[1]?=some (.int .i64 u))(h2:CC[2]?=some (.int .i64 r))(h3:CC[3]?=some (.int .i64 t))(w:World) :
    Calls Tryz.prog 76 #[.agg CC,.int .i64 k] w fun e w'=>e=.returned (.agg #[.int .i64 k,.int .i64 u,.int .i64 r,.int .i64 t])∧Ext w w':=by
 obtain⟨B,hB⟩:∃ B,(w.alloc (.cells CC 48)).alloc (.cells #[.int .i64 0,.int .i64 0,.int .i64 0,.int .i64 0] 116)=B:=⟨_,rfl⟩;have HBX:Hid (Ext w B):=Hi (by rw[← hB];exact((Ext.refl _).alloc _).alloc _);have HC:Hid (B.heap[w.heap.size]?=some (.cells CC 48 (0,0))):=Hi (by rw[← hB];exact two_fst' _ _ _);have HZ:Hid (B.heap[w.heap.size+1]?=some (.cells #[.int .i64 0,.int .i64 0,.int .i64 0,.int .i64 0] 116 (0,0))):=Hi (by rw[← hB];exact heap_new_at _ _ _ (by simp));have c1:((w.alloc (.cells CC 48)).alloc (.cells #[.int .i64 0,.int .i64 0,.int .i64 0,.int .i64 0] 116)).cell? ⟨w.heap.size,1,none⟩=some (.int .i64 u):=by rw[hB];exact(cell_of_row _ _ 1 _ _ _ HC.out).trans h1
 have c2:((w.alloc (.cells CC 48)).alloc (.cells #[.int .i64 0,.int .i64 0,.int .i64 0,.int .i64 0] 116)).cell? ⟨w.heap.size,2,none⟩=some (.int .i64 r):=by rw[hB];exact(cell_of_row _ _ 2 _ _ _ HC.out).trans h2
 have c3:((w.alloc (.cells CC 48)).alloc (.cells #[.int .i64 0,.int .i64 0,.int .i64 0,.int .i64 0] 116)).cell? ⟨w.heap.size,3,none⟩=some (.int .i64 t):=by rw[hB];exact(cell_of_row _ _ 3 _ _ _ HC.out).trans h3
 have HBH:=Hi hB;have IA:Hid ((Tryz.prog.info? 116).map (·.size)=some (#[.int .i64 k,.int .i64 u,.int .i64 r,.int .i64 t]:Array Value).size):=Hi (by kernel_rfl);have IZ:Hid ((#[.int .i64 0,.int .i64 0,.int .i64 0,.int .i64 0]:Array Value).size=(#[.int .i64 k,.int .i64 u,.int .i64 r,.int .i64 t]:Array Value).size):=Hi rfl;have OZ:Hid ((#[.int .i64 k,.int .i64 u,.int .i64 r,.int .i64 t]:Array Value).all (·.oneCell')=true):=Hi (by simp[Value.oneCell']);have HZ':Hid (((w.alloc (.cells CC 48)).alloc (.cells #[.int .i64 0,.int .i64 0,.int .i64 0,.int .i64 0] 116)).heap[w.heap.size+1]?=some (.cells #[.int .i64 0,.int .i64 0,.int .i64 0,.int .i64 0] 116 (0,0))):=Hi (by rw[hB];exact HZ.out);clear h1 h2 h3 hB HC;go_enter Tryz.func76,Tryz.ntmps76
 go_wp2_with (with_reducible refine wpList_store_row rfl 116 (.tmp 4) (.tmp 12) rfl (w.heap.size+1) #[.int .i64 k,.int .i64 u,.int .i64 r,.int .i64 t] (by with_unfolding_all rfl) (by with_unfolding_all rfl) _ _ HZ'.out IA.out IZ.out OZ.out ?_)
 refine bodyPost_ret (v:=.agg #[.int .i64 k,.int .i64 u,.int .i64 r,.int .i64 t]) (results_oneR Tryz.results76 _ _ (w.heap.size+1) _ _ _ _ rfl (setRow_heap _ _ _ _ _ _ HZ'.out) Tryz.underlying116 rfl IA.out) rfl ?_;exact⟨rfl,by rw[HBH.out];exact HBX.out.rowSet (by omega) _⟩
def EntL.withRv (e:EntL)(r:RvL):EntL:={ e with st:=r.st,au:=r.au,ap:=r.ap,fa:=r.fa,lA:=r.lA,lc:=r.lc,log:=r.log }
theorem withRv_ent(e:EntL)(r:RvL):(e.withRv r).ent={ e.ent with rev:=r.rc }:=rfl
theorem off_rv{e:EntL}{r:RvL}{M q:Nat}(hf:r.From M)(hq:q<M)(h:eEntO.Off q e):eEntO.Off q (e.withRv r):=⟨⟨h.1.vs,hf.ap.off hq,hf.fa.off hq,hf.log.off hq,h.1.rows⟩,h.2⟩
theorem in_rv{e:EntL}{r:RvL}{M:Nat}{w:World}(h:eEntO.In w e)(hr:r.In w)(hf:r.From M)(hm:∀ q,e.own=some q→q<M):eEntO.In w (e.withRv r) :=
 ⟨⟨h.inn.vs,h.inn.vc,hr.st,hr.au,hr.ap,hr.fa,hr.log,hr.lc,h.inn.rows,h.inn.rc⟩,h.row,fun q hq=>⟨hf.ap.off (hm q hq),hf.fa.off (hm q hq),hf.log.off (hm q hq),(h.ov q hq).2.2.2⟩⟩
theorem from_rv{e:EntL}{r:RvL}{M N:Nat}(h:eEntO.From N e)(hf:r.From M)(hm:N≤M):eEntO.From N (e.withRv r):=⟨⟨h.1.vs,hf.ap.mono hm,hf.fa.mono hm,hf.log.mono hm,h.1.rows⟩,h.2⟩
theorem apart_rv{x e:EntL}{r:RvL}{M:Nat}(h:Apart x e)(hf:r.From M)(hm:∀ q,x.own=some q→q<M):Apart x (e.withRv r):=⟨fun q hq=>off_rv hf (hm q hq) (h.1 q hq),h.2⟩
theorem Nm.putRv{N g k q:Nat}{CB:Array Value}{b:BankL}{w3 w:World}{e:EntL}{r:RvL}(h3:Nm N g CB b w3)(hx:Ext w3 w)(hN:N≤w3.heap.size)(hq:b.eA=some ⟨q,0,none⟩)(hk:b.ents[k]?=some e)(hr:r.In w)(hf:r.From w3.heap.size) :
    Nm N g CB (b.setE b.eA b.ec (b.ents.set k (e.withRv r))) (w.setCells q (k*7+1) r.cells):=by
 have h:=h3.ext hx;have hin:=h.own.e.ins e (List.mem_of_getElem? hk);have hm:∀ x∈b.ents,∀ q,x.own=some q→q<w3.heap.size:=fun x hx q hq=>own_lt (h3.own.e.ins x hx).row.own q hq;have hmem:=List.mem_of_getElem? hk;have hqe:(Value.slice b.eA b.ents.length b.ec).ownBlock=some q:=by rw[hq];rfl
 refine h.putE hq hk (in_rv hin hr hf (hm e hmem)) (off_rv hf (own_lt h3.own.e.own q hqe) (h.own.e.off q hqe e hmem)) (from_rv (h.own.ef e hmem) hf hN) (fun j x hj hx=>apart_rv (h.own.pw.at_ hj hx hk) hf (hm x (List.mem_of_getElem? hx))) (fun p hp=>off_rv hf (own_lt h3.own.o.own p hp) (h.own.eo e hmem p hp)) (fun p hp=>off_rv hf (own_lt h3.own.s.own p hp) (h.own.es e hmem p hp)) (off_rv hf (blk_lt h3.row) (h.off e hmem)) (by show 1+5≤7;omega) (fun i v h1 h2 hv=>?_) (fun i v h1 hv=>?_)
 · have h2:i<6:=h2
   match i,h1,h2,hv with
   | 1,_,_,hv=>exact hv
   | 2,_,_,hv=>exact hv
   | 3,_,_,hv=>exact hv
   | 4,_,_,hv=>exact hv
   | 5,_,_,hv=>exact hv
 · have h1:i<1∨6≤i:=h1
   match i,h1,hv with
   | 0,_,hv=>exact hv
   | 6,_,hv=>exact hv
   | i+7,_,hv=>simp[EntL.withRv,EntL.cells]at hv
   | i+1,h1,hv =>
    match i,h1,hv with
    | 0,h1,_=>omega
    | 1,h1,_=>omega
    | 2,h1,_=>omega
    | 3,h1,_=>omega
    | 4,h1,_=>omega
    | 5,h1,hv=>exact hv
    | i+6,_,hv=>simp[EntL.withRv,EntL.cells]at hv
end Bk
end Go.Proofs.YtfnmgcblhebdbaaGreatDoor
