/- How numbers, slices, items, entries and banks come out of a row's reading. Conditions: those of each theorem. -/
import Derived.Test.YtfnmgcblhebdbaaGreatDoorZ8
import Derived.Test.YtfnmgcblhebdbaaGreatDoorZ45
import Derived.Lib.SmallJoins
import Derived.Test.YtfnmgcblhebdbaaGreatDoorCards
import Derived.Test.YtfnmgcblhebdbaaGreatDoorTie
import Derived.LaidMore
import Derived.LaidSub
import Derived.MakeChecks
import Derived.Lib.LaidTab
import Derived.Deep.DeepHandedRow
import Derived.SevenTiedAt
import Derived.Shelf.Vars
namespace Go.Proofs.YtfnmgcblhebdbaaGreatDoor
set_option maxRecDepth 100000
set_option maxHeartbeats 1600000
open Go.ChangeShapes Go.WideShapes Go.ChangeAt Go.RowKit
namespace Bk
instance:Inhabited It.Item:=⟨⟨0,0,0,⟨#[]⟩,[],[],0,0,[],0,⟨#[]⟩,0,0,0,0,[],0⟩⟩
instance:Inhabited It.Loc:=⟨⟨none,0,none,0,none,0,none,0⟩⟩
instance:Inhabited Ast:=⟨⟨0,0,⟨#[]⟩,0,0⟩⟩
section
variable {H:Type} {enc:TypeId×Value→H} {W:World}
theorem int_o(n:Nat)(cs:List Value)(y:DataW H×List MemPlace)(h:DataW.trod enc Tryz.prog W 0 (fun _=>true) true n 3 cs=some y)(_:Light Tryz.prog 3 y.1):∃ x:Int,cs=[.int .i64 x]∧In64 x:=by obtain⟨x,h1,_,h3⟩:=DataW.trod_int Tryz.underlying3 h;exact⟨x,h1,in64_of_wf h3⟩
theorem str_o(n:Nat)(cs:List Value)(y:DataW H×List MemPlace)(h:DataW.trod enc Tryz.prog W 0 (fun _=>true) true n 9 cs=some y)(hl:Light Tryz.prog 9 y.1):∃ x:ByteArray,cs=[.string x]∧x.size≤140737488351232:=by obtain⟨s,e,rfl,-⟩:=DataW.trod_string Tryz.underlying9 h;refine⟨s,e,?_⟩;have:=light_str hl;simpa using this
theorem ints_o(n:Nat)(cs:List Value)(y:DataW H×List MemPlace)(h:DataW.trod enc Tryz.prog W 0 (fun _=>true) true n 22 cs=some y)(hl:Light Tryz.prog 22 y.1):∃ (A:Option Addr) (xs:List (Int)) (c:Nat),cs=[.slice A xs.length c]∧xs.length≤c∧c≤maxLen∧xs.length*8≤140737488355328∧(∀ x∈xs,(In64) x)∧Sl W 1 A (xs.map fun x:Int=>[.int .i64 x]):=by obtain⟨A,xs,c,h1,h2,h3,h4,h5,h6⟩:=open_slW (fun x:Int=>[.int .i64 x]) (In64) Tryz.underlying22 (by kernel_rfl) (k:=1) (by omega) (bs:=8) (by kernel_rfl) (fun n cs y hy hl=>int_o n cs y hy hl) h hl;have h7:xs.length*8≤c*8:=Nat.mul_le_mul_right _ h2;exact⟨A,xs,c,h1,h2,h3,by omega,h5,h6⟩
theorem strs_o(n:Nat)(cs:List Value)(y:DataW H×List MemPlace)(h:DataW.trod enc Tryz.prog W 0 (fun _=>true) true n 37 cs=some y)(hl:Light Tryz.prog 37 y.1):∃ (A:Option Addr) (xs:List (ByteArray)) (c:Nat),cs=[.slice A xs.length c]∧xs.length≤c∧c≤maxLen∧xs.length*16≤140737488355328∧(∀ x∈xs,(fun x:ByteArray=>x.size≤140737488351232) x)∧Sl W 1 A (xs.map fun x:ByteArray=>[.string x]):=by obtain⟨A,xs,c,h1,h2,h3,h4,h5,h6⟩:=open_slW (fun x:ByteArray=>[.string x]) (fun x:ByteArray=>x.size≤140737488351232) Tryz.underlying37 (by kernel_rfl) (k:=1) (by omega) (bs:=16) (by kernel_rfl) (fun n cs y hy hl=>str_o n cs y hy hl) h hl;have h7:xs.length*16≤c*16:=Nat.mul_le_mul_right _ h2;exact⟨A,xs,c,h1,h2,h3,by omega,h5,h6⟩
theorem il_o(n:Nat)(cs:List Value)(y:DataW H×List MemPlace)(h:DataW.trod enc Tryz.prog W 0 (fun _=>true) true n 22 cs=some y)(hl:Light Tryz.prog 22 y.1):∃ x:IL,cs=[x.val]∧x.In W∧x.xs.length*8≤140737488355328:=by obtain⟨A,xs,c,h1,h2,h3,h4,h5,h6⟩:=ints_o n cs y h hl;exact⟨⟨A,c,xs⟩,h1,⟨h6,h2,h3,h5⟩,h4⟩
theorem ils_o(n:Nat)(cs:List Value)(y:DataW H×List MemPlace)(h:DataW.trod enc Tryz.prog W 0 (fun _=>true) true n 44 cs=some y)(hl:Light Tryz.prog 44 y.1):∃ (A:Option Addr) (xs:List (IL)) (c:Nat),cs=[.slice A xs.length c]∧xs.length≤c∧c≤maxLen∧xs.length*24≤140737488355328∧(∀ x∈xs,(fun x:IL=>x.In W∧x.xs.length*8≤140737488355328) x)∧Sl W 1 A (xs.map fun x:IL=>[x.val]):=by obtain⟨A,xs,c,h1,h2,h3,h4,h5,h6⟩:=open_slW (fun x:IL=>[x.val]) (fun x:IL=>x.In W∧x.xs.length*8≤140737488355328) Tryz.underlying44 (by kernel_rfl) (k:=1) (by omega) (bs:=24) (by kernel_rfl) (fun n cs y hy hl=>il_o n cs y hy hl) h hl;have h7:xs.length*24≤c*24:=Nat.mul_le_mul_right _ h2;exact⟨A,xs,c,h1,h2,h3,by omega,h5,h6⟩
theorem list2{α:Type}{l:List α}(h:l.length=2):∃ c0 c1,l=[c0,c1]:=by
 match l,h with
 | [c0,c1],_=>exact⟨c0,c1,rfl⟩
theorem tpc_o(n:Nat)(cs:List Value)(y:DataW H×List MemPlace)(h:DataW.trod enc Tryz.prog W 0 (fun _=>true) true n 41 cs=some y)(hl:Light Tryz.prog 41 y.1):∃ x:Tpc,cs=tcl x∧(TpcIn) x:=by
 obtain⟨hl,m,hf⟩:=fieldsW Tryz.underlying41 h hl;obtain⟨c0,c1,rfl⟩:=list2 (hl.trans (by kernel_rfl));have k0:Tryz.prog.cellsOf 9=1:=by kernel_rfl
 obtain⟨z0,h0,l0⟩:=hf 0 _ rfl
 change DataW.trod enc Tryz.prog W 0 (fun _=>true) true m 9 (([c0,c1].drop 0).take (Tryz.prog.cellsOf 9))=some z0 at h0
 obtain⟨z1,h1,l1⟩:=hf 1 _ rfl
 change DataW.trod enc Tryz.prog W 0 (fun _=>true) true m 9 (([c0,c1].drop 1).take (Tryz.prog.cellsOf 9))=some z1 at h1
 simp only[k0,List.drop_zero,List.take_succ_cons,List.take_zero,List.drop_succ_cons]at h0 h1;obtain⟨x0,e0,w0⟩:=str_o _ _ _ h0 l0;obtain⟨x1,e1,w1⟩:=str_o _ _ _ h1 l1;simp at e0 e1;subst e0 e1;exact⟨(x0,x1),rfl,⟨w0,w1⟩⟩
theorem list5{α:Type}{l:List α}(h:l.length=5):∃ c0 c1 c2 c3 c4,l=[c0,c1,c2,c3,c4]:=by
 match l,h with
 | [c0,c1,c2,c3,c4],_=>exact⟨c0,c1,c2,c3,c4,rfl⟩
theorem ast_o(n:Nat)(cs:List Value)(y:DataW H×List MemPlace)(h:DataW.trod enc Tryz.prog W 0 (fun _=>true) true n 43 cs=some y)(hl:Light Tryz.prog 43 y.1):∃ x:Ast,cs=scl x∧(AstIn) x:=by
 obtain⟨hl,m,hf⟩:=fieldsW Tryz.underlying43 h hl;obtain⟨c0,c1,c2,c3,c4,rfl⟩:=list5 (hl.trans (by kernel_rfl));have k0:Tryz.prog.cellsOf 3=1:=by kernel_rfl
 have k2:Tryz.prog.cellsOf 9=1:=by kernel_rfl
 obtain⟨z0,h0,l0⟩:=hf 0 _ rfl
 change DataW.trod enc Tryz.prog W 0 (fun _=>true) true m 3 (([c0,c1,c2,c3,c4].drop 0).take (Tryz.prog.cellsOf 3))=some z0 at h0
 obtain⟨z1,h1,l1⟩:=hf 1 _ rfl
 change DataW.trod enc Tryz.prog W 0 (fun _=>true) true m 3 (([c0,c1,c2,c3,c4].drop 1).take (Tryz.prog.cellsOf 3))=some z1 at h1
 obtain⟨z2,h2,l2⟩:=hf 2 _ rfl
 change DataW.trod enc Tryz.prog W 0 (fun _=>true) true m 9 (([c0,c1,c2,c3,c4].drop 2).take (Tryz.prog.cellsOf 9))=some z2 at h2
 obtain⟨z3,h3,l3⟩:=hf 3 _ rfl
 change DataW.trod enc Tryz.prog W 0 (fun _=>true) true m 3 (([c0,c1,c2,c3,c4].drop 3).take (Tryz.prog.cellsOf 3))=some z3 at h3
 obtain⟨z4,h4,l4⟩:=hf 4 _ rfl
 change DataW.trod enc Tryz.prog W 0 (fun _=>true) true m 3 (([c0,c1,c2,c3,c4].drop 4).take (Tryz.prog.cellsOf 3))=some z4 at h4
 simp only[k0,k2,List.drop_zero,List.take_succ_cons,List.take_zero,List.drop_succ_cons]at h0 h1 h2 h3 h4;obtain⟨x0,e0,w0⟩:=int_o _ _ _ h0 l0;obtain⟨x1,e1,w1⟩:=int_o _ _ _ h1 l1;obtain⟨x2,e2,w2⟩:=str_o _ _ _ h2 l2;obtain⟨x3,e3,w3⟩:=int_o _ _ _ h3 l3;obtain⟨x4,e4,w4⟩:=int_o _ _ _ h4 l4;simp at e0 e1 e2 e3 e4;subst e0 e1 e2 e3 e4;exact⟨⟨x0,x1,x2,x3,x4⟩,rfl,⟨w2,w0,w1,w3,w4⟩⟩
theorem list17{α:Type}{l:List α}(h:l.length=17):∃ c0 c1 c2 c3 c4 c5 c6 c7 c8 c9 c10 c11 c12 c13 c14 c15 c16,l=[c0,c1,c2,c3,c4,c5,c6,c7,c8,c9,c10,c11,c12,c13,c14,c15,c16]:=by
 match l,h with
 | [c0,c1,c2,c3,c4,c5,c6,c7,c8,c9,c10,c11,c12,c13,c14,c15,c16],_=>exact⟨c0,c1,c2,c3,c4,c5,c6,c7,c8,c9,c10,c11,c12,c13,c14,c15,c16,rfl⟩
theorem item_o(n:Nat)(cs:List Value)(y:DataW H×List MemPlace)(h:DataW.trod enc Tryz.prog W 0 (fun _=>true) true n 39 cs=some y)(hl:Light Tryz.prog 39 y.1):∃ x:ItL,cs=icl x∧(fun x:ItL=>It.In W x.1 x.2∧ItSz x.1) x:=by
 obtain⟨hl,m,hf⟩:=fieldsW Tryz.underlying39 h hl;obtain⟨c0,c1,c2,c3,c4,c5,c6,c7,c8,c9,c10,c11,c12,c13,c14,c15,c16,rfl⟩:=list17 (hl.trans (by kernel_rfl));have k0:Tryz.prog.cellsOf 3=1:=by kernel_rfl
 have k3:Tryz.prog.cellsOf 9=1:=by kernel_rfl
 have k4:Tryz.prog.cellsOf 37=1:=by kernel_rfl
 have k5:Tryz.prog.cellsOf 22=1:=by kernel_rfl
 obtain⟨z0,h0,l0⟩:=hf 0 _ rfl
 change DataW.trod enc Tryz.prog W 0 (fun _=>true) true m 3 (([c0,c1,c2,c3,c4,c5,c6,c7,c8,c9,c10,c11,c12,c13,c14,c15,c16].drop 0).take (Tryz.prog.cellsOf 3))=some z0 at h0
 obtain⟨z1,h1,l1⟩:=hf 1 _ rfl
 change DataW.trod enc Tryz.prog W 0 (fun _=>true) true m 3 (([c0,c1,c2,c3,c4,c5,c6,c7,c8,c9,c10,c11,c12,c13,c14,c15,c16].drop 1).take (Tryz.prog.cellsOf 3))=some z1 at h1
 obtain⟨z2,h2,l2⟩:=hf 2 _ rfl
 change DataW.trod enc Tryz.prog W 0 (fun _=>true) true m 3 (([c0,c1,c2,c3,c4,c5,c6,c7,c8,c9,c10,c11,c12,c13,c14,c15,c16].drop 2).take (Tryz.prog.cellsOf 3))=some z2 at h2
 obtain⟨z3,h3,l3⟩:=hf 3 _ rfl
 change DataW.trod enc Tryz.prog W 0 (fun _=>true) true m 9 (([c0,c1,c2,c3,c4,c5,c6,c7,c8,c9,c10,c11,c12,c13,c14,c15,c16].drop 3).take (Tryz.prog.cellsOf 9))=some z3 at h3
 obtain⟨z4,h4,l4⟩:=hf 4 _ rfl
 change DataW.trod enc Tryz.prog W 0 (fun _=>true) true m 37 (([c0,c1,c2,c3,c4,c5,c6,c7,c8,c9,c10,c11,c12,c13,c14,c15,c16].drop 4).take (Tryz.prog.cellsOf 37))=some z4 at h4
 obtain⟨z5,h5,l5⟩:=hf 5 _ rfl
 change DataW.trod enc Tryz.prog W 0 (fun _=>true) true m 22 (([c0,c1,c2,c3,c4,c5,c6,c7,c8,c9,c10,c11,c12,c13,c14,c15,c16].drop 5).take (Tryz.prog.cellsOf 22))=some z5 at h5
 obtain⟨z6,h6,l6⟩:=hf 6 _ rfl
 change DataW.trod enc Tryz.prog W 0 (fun _=>true) true m 3 (([c0,c1,c2,c3,c4,c5,c6,c7,c8,c9,c10,c11,c12,c13,c14,c15,c16].drop 6).take (Tryz.prog.cellsOf 3))=some z6 at h6
 obtain⟨z7,h7,l7⟩:=hf 7 _ rfl
 change DataW.trod enc Tryz.prog W 0 (fun _=>true) true m 3 (([c0,c1,c2,c3,c4,c5,c6,c7,c8,c9,c10,c11,c12,c13,c14,c15,c16].drop 7).take (Tryz.prog.cellsOf 3))=some z7 at h7
 obtain⟨z8,h8,l8⟩:=hf 8 _ rfl
 change DataW.trod enc Tryz.prog W 0 (fun _=>true) true m 37 (([c0,c1,c2,c3,c4,c5,c6,c7,c8,c9,c10,c11,c12,c13,c14,c15,c16].drop 8).take (Tryz.prog.cellsOf 37))=some z8 at h8
 obtain⟨z9,h9,l9⟩:=hf 9 _ rfl
 change DataW.trod enc Tryz.prog W 0 (fun _=>true) true m 3 (([c0,c1,c2,c3,c4,c5,c6,c7,c8,c9,c10,c11,c12,c13,c14,c15,c16].drop 9).take (Tryz.prog.cellsOf 3))=some z9 at h9
 obtain⟨z10,h10,l10⟩:=hf 10 _ rfl
 change DataW.trod enc Tryz.prog W 0 (fun _=>true) true m 9 (([c0,c1,c2,c3,c4,c5,c6,c7,c8,c9,c10,c11,c12,c13,c14,c15,c16].drop 10).take (Tryz.prog.cellsOf 9))=some z10 at h10
 obtain⟨z11,h11,l11⟩:=hf 11 _ rfl
 change DataW.trod enc Tryz.prog W 0 (fun _=>true) true m 3 (([c0,c1,c2,c3,c4,c5,c6,c7,c8,c9,c10,c11,c12,c13,c14,c15,c16].drop 11).take (Tryz.prog.cellsOf 3))=some z11 at h11
 obtain⟨z12,h12,l12⟩:=hf 12 _ rfl
 change DataW.trod enc Tryz.prog W 0 (fun _=>true) true m 3 (([c0,c1,c2,c3,c4,c5,c6,c7,c8,c9,c10,c11,c12,c13,c14,c15,c16].drop 12).take (Tryz.prog.cellsOf 3))=some z12 at h12
 obtain⟨z13,h13,l13⟩:=hf 13 _ rfl
 change DataW.trod enc Tryz.prog W 0 (fun _=>true) true m 3 (([c0,c1,c2,c3,c4,c5,c6,c7,c8,c9,c10,c11,c12,c13,c14,c15,c16].drop 13).take (Tryz.prog.cellsOf 3))=some z13 at h13
 obtain⟨z14,h14,l14⟩:=hf 14 _ rfl
 change DataW.trod enc Tryz.prog W 0 (fun _=>true) true m 3 (([c0,c1,c2,c3,c4,c5,c6,c7,c8,c9,c10,c11,c12,c13,c14,c15,c16].drop 14).take (Tryz.prog.cellsOf 3))=some z14 at h14
 obtain⟨z15,h15,l15⟩:=hf 15 _ rfl
 change DataW.trod enc Tryz.prog W 0 (fun _=>true) true m 22 (([c0,c1,c2,c3,c4,c5,c6,c7,c8,c9,c10,c11,c12,c13,c14,c15,c16].drop 15).take (Tryz.prog.cellsOf 22))=some z15 at h15
 obtain⟨z16,h16,l16⟩:=hf 16 _ rfl
 change DataW.trod enc Tryz.prog W 0 (fun _=>true) true m 3 (([c0,c1,c2,c3,c4,c5,c6,c7,c8,c9,c10,c11,c12,c13,c14,c15,c16].drop 16).take (Tryz.prog.cellsOf 3))=some z16 at h16
 simp only[k0,k3,k4,k5,List.drop_zero,List.take_succ_cons,List.take_zero,List.drop_succ_cons]at h0 h1 h2 h3 h4 h5 h6 h7 h8 h9 h10 h11 h12 h13 h14 h15 h16;obtain⟨x0,e0,w0⟩:=int_o _ _ _ h0 l0;obtain⟨x1,e1,w1⟩:=int_o _ _ _ h1 l1;obtain⟨x2,e2,w2⟩:=int_o _ _ _ h2 l2;obtain⟨x3,e3,w3⟩:=str_o _ _ _ h3 l3;obtain⟨A4,x4,d4,e4,p4,q4,r4,s4,t4⟩:=strs_o _ _ _ h4 l4;obtain⟨A5,x5,d5,e5,p5,q5,r5,s5,t5⟩:=ints_o _ _ _ h5 l5;obtain⟨x6,e6,w6⟩:=int_o _ _ _ h6 l6;obtain⟨x7,e7,w7⟩:=int_o _ _ _ h7 l7;obtain⟨A8,x8,d8,e8,p8,q8,r8,s8,t8⟩:=strs_o _ _ _ h8 l8;obtain⟨x9,e9,w9⟩:=int_o _ _ _ h9 l9;obtain⟨x10,e10,w10⟩:=str_o _ _ _ h10 l10;obtain⟨x11,e11,w11⟩:=int_o _ _ _ h11 l11;obtain⟨x12,e12,w12⟩:=int_o _ _ _ h12 l12;obtain⟨x13,e13,w13⟩:=int_o _ _ _ h13 l13;obtain⟨x14,e14,w14⟩:=int_o _ _ _ h14 l14;obtain⟨A15,x15,d15,e15,p15,q15,r15,s15,t15⟩:=ints_o _ _ _ h15 l15;obtain⟨x16,e16,w16⟩:=int_o _ _ _ h16 l16;simp at e0 e1 e2 e3 e4 e5 e6 e7 e8 e9 e10 e11 e12 e13 e14 e15 e16;subst e0 e1 e2 e3 e4 e5 e6 e7 e8 e9 e10 e11 e12 e13 e14 e15 e16;exact⟨(⟨x0,x1,x2,x3,x4,x5,x6,x7,x8,x9,x10,x11,x12,x13,x14,x15,x16⟩,⟨A4,d4,A5,d5,A8,d8,A15,d15⟩),rfl,⟨⟨w0,w1,w2,w6,w7,w9,w11,w12,w13,w14,w16,w3,w10,s4,s8,s5,s15,by dsimp only;omega,by dsimp only;omega,by dsimp only;omega,by dsimp only;omega⟩,t4,t5,t8,t15,⟨p4,q4⟩,⟨p5,q5⟩,⟨p8,q8⟩,⟨p15,q15⟩⟩,r4,r5,r8,r15⟩
theorem list1{α:Type}{l:List α}(h:l.length=1):∃ c0,l=[c0]:=by
 match l,h with
 | [c0],_=>exact⟨c0,rfl⟩
theorem model_o(n:Nat)(cs:List Value)(y:DataW H×List MemPlace)(h:DataW.trod enc Tryz.prog W 0 (fun _=>true) true n 46 cs=some y)(hl:Light Tryz.prog 46 y.1):∃ x:Option Addr×Nat×List IL,cs=(fun x=>[.slice x.1 x.2.2.length x.2.1]) x∧(fun x:Option Addr×Nat×List IL=>SlX eIL W x.1 x.2.2∧(∀ r∈x.2.2,r.xs.length*8≤140737488355328)∧x.2.2.length≤x.2.1∧x.2.1≤maxLen∧x.2.2.length*24≤140737488355328) x:=by
 obtain⟨hl,m,hf⟩:=fieldsW Tryz.underlying46 h hl;obtain⟨c0,rfl⟩:=list1 (hl.trans (by kernel_rfl));have k0:Tryz.prog.cellsOf 44=1:=by kernel_rfl
 obtain⟨z0,h0,l0⟩:=hf 0 _ rfl
 change DataW.trod enc Tryz.prog W 0 (fun _=>true) true m 44 (([c0].drop 0).take (Tryz.prog.cellsOf 44))=some z0 at h0
 simp only[k0,List.drop_zero,List.take_succ_cons,List.take_zero]at h0;obtain⟨A0,x0,d0,e0,p0,q0,r0,s0,t0⟩:=ils_o _ _ _ h0 l0;simp at e0;subst e0;exact⟨(A0,d0,x0),rfl,⟨⟨t0,fun x hx=>(s0 x hx).1⟩,fun x hx=>(s0 x hx).2,p0,q0,r0⟩⟩
theorem grid_o(n:Nat)(cs:List Value)(y:DataW H×List MemPlace)(h:DataW.trod enc Tryz.prog W 0 (fun _=>true) true n 24 cs=some y)(hl:Light Tryz.prog 24 y.1):∃ x:IL×IL,cs=(fun x=>[x.1.val,x.2.val]) x∧(fun x:IL×IL=>(x.1.In W∧x.1.xs.length*8≤140737488355328)∧x.2.In W∧x.2.xs.length*8≤140737488355328) x:=by
 obtain⟨hl,m,hf⟩:=fieldsW Tryz.underlying24 h hl;obtain⟨c0,c1,rfl⟩:=list2 (hl.trans (by kernel_rfl));have k0:Tryz.prog.cellsOf 22=1:=by kernel_rfl
 obtain⟨z0,h0,l0⟩:=hf 0 _ rfl
 change DataW.trod enc Tryz.prog W 0 (fun _=>true) true m 22 (([c0,c1].drop 0).take (Tryz.prog.cellsOf 22))=some z0 at h0
 obtain⟨z1,h1,l1⟩:=hf 1 _ rfl
 change DataW.trod enc Tryz.prog W 0 (fun _=>true) true m 22 (([c0,c1].drop 1).take (Tryz.prog.cellsOf 22))=some z1 at h1
 simp only[k0,List.drop_zero,List.take_succ_cons,List.take_zero,List.drop_succ_cons]at h0 h1;obtain⟨x0,e0,w0⟩:=il_o _ _ _ h0 l0;obtain⟨x1,e1,w1⟩:=il_o _ _ _ h1 l1;simp at e0 e1;subst e0 e1;exact⟨(x0,x1),rfl,⟨w0,w1⟩⟩
end
end Bk
end Go.Proofs.YtfnmgcblhebdbaaGreatDoor
