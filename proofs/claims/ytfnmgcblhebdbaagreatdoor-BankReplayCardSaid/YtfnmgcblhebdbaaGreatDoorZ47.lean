/- How commands and grids come out of a row's reading. Conditions: those of each theorem. -/
import Derived.Test.YtfnmgcblhebdbaaGreatDoorZ46
import Derived.Test.YtfnmgcblhebdbaaGreatDoorZ12
namespace Go.Proofs.YtfnmgcblhebdbaaGreatDoor
set_option maxRecDepth 100000
set_option maxHeartbeats 1600000
open Go.ChangeShapes Go.WideShapes Go.ChangeAt Go.RowKit
namespace Bk
instance:Inhabited CmdL:=⟨⟨0,0,0,0,0,0,0,default,default,default,none,0,[]⟩⟩
section
variable {H:Type} {enc:TypeId×Value→H} {W:World}
theorem list32{α:Type}{l:List α}(h:l.length=32):∃ c0 c1 c2 c3 c4 c5 c6 c7 c8 c9 c10 c11 c12 c13 c14 c15 c16 c17 c18 c19 c20 c21 c22 c23 c24 c25 c26 c27 c28 c29 c30 c31,l=[c0,c1,c2,c3,c4,c5,c6,c7,c8,c9,c10,c11,c12,c13,c14,c15,c16,c17,c18,c19,c20,c21,c22,c23,c24,c25,c26,c27,c28,c29,c30,c31]:=by
 match l,h with
 | [c0,c1,c2,c3,c4,c5,c6,c7,c8,c9,c10,c11,c12,c13,c14,c15,c16,c17,c18,c19,c20,c21,c22,c23,c24,c25,c26,c27,c28,c29,c30,c31],_=>exact⟨c0,c1,c2,c3,c4,c5,c6,c7,c8,c9,c10,c11,c12,c13,c14,c15,c16,c17,c18,c19,c20,c21,c22,c23,c24,c25,c26,c27,c28,c29,c30,c31,rfl⟩
theorem cmd_o(n:Nat)(cs:List Value)(y:DataW H×List MemPlace)(h:DataW.trod enc Tryz.prog W 0 (fun _=>true) true n 48 cs=some y)(hl:Light Tryz.prog 48 y.1):∃ x:CmdL,cs=CmdL.cells x∧(fun c:CmdL=>c.In W∧CmdSz c.cmd) x:=by
 obtain⟨hl,m,hf⟩:=fieldsW Tryz.underlying48 h hl;obtain⟨c0,c1,c2,c3,c4,c5,c6,c7,c8,c9,c10,c11,c12,c13,c14,c15,c16,c17,c18,c19,c20,c21,c22,c23,c24,c25,c26,c27,c28,c29,c30,c31,rfl⟩:=list32 (hl.trans (by kernel_rfl));have k0:Tryz.prog.cellsOf 3=1:=by kernel_rfl
 have k7:Tryz.prog.cellsOf 39=17:=by kernel_rfl
 have k8:Tryz.prog.cellsOf 41=2:=by kernel_rfl
 have k9:Tryz.prog.cellsOf 43=5:=by kernel_rfl
 have k10:Tryz.prog.cellsOf 46=1:=by kernel_rfl
 obtain⟨z0,h0,l0⟩:=hf 0 _ rfl
 change DataW.trod enc Tryz.prog W 0 (fun _=>true) true m 3 (([c0,c1,c2,c3,c4,c5,c6,c7,c8,c9,c10,c11,c12,c13,c14,c15,c16,c17,c18,c19,c20,c21,c22,c23,c24,c25,c26,c27,c28,c29,c30,c31].drop 0).take (Tryz.prog.cellsOf 3))=some z0 at h0
 obtain⟨z1,h1,l1⟩:=hf 1 _ rfl
 change DataW.trod enc Tryz.prog W 0 (fun _=>true) true m 3 (([c0,c1,c2,c3,c4,c5,c6,c7,c8,c9,c10,c11,c12,c13,c14,c15,c16,c17,c18,c19,c20,c21,c22,c23,c24,c25,c26,c27,c28,c29,c30,c31].drop 1).take (Tryz.prog.cellsOf 3))=some z1 at h1
 obtain⟨z2,h2,l2⟩:=hf 2 _ rfl
 change DataW.trod enc Tryz.prog W 0 (fun _=>true) true m 3 (([c0,c1,c2,c3,c4,c5,c6,c7,c8,c9,c10,c11,c12,c13,c14,c15,c16,c17,c18,c19,c20,c21,c22,c23,c24,c25,c26,c27,c28,c29,c30,c31].drop 2).take (Tryz.prog.cellsOf 3))=some z2 at h2
 obtain⟨z3,h3,l3⟩:=hf 3 _ rfl
 change DataW.trod enc Tryz.prog W 0 (fun _=>true) true m 3 (([c0,c1,c2,c3,c4,c5,c6,c7,c8,c9,c10,c11,c12,c13,c14,c15,c16,c17,c18,c19,c20,c21,c22,c23,c24,c25,c26,c27,c28,c29,c30,c31].drop 3).take (Tryz.prog.cellsOf 3))=some z3 at h3
 obtain⟨z4,h4,l4⟩:=hf 4 _ rfl
 change DataW.trod enc Tryz.prog W 0 (fun _=>true) true m 3 (([c0,c1,c2,c3,c4,c5,c6,c7,c8,c9,c10,c11,c12,c13,c14,c15,c16,c17,c18,c19,c20,c21,c22,c23,c24,c25,c26,c27,c28,c29,c30,c31].drop 4).take (Tryz.prog.cellsOf 3))=some z4 at h4
 obtain⟨z5,h5,l5⟩:=hf 5 _ rfl
 change DataW.trod enc Tryz.prog W 0 (fun _=>true) true m 3 (([c0,c1,c2,c3,c4,c5,c6,c7,c8,c9,c10,c11,c12,c13,c14,c15,c16,c17,c18,c19,c20,c21,c22,c23,c24,c25,c26,c27,c28,c29,c30,c31].drop 5).take (Tryz.prog.cellsOf 3))=some z5 at h5
 obtain⟨z6,h6,l6⟩:=hf 6 _ rfl
 change DataW.trod enc Tryz.prog W 0 (fun _=>true) true m 3 (([c0,c1,c2,c3,c4,c5,c6,c7,c8,c9,c10,c11,c12,c13,c14,c15,c16,c17,c18,c19,c20,c21,c22,c23,c24,c25,c26,c27,c28,c29,c30,c31].drop 6).take (Tryz.prog.cellsOf 3))=some z6 at h6
 obtain⟨z7,h7,l7⟩:=hf 7 _ rfl
 change DataW.trod enc Tryz.prog W 0 (fun _=>true) true m 39 (([c0,c1,c2,c3,c4,c5,c6,c7,c8,c9,c10,c11,c12,c13,c14,c15,c16,c17,c18,c19,c20,c21,c22,c23,c24,c25,c26,c27,c28,c29,c30,c31].drop 7).take (Tryz.prog.cellsOf 39))=some z7 at h7
 obtain⟨z8,h8,l8⟩:=hf 8 _ rfl
 change DataW.trod enc Tryz.prog W 0 (fun _=>true) true m 41 (([c0,c1,c2,c3,c4,c5,c6,c7,c8,c9,c10,c11,c12,c13,c14,c15,c16,c17,c18,c19,c20,c21,c22,c23,c24,c25,c26,c27,c28,c29,c30,c31].drop 24).take (Tryz.prog.cellsOf 41))=some z8 at h8
 obtain⟨z9,h9,l9⟩:=hf 9 _ rfl
 change DataW.trod enc Tryz.prog W 0 (fun _=>true) true m 43 (([c0,c1,c2,c3,c4,c5,c6,c7,c8,c9,c10,c11,c12,c13,c14,c15,c16,c17,c18,c19,c20,c21,c22,c23,c24,c25,c26,c27,c28,c29,c30,c31].drop 26).take (Tryz.prog.cellsOf 43))=some z9 at h9
 obtain⟨z10,h10,l10⟩:=hf 10 _ rfl
 change DataW.trod enc Tryz.prog W 0 (fun _=>true) true m 46 (([c0,c1,c2,c3,c4,c5,c6,c7,c8,c9,c10,c11,c12,c13,c14,c15,c16,c17,c18,c19,c20,c21,c22,c23,c24,c25,c26,c27,c28,c29,c30,c31].drop 31).take (Tryz.prog.cellsOf 46))=some z10 at h10
 simp only[k0,k7,k8,k9,k10,List.drop_zero,List.take_succ_cons,List.take_zero,List.drop_succ_cons]at h0 h1 h2 h3 h4 h5 h6 h7 h8 h9 h10;obtain⟨x0,e0,w0⟩:=int_o _ _ _ h0 l0;obtain⟨x1,e1,w1⟩:=int_o _ _ _ h1 l1;obtain⟨x2,e2,w2⟩:=int_o _ _ _ h2 l2;obtain⟨x3,e3,w3⟩:=int_o _ _ _ h3 l3;obtain⟨x4,e4,w4⟩:=int_o _ _ _ h4 l4;obtain⟨x5,e5,w5⟩:=int_o _ _ _ h5 l5;obtain⟨x6,e6,w6⟩:=int_o _ _ _ h6 l6;obtain⟨x7,e7,w7⟩:=item_o _ _ _ h7 l7;obtain⟨x8,e8,w8⟩:=tpc_o _ _ _ h8 l8;obtain⟨x9,e9,w9⟩:=ast_o _ _ _ h9 l9;obtain⟨x10,e10,w10⟩:=model_o _ _ _ h10 l10;simp[icl,It.cells,tcl,scl]at e0 e1 e2 e3 e4 e5 e6 e7 e8 e9 e10;subst e0 e1 e2 e3 e4 e5 e6 e10;obtain⟨rfl,rfl,rfl,rfl,rfl,rfl,rfl,rfl,rfl,rfl,rfl,rfl,rfl,rfl,rfl,rfl,rfl⟩:=e7;obtain⟨rfl,rfl⟩:=e8;obtain⟨rfl,rfl,rfl,rfl,rfl⟩:=e9;exact⟨⟨x0,x1,x2,x3,x4,x5,x6,x7,x8,x9,x10.1,x10.2.1,x10.2.2⟩,rfl,⟨w0,w1,w2,w3,w4,w5,w6,w7.1,w8,w9,w10.1,w10.2.2.1,w10.2.2.2.1⟩,w7.2,by simpa[CmdL.cmd]using w10.2.2.2.2,fun r hr=>by obtain⟨z,hz,rfl⟩:=List.mem_map.1 hr;exact w10.2.1 z hz⟩
theorem cmds_o(n:Nat)(cs:List Value)(y:DataW H×List MemPlace)(h:DataW.trod enc Tryz.prog W 0 (fun _=>true) true n 25 cs=some y)(hl:Light Tryz.prog 25 y.1):∃ (A:Option Addr) (xs:List (CmdL)) (c:Nat),cs=[.slice A xs.length c]∧xs.length≤c∧c≤maxLen∧xs.length*376≤140737488355328∧(∀ x∈xs,(fun c:CmdL=>c.In W∧CmdSz c.cmd) x)∧Sl W 32 A (xs.map CmdL.cells):=by obtain⟨A,xs,c,h1,h2,h3,h4,h5,h6⟩:=open_slW (CmdL.cells) (fun c:CmdL=>c.In W∧CmdSz c.cmd) Tryz.underlying25 (by kernel_rfl) (k:=32) (by omega) (bs:=376) (by kernel_rfl) (fun n cs y hy hl=>cmd_o n cs y hy hl) h hl;have h7:xs.length*376≤c*376:=Nat.mul_le_mul_right _ h2;exact⟨A,xs,c,h1,h2,h3,by omega,h5,h6⟩
end
theorem grid_open{H:Type}{enc:TypeId×Value→H}{W:World}{base:Nat}{v:Value}{d:DataW H}{p:List MemPlace}(hv:Value.okWide Tryz.prog W .any base 24 v)
    (h:DataW.Trod enc Tryz.prog W 0 (fun _=>true) true 24 v d p) (hd:Light Tryz.prog 24 d):∃ x:IL×IL,v=.agg #[x.1.val,x.2.val]∧(x.1.In W∧x.1.xs.length*8≤140737488355328)∧x.2.In W∧x.2.xs.length*8≤140737488355328:=by
 obtain⟨⟨cs⟩,rfl,hsz⟩:=okWide_struct Tryz.underlying24 hv;obtain⟨fuel,hf⟩:=h;obtain⟨q,e,hq⟩:=grid_o _ _ _ (by simpa[Value.cells]using hf) hd;subst e;exact⟨q,rfl,hq⟩
theorem cmds_open{H:Type}{enc:TypeId×Value→H}{W:World}{base:Nat}{v:Value}{d:DataW H}{p:List MemPlace}(hv:Value.okWide Tryz.prog W .any base 25 v)
    (h:DataW.Trod enc Tryz.prog W 0 (fun _=>true) true 25 v d p) (hd:Light Tryz.prog 25 d):∃ (A:Option Addr) (xs:List CmdL) (c:Nat),v=.slice A xs.length c∧xs.length≤c∧c≤maxLen∧xs.length*376≤140737488355328∧(∀ x∈xs,CmdSz x.cmd)∧SlX eCmd W A xs:=by
 obtain⟨A,n,c,rfl⟩:=okWide_slice Tryz.underlying25 hv;obtain⟨fuel,hf⟩:=h;obtain⟨A2,xs,c2,e,h1,h2,h3,h4,h5⟩:=cmds_o _ _ _ (by simpa[Value.cells]using hf) hd;injection e with e _;injection e with e1 e2 e3;subst e1 e2 e3;exact⟨A,xs,c,rfl,h1,h2,h3,fun x hx=>(h4 x hx).2,h5,fun x hx=>(h4 x hx).1⟩
end Bk
end Go.Proofs.YtfnmgcblhebdbaaGreatDoor
