/- item.Diff: a contract. Conditions: those of each theorem (the package's variable fields holds the names). -/
import Derived.Test.YtfnmgcblhebdbaaGreatDoorZ16
import Derived.Test.YtfnmgcblhebdbaaGreatDoorZ12
import Derived.Test.YtfnmgcblhebdbaaGreatDoorZ11
namespace Go.Proofs.YtfnmgcblhebdbaaGreatDoor
set_option maxRecDepth 100000
set_option maxHeartbeats 64000000
open Go.RowKit Go.Shelf

theorem setRow_at{w:World}{g:Nat}{cs cs':Array Value}{t:TypeId}(h:w.heap[g]?=some (.cells cs t (0,0))):(w.setRow g cs').heap[g]?=some (.cells cs' t (0,0)):=by simp[World.setRow,Array.getElem?_modify,h]
theorem Ext.setRow{a b:World}(h:Ext a b){g:Nat}(hg:a.heap.size≤g)(cs:Array Value):Ext a (b.setRow g cs):=h.rowSet hg cs
def fldNames:List ByteArray:=[⟨#[73,100]⟩,⟨#[86,101,114,115,105,111,110]⟩,⟨#[75,105,110,100]⟩,⟨#[83,116,101,109]⟩,⟨#[79,112,116,105,111,110,115]⟩,⟨#[67,104,111,105,99,101,115]⟩,⟨#[86,97,108,117,101]⟩,⟨#[84,111,108]⟩,⟨#[84,101,120,116,115]⟩,⟨#[80,111,105,110,116,115]⟩,⟨#[67,111,110,116,101,110,116]⟩,⟨#[70,97,109,105,108,121]⟩,⟨#[83,101,116]⟩,⟨#[87,111,114,100,115]⟩,⟨#[83,101,99,111,110,100,115]⟩,⟨#[65,115,115,101,116,115]⟩,⟨#[82,117,98,114,105,99]⟩]
def Fld (w:World):Prop:=∀ i s,fldNames[i]?=some s→w.cell? ⟨0,i,none⟩=some (.string s)
theorem Fld.ext{w w':World}(h:Fld w)(he:Ext w w'):Fld w':=fun i s hi=>he.keep (h i s hi)
theorem fld_ix0:∀ w,(Instr.index 171 (.agg #[.string ⟨#[73,100]⟩,.string ⟨#[86,101,114,115,105,111,110]⟩,.string ⟨#[75,105,110,100]⟩,.string ⟨#[83,116,101,109]⟩,.string ⟨#[79,112,116,105,111,110,115]⟩,.string ⟨#[67,104,111,105,99,101,115]⟩,.string ⟨#[86,97,108,117,101]⟩,.string ⟨#[84,111,108]⟩,.string ⟨#[84,101,120,116,115]⟩,.string ⟨#[80,111,105,110,116,115]⟩,.string ⟨#[67,111,110,116,101,110,116]⟩,.string ⟨#[70,97,109,105,108,121]⟩,.string ⟨#[83,101,116]⟩,.string ⟨#[87,111,114,100,115]⟩,.string ⟨#[83,101,99,111,110,100,115]⟩,.string ⟨#[65,115,115,101,116,115]⟩,.string ⟨#[82,117,98,114,105,99]⟩]) (.int .i64 0)).run Tryz.prog w=.ok (.string ⟨#[73,100]⟩) w:=fun _=>by kernel_rfl
theorem fld_ix1:∀ w,(Instr.index 171 (.agg #[.string ⟨#[73,100]⟩,.string ⟨#[86,101,114,115,105,111,110]⟩,.string ⟨#[75,105,110,100]⟩,.string ⟨#[83,116,101,109]⟩,.string ⟨#[79,112,116,105,111,110,115]⟩,.string ⟨#[67,104,111,105,99,101,115]⟩,.string ⟨#[86,97,108,117,101]⟩,.string ⟨#[84,111,108]⟩,.string ⟨#[84,101,120,116,115]⟩,.string ⟨#[80,111,105,110,116,115]⟩,.string ⟨#[67,111,110,116,101,110,116]⟩,.string ⟨#[70,97,109,105,108,121]⟩,.string ⟨#[83,101,116]⟩,.string ⟨#[87,111,114,100,115]⟩,.string ⟨#[83,101,99,111,110,100,115]⟩,.string ⟨#[65,115,115,101,116,115]⟩,.string ⟨#[82,117,98,114,105,99]⟩]) (.int .i64 1)).run Tryz.prog w=.ok (.string ⟨#[86,101,114,115,105,111,110]⟩) w:=fun _=>by kernel_rfl
theorem fld_ix2:∀ w,(Instr.index 171 (.agg #[.string ⟨#[73,100]⟩,.string ⟨#[86,101,114,115,105,111,110]⟩,.string ⟨#[75,105,110,100]⟩,.string ⟨#[83,116,101,109]⟩,.string ⟨#[79,112,116,105,111,110,115]⟩,.string ⟨#[67,104,111,105,99,101,115]⟩,.string ⟨#[86,97,108,117,101]⟩,.string ⟨#[84,111,108]⟩,.string ⟨#[84,101,120,116,115]⟩,.string ⟨#[80,111,105,110,116,115]⟩,.string ⟨#[67,111,110,116,101,110,116]⟩,.string ⟨#[70,97,109,105,108,121]⟩,.string ⟨#[83,101,116]⟩,.string ⟨#[87,111,114,100,115]⟩,.string ⟨#[83,101,99,111,110,100,115]⟩,.string ⟨#[65,115,115,101,116,115]⟩,.string ⟨#[82,117,98,114,105,99]⟩]) (.int .i64 2)).run Tryz.prog w=.ok (.string ⟨#[75,105,110,100]⟩) w:=fun _=>by kernel_rfl
theorem fld_ix3:∀ w,(Instr.index 171 (.agg #[.string ⟨#[73,100]⟩,.string ⟨#[86,101,114,115,105,111,110]⟩,.string ⟨#[75,105,110,100]⟩,.string ⟨#[83,116,101,109]⟩,.string ⟨#[79,112,116,105,111,110,115]⟩,.string ⟨#[67,104,111,105,99,101,115]⟩,.string ⟨#[86,97,108,117,101]⟩,.string ⟨#[84,111,108]⟩,.string ⟨#[84,101,120,116,115]⟩,.string ⟨#[80,111,105,110,116,115]⟩,.string ⟨#[67,111,110,116,101,110,116]⟩,.string ⟨#[70,97,109,105,108,121]⟩,.string ⟨#[83,101,116]⟩,.string ⟨#[87,111,114,100,115]⟩,.string ⟨#[83,101,99,111,110,100,115]⟩,.string ⟨#[65,115,115,101,116,115]⟩,.string ⟨#[82,117,98,114,105,99]⟩]) (.int .i64 3)).run Tryz.prog w=.ok (.string ⟨#[83,116,101,109]⟩) w:=fun _=>by kernel_rfl
theorem fld_ix4:∀ w,(Instr.index 171 (.agg #[.string ⟨#[73,100]⟩,.string ⟨#[86,101,114,115,105,111,110]⟩,.string ⟨#[75,105,110,100]⟩,.string ⟨#[83,116,101,109]⟩,.string ⟨#[79,112,116,105,111,110,115]⟩,.string ⟨#[67,104,111,105,99,101,115]⟩,.string ⟨#[86,97,108,117,101]⟩,.string ⟨#[84,111,108]⟩,.string ⟨#[84,101,120,116,115]⟩,.string ⟨#[80,111,105,110,116,115]⟩,.string ⟨#[67,111,110,116,101,110,116]⟩,.string ⟨#[70,97,109,105,108,121]⟩,.string ⟨#[83,101,116]⟩,.string ⟨#[87,111,114,100,115]⟩,.string ⟨#[83,101,99,111,110,100,115]⟩,.string ⟨#[65,115,115,101,116,115]⟩,.string ⟨#[82,117,98,114,105,99]⟩]) (.int .i64 4)).run Tryz.prog w=.ok (.string ⟨#[79,112,116,105,111,110,115]⟩) w:=fun _=>by kernel_rfl
theorem fld_ix5:∀ w,(Instr.index 171 (.agg #[.string ⟨#[73,100]⟩,.string ⟨#[86,101,114,115,105,111,110]⟩,.string ⟨#[75,105,110,100]⟩,.string ⟨#[83,116,101,109]⟩,.string ⟨#[79,112,116,105,111,110,115]⟩,.string ⟨#[67,104,111,105,99,101,115]⟩,.string ⟨#[86,97,108,117,101]⟩,.string ⟨#[84,111,108]⟩,.string ⟨#[84,101,120,116,115]⟩,.string ⟨#[80,111,105,110,116,115]⟩,.string ⟨#[67,111,110,116,101,110,116]⟩,.string ⟨#[70,97,109,105,108,121]⟩,.string ⟨#[83,101,116]⟩,.string ⟨#[87,111,114,100,115]⟩,.string ⟨#[83,101,99,111,110,100,115]⟩,.string ⟨#[65,115,115,101,116,115]⟩,.string ⟨#[82,117,98,114,105,99]⟩]) (.int .i64 5)).run Tryz.prog w=.ok (.string ⟨#[67,104,111,105,99,101,115]⟩) w:=fun _=>by kernel_rfl
theorem fld_ix6:∀ w,(Instr.index 171 (.agg #[.string ⟨#[73,100]⟩,.string ⟨#[86,101,114,115,105,111,110]⟩,.string ⟨#[75,105,110,100]⟩,.string ⟨#[83,116,101,109]⟩,.string ⟨#[79,112,116,105,111,110,115]⟩,.string ⟨#[67,104,111,105,99,101,115]⟩,.string ⟨#[86,97,108,117,101]⟩,.string ⟨#[84,111,108]⟩,.string ⟨#[84,101,120,116,115]⟩,.string ⟨#[80,111,105,110,116,115]⟩,.string ⟨#[67,111,110,116,101,110,116]⟩,.string ⟨#[70,97,109,105,108,121]⟩,.string ⟨#[83,101,116]⟩,.string ⟨#[87,111,114,100,115]⟩,.string ⟨#[83,101,99,111,110,100,115]⟩,.string ⟨#[65,115,115,101,116,115]⟩,.string ⟨#[82,117,98,114,105,99]⟩]) (.int .i64 6)).run Tryz.prog w=.ok (.string ⟨#[86,97,108,117,101]⟩) w:=fun _=>by kernel_rfl
theorem fld_ix7:∀ w,(Instr.index 171 (.agg #[.string ⟨#[73,100]⟩,.string ⟨#[86,101,114,115,105,111,110]⟩,.string ⟨#[75,105,110,100]⟩,.string ⟨#[83,116,101,109]⟩,.string ⟨#[79,112,116,105,111,110,115]⟩,.string ⟨#[67,104,111,105,99,101,115]⟩,.string ⟨#[86,97,108,117,101]⟩,.string ⟨#[84,111,108]⟩,.string ⟨#[84,101,120,116,115]⟩,.string ⟨#[80,111,105,110,116,115]⟩,.string ⟨#[67,111,110,116,101,110,116]⟩,.string ⟨#[70,97,109,105,108,121]⟩,.string ⟨#[83,101,116]⟩,.string ⟨#[87,111,114,100,115]⟩,.string ⟨#[83,101,99,111,110,100,115]⟩,.string ⟨#[65,115,115,101,116,115]⟩,.string ⟨#[82,117,98,114,105,99]⟩]) (.int .i64 7)).run Tryz.prog w=.ok (.string ⟨#[84,111,108]⟩) w:=fun _=>by kernel_rfl
theorem fld_ix8:∀ w,(Instr.index 171 (.agg #[.string ⟨#[73,100]⟩,.string ⟨#[86,101,114,115,105,111,110]⟩,.string ⟨#[75,105,110,100]⟩,.string ⟨#[83,116,101,109]⟩,.string ⟨#[79,112,116,105,111,110,115]⟩,.string ⟨#[67,104,111,105,99,101,115]⟩,.string ⟨#[86,97,108,117,101]⟩,.string ⟨#[84,111,108]⟩,.string ⟨#[84,101,120,116,115]⟩,.string ⟨#[80,111,105,110,116,115]⟩,.string ⟨#[67,111,110,116,101,110,116]⟩,.string ⟨#[70,97,109,105,108,121]⟩,.string ⟨#[83,101,116]⟩,.string ⟨#[87,111,114,100,115]⟩,.string ⟨#[83,101,99,111,110,100,115]⟩,.string ⟨#[65,115,115,101,116,115]⟩,.string ⟨#[82,117,98,114,105,99]⟩]) (.int .i64 8)).run Tryz.prog w=.ok (.string ⟨#[84,101,120,116,115]⟩) w:=fun _=>by kernel_rfl
theorem fld_ix9:∀ w,(Instr.index 171 (.agg #[.string ⟨#[73,100]⟩,.string ⟨#[86,101,114,115,105,111,110]⟩,.string ⟨#[75,105,110,100]⟩,.string ⟨#[83,116,101,109]⟩,.string ⟨#[79,112,116,105,111,110,115]⟩,.string ⟨#[67,104,111,105,99,101,115]⟩,.string ⟨#[86,97,108,117,101]⟩,.string ⟨#[84,111,108]⟩,.string ⟨#[84,101,120,116,115]⟩,.string ⟨#[80,111,105,110,116,115]⟩,.string ⟨#[67,111,110,116,101,110,116]⟩,.string ⟨#[70,97,109,105,108,121]⟩,.string ⟨#[83,101,116]⟩,.string ⟨#[87,111,114,100,115]⟩,.string ⟨#[83,101,99,111,110,100,115]⟩,.string ⟨#[65,115,115,101,116,115]⟩,.string ⟨#[82,117,98,114,105,99]⟩]) (.int .i64 9)).run Tryz.prog w=.ok (.string ⟨#[80,111,105,110,116,115]⟩) w:=fun _=>by kernel_rfl
theorem fld_ix10:∀ w,(Instr.index 171 (.agg #[.string ⟨#[73,100]⟩,.string ⟨#[86,101,114,115,105,111,110]⟩,.string ⟨#[75,105,110,100]⟩,.string ⟨#[83,116,101,109]⟩,.string ⟨#[79,112,116,105,111,110,115]⟩,.string ⟨#[67,104,111,105,99,101,115]⟩,.string ⟨#[86,97,108,117,101]⟩,.string ⟨#[84,111,108]⟩,.string ⟨#[84,101,120,116,115]⟩,.string ⟨#[80,111,105,110,116,115]⟩,.string ⟨#[67,111,110,116,101,110,116]⟩,.string ⟨#[70,97,109,105,108,121]⟩,.string ⟨#[83,101,116]⟩,.string ⟨#[87,111,114,100,115]⟩,.string ⟨#[83,101,99,111,110,100,115]⟩,.string ⟨#[65,115,115,101,116,115]⟩,.string ⟨#[82,117,98,114,105,99]⟩]) (.int .i64 10)).run Tryz.prog w=.ok (.string ⟨#[67,111,110,116,101,110,116]⟩) w:=fun _=>by kernel_rfl
theorem fld_ix11:∀ w,(Instr.index 171 (.agg #[.string ⟨#[73,100]⟩,.string ⟨#[86,101,114,115,105,111,110]⟩,.string ⟨#[75,105,110,100]⟩,.string ⟨#[83,116,101,109]⟩,.string ⟨#[79,112,116,105,111,110,115]⟩,.string ⟨#[67,104,111,105,99,101,115]⟩,.string ⟨#[86,97,108,117,101]⟩,.string ⟨#[84,111,108]⟩,.string ⟨#[84,101,120,116,115]⟩,.string ⟨#[80,111,105,110,116,115]⟩,.string ⟨#[67,111,110,116,101,110,116]⟩,.string ⟨#[70,97,109,105,108,121]⟩,.string ⟨#[83,101,116]⟩,.string ⟨#[87,111,114,100,115]⟩,.string ⟨#[83,101,99,111,110,100,115]⟩,.string ⟨#[65,115,115,101,116,115]⟩,.string ⟨#[82,117,98,114,105,99]⟩]) (.int .i64 11)).run Tryz.prog w=.ok (.string ⟨#[70,97,109,105,108,121]⟩) w:=fun _=>by kernel_rfl
theorem fld_ix12:∀ w,(Instr.index 171 (.agg #[.string ⟨#[73,100]⟩,.string ⟨#[86,101,114,115,105,111,110]⟩,.string ⟨#[75,105,110,100]⟩,.string ⟨#[83,116,101,109]⟩,.string ⟨#[79,112,116,105,111,110,115]⟩,.string ⟨#[67,104,111,105,99,101,115]⟩,.string ⟨#[86,97,108,117,101]⟩,.string ⟨#[84,111,108]⟩,.string ⟨#[84,101,120,116,115]⟩,.string ⟨#[80,111,105,110,116,115]⟩,.string ⟨#[67,111,110,116,101,110,116]⟩,.string ⟨#[70,97,109,105,108,121]⟩,.string ⟨#[83,101,116]⟩,.string ⟨#[87,111,114,100,115]⟩,.string ⟨#[83,101,99,111,110,100,115]⟩,.string ⟨#[65,115,115,101,116,115]⟩,.string ⟨#[82,117,98,114,105,99]⟩]) (.int .i64 12)).run Tryz.prog w=.ok (.string ⟨#[83,101,116]⟩) w:=fun _=>by kernel_rfl
theorem fld_ix13:∀ w,(Instr.index 171 (.agg #[.string ⟨#[73,100]⟩,.string ⟨#[86,101,114,115,105,111,110]⟩,.string ⟨#[75,105,110,100]⟩,.string ⟨#[83,116,101,109]⟩,.string ⟨#[79,112,116,105,111,110,115]⟩,.string ⟨#[67,104,111,105,99,101,115]⟩,.string ⟨#[86,97,108,117,101]⟩,.string ⟨#[84,111,108]⟩,.string ⟨#[84,101,120,116,115]⟩,.string ⟨#[80,111,105,110,116,115]⟩,.string ⟨#[67,111,110,116,101,110,116]⟩,.string ⟨#[70,97,109,105,108,121]⟩,.string ⟨#[83,101,116]⟩,.string ⟨#[87,111,114,100,115]⟩,.string ⟨#[83,101,99,111,110,100,115]⟩,.string ⟨#[65,115,115,101,116,115]⟩,.string ⟨#[82,117,98,114,105,99]⟩]) (.int .i64 13)).run Tryz.prog w=.ok (.string ⟨#[87,111,114,100,115]⟩) w:=fun _=>by kernel_rfl
theorem fld_ix14:∀ w,(Instr.index 171 (.agg #[.string ⟨#[73,100]⟩,.string ⟨#[86,101,114,115,105,111,110]⟩,.string ⟨#[75,105,110,100]⟩,.string ⟨#[83,116,101,109]⟩,.string ⟨#[79,112,116,105,111,110,115]⟩,.string ⟨#[67,104,111,105,99,101,115]⟩,.string ⟨#[86,97,108,117,101]⟩,.string ⟨#[84,111,108]⟩,.string ⟨#[84,101,120,116,115]⟩,.string ⟨#[80,111,105,110,116,115]⟩,.string ⟨#[67,111,110,116,101,110,116]⟩,.string ⟨#[70,97,109,105,108,121]⟩,.string ⟨#[83,101,116]⟩,.string ⟨#[87,111,114,100,115]⟩,.string ⟨#[83,101,99,111,110,100,115]⟩,.string ⟨#[65,115,115,101,116,115]⟩,.string ⟨#[82,117,98,114,105,99]⟩]) (.int .i64 14)).run Tryz.prog w=.ok (.string ⟨#[83,101,99,111,110,100,115]⟩) w:=fun _=>by kernel_rfl
theorem fld_ix15:∀ w,(Instr.index 171 (.agg #[.string ⟨#[73,100]⟩,.string ⟨#[86,101,114,115,105,111,110]⟩,.string ⟨#[75,105,110,100]⟩,.string ⟨#[83,116,101,109]⟩,.string ⟨#[79,112,116,105,111,110,115]⟩,.string ⟨#[67,104,111,105,99,101,115]⟩,.string ⟨#[86,97,108,117,101]⟩,.string ⟨#[84,111,108]⟩,.string ⟨#[84,101,120,116,115]⟩,.string ⟨#[80,111,105,110,116,115]⟩,.string ⟨#[67,111,110,116,101,110,116]⟩,.string ⟨#[70,97,109,105,108,121]⟩,.string ⟨#[83,101,116]⟩,.string ⟨#[87,111,114,100,115]⟩,.string ⟨#[83,101,99,111,110,100,115]⟩,.string ⟨#[65,115,115,101,116,115]⟩,.string ⟨#[82,117,98,114,105,99]⟩]) (.int .i64 15)).run Tryz.prog w=.ok (.string ⟨#[65,115,115,101,116,115]⟩) w:=fun _=>by kernel_rfl
theorem fld_ix16:∀ w,(Instr.index 171 (.agg #[.string ⟨#[73,100]⟩,.string ⟨#[86,101,114,115,105,111,110]⟩,.string ⟨#[75,105,110,100]⟩,.string ⟨#[83,116,101,109]⟩,.string ⟨#[79,112,116,105,111,110,115]⟩,.string ⟨#[67,104,111,105,99,101,115]⟩,.string ⟨#[86,97,108,117,101]⟩,.string ⟨#[84,111,108]⟩,.string ⟨#[84,101,120,116,115]⟩,.string ⟨#[80,111,105,110,116,115]⟩,.string ⟨#[67,111,110,116,101,110,116]⟩,.string ⟨#[70,97,109,105,108,121]⟩,.string ⟨#[83,101,116]⟩,.string ⟨#[87,111,114,100,115]⟩,.string ⟨#[83,101,99,111,110,100,115]⟩,.string ⟨#[65,115,115,101,116,115]⟩,.string ⟨#[82,117,98,114,105,99]⟩]) (.int .i64 16)).run Tryz.prog w=.ok (.string ⟨#[82,117,98,114,105,99]⟩) w:=fun _=>by kernel_rfl
theorem fld_index(k:Nat)(hk:k<17){s:ByteArray}(hs:fldNames[k]?=some s):∀ w,(Instr.index 171 (.agg #[.string ⟨#[73,100]⟩,.string ⟨#[86,101,114,115,105,111,110]⟩,.string ⟨#[75,105,110,100]⟩,.string ⟨#[83,116,101,109]⟩,.string ⟨#[79,112,116,105,111,110,115]⟩,.string ⟨#[67,104,111,105,99,101,115]⟩,.string ⟨#[86,97,108,117,101]⟩,.string ⟨#[84,111,108]⟩,.string ⟨#[84,101,120,116,115]⟩,.string ⟨#[80,111,105,110,116,115]⟩,.string ⟨#[67,111,110,116,101,110,116]⟩,.string ⟨#[70,97,109,105,108,121]⟩,.string ⟨#[83,101,116]⟩,.string ⟨#[87,111,114,100,115]⟩,.string ⟨#[83,101,99,111,110,100,115]⟩,.string ⟨#[65,115,115,101,116,115]⟩,.string ⟨#[82,117,98,114,105,99]⟩]) (.int .i64 (k:Int))).run Tryz.prog w=.ok (.string s) w:=by
 match k,hk,hs with
 | 0,_,hs=>obtain rfl:=Option.some.inj hs;exact fld_ix0
 | 1,_,hs=>obtain rfl:=Option.some.inj hs;exact fld_ix1
 | 2,_,hs=>obtain rfl:=Option.some.inj hs;exact fld_ix2
 | 3,_,hs=>obtain rfl:=Option.some.inj hs;exact fld_ix3
 | 4,_,hs=>obtain rfl:=Option.some.inj hs;exact fld_ix4
 | 5,_,hs=>obtain rfl:=Option.some.inj hs;exact fld_ix5
 | 6,_,hs=>obtain rfl:=Option.some.inj hs;exact fld_ix6
 | 7,_,hs=>obtain rfl:=Option.some.inj hs;exact fld_ix7
 | 8,_,hs=>obtain rfl:=Option.some.inj hs;exact fld_ix8
 | 9,_,hs=>obtain rfl:=Option.some.inj hs;exact fld_ix9
 | 10,_,hs=>obtain rfl:=Option.some.inj hs;exact fld_ix10
 | 11,_,hs=>obtain rfl:=Option.some.inj hs;exact fld_ix11
 | 12,_,hs=>obtain rfl:=Option.some.inj hs;exact fld_ix12
 | 13,_,hs=>obtain rfl:=Option.some.inj hs;exact fld_ix13
 | 14,_,hs=>obtain rfl:=Option.some.inj hs;exact fld_ix14
 | 15,_,hs=>obtain rfl:=Option.some.inj hs;exact fld_ix15
 | 16,_,hs=>obtain rfl:=Option.some.inj hs;exact fld_ix16
 | i+17,hk,_=>exact absurd hk (by omega)
namespace It
def sames (a b:Item):List Bool:=[a.id == b.id,a.ver == b.ver,a.kind == b.kind,It.eqB a.stem b.stem,It.eqS a.opts b.opts,It.eqI a.chs b.chs,a.value == b.value,a.tol == b.tol,It.eqS a.texts b.texts,a.pts == b.pts,It.eqB a.cont b.cont,a.fam == b.fam,a.set_ == b.set_,a.wrd == b.wrd,a.sec == b.sec,It.eqI a.assets b.assets,a.rub == b.rub]
theorem pairs_at(a b:Item){k:Nat}(hk:k<17):∃ q s,(sames a b)[k]?=some q∧fldNames[k]?=some s∧(pairs a b)[k]?=some (!q,s):=by
 match k,hk with
 | 0,_=>exact⟨_,_,rfl,rfl,rfl⟩
 | 1,_=>exact⟨_,_,rfl,rfl,rfl⟩
 | 2,_=>exact⟨_,_,rfl,rfl,rfl⟩
 | 3,_=>exact⟨_,_,rfl,rfl,rfl⟩
 | 4,_=>exact⟨_,_,rfl,rfl,rfl⟩
 | 5,_=>exact⟨_,_,rfl,rfl,rfl⟩
 | 6,_=>exact⟨_,_,rfl,rfl,rfl⟩
 | 7,_=>exact⟨_,_,rfl,rfl,rfl⟩
 | 8,_=>exact⟨_,_,rfl,rfl,rfl⟩
 | 9,_=>exact⟨_,_,rfl,rfl,rfl⟩
 | 10,_=>exact⟨_,_,rfl,rfl,rfl⟩
 | 11,_=>exact⟨_,_,rfl,rfl,rfl⟩
 | 12,_=>exact⟨_,_,rfl,rfl,rfl⟩
 | 13,_=>exact⟨_,_,rfl,rfl,rfl⟩
 | 14,_=>exact⟨_,_,rfl,rfl,rfl⟩
 | 15,_=>exact⟨_,_,rfl,rfl,rfl⟩
 | 16,_=>exact⟨_,_,rfl,rfl,rfl⟩
 | i+17,hk=>exact absurd hk (by omega)
end It
def dfV (g:Nat)(a b:It.Item)(La Lb:It.Loc)(q0 q1 q2 q3 q4 q5 q6 q7 q8 q9 q10 q11 q12 q13 q14 q15 q16:Bool):List Value:=[.pointer (some ⟨g,0,none⟩),
 .int .i64 a.id,
 .pointer (some ⟨g+1,0,none⟩),
 .int .i64 b.id,
 .bool q0,
 .pointer (some ⟨g,1,none⟩),
 .int .i64 a.ver,
 .pointer (some ⟨g+1,1,none⟩),
 .int .i64 b.ver,
 .bool q1,
 .pointer (some ⟨g,2,none⟩),
 .int .i64 a.kind,
 .pointer (some ⟨g+1,2,none⟩),
 .int .i64 b.kind,
 .bool q2,
 .pointer (some ⟨g,3,none⟩),
 .string a.stem,
 .pointer (some ⟨g+1,3,none⟩),
 .string b.stem,
 .bool q3,
 .pointer (some ⟨g,4,none⟩),
 .slice La.oA a.opts.length La.oc,
 .pointer (some ⟨g+1,4,none⟩),
 .slice Lb.oA b.opts.length Lb.oc,
 .bool q4,
 .pointer (some ⟨g,5,none⟩),
 .slice La.cA a.chs.length La.cc,
 .pointer (some ⟨g+1,5,none⟩),
 .slice Lb.cA b.chs.length Lb.cc,
 .bool q5,
 .pointer (some ⟨g,6,none⟩),
 .int .i64 a.value,
 .pointer (some ⟨g+1,6,none⟩),
 .int .i64 b.value,
 .bool q6,
 .pointer (some ⟨g,7,none⟩),
 .int .i64 a.tol,
 .pointer (some ⟨g+1,7,none⟩),
 .int .i64 b.tol,
 .bool q7,
 .pointer (some ⟨g,8,none⟩),
 .slice La.tA a.texts.length La.tc,
 .pointer (some ⟨g+1,8,none⟩),
 .slice Lb.tA b.texts.length Lb.tc,
 .bool q8,
 .pointer (some ⟨g,9,none⟩),
 .int .i64 a.pts,
 .pointer (some ⟨g+1,9,none⟩),
 .int .i64 b.pts,
 .bool q9,
 .pointer (some ⟨g,10,none⟩),
 .string a.cont,
 .pointer (some ⟨g+1,10,none⟩),
 .string b.cont,
 .bool q10,
 .pointer (some ⟨g,11,none⟩),
 .int .i64 a.fam,
 .pointer (some ⟨g+1,11,none⟩),
 .int .i64 b.fam,
 .bool q11,
 .pointer (some ⟨g,12,none⟩),
 .int .i64 a.set_,
 .pointer (some ⟨g+1,12,none⟩),
 .int .i64 b.set_,
 .bool q12,
 .pointer (some ⟨g,13,none⟩),
 .int .i64 a.wrd,
 .pointer (some ⟨g+1,13,none⟩),
 .int .i64 b.wrd,
 .bool q13,
 .pointer (some ⟨g,14,none⟩),
 .int .i64 a.sec,
 .pointer (some ⟨g+1,14,none⟩),
 .int .i64 b.sec,
 .bool q14,
 .pointer (some ⟨g,15,none⟩),
 .slice La.sA a.assets.length La.sc,
 .pointer (some ⟨g+1,15,none⟩),
 .slice Lb.sA b.assets.length Lb.sc,
 .bool q15,
 .pointer (some ⟨g,16,none⟩),
 .int .i64 a.rub,
 .pointer (some ⟨g+1,16,none⟩),
 .int .i64 b.rub,
 .bool q16,
 .agg #[.bool q0,.bool q1,.bool q2,.bool q3,.bool q4,.bool q5,.bool q6,.bool q7,.bool q8,.bool q9,.bool q10,.bool q11,.bool q12,.bool q13,.bool q14,.bool q15,.bool q16]]
def dfR (g:Nat)(a b:It.Item)(La Lb:It.Loc)(q0 q1 q2 q3 q4 q5 q6 q7 q8 q9 q10 q11 q12 q13 q14 q15 q16:Bool)(j:Nat)(u:Option Value)(w:World):Prop :=
 if j=87 then(∃ q:Nat,u=some (.pointer (some ⟨q,0,none⟩))∧g+2≤q∧w.heap[q]?=some (.cells #[.bool q0,.bool q1,.bool q2,.bool q3,.bool q4,.bool q5,.bool q6,.bool q7,.bool q8,.bool q9,.bool q10,.bool q11,.bool q12,.bool q13,.bool q14,.bool q15,.bool q16] 170 (0,0)))
 else if j=86 then(∃ q:Nat,u=some (.pointer (some ⟨q,0,none⟩))∧g+2≤q∧∃ cs:Array Value,cs.size=17∧w.heap[q]?=some (.cells cs 170 (0,0)))
 else u=some ((dfV g a b La Lb q0 q1 q2 q3 q4 q5 q6 q7 q8 q9 q10 q11 q12 q13 q14 q15 q16).getD j undef)
theorem dfR_ext(g:Nat)(a b:It.Item)(La Lb:It.Loc)(q0 q1 q2 q3 q4 q5 q6 q7 q8 q9 q10 q11 q12 q13 q14 q15 q16:Bool)(j:Nat)(u:Option Value)(w w':World)(he:Ext w w')(h:dfR g a b La Lb q0 q1 q2 q3 q4 q5 q6 q7 q8 q9 q10 q11 q12 q13 q14 q15 q16 j u w):dfR g a b La Lb q0 q1 q2 q3 q4 q5 q6 q7 q8 q9 q10 q11 q12 q13 q14 q15 q16 j u w':=by
 unfold dfR at h ⊢;by_cases e:j=87
 · rw[if_pos e]at h ⊢;obtain⟨q,e1,e2,h1⟩:=h;exact⟨q,e1,e2,he.blockAt h1⟩
 · by_cases e':j=86
   · rw[if_neg e,if_pos e']at h ⊢;obtain⟨q,e1,e2,cs,h0,h1⟩:=h;exact⟨q,e1,e2,cs,h0,he.blockAt h1⟩
   · rw[if_neg e,if_neg e']at h ⊢;exact h
theorem dfR_val(g:Nat)(a b:It.Item)(La Lb:It.Loc)(q0 q1 q2 q3 q4 q5 q6 q7 q8 q9 q10 q11 q12 q13 q14 q15 q16:Bool){j:Nat}(h1:j≠87)(h2:j≠86)(u:Option Value)(w w':World)(h:dfR g a b La Lb q0 q1 q2 q3 q4 q5 q6 q7 q8 q9 q10 q11 q12 q13 q14 q15 q16 j u w):dfR g a b La Lb q0 q1 q2 q3 q4 q5 q6 q7 q8 q9 q10 q11 q12 q13 q14 q15 q16 j u w':=by unfold dfR at h ⊢;rw[if_neg h1,if_neg h2]at h ⊢;exact h
def dfD:List Nat:=[9,10,11,12,13,14,15,16,17,18,19,20,21,22,23,24,25,26,27,28,29,30,31,32,33,34,35,36,37,38,39,40,41,42,43,44,45,46,47,48,49,50,51,52,53,54,55,56,57,58,59,60,61,62,63,64,65,66,67,68,69,70,71,72,73,74,75,76,77,78,79,80,81,82,83,84,85,86,87,88,89,90,91,92,93,94,5,5]
def dfE (g:Nat)(t:Array Value):Prop:=t.getD 2 undef=.pointer (some ⟨g,0,none⟩)∧t.getD 3 undef=.pointer (some ⟨g+1,0,none⟩)∧t.size=110
theorem exec_store_row{P:Program}{ev:Operand→Value}{o:Oper}{w:World}(ty:TypeId)(x y:Operand)(ho:o.op=.store ty x y)(g:Nat)(cells:Array Value)(hx:ev x=.pointer (some ⟨g,0,none⟩))(hy:ev y=.agg cells)
    (t:TypeId) (old:Array Value) (hg:w.heap[g]?=some (.cells old t (0,0))) (hi:(P.info? ty).map (·.size)=some cells.size) (hold:old.size=cells.size) (h1:cells.all (·.oneCell')=true):(execOp ev o).run P w=.ok .skip (w.setRow g cells):=by
 unfold execOp;simp only[ho,hx,hy,Instr.storeAt,Instr.sureAddr,Sem.run_bind,Sem.run_pure,Result.andThen_ok,run_storeVar_row w g t ty old cells hg hi hold h1]

def DfB (g:Nat)(w:World)(qs:List Bool):Prop:=∀ (i:Nat) q,qs[i]?=some q→w.cell? ⟨g,i,none⟩=some (.bool q)
theorem DfB.ext{w w':World}{g:Nat}{qs:List Bool}(h:DfB g w qs)(he:Ext w w'):DfB g w' qs:=fun i q hi=>he.keep (h i q hi)
theorem DfB.of{w:World}{g:Nat}{q0 q1 q2 q3 q4 q5 q6 q7 q8 q9 q10 q11 q12 q13 q14 q15 q16:Bool}{t:TypeId}(h:w.heap[g]?=some (.cells #[.bool q0,.bool q1,.bool q2,.bool q3,.bool q4,.bool q5,.bool q6,.bool q7,.bool q8,.bool q9,.bool q10,.bool q11,.bool q12,.bool q13,.bool q14,.bool q15,.bool q16] t (0,0))):DfB g w [q0,q1,q2,q3,q4,q5,q6,q7,q8,q9,q10,q11,q12,q13,q14,q15,q16]:=by
 intro i q hi;rw[cell_of_row w g i _ _ _ h]
 match i,hi with
 | 0,hi=>obtain rfl:=Option.some.inj hi;rfl
 | 1,hi=>obtain rfl:=Option.some.inj hi;rfl
 | 2,hi=>obtain rfl:=Option.some.inj hi;rfl
 | 3,hi=>obtain rfl:=Option.some.inj hi;rfl
 | 4,hi=>obtain rfl:=Option.some.inj hi;rfl
 | 5,hi=>obtain rfl:=Option.some.inj hi;rfl
 | 6,hi=>obtain rfl:=Option.some.inj hi;rfl
 | 7,hi=>obtain rfl:=Option.some.inj hi;rfl
 | 8,hi=>obtain rfl:=Option.some.inj hi;rfl
 | 9,hi=>obtain rfl:=Option.some.inj hi;rfl
 | 10,hi=>obtain rfl:=Option.some.inj hi;rfl
 | 11,hi=>obtain rfl:=Option.some.inj hi;rfl
 | 12,hi=>obtain rfl:=Option.some.inj hi;rfl
 | 13,hi=>obtain rfl:=Option.some.inj hi;rfl
 | 14,hi=>obtain rfl:=Option.some.inj hi;rfl
 | 15,hi=>obtain rfl:=Option.some.inj hi;rfl
 | 16,hi=>obtain rfl:=Option.some.inj hi;rfl
 | i+17,hi=>simp at hi
theorem diff_any(a b:It.Item)(La Lb:It.Loc)(w:World)(ha:It.In w a La)(hb:It.In w b Lb)(hf:Fld w) :
    Calls Tryz.prog 109 #[It.agg a La,It.agg b Lb] w fun e w'=>(∃ (A:Option Addr) (c:Nat),e=.returned (.slice A (It.diff a b).length c)∧SlS w' A (It.diff a b)∧(It.diff a b).length≤c∧c≤maxLen)∧Ext w w':=by
 have HA:=Hi ha;have HB:=Hi hb;have HF:=Hi hf;clear ha hb hf;obtain⟨q0,hq0⟩:∃ q,(a.id == b.id)=q:=⟨_,rfl⟩;obtain⟨q1,hq1⟩:∃ q,(a.ver == b.ver)=q:=⟨_,rfl⟩;obtain⟨q2,hq2⟩:∃ q,(a.kind == b.kind)=q:=⟨_,rfl⟩;obtain⟨q3,hq3⟩:∃ q,(It.eqB a.stem b.stem)=q:=⟨_,rfl⟩;obtain⟨q4,hq4⟩:∃ q,(It.eqS a.opts b.opts)=q:=⟨_,rfl⟩;obtain⟨q5,hq5⟩:∃ q,(It.eqI a.chs b.chs)=q:=⟨_,rfl⟩;obtain⟨q6,hq6⟩:∃ q,(a.value == b.value)=q:=⟨_,rfl⟩;obtain⟨q7,hq7⟩:∃ q,(a.tol == b.tol)=q:=⟨_,rfl⟩;obtain⟨q8,hq8⟩:∃ q,(It.eqS a.texts b.texts)=q:=⟨_,rfl⟩;obtain⟨q9,hq9⟩:∃ q,(a.pts == b.pts)=q:=⟨_,rfl⟩;obtain⟨q10,hq10⟩:∃ q,(It.eqB a.cont b.cont)=q:=⟨_,rfl⟩;obtain⟨q11,hq11⟩:∃ q,(a.fam == b.fam)=q:=⟨_,rfl⟩;obtain⟨q12,hq12⟩:∃ q,(a.set_ == b.set_)=q:=⟨_,rfl⟩;obtain⟨q13,hq13⟩:∃ q,(a.wrd == b.wrd)=q:=⟨_,rfl⟩;obtain⟨q14,hq14⟩:∃ q,(a.sec == b.sec)=q:=⟨_,rfl⟩;obtain⟨q15,hq15⟩:∃ q,(It.eqI a.assets b.assets)=q:=⟨_,rfl⟩;obtain⟨q16,hq16⟩:∃ q,(a.rub == b.rub)=q:=⟨_,rfl⟩;have HQ:Hid (It.sames a b=[q0,q1,q2,q3,q4,q5,q6,q7,q8,q9,q10,q11,q12,q13,q14,q15,q16]):=Hi (by unfold It.sames;rw[hq0,hq1,hq2,hq3,hq4,hq5,hq6,hq7,hq8,hq9,hq10,hq11,hq12,hq13,hq14,hq15,hq16]);have HQ0:Hid ((a.id == b.id)=q0):=Hi hq0;have HQ1:Hid ((a.ver == b.ver)=q1):=Hi hq1;have HQ2:Hid ((a.kind == b.kind)=q2):=Hi hq2;have HQ3:Hid ((a.stem.toList == b.stem.toList)=q3):=Hi (by rw[It.beqB];exact hq3);have HQ4:=Hi hq4;have HQ5:=Hi hq5;have HQ6:Hid ((a.value == b.value)=q6):=Hi hq6;have HQ7:Hid ((a.tol == b.tol)=q7):=Hi hq7;have HQ8:=Hi hq8;have HQ9:Hid ((a.pts == b.pts)=q9):=Hi hq9;have HQ10:Hid ((a.cont.toList == b.cont.toList)=q10):=Hi (by rw[It.beqB];exact hq10);have HQ11:Hid ((a.fam == b.fam)=q11):=Hi hq11;have HQ12:Hid ((a.set_ == b.set_)=q12):=Hi hq12;have HQ13:Hid ((a.wrd == b.wrd)=q13):=Hi hq13;have HQ14:Hid ((a.sec == b.sec)=q14):=Hi hq14;have HQ15:=Hi hq15;have HQ16:Hid ((a.rub == b.rub)=q16):=Hi hq16;clear hq0 hq1 hq2 hq3 hq4 hq5 hq6 hq7 hq8 hq9 hq10 hq11 hq12 hq13 hq14 hq15 hq16;obtain⟨i0,hi0,hz0,hz1,hz2⟩:=info_parts Tryz.infoStr;have EN:=Hi (enters_of Tryz.func47 (by kernel_rfl) rfl);have ES:=Hi (enters_of Tryz.func138 (by kernel_rfl) rfl);have ca:∀ (i:Nat) v,(It.cells a La)[i]?=some v→((w.alloc (.cells (It.cells a La).toArray 39)).alloc (.cells (It.cells b Lb).toArray 39)).cell? ⟨w.heap.size,i,none⟩=some v:=fun i v hv=>by refine((Ext.refl _).alloc _).keep ?_;rw[World.cell?_alloc_new];simpa using hv
 have cb:∀ (i:Nat) v,(It.cells b Lb)[i]?=some v→((w.alloc (.cells (It.cells a La).toArray 39)).alloc (.cells (It.cells b Lb).toArray 39)).cell? ⟨w.heap.size+1,i,none⟩=some v:=fun i v hv=>by have:=World.cell?_alloc_new (w.alloc (.cells (It.cells a La).toArray 39)) (It.cells b Lb).toArray 39 i;rw[show(w.alloc (.cells (It.cells a La).toArray 39)).heap.size=w.heap.size+1 by simp]at this;rw[this];simpa using hv
 have CA:=Hi ca;have CB:=Hi cb;have X0:Hid (Ext w ((w.alloc (.cells (It.cells a La).toArray 39)).alloc (.cells (It.cells b Lb).toArray 39))):=Hi (((Ext.refl _).alloc _).alloc _);clear ca cb;unfold It.agg;go_enter Tryz.func109,Tryz.ntmps109
 go_wp2_with fail
 refine region_tb (by kernel_rfl) (by decide +kernel) (dfE w.heap.size) ⟨rfl,rfl,rfl⟩ 88 dfD (fun _=>none) (dfR w.heap.size a b La Lb q0 q1 q2 q3 q4 q5 q6 q7 q8 q9 q10 q11 q12 q13 q14 q15 q16) ((w.alloc (.cells (It.cells a La).toArray 39)).alloc (.cells (It.cells b Lb).toArray 39)) (Ext.refl _) (fun i h1 h2=>absurd h2 (Nat.not_lt.2 h1)) ?_ ?_
 · intro Tv dd lv U wz i oZ hE ho hlv hd hT;obtain⟨t2,t3,tz⟩:=hE;have hx:=hT.ext;have rX:=dfR_ext w.heap.size a b La Lb q0 q1 q2 q3 q4 q5 q6 q7 q8 q9 q10 q11 q12 q13 q14 q15 q16
   match i,ho,hlv,hd with
   | 0,ho,hlv,hd=>cases oi ho;exact yl1 hT rX ho hd (.pointer (some ⟨w.heap.size,0,none⟩)) (od dd hT tz t2)
   | 1,ho,hlv,hd=>cases oi ho;exact yk1 hT rX ho hd (.int .i64 a.id) (nw dd hT hd tz 0 9 (.pointer (some ⟨w.heap.size,0,none⟩))) (hx.keep (CA.out 0 _ rfl))
   | 2,ho,hlv,hd=>cases oi ho;exact yl1 hT rX ho hd (.pointer (some ⟨w.heap.size+1,0,none⟩)) (od dd hT tz t3)
   | 3,ho,hlv,hd=>cases oi ho;exact yk1 hT rX ho hd (.int .i64 b.id) (nw dd hT hd tz 2 11 (.pointer (some ⟨w.heap.size+1,0,none⟩))) (hx.keep (CB.out 0 _ rfl))
   | 4,ho,hlv,hd=>cases oi ho;have v0:=nw dd hT hd tz 1 10 (.int .i64 a.id);have v1:=nw dd hT hd tz 3 12 (.int .i64 b.id);have hq:=HQ0.out;refine yxe hT rX ho hd (.bool q0) ?_;generalize Act.eval ⟨over Tv U,dd⟩=ev at *;rw[← hq];simp[execOp,go_sem,v0,v1]
   | 5,ho,hlv,hd=>cases oi ho;exact yl1 hT rX ho hd (.pointer (some ⟨w.heap.size,1,none⟩)) (od dd hT tz t2)
   | 6,ho,hlv,hd=>cases oi ho;exact yk1 hT rX ho hd (.int .i64 a.ver) (nw dd hT hd tz 5 14 (.pointer (some ⟨w.heap.size,1,none⟩))) (hx.keep (CA.out 1 _ rfl))
   | 7,ho,hlv,hd=>cases oi ho;exact yl1 hT rX ho hd (.pointer (some ⟨w.heap.size+1,1,none⟩)) (od dd hT tz t3)
   | 8,ho,hlv,hd=>cases oi ho;exact yk1 hT rX ho hd (.int .i64 b.ver) (nw dd hT hd tz 7 16 (.pointer (some ⟨w.heap.size+1,1,none⟩))) (hx.keep (CB.out 1 _ rfl))
   | 9,ho,hlv,hd=>cases oi ho;have v0:=nw dd hT hd tz 6 15 (.int .i64 a.ver);have v1:=nw dd hT hd tz 8 17 (.int .i64 b.ver);have hq:=HQ1.out;refine yxe hT rX ho hd (.bool q1) ?_;generalize Act.eval ⟨over Tv U,dd⟩=ev at *;rw[← hq];simp[execOp,go_sem,v0,v1]
   | 10,ho,hlv,hd=>cases oi ho;exact yl1 hT rX ho hd (.pointer (some ⟨w.heap.size,2,none⟩)) (od dd hT tz t2)
   | 11,ho,hlv,hd=>cases oi ho;exact yk1 hT rX ho hd (.int .i64 a.kind) (nw dd hT hd tz 10 19 (.pointer (some ⟨w.heap.size,2,none⟩))) (hx.keep (CA.out 2 _ rfl))
   | 12,ho,hlv,hd=>cases oi ho;exact yl1 hT rX ho hd (.pointer (some ⟨w.heap.size+1,2,none⟩)) (od dd hT tz t3)
   | 13,ho,hlv,hd=>cases oi ho;exact yk1 hT rX ho hd (.int .i64 b.kind) (nw dd hT hd tz 12 21 (.pointer (some ⟨w.heap.size+1,2,none⟩))) (hx.keep (CB.out 2 _ rfl))
   | 14,ho,hlv,hd=>cases oi ho;have v0:=nw dd hT hd tz 11 20 (.int .i64 a.kind);have v1:=nw dd hT hd tz 13 22 (.int .i64 b.kind);have hq:=HQ2.out;refine yxe hT rX ho hd (.bool q2) ?_;generalize Act.eval ⟨over Tv U,dd⟩=ev at *;rw[← hq];simp[execOp,go_sem,v0,v1]
   | 15,ho,hlv,hd=>cases oi ho;exact yl1 hT rX ho hd (.pointer (some ⟨w.heap.size,3,none⟩)) (od dd hT tz t2)
   | 16,ho,hlv,hd=>cases oi ho;exact yk1 hT rX ho hd (.string a.stem) (nw dd hT hd tz 15 24 (.pointer (some ⟨w.heap.size,3,none⟩))) (hx.keep (CA.out 3 _ rfl))
   | 17,ho,hlv,hd=>cases oi ho;exact yl1 hT rX ho hd (.pointer (some ⟨w.heap.size+1,3,none⟩)) (od dd hT tz t3)
   | 18,ho,hlv,hd=>cases oi ho;exact yk1 hT rX ho hd (.string b.stem) (nw dd hT hd tz 17 26 (.pointer (some ⟨w.heap.size+1,3,none⟩))) (hx.keep (CB.out 3 _ rfl))
   | 19,ho,hlv,hd=>cases oi ho;have v0:=nw dd hT hd tz 16 25 (.string a.stem);have v1:=nw dd hT hd tz 18 27 (.string b.stem);have hq:=HQ3.out;refine yxe hT rX ho hd (.bool q3) ?_;generalize Act.eval ⟨over Tv U,dd⟩=ev at *;rw[← hq];simp[execOp,go_sem,v0,v1]
   | 20,ho,hlv,hd=>cases oi ho;exact yl1 hT rX ho hd (.pointer (some ⟨w.heap.size,4,none⟩)) (od dd hT tz t2)
   | 21,ho,hlv,hd=>cases oi ho;exact yk1 hT rX ho hd (.slice La.oA a.opts.length La.oc) (nw dd hT hd tz 20 29 (.pointer (some ⟨w.heap.size,4,none⟩))) (hx.keep (CA.out 4 _ rfl))
   | 22,ho,hlv,hd=>cases oi ho;exact yl1 hT rX ho hd (.pointer (some ⟨w.heap.size+1,4,none⟩)) (od dd hT tz t3)
   | 23,ho,hlv,hd=>cases oi ho;exact yk1 hT rX ho hd (.slice Lb.oA b.opts.length Lb.oc) (nw dd hT hd tz 22 31 (.pointer (some ⟨w.heap.size+1,4,none⟩))) (hx.keep (CB.out 4 _ rfl))
   | 24,ho,hlv,hd=>cases oi ho;have v0:=nw dd hT hd tz 21 30 (.slice La.oA a.opts.length La.oc);have v1:=nw dd hT hd tz 23 32 (.slice Lb.oA b.opts.length Lb.oc);refine cl hT rX ho hd (f:=138) (args:=#[.slice La.oA a.opts.length La.oc,.slice Lb.oA b.opts.length Lb.oc]) (exec_call2 rfl rfl v0 v1 ES.out) ?_;have e1:=X0.out.trans hx;refine(equalS_any _ _ _ _ a.opts b.opts wz (HA.out.o.ext e1) (HB.out.o.ext e1) (Nat.le_trans HA.out.ok.ol (by decide)) (Nat.le_trans HB.out.ok.ol (by decide))).mono ?_;rintro e w' ⟨rfl,nn,rfl⟩;exact⟨_,rfl,(Ext.refl _).drewN _,by rw[HQ4.out];rfl⟩
   | 25,ho,hlv,hd=>cases oi ho;exact yl1 hT rX ho hd (.pointer (some ⟨w.heap.size,5,none⟩)) (od dd hT tz t2)
   | 26,ho,hlv,hd=>cases oi ho;exact yk1 hT rX ho hd (.slice La.cA a.chs.length La.cc) (nw dd hT hd tz 25 34 (.pointer (some ⟨w.heap.size,5,none⟩))) (hx.keep (CA.out 5 _ rfl))
   | 27,ho,hlv,hd=>cases oi ho;exact yl1 hT rX ho hd (.pointer (some ⟨w.heap.size+1,5,none⟩)) (od dd hT tz t3)
   | 28,ho,hlv,hd=>cases oi ho;exact yk1 hT rX ho hd (.slice Lb.cA b.chs.length Lb.cc) (nw dd hT hd tz 27 36 (.pointer (some ⟨w.heap.size+1,5,none⟩))) (hx.keep (CB.out 5 _ rfl))
   | 29,ho,hlv,hd=>cases oi ho;have v0:=nw dd hT hd tz 26 35 (.slice La.cA a.chs.length La.cc);have v1:=nw dd hT hd tz 28 37 (.slice Lb.cA b.chs.length Lb.cc);refine cl hT rX ho hd (f:=47) (args:=#[.slice La.cA a.chs.length La.cc,.slice Lb.cA b.chs.length Lb.cc]) (exec_call2 rfl rfl v0 v1 EN.out) ?_;have e1:=X0.out.trans hx;refine(equalI_any _ _ _ _ a.chs b.chs wz (HA.out.c.ext e1) (HB.out.c.ext e1) (Nat.le_trans HA.out.ok.cl (by decide)) (Nat.le_trans HB.out.ok.cl (by decide))).mono ?_;rintro e w' ⟨rfl,nn,rfl⟩;exact⟨_,rfl,(Ext.refl _).drewN _,by rw[HQ5.out];rfl⟩
   | 30,ho,hlv,hd=>cases oi ho;exact yl1 hT rX ho hd (.pointer (some ⟨w.heap.size,6,none⟩)) (od dd hT tz t2)
   | 31,ho,hlv,hd=>cases oi ho;exact yk1 hT rX ho hd (.int .i64 a.value) (nw dd hT hd tz 30 39 (.pointer (some ⟨w.heap.size,6,none⟩))) (hx.keep (CA.out 6 _ rfl))
   | 32,ho,hlv,hd=>cases oi ho;exact yl1 hT rX ho hd (.pointer (some ⟨w.heap.size+1,6,none⟩)) (od dd hT tz t3)
   | 33,ho,hlv,hd=>cases oi ho;exact yk1 hT rX ho hd (.int .i64 b.value) (nw dd hT hd tz 32 41 (.pointer (some ⟨w.heap.size+1,6,none⟩))) (hx.keep (CB.out 6 _ rfl))
   | 34,ho,hlv,hd=>cases oi ho;have v0:=nw dd hT hd tz 31 40 (.int .i64 a.value);have v1:=nw dd hT hd tz 33 42 (.int .i64 b.value);have hq:=HQ6.out;refine yxe hT rX ho hd (.bool q6) ?_;generalize Act.eval ⟨over Tv U,dd⟩=ev at *;rw[← hq];simp[execOp,go_sem,v0,v1]
   | 35,ho,hlv,hd=>cases oi ho;exact yl1 hT rX ho hd (.pointer (some ⟨w.heap.size,7,none⟩)) (od dd hT tz t2)
   | 36,ho,hlv,hd=>cases oi ho;exact yk1 hT rX ho hd (.int .i64 a.tol) (nw dd hT hd tz 35 44 (.pointer (some ⟨w.heap.size,7,none⟩))) (hx.keep (CA.out 7 _ rfl))
   | 37,ho,hlv,hd=>cases oi ho;exact yl1 hT rX ho hd (.pointer (some ⟨w.heap.size+1,7,none⟩)) (od dd hT tz t3)
   | 38,ho,hlv,hd=>cases oi ho;exact yk1 hT rX ho hd (.int .i64 b.tol) (nw dd hT hd tz 37 46 (.pointer (some ⟨w.heap.size+1,7,none⟩))) (hx.keep (CB.out 7 _ rfl))
   | 39,ho,hlv,hd=>cases oi ho;have v0:=nw dd hT hd tz 36 45 (.int .i64 a.tol);have v1:=nw dd hT hd tz 38 47 (.int .i64 b.tol);have hq:=HQ7.out;refine yxe hT rX ho hd (.bool q7) ?_;generalize Act.eval ⟨over Tv U,dd⟩=ev at *;rw[← hq];simp[execOp,go_sem,v0,v1]
   | 40,ho,hlv,hd=>cases oi ho;exact yl1 hT rX ho hd (.pointer (some ⟨w.heap.size,8,none⟩)) (od dd hT tz t2)
   | 41,ho,hlv,hd=>cases oi ho;exact yk1 hT rX ho hd (.slice La.tA a.texts.length La.tc) (nw dd hT hd tz 40 49 (.pointer (some ⟨w.heap.size,8,none⟩))) (hx.keep (CA.out 8 _ rfl))
   | 42,ho,hlv,hd=>cases oi ho;exact yl1 hT rX ho hd (.pointer (some ⟨w.heap.size+1,8,none⟩)) (od dd hT tz t3)
   | 43,ho,hlv,hd=>cases oi ho;exact yk1 hT rX ho hd (.slice Lb.tA b.texts.length Lb.tc) (nw dd hT hd tz 42 51 (.pointer (some ⟨w.heap.size+1,8,none⟩))) (hx.keep (CB.out 8 _ rfl))
   | 44,ho,hlv,hd=>cases oi ho;have v0:=nw dd hT hd tz 41 50 (.slice La.tA a.texts.length La.tc);have v1:=nw dd hT hd tz 43 52 (.slice Lb.tA b.texts.length Lb.tc);refine cl hT rX ho hd (f:=138) (args:=#[.slice La.tA a.texts.length La.tc,.slice Lb.tA b.texts.length Lb.tc]) (exec_call2 rfl rfl v0 v1 ES.out) ?_;have e1:=X0.out.trans hx;refine(equalS_any _ _ _ _ a.texts b.texts wz (HA.out.t.ext e1) (HB.out.t.ext e1) (Nat.le_trans HA.out.ok.tl (by decide)) (Nat.le_trans HB.out.ok.tl (by decide))).mono ?_;rintro e w' ⟨rfl,nn,rfl⟩;exact⟨_,rfl,(Ext.refl _).drewN _,by rw[HQ8.out];rfl⟩
   | 45,ho,hlv,hd=>cases oi ho;exact yl1 hT rX ho hd (.pointer (some ⟨w.heap.size,9,none⟩)) (od dd hT tz t2)
   | 46,ho,hlv,hd=>cases oi ho;exact yk1 hT rX ho hd (.int .i64 a.pts) (nw dd hT hd tz 45 54 (.pointer (some ⟨w.heap.size,9,none⟩))) (hx.keep (CA.out 9 _ rfl))
   | 47,ho,hlv,hd=>cases oi ho;exact yl1 hT rX ho hd (.pointer (some ⟨w.heap.size+1,9,none⟩)) (od dd hT tz t3)
   | 48,ho,hlv,hd=>cases oi ho;exact yk1 hT rX ho hd (.int .i64 b.pts) (nw dd hT hd tz 47 56 (.pointer (some ⟨w.heap.size+1,9,none⟩))) (hx.keep (CB.out 9 _ rfl))
   | 49,ho,hlv,hd=>cases oi ho;have v0:=nw dd hT hd tz 46 55 (.int .i64 a.pts);have v1:=nw dd hT hd tz 48 57 (.int .i64 b.pts);have hq:=HQ9.out;refine yxe hT rX ho hd (.bool q9) ?_;generalize Act.eval ⟨over Tv U,dd⟩=ev at *;rw[← hq];simp[execOp,go_sem,v0,v1]
   | 50,ho,hlv,hd=>cases oi ho;exact yl1 hT rX ho hd (.pointer (some ⟨w.heap.size,10,none⟩)) (od dd hT tz t2)
   | 51,ho,hlv,hd=>cases oi ho;exact yk1 hT rX ho hd (.string a.cont) (nw dd hT hd tz 50 59 (.pointer (some ⟨w.heap.size,10,none⟩))) (hx.keep (CA.out 10 _ rfl))
   | 52,ho,hlv,hd=>cases oi ho;exact yl1 hT rX ho hd (.pointer (some ⟨w.heap.size+1,10,none⟩)) (od dd hT tz t3)
   | 53,ho,hlv,hd=>cases oi ho;exact yk1 hT rX ho hd (.string b.cont) (nw dd hT hd tz 52 61 (.pointer (some ⟨w.heap.size+1,10,none⟩))) (hx.keep (CB.out 10 _ rfl))
   | 54,ho,hlv,hd=>cases oi ho;have v0:=nw dd hT hd tz 51 60 (.string a.cont);have v1:=nw dd hT hd tz 53 62 (.string b.cont);have hq:=HQ10.out;refine yxe hT rX ho hd (.bool q10) ?_;generalize Act.eval ⟨over Tv U,dd⟩=ev at *;rw[← hq];simp[execOp,go_sem,v0,v1]
   | 55,ho,hlv,hd=>cases oi ho;exact yl1 hT rX ho hd (.pointer (some ⟨w.heap.size,11,none⟩)) (od dd hT tz t2)
   | 56,ho,hlv,hd=>cases oi ho;exact yk1 hT rX ho hd (.int .i64 a.fam) (nw dd hT hd tz 55 64 (.pointer (some ⟨w.heap.size,11,none⟩))) (hx.keep (CA.out 11 _ rfl))
   | 57,ho,hlv,hd=>cases oi ho;exact yl1 hT rX ho hd (.pointer (some ⟨w.heap.size+1,11,none⟩)) (od dd hT tz t3)
   | 58,ho,hlv,hd=>cases oi ho;exact yk1 hT rX ho hd (.int .i64 b.fam) (nw dd hT hd tz 57 66 (.pointer (some ⟨w.heap.size+1,11,none⟩))) (hx.keep (CB.out 11 _ rfl))
   | 59,ho,hlv,hd=>cases oi ho;have v0:=nw dd hT hd tz 56 65 (.int .i64 a.fam);have v1:=nw dd hT hd tz 58 67 (.int .i64 b.fam);have hq:=HQ11.out;refine yxe hT rX ho hd (.bool q11) ?_;generalize Act.eval ⟨over Tv U,dd⟩=ev at *;rw[← hq];simp[execOp,go_sem,v0,v1]
   | 60,ho,hlv,hd=>cases oi ho;exact yl1 hT rX ho hd (.pointer (some ⟨w.heap.size,12,none⟩)) (od dd hT tz t2)
   | 61,ho,hlv,hd=>cases oi ho;exact yk1 hT rX ho hd (.int .i64 a.set_) (nw dd hT hd tz 60 69 (.pointer (some ⟨w.heap.size,12,none⟩))) (hx.keep (CA.out 12 _ rfl))
   | 62,ho,hlv,hd=>cases oi ho;exact yl1 hT rX ho hd (.pointer (some ⟨w.heap.size+1,12,none⟩)) (od dd hT tz t3)
   | 63,ho,hlv,hd=>cases oi ho;exact yk1 hT rX ho hd (.int .i64 b.set_) (nw dd hT hd tz 62 71 (.pointer (some ⟨w.heap.size+1,12,none⟩))) (hx.keep (CB.out 12 _ rfl))
   | 64,ho,hlv,hd=>cases oi ho;have v0:=nw dd hT hd tz 61 70 (.int .i64 a.set_);have v1:=nw dd hT hd tz 63 72 (.int .i64 b.set_);have hq:=HQ12.out;refine yxe hT rX ho hd (.bool q12) ?_;generalize Act.eval ⟨over Tv U,dd⟩=ev at *;rw[← hq];simp[execOp,go_sem,v0,v1]
   | 65,ho,hlv,hd=>cases oi ho;exact yl1 hT rX ho hd (.pointer (some ⟨w.heap.size,13,none⟩)) (od dd hT tz t2)
   | 66,ho,hlv,hd=>cases oi ho;exact yk1 hT rX ho hd (.int .i64 a.wrd) (nw dd hT hd tz 65 74 (.pointer (some ⟨w.heap.size,13,none⟩))) (hx.keep (CA.out 13 _ rfl))
   | 67,ho,hlv,hd=>cases oi ho;exact yl1 hT rX ho hd (.pointer (some ⟨w.heap.size+1,13,none⟩)) (od dd hT tz t3)
   | 68,ho,hlv,hd=>cases oi ho;exact yk1 hT rX ho hd (.int .i64 b.wrd) (nw dd hT hd tz 67 76 (.pointer (some ⟨w.heap.size+1,13,none⟩))) (hx.keep (CB.out 13 _ rfl))
   | 69,ho,hlv,hd=>cases oi ho;have v0:=nw dd hT hd tz 66 75 (.int .i64 a.wrd);have v1:=nw dd hT hd tz 68 77 (.int .i64 b.wrd);have hq:=HQ13.out;refine yxe hT rX ho hd (.bool q13) ?_;generalize Act.eval ⟨over Tv U,dd⟩=ev at *;rw[← hq];simp[execOp,go_sem,v0,v1]
   | 70,ho,hlv,hd=>cases oi ho;exact yl1 hT rX ho hd (.pointer (some ⟨w.heap.size,14,none⟩)) (od dd hT tz t2)
   | 71,ho,hlv,hd=>cases oi ho;exact yk1 hT rX ho hd (.int .i64 a.sec) (nw dd hT hd tz 70 79 (.pointer (some ⟨w.heap.size,14,none⟩))) (hx.keep (CA.out 14 _ rfl))
   | 72,ho,hlv,hd=>cases oi ho;exact yl1 hT rX ho hd (.pointer (some ⟨w.heap.size+1,14,none⟩)) (od dd hT tz t3)
   | 73,ho,hlv,hd=>cases oi ho;exact yk1 hT rX ho hd (.int .i64 b.sec) (nw dd hT hd tz 72 81 (.pointer (some ⟨w.heap.size+1,14,none⟩))) (hx.keep (CB.out 14 _ rfl))
   | 74,ho,hlv,hd=>cases oi ho;have v0:=nw dd hT hd tz 71 80 (.int .i64 a.sec);have v1:=nw dd hT hd tz 73 82 (.int .i64 b.sec);have hq:=HQ14.out;refine yxe hT rX ho hd (.bool q14) ?_;generalize Act.eval ⟨over Tv U,dd⟩=ev at *;rw[← hq];simp[execOp,go_sem,v0,v1]
   | 75,ho,hlv,hd=>cases oi ho;exact yl1 hT rX ho hd (.pointer (some ⟨w.heap.size,15,none⟩)) (od dd hT tz t2)
   | 76,ho,hlv,hd=>cases oi ho;exact yk1 hT rX ho hd (.slice La.sA a.assets.length La.sc) (nw dd hT hd tz 75 84 (.pointer (some ⟨w.heap.size,15,none⟩))) (hx.keep (CA.out 15 _ rfl))
   | 77,ho,hlv,hd=>cases oi ho;exact yl1 hT rX ho hd (.pointer (some ⟨w.heap.size+1,15,none⟩)) (od dd hT tz t3)
   | 78,ho,hlv,hd=>cases oi ho;exact yk1 hT rX ho hd (.slice Lb.sA b.assets.length Lb.sc) (nw dd hT hd tz 77 86 (.pointer (some ⟨w.heap.size+1,15,none⟩))) (hx.keep (CB.out 15 _ rfl))
   | 79,ho,hlv,hd=>cases oi ho;have v0:=nw dd hT hd tz 76 85 (.slice La.sA a.assets.length La.sc);have v1:=nw dd hT hd tz 78 87 (.slice Lb.sA b.assets.length Lb.sc);refine cl hT rX ho hd (f:=47) (args:=#[.slice La.sA a.assets.length La.sc,.slice Lb.sA b.assets.length Lb.sc]) (exec_call2 rfl rfl v0 v1 EN.out) ?_;have e1:=X0.out.trans hx;refine(equalI_any _ _ _ _ a.assets b.assets wz (HA.out.s.ext e1) (HB.out.s.ext e1) (Nat.le_trans HA.out.ok.sl (by decide)) (Nat.le_trans HB.out.ok.sl (by decide))).mono ?_;rintro e w' ⟨rfl,nn,rfl⟩;exact⟨_,rfl,(Ext.refl _).drewN _,by rw[HQ15.out];rfl⟩
   | 80,ho,hlv,hd=>cases oi ho;exact yl1 hT rX ho hd (.pointer (some ⟨w.heap.size,16,none⟩)) (od dd hT tz t2)
   | 81,ho,hlv,hd=>cases oi ho;exact yk1 hT rX ho hd (.int .i64 a.rub) (nw dd hT hd tz 80 89 (.pointer (some ⟨w.heap.size,16,none⟩))) (hx.keep (CA.out 16 _ rfl))
   | 82,ho,hlv,hd=>cases oi ho;exact yl1 hT rX ho hd (.pointer (some ⟨w.heap.size+1,16,none⟩)) (od dd hT tz t3)
   | 83,ho,hlv,hd=>cases oi ho;exact yk1 hT rX ho hd (.int .i64 b.rub) (nw dd hT hd tz 82 91 (.pointer (some ⟨w.heap.size+1,16,none⟩))) (hx.keep (CB.out 16 _ rfl))
   | 84,ho,hlv,hd=>cases oi ho;have v0:=nw dd hT hd tz 81 90 (.int .i64 a.rub);have v1:=nw dd hT hd tz 83 92 (.int .i64 b.rub);have hq:=HQ16.out;refine yxe hT rX ho hd (.bool q16) ?_;generalize Act.eval ⟨over Tv U,dd⟩=ev at *;rw[← hq];simp[execOp,go_sem,v0,v1]
   | 85,ho,hlv,hd=>cases oi ho;have v0:=nw dd hT hd tz 4 13 (.bool q0);have v1:=nw dd hT hd tz 9 18 (.bool q1);have v2:=nw dd hT hd tz 14 23 (.bool q2);have v3:=nw dd hT hd tz 19 28 (.bool q3);have v4:=nw dd hT hd tz 24 33 (.bool q4);have v5:=nw dd hT hd tz 29 38 (.bool q5);have v6:=nw dd hT hd tz 34 43 (.bool q6);have v7:=nw dd hT hd tz 39 48 (.bool q7);have v8:=nw dd hT hd tz 44 53 (.bool q8);have v9:=nw dd hT hd tz 49 58 (.bool q9);have v10:=nw dd hT hd tz 54 63 (.bool q10);have v11:=nw dd hT hd tz 59 68 (.bool q11);have v12:=nw dd hT hd tz 64 73 (.bool q12);have v13:=nw dd hT hd tz 69 78 (.bool q13);have v14:=nw dd hT hd tz 74 83 (.bool q14);have v15:=nw dd hT hd tz 79 88 (.bool q15);have v16:=nw dd hT hd tz 84 93 (.bool q16);refine yxe hT rX ho hd (.agg #[.bool q0,.bool q1,.bool q2,.bool q3,.bool q4,.bool q5,.bool q6,.bool q7,.bool q8,.bool q9,.bool q10,.bool q11,.bool q12,.bool q13,.bool q14,.bool q15,.bool q16]) ?_;generalize Act.eval ⟨over Tv U,dd⟩=ev at *;simp[execOp,go_sem,v0,v1,v2,v3,v4,v5,v6,v7,v8,v9,v10,v11,v12,v13,v14,v15,v16]
   | 86,ho,hlv,hd =>
    cases oi ho;have hsz:w.heap.size+2≤wz.heap.size:=by have:=hx.size;simp at this;omega
    refine tb_extW (v:=.pointer (some ⟨wz.heap.size,0,none⟩)) (w':=wz.alloc (.cells #[.bool false,.bool false,.bool false,.bool false,.bool false,.bool false,.bool false,.bool false,.bool false,.bool false,.bool false,.bool false,.bool false,.bool false,.bool false,.bool false,.bool false] 170)) (dfR_ext w.heap.size a b La Lb q0 q1 q2 q3 q4 q5 q6 q7 q8 q9 q10 q11 q12 q13 q14 q15 q16) hT ho hd rfl rfl (by decide) (fun j hj hji hlj=>?_) ?_ ((Ext.refl _).alloc _) ⟨wz.heap.size,rfl,hsz,_,rfl,heap_alloc_new _ _⟩
    · by_cases h87:j=87
      · subst h87;have:=dep (hT.shut 87 _ rfl hlj) 86 (by kernel_rfl);rw[hlv]at this;cases this
      · exact(show ∀ j,j<88→j≠86→j≠87→dfD.getD j 0≠5 by decide) j hj hji h87
    · generalize Act.eval ⟨over Tv U,dd⟩=ev at *;simp[execOp,go_sem]
   | 87,ho,hlv,hd =>
    cases oi ho;obtain⟨q,f5,hq,cs,hcs,hblk⟩:∃ q:Nat,U 5=some (.pointer (some ⟨q,0,none⟩))∧w.heap.size+2≤q∧∃ cs:Array Value,cs.size=17∧wz.heap[q]?=some (.cells cs 170 (0,0)):=hT.facts 86 (by decide) (dep hd 86 (by kernel_rfl)) (fun c e=>by cases e);have v6:=nw dd hT hd tz 85 94 (.agg #[.bool q0,.bool q1,.bool q2,.bool q3,.bool q4,.bool q5,.bool q6,.bool q7,.bool q8,.bool q9,.bool q10,.bool q11,.bool q12,.bool q13,.bool q14,.bool q15,.bool q16]);have v5:Act.eval ⟨over Tv U,dd⟩ (.tmp 5)=_:=eval_new (t:=Tv) (d:=dd) f5 (by show 5<Tv.size;omega);refine tb_store (w':=wz.setRow q #[.bool q0,.bool q1,.bool q2,.bool q3,.bool q4,.bool q5,.bool q6,.bool q7,.bool q8,.bool q9,.bool q10,.bool q11,.bool q12,.bool q13,.bool q14,.bool q15,.bool q16]) hT ho hd rfl rfl (exec_store_row _ _ _ rfl q _ v5 v6 _ cs hblk (by kernel_rfl) hcs (by simp[Value.oneCell'])) (hx.setRow (by simp;omega) _) ⟨q,f5,hq,setRow_at hblk⟩ (fun j hj hji hlj hcj hR=>?_);by_cases h86:j=86
    · subst h86;obtain⟨q',e1,e2,cs',h0,h1⟩:∃ q:Nat,U 5=some (.pointer (some ⟨q,0,none⟩))∧w.heap.size+2≤q∧∃ cs:Array Value,cs.size=17∧wz.heap[q]?=some (.cells cs 170 (0,0)):=hR;rw[f5]at e1;cases e1;exact⟨q,f5,hq,_,rfl,setRow_at hblk⟩
    · exact dfR_val w.heap.size a b La Lb q0 q1 q2 q3 q4 q5 q6 q7 q8 q9 q10 q11 q12 q13 q14 q15 q16 hji h86 _ _ _ hR
   | i+88,ho,_,_=>exact absurd ho (by simp)
 · intro U wz hex hout hfin;obtain⟨q,f5,hq,hblk⟩:∃ q:Nat,U 5=some (.pointer (some ⟨q,0,none⟩))∧w.heap.size+2≤q∧wz.heap[q]?=some (.cells #[.bool q0,.bool q1,.bool q2,.bool q3,.bool q4,.bool q5,.bool q6,.bool q7,.bool q8,.bool q9,.bool q10,.bool q11,.bool q12,.bool q13,.bool q14,.bool q15,.bool q16] 170 (0,0)):=hfin 87 (by decide) rfl;have HX:=Hi (X0.out.trans hex);have HDB:=Hi (DfB.of hblk);have hqlt:q<wz.heap.size:=by
    rcases Nat.lt_or_ge q wz.heap.size with g | g
    · exact g
    · rw[Array.getElem?_eq_none g]at hblk;cases hblk
   clear hex hfin hblk;rw[over_list];simp(disch:=decide) only[overL,Nat.reduceAdd,hout,Option.getD_none];rw[f5];simp only[Option.getD_some];clear hout f5;have g0:wz.cell? ⟨0,0,none⟩=some (.string ⟨#[73,100]⟩):=(HF.out.ext HX.out) 0 _ rfl;have g1:wz.cell? ⟨0,1,none⟩=some (.string ⟨#[86,101,114,115,105,111,110]⟩):=(HF.out.ext HX.out) 1 _ rfl;have g2:wz.cell? ⟨0,2,none⟩=some (.string ⟨#[75,105,110,100]⟩):=(HF.out.ext HX.out) 2 _ rfl;have g3:wz.cell? ⟨0,3,none⟩=some (.string ⟨#[83,116,101,109]⟩):=(HF.out.ext HX.out) 3 _ rfl;have g4:wz.cell? ⟨0,4,none⟩=some (.string ⟨#[79,112,116,105,111,110,115]⟩):=(HF.out.ext HX.out) 4 _ rfl;have g5:wz.cell? ⟨0,5,none⟩=some (.string ⟨#[67,104,111,105,99,101,115]⟩):=(HF.out.ext HX.out) 5 _ rfl;have g6:wz.cell? ⟨0,6,none⟩=some (.string ⟨#[86,97,108,117,101]⟩):=(HF.out.ext HX.out) 6 _ rfl;have g7:wz.cell? ⟨0,7,none⟩=some (.string ⟨#[84,111,108]⟩):=(HF.out.ext HX.out) 7 _ rfl;have g8:wz.cell? ⟨0,8,none⟩=some (.string ⟨#[84,101,120,116,115]⟩):=(HF.out.ext HX.out) 8 _ rfl;have g9:wz.cell? ⟨0,9,none⟩=some (.string ⟨#[80,111,105,110,116,115]⟩):=(HF.out.ext HX.out) 9 _ rfl;have g10:wz.cell? ⟨0,10,none⟩=some (.string ⟨#[67,111,110,116,101,110,116]⟩):=(HF.out.ext HX.out) 10 _ rfl;have g11:wz.cell? ⟨0,11,none⟩=some (.string ⟨#[70,97,109,105,108,121]⟩):=(HF.out.ext HX.out) 11 _ rfl;have g12:wz.cell? ⟨0,12,none⟩=some (.string ⟨#[83,101,116]⟩):=(HF.out.ext HX.out) 12 _ rfl;have g13:wz.cell? ⟨0,13,none⟩=some (.string ⟨#[87,111,114,100,115]⟩):=(HF.out.ext HX.out) 13 _ rfl;have g14:wz.cell? ⟨0,14,none⟩=some (.string ⟨#[83,101,99,111,110,100,115]⟩):=(HF.out.ext HX.out) 14 _ rfl;have g15:wz.cell? ⟨0,15,none⟩=some (.string ⟨#[65,115,115,101,116,115]⟩):=(HF.out.ext HX.out) 15 _ rfl;have g16:wz.cell? ⟨0,16,none⟩=some (.string ⟨#[82,117,98,114,105,99]⟩):=(HF.out.ext HX.out) 16 _ rfl;generalize (List.map _ _:List Value)=JUNK;go_wp2;clear g0 g1 g2 g3 g4 g5 g6 g7 g8 g9 g10 g11 g12 g13 g14 g15 g16;go_loopw [6,96] (fun n i wr=>∃ k:Nat,k≤17∧i=.int .i64 k∧Hid (RowS wz.heap.size (It.foldN ((It.pairs a b).take k)) wr n)∧Hid (Ext wz wr)) (fun _ i _=>17-(intOf i).toNat)
   case atStart=>exact⟨0,by omega,rfl,Hi (own_nil _ _ _ _),Hi (Ext.refl _)⟩
   case round =>
    obtain⟨k,hk,rfl,HR,HE⟩:=hrel;by_cases hlt:k<17
    · obtain⟨qk,s,h1,h2,h3⟩:=It.pairs_at a b hlt;rw[HQ.out]at h1;have c0:_=_:=(HDB.out.ext HE.out) k qk h1;have hix:=fld_index k hlt h2;have ki0:(0:Int)≤(k:Int):=(by omega);have ki1:(k:Int)<17:=(by omega);have HN:=Hi (It.foldN_snoc h3);have hle:=It.foldN_le ((It.pairs a b).take k);have hle2:=List.length_take_le k (It.pairs a b);have hqz:q<wr.heap.size:=Nat.lt_of_lt_of_le hqlt HE.out.size;clear h1 h2 h3;cases qk with
      | true =>
       go_wp2;go_roundw;case rel=>exact⟨k+1,by omega,by go_num,Hi (by rw[HN.out];exact HR.out),HE⟩
       case measure=>simp[intOf];omega
      | false =>
       obtain⟨nx,hxn⟩:∃ n,(It.foldN ((It.pairs a b).take k)).length=n:=⟨_,rfl⟩;obtain⟨A,c,rfl⟩:=own_form HR.out;have HO2:Hid (wr.ownsRow wz.heap.size 9 1 (.slice A nx c) nx ((It.foldN ((It.pairs a b).take k)).map Value.string)):=Hi (by rw[← hxn];exact HR.out);have hn:nx≤1000:=(by omega);have HXN:=Hi hxn;rw[hxn];clear hxn HR hle hle2;go_wp2_with (at_builtin;refine wpList_append_lies _ rfl _ _ 37 rfl wz.heap.size 9 i0 (.string ⟨#[]⟩) 1 16 Tryz.underlying37 hi0 hz0 hz1 hz2 rfl (by decide) _ _ _ rfl (HO2.out.alloc _) ⟨wr.heap.size,0,none⟩ 1 1 [.string s] rfl rfl (cell_one_new _ _ _) (by simp[Value.oneCell']) (by decide) (by unfold maxLen;omega) (by omega) (by have:=HE.out.size;simp;omega) (wr.heap.size+1) (by simp) ?_;intro gg cap w2 hown2 hgrow2 hat hlt2)
       have HO3:=Hi hown2;have he2:=Hi ((HE.out.alloc (.cells #[.string s] 9)).grown hgrow2 (fun q hq=>own_ge HO2.out q hq));clear hown2 hgrow2;go_wp2;go_roundw;case rel=>exact⟨k+1,by omega,by go_num,Hi (by unfold RowS;rw[HN.out,Bool.not_false,It.addL_yes,List.length_append,List.map_append,HXN.out];exact HO3.out),he2⟩
       case measure=>simp[intOf];omega
    · obtain rfl:k=17:=by omega
      have HE17:Hid (It.foldN ((It.pairs a b).take 17)=It.diff a b):=Hi rfl;obtain⟨A,c,hsl,hl1,hl2,hSl⟩:=HR.out.sl;subst hsl;have HS:=Hi hSl;have HL:=Hi hl1;have HM:=Hi hl2;clear hSl hl1 hl2;go_wp2;go_ret;rw[HE17.out]at HS HL ⊢;exact⟨⟨A,c,rfl,HS.out,HL.out,HM.out⟩,HX.out.trans HE.out⟩
end Go.Proofs.YtfnmgcblhebdbaaGreatDoor
namespace Go.Proofs.YtfnmgcblhebdbaaGreatDoor
open Go.RowKit
namespace Bk
theorem sl_len63{n c:Nat}(h:n≤c∧c≤maxLen):n≤9223372036854775807:=by have:=h.2;unfold maxLen at this;omega
end Bk
namespace Bk
end Bk
namespace Bk
end Bk
end Go.Proofs.YtfnmgcblhebdbaaGreatDoor
namespace Go.Proofs.YtfnmgcblhebdbaaGreatDoor
set_option maxRecDepth 100000
set_option maxHeartbeats 25600000
open Go.RowKit
namespace Bk
def sbkL (n0 kk b1 o1 b2 o2 n c d:Nat)(vx vy:Value)(bq:Bool):List (Option Value→World→Prop):=sl [.pointer (some ⟨n0,5,none⟩),.slice (some ⟨b1,o1,none⟩) n c,.int .i64 (kk:Int),.pointer (some ⟨b1,o1+kk*7,none⟩),vx,.pointer (some ⟨n0+1,5,none⟩),.slice (some ⟨b2,o2,none⟩) n d,.int .i64 (kk:Int),.pointer (some ⟨b2,o2+kk*7,none⟩),vy,.bool bq,.bool (!bq)]
def sbkD:List Nat:=[129,130,131,132,133,134,135,136,137,138,139,140]
def sbkE (n0 kk:Nat)(t:Array Value):Prop:=t.getD 2 undef=.pointer (some ⟨n0,0,none⟩)∧t.getD 3 undef=.pointer (some ⟨n0+1,0,none⟩)∧t.getD 8 undef=.int .i64 (kk:Int)∧t.size=141

theorem rSame_any(x y:BankL){v:Bool}(hv:v=true↔x.bank=y.bank)(w:World)(hx:x.In w)(hy:y.In w)(ht:v=true:=by rfl) :
    Calls Tryz.prog 12 #[x.agg,y.agg] w fun e w'=>e=.returned (.bool v)∧Ext w w':=by
 obtain⟨CA,hca,hna,-,hka⟩:=x.packed;obtain⟨CB,hcb,hnb,-,hkb⟩:=y.packed;rw[hca,hcb];have HV:=Hi hv;have HT:Hid (x.bank=y.bank):=Hi (hv.1 ht);clear ht;have EN:=Hi (enters_of Tryz.func23 (by kernel_rfl) rfl);clear hv;obtain⟨n_gp,hn_gp⟩:∃ n,x.gp.xs.length=n:=⟨_,rfl⟩;obtain⟨m_gp,hm_gp⟩:∃ n,y.gp.xs.length=n:=⟨_,rfl⟩;obtain⟨VA_gp,va_gp⟩:∃ A,x.gp.A=A:=⟨_,rfl⟩;obtain⟨VB_gp,vb_gp⟩:∃ A,y.gp.A=A:=⟨_,rfl⟩;obtain⟨n_gq,hn_gq⟩:∃ n,x.gq.xs.length=n:=⟨_,rfl⟩;obtain⟨m_gq,hm_gq⟩:∃ n,y.gq.xs.length=n:=⟨_,rfl⟩;obtain⟨VA_gq,va_gq⟩:∃ A,x.gq.A=A:=⟨_,rfl⟩;obtain⟨VB_gq,vb_gq⟩:∃ A,y.gq.A=A:=⟨_,rfl⟩;obtain⟨n_outl,hn_outl⟩:∃ n,x.outl.length=n:=⟨_,rfl⟩;obtain⟨m_outl,hm_outl⟩:∃ n,y.outl.length=n:=⟨_,rfl⟩;obtain⟨VA_outl,va_outl⟩:∃ A,x.oA=A:=⟨_,rfl⟩;obtain⟨VB_outl,vb_outl⟩:∃ A,y.oA=A:=⟨_,rfl⟩;obtain⟨n_assets,hn_assets⟩:∃ n,x.assets.length=n:=⟨_,rfl⟩;obtain⟨m_assets,hm_assets⟩:∃ n,y.assets.length=n:=⟨_,rfl⟩;obtain⟨VA_assets,va_assets⟩:∃ A,x.aA=A:=⟨_,rfl⟩;obtain⟨VB_assets,vb_assets⟩:∃ A,y.aA=A:=⟨_,rfl⟩;obtain⟨n_ents,hn_ents⟩:∃ n,x.ents.length=n:=⟨_,rfl⟩;obtain⟨m_ents,hm_ents⟩:∃ n,y.ents.length=n:=⟨_,rfl⟩;obtain⟨VA_ents,va_ents⟩:∃ A,x.eA=A:=⟨_,rfl⟩;obtain⟨VB_ents,vb_ents⟩:∃ A,y.eA=A:=⟨_,rfl⟩;obtain⟨n_enem,hn_enem⟩:∃ n,x.enem.length=n:=⟨_,rfl⟩;obtain⟨m_enem,hm_enem⟩:∃ n,y.enem.length=n:=⟨_,rfl⟩;obtain⟨VA_enem,va_enem⟩:∃ A,x.nA=A:=⟨_,rfl⟩;obtain⟨VB_enem,vb_enem⟩:∃ A,y.nA=A:=⟨_,rfl⟩;have J0:Hid (CA[0]?=some (.int .i64 x.now)∧CB[0]?=some (.int .i64 y.now)):=Hi ⟨by rw[← hka];rfl,by rw[← hkb];rfl⟩;have J1:Hid (CA[1]?=some (.slice VA_gp n_gp x.gp.c)∧CB[1]?=some (.slice VB_gp m_gp y.gp.c)):=Hi ⟨by rw[← hka,← hn_gp,← va_gp];rfl,by rw[← hkb,← hm_gp,← vb_gp];rfl⟩;have J2:Hid (CA[2]?=some (.slice VA_gq n_gq x.gq.c)∧CB[2]?=some (.slice VB_gq m_gq y.gq.c)):=Hi ⟨by rw[← hka,← hn_gq,← va_gq];rfl,by rw[← hkb,← hm_gq,← vb_gq];rfl⟩;have J3:Hid (CA[3]?=some (.slice VA_outl n_outl x.oc)∧CB[3]?=some (.slice VB_outl m_outl y.oc)):=Hi ⟨by rw[← hka,← hn_outl,← va_outl];rfl,by rw[← hkb,← hm_outl,← vb_outl];rfl⟩;have J4:Hid (CA[4]?=some (.slice VA_assets n_assets x.ac)∧CB[4]?=some (.slice VB_assets m_assets y.ac)):=Hi ⟨by rw[← hka,← hn_assets,← va_assets];rfl,by rw[← hkb,← hm_assets,← vb_assets];rfl⟩;have J5:Hid (CA[5]?=some (.slice VA_ents n_ents x.ec)∧CB[5]?=some (.slice VB_ents m_ents y.ec)):=Hi ⟨by rw[← hka,← hn_ents,← va_ents];rfl,by rw[← hkb,← hm_ents,← vb_ents];rfl⟩;have J6:Hid (CA[6]?=some (.slice VA_enem n_enem x.nc)∧CB[6]?=some (.slice VB_enem m_enem y.nc)):=Hi ⟨by rw[← hka,← hn_enem,← va_enem];rfl,by rw[← hkb,← hm_enem,← vb_enem];rfl⟩;have K1:=Hi (fun(hv:x.gp.xs=y.gp.xs) (W:World) (h:Ext w W)=>rints_any x.gp.A x.gp.c x.gp.xs y.gp.A y.gp.c y.gp.xs hn_gp hm_gp (v:=true) (tr hv) (by rw[← hn_gp];exact sl_len63 ⟨hx.gp.2.1,hx.gp.2.2.1⟩) W (hx.gp.ext h).1 (hy.gp.ext h).1);rw[va_gp,vb_gp]at K1;have K2:=Hi (fun(hv:x.gq.xs=y.gq.xs) (W:World) (h:Ext w W)=>rints_any x.gq.A x.gq.c x.gq.xs y.gq.A y.gq.c y.gq.xs hn_gq hm_gq (v:=true) (tr hv) (by rw[← hn_gq];exact sl_len63 ⟨hx.gq.2.1,hx.gq.2.2.1⟩) W (hx.gq.ext h).1 (hy.gq.ext h).1);rw[va_gq,vb_gq]at K2;have S1_outl:Hid (SlX eTpc w VA_outl x.outl):=Hi (by rw[← va_outl];exact hx.outl);have S2_outl:Hid (SlX eTpc w VB_outl y.outl):=Hi (by rw[← vb_outl];exact hy.outl);have HN_outl:=Hi hn_outl;have HM_outl:=Hi hm_outl;have hl_outl:n_outl≤9223372036854775807:=by rw[← hn_outl];exact sl_len63 hx.oc
 have S1_assets:Hid (SlX eAst w VA_assets x.assets):=Hi (by rw[← va_assets];exact hx.assets);have S2_assets:Hid (SlX eAst w VB_assets y.assets):=Hi (by rw[← vb_assets];exact hy.assets);have HN_assets:=Hi hn_assets;have HM_assets:=Hi hm_assets;have hl_assets:n_assets≤9223372036854775807:=by rw[← hn_assets];exact sl_len63 hx.ac
 have S1_ents:Hid (SlX eEnt w VA_ents x.ents):=Hi (by rw[← va_ents];exact hx.ents);have S2_ents:Hid (SlX eEnt w VB_ents y.ents):=Hi (by rw[← vb_ents];exact hy.ents);have HN_ents:=Hi hn_ents;have HM_ents:=Hi hm_ents;have hl_ents:n_ents≤9223372036854775807:=by rw[← hn_ents];exact sl_len63 hx.ec
 have S1_enem:Hid (SlX ePar w VA_enem x.enem):=Hi (by rw[← va_enem];exact hx.enem);have S2_enem:Hid (SlX ePar w VB_enem y.enem):=Hi (by rw[← vb_enem];exact hy.enem);have HN_enem:=Hi hn_enem;have HM_enem:=Hi hm_enem;have hl_enem:n_enem≤9223372036854775807:=by rw[← hn_enem];exact sl_len63 hx.nc
 clear hx hy hca hcb hna hnb hka hkb hn_gp hm_gp va_gp vb_gp hn_gq hm_gq va_gq vb_gq hn_outl hm_outl va_outl vb_outl hn_assets hm_assets va_assets vb_assets hn_ents hm_ents va_ents vb_ents hn_enem hm_enem va_enem vb_enem;have X_0:Hid (Ext w ((w.alloc (.cells CA 31)).alloc (.cells CB 31))):=Hi (((Ext.refl _).alloc _).alloc _);have HA_0:Hid (((w.alloc (.cells CA 31)).alloc (.cells CB 31)).heap[w.heap.size]?=some (.cells CA 31 (0,0))):=Hi (two_fst' _ _ _);have HB_0:Hid (((w.alloc (.cells CA 31)).alloc (.cells CB 31)).heap[w.heap.size+1]?=some (.cells CB 31 (0,0))):=Hi (heap_new_at _ _ _ (by simp));have ca0:((w.alloc (.cells CA 31)).alloc (.cells CB 31)).cell? ⟨w.heap.size,0,none⟩=some (.int .i64 x.now):=(cell_of_row _ _ 0 _ _ _ HA_0.out).trans J0.out.1;have cb0:((w.alloc (.cells CA 31)).alloc (.cells CB 31)).cell? ⟨w.heap.size+1,0,none⟩=some (.int .i64 y.now):=(cell_of_row _ _ 0 _ _ _ HB_0.out).trans J0.out.2;have ca1:((w.alloc (.cells CA 31)).alloc (.cells CB 31)).cell? ⟨w.heap.size,1,none⟩=some (.slice VA_gp n_gp x.gp.c):=(cell_of_row _ _ 1 _ _ _ HA_0.out).trans J1.out.1;have cb1:((w.alloc (.cells CA 31)).alloc (.cells CB 31)).cell? ⟨w.heap.size+1,1,none⟩=some (.slice VB_gp m_gp y.gp.c):=(cell_of_row _ _ 1 _ _ _ HB_0.out).trans J1.out.2;go_enter Tryz.func12,Tryz.ntmps12
 have hq:x.now=y.now:=Classical.byContradiction fun hq=>(fun e=>hq (congrArg Bank.now e)) HT.out;have Q0:=Hi hq;have t0:(x.now != y.now)=false:=by rw[hq];simp
 clear hq;have hq:x.gp.xs=y.gp.xs:=Classical.byContradiction fun hq=>(fun e=>hq (congrArg Bank.pts e)) HT.out;have Q1:=Hi hq;have K:=Hi (K1.out hq);clear hq;go_wp2_with fail
 with_reducible refine(K.out _ X_0.out).mono ?_
 rintro e w1 ⟨rfl,hb⟩;have X_1:=Hi (X_0.out.trans hb);have HA_1:=Hi (hb.blockAt HA_0.out);have HB_1:=Hi (hb.blockAt HB_0.out);clear hb K X_0 HA_0 HB_0 ca0 cb0 ca1 cb1 t0;have ca2:w1.cell? ⟨w.heap.size,2,none⟩=some (.slice VA_gq n_gq x.gq.c):=(cell_of_row _ _ 2 _ _ _ HA_1.out).trans J2.out.1;have cb2:w1.cell? ⟨w.heap.size+1,2,none⟩=some (.slice VB_gq m_gq y.gq.c):=(cell_of_row _ _ 2 _ _ _ HB_1.out).trans J2.out.2;have hq:x.gq.xs=y.gq.xs:=Classical.byContradiction fun hq=>(fun e=>hq (congrArg Bank.prior e)) HT.out;have Q2:=Hi hq;have K:=Hi (K2.out hq);clear hq;go_wp2_with fail
 with_reducible refine(K.out _ X_1.out).mono ?_
 rintro e w2 ⟨rfl,hb⟩;have X_2:=Hi (X_1.out.trans hb);have HA_2:=Hi (hb.blockAt HA_1.out);have HB_2:=Hi (hb.blockAt HB_1.out);clear hb K X_1 HA_1 HB_1 ca2 cb2;have ca3:w2.cell? ⟨w.heap.size,3,none⟩=some (.slice VA_outl n_outl x.oc):=(cell_of_row _ _ 3 _ _ _ HA_2.out).trans J3.out.1;have cb3:w2.cell? ⟨w.heap.size+1,3,none⟩=some (.slice VB_outl m_outl y.oc):=(cell_of_row _ _ 3 _ _ _ HB_2.out).trans J3.out.2;have ca4:w2.cell? ⟨w.heap.size,4,none⟩=some (.slice VA_assets n_assets x.ac):=(cell_of_row _ _ 4 _ _ _ HA_2.out).trans J4.out.1;have cb4:w2.cell? ⟨w.heap.size+1,4,none⟩=some (.slice VB_assets m_assets y.ac):=(cell_of_row _ _ 4 _ _ _ HB_2.out).trans J4.out.2;have ca5:w2.cell? ⟨w.heap.size,5,none⟩=some (.slice VA_ents n_ents x.ec):=(cell_of_row _ _ 5 _ _ _ HA_2.out).trans J5.out.1;have cb5:w2.cell? ⟨w.heap.size+1,5,none⟩=some (.slice VB_ents m_ents y.ec):=(cell_of_row _ _ 5 _ _ _ HB_2.out).trans J5.out.2;have ca6:w2.cell? ⟨w.heap.size,6,none⟩=some (.slice VA_enem n_enem x.nc):=(cell_of_row _ _ 6 _ _ _ HA_2.out).trans J6.out.1;have cb6:w2.cell? ⟨w.heap.size+1,6,none⟩=some (.slice VB_enem m_enem y.nc):=(cell_of_row _ _ 6 _ _ _ HB_2.out).trans J6.out.2;have hnm:n_outl=m_outl:=Classical.byContradiction fun hnm=>(fun e=>hnm (by rw[← HN_outl.out,← HM_outl.out];have:=congrArg (fun r:Bank=>r.outl.length) e;simpa[BankL.bank]using this)) HT.out;subst hnm;have l3:((n_outl:Int) != (n_outl:Int))=false:=by simp
 have hnm:n_assets=m_assets:=Classical.byContradiction fun hnm=>(fun e=>hnm (by rw[← HN_assets.out,← HM_assets.out];have:=congrArg (fun r:Bank=>r.assets.length) e;simpa[BankL.bank]using this)) HT.out;subst hnm;have l4:((n_assets:Int) != (n_assets:Int))=false:=by simp
 have hnm:n_ents=m_ents:=Classical.byContradiction fun hnm=>(fun e=>hnm (by rw[← HN_ents.out,← HM_ents.out];have:=congrArg (fun r:Bank=>r.ents.length) e;simpa[BankL.bank]using this)) HT.out;subst hnm;have l5:((n_ents:Int) != (n_ents:Int))=false:=by simp
 have hnm:n_enem=m_enem:=Classical.byContradiction fun hnm=>(fun e=>hnm (by rw[← HN_enem.out,← HM_enem.out];have:=congrArg (fun r:Bank=>r.enem.length) e;simpa[BankL.bank]using this)) HT.out;subst hnm;have l6:((n_enem:Int) != (n_enem:Int))=false:=by simp
 have DA3:=Hi ca3;have DB3:=Hi cb3;have DA4:=Hi ca4;have DB4:=Hi cb4;have DA5:=Hi ca5;have DB5:=Hi cb5;have DA6:=Hi ca6;have DB6:=Hi cb6;clear HA_2 HB_2;go_wp2;clear ca3 cb3 ca4 cb4 ca6 cb6 ca5 cb5 l3 l4 l6 l5;go_loopw [5] (fun i wr=>∃ k:Nat,k≤n_outl∧i=.int .i64 k∧Hid (∀ j,j<k→(x.outl)[j]?=(y.outl)[j]?)∧Hid (Ext w2 wr)) (fun i _=>n_outl-(intOf i).toNat)
 case atStart=>exact⟨0,by omega,rfl,Hi (fun j hj=>absurd hj (by omega)),Hi (Ext.refl _)⟩
 case round =>
 obtain⟨k,hk,rfl,HALL,HE⟩:=hrel;have ca:=HE.out.keep DA3.out;have cb:=HE.out.keep DB3.out;by_cases hlt:k<n_outl
 · obtain⟨a,ha⟩:∃ a,x.outl[k]?=some a:=⟨x.outl[k]'(by rw[HN_outl.out];exact hlt),List.getElem?_eq_getElem _⟩;obtain⟨b,hb⟩:∃ a,y.outl[k]?=some a:=⟨y.outl[k]'(by rw[HM_outl.out];exact hlt),List.getElem?_eq_getElem _⟩;obtain⟨b1,o1,rfl,hb1,hc1,hi1⟩:=(S1_outl.out.ext (X_2.out.trans HE.out)).at_ ha;obtain⟨b2,o2,rfl,hb2,hc2,hi2⟩:=(S2_outl.out.ext (X_2.out.trans HE.out)).at_ hb;have ki0:(0:Int)≤(k:Int):=(by omega);have ki1:(k:Int)<(n_outl:Int):=(by omega);have x0:wr.cell? ⟨b1,o1+k*2,none⟩=some (.string (a.1)):=hc1 0 _ rfl;have x1:wr.cell? ⟨b1,o1+k*2+1,none⟩=some (.string (a.2)):=hc1 1 _ rfl;have y0:wr.cell? ⟨b2,o2+k*2,none⟩=some (.string (b.1)):=hc2 0 _ rfl;have y1:wr.cell? ⟨b2,o2+k*2+1,none⟩=some (.string (b.2)):=hc2 1 _ rfl;have HP:=Hi ha;have HQ:=Hi hb;clear ha hb hc1 hc2 hi1 hi2;have h0:a.1=b.1:=Classical.byContradiction fun h0=>(fun e=>ne_at HP.out HQ.out (fun e2=>h0 (by rw[e2])) (congrArg Bank.outl e)) HT.out;have h1:a.2=b.2:=Classical.byContradiction fun h1=>(fun e=>ne_at HP.out HQ.out (fun e2=>h1 (by rw[e2])) (congrArg Bank.outl e)) HT.out;have hab:a=b:=by cases a;cases b;simp only at h0 h1;rw[h0,h1]
   clear h0 h1;have HF:=Hi (all_next HP.out HQ.out hab HALL.out);subst hab;go_wp2;go_quiet (fail)
   go_wp2;go_roundw;case rel=>exact⟨k+1,by omega,by go_num,HF,Hi (HE.out.drewN _)⟩
   case measure=>simp[intOf];omega
 obtain rfl:n_outl=k:=by omega
 have Q3:=Hi (all_eq HN_outl.out HM_outl.out HALL.out);obtain⟨w3,rfl⟩:∃ W,W=wr:=⟨_,rfl⟩;have X_3:=Hi (X_2.out.trans HE.out);have DA4':=Hi (HE.out.keep DA4.out);have DB4':=Hi (HE.out.keep DB4.out);clear DA4 DB4;have DA4:=DA4';have DB4:=DB4';clear DA4' DB4';have DA6':=Hi (HE.out.keep DA6.out);have DB6':=Hi (HE.out.keep DB6.out);clear DA6 DB6;have DA6:=DA6';have DB6:=DB6';clear DA6' DB6';have DA5':=Hi (HE.out.keep DA5.out);have DB5':=Hi (HE.out.keep DB5.out);clear DA5 DB5;have DA5:=DA5';have DB5:=DB5';clear DA5' DB5';clear DA3 DB3 X_2 HE HALL hk hlt;have ca1:=DA4.out;have cb1:=DB4.out;go_wp2;clear ca cb ca1 cb1;go_loopw [6] (fun i wr=>∃ k:Nat,k≤n_assets∧i=.int .i64 k∧Hid (∀ j,j<k→(x.assets)[j]?=(y.assets)[j]?)∧Hid (Ext w3 wr)) (fun i _=>n_assets-(intOf i).toNat)
 case atStart=>exact⟨0,by omega,rfl,Hi (fun j hj=>absurd hj (by omega)),Hi (Ext.refl _)⟩
 case round =>
 obtain⟨k,hk,rfl,HALL,HE⟩:=hrel;have ca:=HE.out.keep DA4.out;have cb:=HE.out.keep DB4.out;by_cases hlt:k<n_assets
 · obtain⟨a,ha⟩:∃ a,x.assets[k]?=some a:=⟨x.assets[k]'(by rw[HN_assets.out];exact hlt),List.getElem?_eq_getElem _⟩;obtain⟨b,hb⟩:∃ a,y.assets[k]?=some a:=⟨y.assets[k]'(by rw[HM_assets.out];exact hlt),List.getElem?_eq_getElem _⟩;obtain⟨b1,o1,rfl,hb1,hc1,hi1⟩:=(S1_assets.out.ext (X_3.out.trans HE.out)).at_ ha;obtain⟨b2,o2,rfl,hb2,hc2,hi2⟩:=(S2_assets.out.ext (X_3.out.trans HE.out)).at_ hb;have ki0:(0:Int)≤(k:Int):=(by omega);have ki1:(k:Int)<(n_assets:Int):=(by omega);have x0:wr.cell? ⟨b1,o1+k*5,none⟩=some (.int .i64 (a.id)):=hc1 0 _ rfl;have x1:wr.cell? ⟨b1,o1+k*5+1,none⟩=some (.int .i64 (a.bytes)):=hc1 1 _ rfl;have x2:wr.cell? ⟨b1,o1+k*5+2,none⟩=some (.string (a.alt)):=hc1 2 _ rfl;have x3:wr.cell? ⟨b1,o1+k*5+3,none⟩=some (.int .i64 (a.frm)):=hc1 3 _ rfl;have x4:wr.cell? ⟨b1,o1+k*5+4,none⟩=some (.int .i64 (a.unt)):=hc1 4 _ rfl;have y0:wr.cell? ⟨b2,o2+k*5,none⟩=some (.int .i64 (b.id)):=hc2 0 _ rfl;have y1:wr.cell? ⟨b2,o2+k*5+1,none⟩=some (.int .i64 (b.bytes)):=hc2 1 _ rfl;have y2:wr.cell? ⟨b2,o2+k*5+2,none⟩=some (.string (b.alt)):=hc2 2 _ rfl;have y3:wr.cell? ⟨b2,o2+k*5+3,none⟩=some (.int .i64 (b.frm)):=hc2 3 _ rfl;have y4:wr.cell? ⟨b2,o2+k*5+4,none⟩=some (.int .i64 (b.unt)):=hc2 4 _ rfl;have HP:=Hi ha;have HQ:=Hi hb;clear ha hb hc1 hc2 hi1 hi2;have h0:a.id=b.id:=Classical.byContradiction fun h0=>(fun e=>ne_at HP.out HQ.out (fun e2=>h0 (by rw[e2])) (congrArg Bank.assets e)) HT.out;have h1:a.bytes=b.bytes:=Classical.byContradiction fun h1=>(fun e=>ne_at HP.out HQ.out (fun e2=>h1 (by rw[e2])) (congrArg Bank.assets e)) HT.out;have h2:a.alt=b.alt:=Classical.byContradiction fun h2=>(fun e=>ne_at HP.out HQ.out (fun e2=>h2 (by rw[e2])) (congrArg Bank.assets e)) HT.out;have h3:a.frm=b.frm:=Classical.byContradiction fun h3=>(fun e=>ne_at HP.out HQ.out (fun e2=>h3 (by rw[e2])) (congrArg Bank.assets e)) HT.out;have h4:a.unt=b.unt:=Classical.byContradiction fun h4=>(fun e=>ne_at HP.out HQ.out (fun e2=>h4 (by rw[e2])) (congrArg Bank.assets e)) HT.out;have hab:a=b:=by cases a;cases b;simp only at h0 h1 h2 h3 h4;rw[h0,h1,h2,h3,h4]
   clear h0 h1 h2 h3 h4;have HF:=Hi (all_next HP.out HQ.out hab HALL.out);subst hab;go_wp2;go_quiet (fail)
   go_wp2;go_roundw;case rel=>exact⟨k+1,by omega,by go_num,HF,Hi (HE.out.drewN _)⟩
   case measure=>simp[intOf];omega
 obtain rfl:n_assets=k:=by omega
 have Q4:=Hi (all_eq HN_assets.out HM_assets.out HALL.out);obtain⟨w4,rfl⟩:∃ W,W=wr:=⟨_,rfl⟩;have X_4:=Hi (X_3.out.trans HE.out);have DA6':=Hi (HE.out.keep DA6.out);have DB6':=Hi (HE.out.keep DB6.out);clear DA6 DB6;have DA6:=DA6';have DB6:=DB6';clear DA6' DB6';have DA5':=Hi (HE.out.keep DA5.out);have DB5':=Hi (HE.out.keep DB5.out);clear DA5 DB5;have DA5:=DA5';have DB5:=DB5';clear DA5' DB5';clear DA4 DB4 X_3 HE HALL hk hlt;have ca1:=DA6.out;have cb1:=DB6.out;go_wp2;clear ca cb ca1 cb1;go_loopw [7] (fun i wr=>∃ k:Nat,k≤n_enem∧i=.int .i64 k∧Hid (∀ j,j<k→(x.enem)[j]?=(y.enem)[j]?)∧Hid (Ext w4 wr)) (fun i _=>n_enem-(intOf i).toNat)
 case atStart=>exact⟨0,by omega,rfl,Hi (fun j hj=>absurd hj (by omega)),Hi (Ext.refl _)⟩
 case round =>
 obtain⟨k,hk,rfl,HALL,HE⟩:=hrel;have ca:=HE.out.keep DA6.out;have cb:=HE.out.keep DB6.out;by_cases hlt:k<n_enem
 · obtain⟨a,ha⟩:∃ a,x.enem[k]?=some a:=⟨x.enem[k]'(by rw[HN_enem.out];exact hlt),List.getElem?_eq_getElem _⟩;obtain⟨b,hb⟩:∃ a,y.enem[k]?=some a:=⟨y.enem[k]'(by rw[HM_enem.out];exact hlt),List.getElem?_eq_getElem _⟩;obtain⟨b1,o1,rfl,hb1,hc1,hi1⟩:=(S1_enem.out.ext (X_4.out.trans HE.out)).at_ ha;obtain⟨b2,o2,rfl,hb2,hc2,hi2⟩:=(S2_enem.out.ext (X_4.out.trans HE.out)).at_ hb;have ki0:(0:Int)≤(k:Int):=(by omega);have ki1:(k:Int)<(n_enem:Int):=(by omega);have x0:wr.cell? ⟨b1,o1+k*2,none⟩=some (.int .i64 (a.1)):=hc1 0 _ rfl;have x1:wr.cell? ⟨b1,o1+k*2+1,none⟩=some (.int .i64 (a.2)):=hc1 1 _ rfl;have y0:wr.cell? ⟨b2,o2+k*2,none⟩=some (.int .i64 (b.1)):=hc2 0 _ rfl;have y1:wr.cell? ⟨b2,o2+k*2+1,none⟩=some (.int .i64 (b.2)):=hc2 1 _ rfl;have HP:=Hi ha;have HQ:=Hi hb;clear ha hb hc1 hc2 hi1 hi2;have h0:a.1=b.1:=Classical.byContradiction fun h0=>(fun e=>ne_at HP.out HQ.out (fun e2=>h0 (by rw[e2])) (congrArg Bank.enem e)) HT.out;have h1:a.2=b.2:=Classical.byContradiction fun h1=>(fun e=>ne_at HP.out HQ.out (fun e2=>h1 (by rw[e2])) (congrArg Bank.enem e)) HT.out;have hab:a=b:=by cases a;cases b;simp only at h0 h1;rw[h0,h1]
   clear h0 h1;have HF:=Hi (all_next HP.out HQ.out hab HALL.out);subst hab;go_wp2;go_quiet (fail)
   go_wp2;go_roundw;case rel=>exact⟨k+1,by omega,by go_num,HF,Hi (HE.out.drewN _)⟩
   case measure=>simp[intOf];omega
 obtain rfl:n_enem=k:=by omega
 have Q6:=Hi (all_eq HN_enem.out HM_enem.out HALL.out);obtain⟨w5,rfl⟩:∃ W,W=wr:=⟨_,rfl⟩;have X_5:=Hi (X_4.out.trans HE.out);have DA5':=Hi (HE.out.keep DA5.out);have DB5':=Hi (HE.out.keep DB5.out);clear DA5 DB5;have DA5:=DA5';have DB5:=DB5';clear DA5' DB5';clear DA6 DB6 X_4 HE HALL hk hlt;have ca1:=DA5.out;have cb1:=DB5.out;go_wp2;clear ca cb ca1 cb1;go_loopw [8] (fun i wr=>∃ k:Nat,k≤n_ents∧i=.int .i64 k∧Hid (∀ j,j<k→(x.ents.map EntL.ent)[j]?=(y.ents.map EntL.ent)[j]?)∧Hid (Ext w5 wr)) (fun i _=>n_ents-(intOf i).toNat)
 case atStart=>exact⟨0,by omega,rfl,Hi (fun j hj=>absurd hj (by omega)),Hi (Ext.refl _)⟩
 case round =>
 obtain⟨k,hk,rfl,HALL,HE⟩:=hrel;have ca:=HE.out.keep DA5.out;have cb:=HE.out.keep DB5.out;by_cases hlt:k<n_ents
 · obtain⟨a,ha⟩:∃ a,x.ents[k]?=some a:=⟨x.ents[k]'(by rw[HN_ents.out];exact hlt),List.getElem?_eq_getElem _⟩;obtain⟨b,hb⟩:∃ a,y.ents[k]?=some a:=⟨y.ents[k]'(by rw[HM_ents.out];exact hlt),List.getElem?_eq_getElem _⟩;obtain⟨b1,o1,rfl,hb1,hc1,hi1⟩:=(S1_ents.out.ext (X_5.out.trans HE.out)).at_ ha;obtain⟨b2,o2,rfl,hb2,hc2,hi2⟩:=(S2_ents.out.ext (X_5.out.trans HE.out)).at_ hb;have ki0:(0:Int)≤(k:Int):=(by omega);have ki1:(k:Int)<(n_ents:Int):=(by omega);obtain⟨C1,hc1a,hn1,-,hk1⟩:=a.packed;obtain⟨C2,hc2a,hn2,-,hk2⟩:=b.packed;have RA:Hid (wr.rangeAt b1 (o1+k*7) C1.toList):=Hi (by rw[← hk1];exact hc1);have RB:Hid (wr.rangeAt b2 (o2+k*7) C2.toList):=Hi (by rw[← hk2];exact hc2);have I1:=Hi (infoEn hn1);have I2:=Hi (infoEn hn2);have CA:=Hi ca;have CB:=Hi cb;have KI:=Hi (And.intro ki0 ki1);have HP:Hid ((x.ents.map EntL.ent)[k]?=some a.ent):=Hi (by rw[List.getElem?_map,ha];rfl);have HQ:Hid ((y.ents.map EntL.ent)[k]?=some b.ent):=Hi (by rw[List.getElem?_map,hb];rfl);have G1:Hid (a.In wr):=Hi hi1;have G2:Hid (b.In wr):=Hi hi2;have KK:=Hi (fun(hv:a.ent=b.ent) (wz:World) (hx:Ext wr wz)=>rsameEntry_any a b (tr hv) wz (G1.out.ext hx) (G2.out.ext hx));rw[hc1a,hc2a]at KK;clear ha hb hc1 hc2 hi1 hi2 hc1a hc2a hn1 hn2 hk1 hk2;have hpq:a.ent=b.ent:=Classical.byContradiction fun hpq=>(fun e=>ne_at HP.out HQ.out hpq (congrArg Bank.ents e)) HT.out
   · have HF:=Hi (all_next HP.out HQ.out hpq HALL.out);have K:=Hi (KK.out hpq);clear hpq;go_wp2_with fail
     refine region_tb (by kernel_rfl) (by decide +kernel) (sbkE w.heap.size k) ⟨rfl,rfl,rfl,rfl⟩ 12 sbkD (fun _=>none) (RG (sbkL w.heap.size k b1 o1 b2 o2 n_ents x.ec y.ec (.agg C1) (.agg C2) true)) wr (Ext.refl _) (fun i h1 h2=>absurd h2 (Nat.not_lt.2 h1)) ?_ ?_
     · intro Tv dd lv U wz i oZ hE ho hlv hd hT;obtain⟨t2,t3,t8,tz⟩:=hE;have hx:=hT.ext;have rX:=RG.ext (l:=sbkL w.heap.size k b1 o1 b2 o2 n_ents x.ec y.ec (.agg C1) (.agg C2) true) (sl_mono _)
       match i,ho,hlv,hd with
       | 0,ho,hlv,hd=>cases oi ho;exact yl1 hT rX ho hd (.pointer (some ⟨w.heap.size,5,none⟩)) (od dd hT tz t2)
       | 1,ho,hlv,hd=>cases oi ho;exact yk1 hT rX ho hd (.slice (some ⟨b1,o1,none⟩) n_ents x.ec) (nw dd hT hd tz 0 129 (.pointer (some ⟨w.heap.size,5,none⟩))) (hx.keep CA.out)
       | 2,ho,hlv,hd=>cases oi ho;exact yl1 hT rX ho hd (.int .i64 (k:Int)) (od dd hT tz t8)
       | 3,ho,hlv,hd=>cases oi ho;exact yk2 hT rX ho hd (.pointer (some ⟨b1,o1+k*7,none⟩)) (nw dd hT hd tz 1 130 (.slice (some ⟨b1,o1,none⟩) n_ents x.ec)) (nw dd hT hd tz 2 131 (.int .i64 (k:Int))) KI.out
       | 4,ho,hlv,hd=>cases oi ho;have v0:=nw dd hT hd tz 3 132 (.pointer (some ⟨b1,o1+k*7,none⟩));exact yxe hT rX ho hd (.agg C1) (exec_load_arr _ _ rfl b1 (o1+k*7) v0 C1 _ (hx.range RA.out) Tryz.underlying56 rfl I1.out)
       | 5,ho,hlv,hd=>cases oi ho;exact yl1 hT rX ho hd (.pointer (some ⟨w.heap.size+1,5,none⟩)) (od dd hT tz t3)
       | 6,ho,hlv,hd=>cases oi ho;exact yk1 hT rX ho hd (.slice (some ⟨b2,o2,none⟩) n_ents y.ec) (nw dd hT hd tz 5 134 (.pointer (some ⟨w.heap.size+1,5,none⟩))) (hx.keep CB.out)
       | 7,ho,hlv,hd=>cases oi ho;exact yl1 hT rX ho hd (.int .i64 (k:Int)) (od dd hT tz t8)
       | 8,ho,hlv,hd=>cases oi ho;exact yk2 hT rX ho hd (.pointer (some ⟨b2,o2+k*7,none⟩)) (nw dd hT hd tz 6 135 (.slice (some ⟨b2,o2,none⟩) n_ents y.ec)) (nw dd hT hd tz 7 136 (.int .i64 (k:Int))) KI.out
       | 9,ho,hlv,hd=>cases oi ho;have v0:=nw dd hT hd tz 8 137 (.pointer (some ⟨b2,o2+k*7,none⟩));exact yxe hT rX ho hd (.agg C2) (exec_load_arr _ _ rfl b2 (o2+k*7) v0 C2 _ (hx.range RB.out) Tryz.underlying56 rfl I2.out)
       | 10,ho,hlv,hd=>cases oi ho;have v0:=nw dd hT hd tz 4 133 (.agg C1);have v1:=nw dd hT hd tz 9 138 (.agg C2);refine cl hT rX ho hd (f:=23) (args:=#[.agg C1,.agg C2]) (exec_call2 rfl rfl v0 v1 EN.out) ?_;refine(K.out wz hx).mono ?_;rintro e w' ⟨rfl,hb⟩;exact⟨_,rfl,hb,rfl⟩
       | 11,ho,hlv,hd=>cases oi ho;exact yl1 hT rX ho hd (.bool (!true)) (nw dd hT hd tz 10 139 (.bool true))
       | i+12,ho,_,_=>exact absurd ho (by simp)
     intro U wz hex hout hfin;have f140:U 140=some (.bool (!true)):=hfin 11 (by decide) rfl;have XE:=Hi hex;clear hex hfin;rw[over_list];simp(disch:=decide) only[overL,Nat.reduceAdd,hout,Option.getD_none];rw[f140];simp only[Option.getD_some];clear hout f140;go_wp2;go_roundw;case rel=>exact⟨k+1,by omega,by go_num,HF,Hi (HE.out.trans XE.out)⟩
     case measure=>simp[intOf];omega
 obtain rfl:n_ents=k:=by omega
 have HF:=Hi (yes_eq HV.out (by have h5:=all_eq (n:=n_ents) (by rw[List.length_map];exact HN_ents.out) (by rw[List.length_map];exact HM_ents.out) HALL.out;show(⟨x.now,x.gp.xs,x.gq.xs,x.outl,x.assets,x.ents.map EntL.ent,x.enem⟩:Bank)=⟨y.now,y.gp.xs,y.gq.xs,y.outl,y.assets,y.ents.map EntL.ent,y.enem⟩;rw[Q0.out,Q1.out,Q2.out,Q3.out,Q4.out,h5,Q6.out]))
 go_wp2;go_ret;exact⟨ret_bool HF.out.symm,X_5.out.trans HE.out⟩
end Bk
end Go.Proofs.YtfnmgcblhebdbaaGreatDoor
