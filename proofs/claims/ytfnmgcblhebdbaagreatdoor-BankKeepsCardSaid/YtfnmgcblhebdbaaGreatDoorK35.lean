/- item.Diff: a contract. Conditions: those of each theorem (the package's variable fields holds the names). -/
import Derived.Test.YtfnmgcblhebdbaaGreatDoorK17
import Derived.Test.YtfnmgcblhebdbaaGreatDoorK13
namespace Go.Proofs.YtfnmgcblhebdbaaGreatDoor
open Go.RowKit Go.Shelf

theorem setRow_at{w:World}{g:Nat}{cs cs':Array Value}{t:TypeId}(h:w.heap[g]?=some (.cells cs t (0,0))):(w.setRow g cs').heap[g]?=some (.cells cs' t (0,0)):=by
 simp[World.setRow,Array.getElem?_modify,h]
theorem Ext.setRow{a b:World}(h:Ext a b){g:Nat}(hg:a.heap.size≤g)(cs:Array Value):Ext a (b.setRow g cs):=h.rowSet hg cs
def fldNames:List ByteArray:=[⟨#[73,100]⟩,⟨#[86,101,114,115,105,111,110]⟩,⟨#[75,105,110,100]⟩,⟨#[83,116,101,109]⟩,⟨#[79,112,116,105,111,110,115]⟩,⟨#[67,104,111,105,99,101,115]⟩,⟨#[86,97,108,117,101]⟩,⟨#[84,111,108]⟩,⟨#[84,101,120,116,115]⟩,⟨#[80,111,105,110,116,115]⟩,⟨#[67,111,110,116,101,110,116]⟩,⟨#[70,97,109,105,108,121]⟩,⟨#[83,101,116]⟩,⟨#[87,111,114,100,115]⟩,⟨#[83,101,99,111,110,100,115]⟩,⟨#[65,115,115,101,116,115]⟩,⟨#[82,117,98,114,105,99]⟩]
def Fld (w:World):Prop:=∀ i s,fldNames[i]?=some s→w.cell? ⟨0,i,none⟩=some (.string s)
theorem Fld.ext{w w':World}(h:Fld w)(he:Ext w w'):Fld w':=fun i s hi=>he.keep (h i s hi)
theorem fld_ix0:∀ w,(Instr.index 171 (.agg #[.string ⟨#[73,100]⟩,.string ⟨#[86,101,114,115,105,111,110]⟩,.string ⟨#[75,105,110,100]⟩,.string ⟨#[83,116,101,109]⟩,.string ⟨#[79,112,116,105,111,110,115]⟩,.string ⟨#[67,104,111,105,99,101,115]⟩,.string ⟨#[86,97,108,117,101]⟩,.string ⟨#[84,111,108]⟩,.string ⟨#[84,101,120,116,115]⟩,.string ⟨#[80,111,105,110,116,115]⟩,.string ⟨#[67,111,110,116,101,110,116]⟩,.string ⟨#[70,97,109,105,108,121]⟩,.string ⟨#[83,101,116]⟩,.string ⟨#[87,111,114,100,115]⟩,.string ⟨#[83,101,99,111,110,100,115]⟩,.string ⟨#[65,115,115,101,116,115]⟩,.string ⟨#[82,117,98,114,105,99]⟩]) (.int .i64 0)).run Tryz.prog w=.ok (.string ⟨#[73,100]⟩) w:=fun _=>by kernel_rfl
theorem fld_ix1:∀ w,(Instr.index 171 (.agg #[.string ⟨#[73,100]⟩,.string ⟨#[86,101,114,115,105,111,110]⟩,.string ⟨#[75,105,110,100]⟩,.string ⟨#[83,116,101,109]⟩,.string ⟨#[79,112,116,105,111,110,115]⟩,.string ⟨#[67,104,111,105,99,101,115]⟩,.string ⟨#[86,97,108,117,101]⟩,.string ⟨#[84,111,108]⟩,.string ⟨#[84,101,120,116,115]⟩,.string ⟨#[80,111,105,110,116,115]⟩,.string ⟨#[67,111,110,116,101,110,116]⟩,.string ⟨#[70,97,109,105,108,121]⟩,.string ⟨#[83,101,116]⟩,.string ⟨#[87,111,114,100,115]⟩,.string ⟨#[83,101,99,111,110,100,115]⟩,.string ⟨#[65,115,115,101,116,115]⟩,.string ⟨#[82,117,98,114,105,99]⟩]) (.int .i64 1)).run Tryz.prog w=.ok (.string ⟨#[86,101,114,115,105,111,110]⟩) w:=fun _=>by kernel_rfl
theorem fld_ix2:∀ w,(Instr.index 171 (.agg #[.string ⟨#[73,100]⟩,.string ⟨#[86,101,114,115,105,111,110]⟩,.string ⟨#[75,105,110,100]⟩,.string ⟨#[83,116,101,109]⟩,.string ⟨#[79,112,116,105,111,110,115]⟩,.string ⟨#[67,104,111,105,99,101,115]⟩,.string ⟨#[86,97,108,117,101]⟩,.string ⟨#[84,111,108]⟩,.string ⟨#[84,101,120,116,115]⟩,.string ⟨#[80,111,105,110,116,115]⟩,.string ⟨#[67,111,110,116,101,110,116]⟩,.string ⟨#[70,97,109,105,108,121]⟩,.string ⟨#[83,101,116]⟩,.string ⟨#[87,111,114,100,115]⟩,.string ⟨#[83,101,99,111,110,100,115]⟩,.string ⟨#[65,115,115,101,116,115]⟩,.string ⟨#[82,117,98,114,105,99]⟩]) (.int .i64 2)).run Tryz.prog w=.ok (.string ⟨#[75,105,110,100]⟩) w:=fun _=>by kernel_rfl
theorem fld_ix3:∀ w,(Instr.index 171 (.agg #[.string ⟨#[73,100]⟩,.string ⟨#[86,101,114,115,105,111,110]⟩,.string ⟨#[75,105,110,100]⟩,.string ⟨#[83,116,101,109]⟩,.string ⟨#[79,112,116,105,111,110,115]⟩,.string ⟨#[67,104,111,105,99,101,115]⟩,.string ⟨#[86,97,108,117,101]⟩,.string ⟨#[84,111,108]⟩,.string ⟨#[84,101,120,116,115]⟩,.string ⟨#[80,111,105,110,116,115]⟩,.string ⟨#[67,111,110,116,101,110,116]⟩,.string ⟨#[70,97,109,105,108,121]⟩,.string ⟨#[83,101,116]⟩,.string ⟨#[87,111,114,100,115]⟩,.string ⟨#[83,101,99,111,110,100,115]⟩,.string ⟨#[65,115,115,101,116,115]⟩,.string ⟨#[82,117,98,114,105,99]⟩]) (.int .i64 3)).run Tryz.prog w=.ok (.string ⟨#[83,116,101,109]⟩) w:=fun _=>by kernel_rfl
theorem fld_ix4:∀ w,(Instr.index 171 (.agg #[.string ⟨#[73,100]⟩,.string ⟨#[86,101,114,115,105,111,110]⟩,.string ⟨#[75,105,110,100]⟩,.string ⟨#[83,116,101,109]⟩,.string ⟨#[79,112,116,105,111,110,115]⟩,.string ⟨#[67,104,111,105,99,101,115]⟩,.string ⟨#[86,97,108,117,101]⟩,.string ⟨#[84,111,108]⟩,.string ⟨#[84,101,120,116,115]⟩,.string ⟨#[80,111,105,110,116,115]⟩,.string ⟨#[67,111,110,116,101,110,116]⟩,.string ⟨#[70,97,109,105,108,121]⟩,.string ⟨#[83,101,116]⟩,.string ⟨#[87,111,114,100,115]⟩,.string ⟨#[83,101,99,111,110,100,115]⟩,.string ⟨#[65,115,115,101,116,115]⟩,.string ⟨#[82,117,98,114,105,99]⟩]) (.int .i64 4)).run Tryz.prog w=.ok (.string ⟨#[79,112,116,105,111,110,115]⟩) w:=fun _=>by kernel_rfl
theorem fld_ix5:∀ w,(Instr.index 171 (.agg #[.string ⟨#[73,100]⟩,.string ⟨#[86,101,114,115,105,111,110]⟩,.string ⟨#[75,105,110,100]⟩,.string ⟨#[83,116,101,109]⟩,.string ⟨#[79,112,116,105,111,110,115]⟩,.string ⟨#[67,104,111,105,99,101,115]⟩,.string ⟨#[86,97,108,117,101]⟩,.string ⟨#[84,111,108]⟩,.string ⟨#[84,101,120,116,115]⟩,.string ⟨#[80,111,105,110,116,115]⟩,.string ⟨#[67,111,110,116,101,110,116]⟩,.string ⟨#[70,97,109,105,108,121]⟩,.string ⟨#[83,101,116]⟩,.string ⟨#[87,111,114,100,115]⟩,.string ⟨#[83,101,99,111,110,100,115]⟩,.string ⟨#[65,115,115,101,116,115]⟩,.string ⟨#[82,117,98,114,105,99]⟩]) (.int .i64 5)).run Tryz.prog w=.ok (.string ⟨#[67,104,111,105,99,101,115]⟩) w:=fun _=>by kernel_rfl
theorem fld_ix6:∀ w,(Instr.index 171 (.agg #[.string ⟨#[73,100]⟩,.string ⟨#[86,101,114,115,105,111,110]⟩,.string ⟨#[75,105,110,100]⟩,.string ⟨#[83,116,101,109]⟩,.string ⟨#[79,112,116,105,111,110,115]⟩,.string ⟨#[67,104,111,105,99,101,115]⟩,.string ⟨#[86,97,108,117,101]⟩,.string ⟨#[84,111,108]⟩,.string ⟨#[84,101,120,116,115]⟩,.string ⟨#[80,111,105,110,116,115]⟩,.string ⟨#[67,111,110,116,101,110,116]⟩,.string ⟨#[70,97,109,105,108,121]⟩,.string ⟨#[83,101,116]⟩,.string ⟨#[87,111,114,100,115]⟩,.string ⟨#[83,101,99,111,110,100,115]⟩,.string ⟨#[65,115,115,101,116,115]⟩,.string ⟨#[82,117,98,114,105,99]⟩]) (.int .i64 6)).run Tryz.prog w=.ok (.string ⟨#[86,97,108,117,101]⟩) w:=fun _=>by kernel_rfl
theorem fld_ix7:∀ w,(Instr.index 171 (.agg #[.string ⟨#[73,100]⟩,.string ⟨#[86,101,114,115,105,111,110]⟩,.string ⟨#[75,105,110,100]⟩,.string ⟨#[83,116,101,109]⟩,.string ⟨#[79,112,116,105,111,110,115]⟩,.string ⟨#[67,104,111,105,99,101,115]⟩,.string ⟨#[86,97,108,117,101]⟩,.string ⟨#[84,111,108]⟩,.string ⟨#[84,101,120,116,115]⟩,.string ⟨#[80,111,105,110,116,115]⟩,.string ⟨#[67,111,110,116,101,110,116]⟩,.string ⟨#[70,97,109,105,108,121]⟩,.string ⟨#[83,101,116]⟩,.string ⟨#[87,111,114,100,115]⟩,.string ⟨#[83,101,99,111,110,100,115]⟩,.string ⟨#[65,115,115,101,116,115]⟩,.string ⟨#[82,117,98,114,105,99]⟩]) (.int .i64 7)).run Tryz.prog w=.ok (.string ⟨#[84,111,108]⟩) w:=fun _=>by kernel_rfl
theorem fld_ix8:∀ w,(Instr.index 171 (.agg #[.string ⟨#[73,100]⟩,.string ⟨#[86,101,114,115,105,111,110]⟩,.string ⟨#[75,105,110,100]⟩,.string ⟨#[83,116,101,109]⟩,.string ⟨#[79,112,116,105,111,110,115]⟩,.string ⟨#[67,104,111,105,99,101,115]⟩,.string ⟨#[86,97,108,117,101]⟩,.string ⟨#[84,111,108]⟩,.string ⟨#[84,101,120,116,115]⟩,.string ⟨#[80,111,105,110,116,115]⟩,.string ⟨#[67,111,110,116,101,110,116]⟩,.string ⟨#[70,97,109,105,108,121]⟩,.string ⟨#[83,101,116]⟩,.string ⟨#[87,111,114,100,115]⟩,.string ⟨#[83,101,99,111,110,100,115]⟩,.string ⟨#[65,115,115,101,116,115]⟩,.string ⟨#[82,117,98,114,105,99]⟩]) (.int .i64 8)).run Tryz.prog w=.ok (.string ⟨#[84,101,120,116,115]⟩) w:=fun _=>by kernel_rfl
theorem fld_ix9:∀ w,(Instr.index 171 (.agg #[.string ⟨#[73,100]⟩,.string ⟨#[86,101,114,115,105,111,110]⟩,.string ⟨#[75,105,110,100]⟩,.string ⟨#[83,116,101,109]⟩,.string ⟨#[79,112,116,105,111,110,115]⟩,.string ⟨#[67,104,111,105,99,101,115]⟩,.string ⟨#[86,97,108,117,101]⟩,.string ⟨#[84,111,108]⟩,.string ⟨#[84,101,120,116,115]⟩,.string ⟨#[80,111,105,110,116,115]⟩,.string ⟨#[67,111,110,116,101,110,116]⟩,.string ⟨#[70,97,109,105,108,121]⟩,.string ⟨#[83,101,116]⟩,.string ⟨#[87,111,114,100,115]⟩,.string ⟨#[83,101,99,111,110,100,115]⟩,.string ⟨#[65,115,115,101,116,115]⟩,.string ⟨#[82,117,98,114,105,99]⟩]) (.int .i64 9)).run Tryz.prog w=.ok (.string ⟨#[80,111,105,110,116,115]⟩) w:=fun _=>by kernel_rfl
theorem fld_ix10:∀ w,(Instr.index 171 (.agg #[.string ⟨#[73,100]⟩,.string ⟨#[86,101,114,115,105,111,110]⟩,.string ⟨#[75,105,110,100]⟩,.string ⟨#[83,116,101,109]⟩,.string ⟨#[79,112,116,105,111,110,115]⟩,.string ⟨#[67,104,111,105,99,101,115]⟩,.string ⟨#[86,97,108,117,101]⟩,.string ⟨#[84,111,108]⟩,.string ⟨#[84,101,120,116,115]⟩,.string ⟨#[80,111,105,110,116,115]⟩,.string ⟨#[67,111,110,116,101,110,116]⟩,.string ⟨#[70,97,109,105,108,121]⟩,.string ⟨#[83,101,116]⟩,.string ⟨#[87,111,114,100,115]⟩,.string ⟨#[83,101,99,111,110,100,115]⟩,.string ⟨#[65,115,115,101,116,115]⟩,.string ⟨#[82,117,98,114,105,99]⟩]) (.int .i64 10)).run Tryz.prog w=.ok (.string ⟨#[67,111,110,116,101,110,116]⟩) w:=fun _=>by kernel_rfl
theorem fld_ix11:∀ w,(Instr.index 171 (.agg #[.string ⟨#[73,100]⟩,.string ⟨#[86,101,114,115,105,111,110]⟩,.string ⟨#[75,105,110,100]⟩,.string ⟨#[83,116,101,109]⟩,.string ⟨#[79,112,116,105,111,110,115]⟩,.string ⟨#[67,104,111,105,99,101,115]⟩,.string ⟨#[86,97,108,117,101]⟩,.string ⟨#[84,111,108]⟩,.string ⟨#[84,101,120,116,115]⟩,.string ⟨#[80,111,105,110,116,115]⟩,.string ⟨#[67,111,110,116,101,110,116]⟩,.string ⟨#[70,97,109,105,108,121]⟩,.string ⟨#[83,101,116]⟩,.string ⟨#[87,111,114,100,115]⟩,.string ⟨#[83,101,99,111,110,100,115]⟩,.string ⟨#[65,115,115,101,116,115]⟩,.string ⟨#[82,117,98,114,105,99]⟩]) (.int .i64 11)).run Tryz.prog w=.ok (.string ⟨#[70,97,109,105,108,121]⟩) w:=fun _=>by kernel_rfl
theorem fld_ix12:∀ w,(Instr.index 171 (.agg #[.string ⟨#[73,100]⟩,.string ⟨#[86,101,114,115,105,111,110]⟩,.string ⟨#[75,105,110,100]⟩,.string ⟨#[83,116,101,109]⟩,.string ⟨#[79,112,116,105,111,110,115]⟩,.string ⟨#[67,104,111,105,99,101,115]⟩,.string ⟨#[86,97,108,117,101]⟩,.string ⟨#[84,111,108]⟩,.string ⟨#[84,101,120,116,115]⟩,.string ⟨#[80,111,105,110,116,115]⟩,.string ⟨#[67,111,110,116,101,110,116]⟩,.string ⟨#[70,97,109,105,108,121]⟩,.string ⟨#[83,101,116]⟩,.string ⟨#[87,111,114,100,115]⟩,.string ⟨#[83,101,99,111,110,100,115]⟩,.string ⟨#[65,115,115,101,116,115]⟩,.string ⟨#[82,117,98,114,105,99]⟩]) (.int .i64 12)).run Tryz.prog w=.ok (.string ⟨#[83,101,116]⟩) w:=fun _=>by kernel_rfl
theorem fld_ix13:∀ w,(Instr.index 171 (.agg #[.string ⟨#[73,100]⟩,.string ⟨#[86,101,114,115,105,111,110]⟩,.string ⟨#[75,105,110,100]⟩,.string ⟨#[83,116,101,109]⟩,.string ⟨#[79,112,116,105,111,110,115]⟩,.string ⟨#[67,104,111,105,99,101,115]⟩,.string ⟨#[86,97,108,117,101]⟩,.string ⟨#[84,111,108]⟩,.string ⟨#[84,101,120,116,115]⟩,.string ⟨#[80,111,105,110,116,115]⟩,.string ⟨#[67,111,110,116,101,110,116]⟩,.string ⟨#[70,97,109,105,108,121]⟩,.string ⟨#[83,101,116]⟩,.string ⟨#[87,111,114,100,115]⟩,.string ⟨#[83,101,99,111,110,100,115]⟩,.string ⟨#[65,115,115,101,116,115]⟩,.string ⟨#[82,117,98,114,105,99]⟩]) (.int .i64 13)).run Tryz.prog w=.ok (.string ⟨#[87,111,114,100,115]⟩) w:=fun _=>by kernel_rfl
theorem fld_ix14:∀ w,(Instr.index 171 (.agg #[.string ⟨#[73,100]⟩,.string ⟨#[86,101,114,115,105,111,110]⟩,.string ⟨#[75,105,110,100]⟩,.string ⟨#[83,116,101,109]⟩,.string ⟨#[79,112,116,105,111,110,115]⟩,.string ⟨#[67,104,111,105,99,101,115]⟩,.string ⟨#[86,97,108,117,101]⟩,.string ⟨#[84,111,108]⟩,.string ⟨#[84,101,120,116,115]⟩,.string ⟨#[80,111,105,110,116,115]⟩,.string ⟨#[67,111,110,116,101,110,116]⟩,.string ⟨#[70,97,109,105,108,121]⟩,.string ⟨#[83,101,116]⟩,.string ⟨#[87,111,114,100,115]⟩,.string ⟨#[83,101,99,111,110,100,115]⟩,.string ⟨#[65,115,115,101,116,115]⟩,.string ⟨#[82,117,98,114,105,99]⟩]) (.int .i64 14)).run Tryz.prog w=.ok (.string ⟨#[83,101,99,111,110,100,115]⟩) w:=fun _=>by kernel_rfl
theorem fld_ix15:∀ w,(Instr.index 171 (.agg #[.string ⟨#[73,100]⟩,.string ⟨#[86,101,114,115,105,111,110]⟩,.string ⟨#[75,105,110,100]⟩,.string ⟨#[83,116,101,109]⟩,.string ⟨#[79,112,116,105,111,110,115]⟩,.string ⟨#[67,104,111,105,99,101,115]⟩,.string ⟨#[86,97,108,117,101]⟩,.string ⟨#[84,111,108]⟩,.string ⟨#[84,101,120,116,115]⟩,.string ⟨#[80,111,105,110,116,115]⟩,.string ⟨#[67,111,110,116,101,110,116]⟩,.string ⟨#[70,97,109,105,108,121]⟩,.string ⟨#[83,101,116]⟩,.string ⟨#[87,111,114,100,115]⟩,.string ⟨#[83,101,99,111,110,100,115]⟩,.string ⟨#[65,115,115,101,116,115]⟩,.string ⟨#[82,117,98,114,105,99]⟩]) (.int .i64 15)).run Tryz.prog w=.ok (.string ⟨#[65,115,115,101,116,115]⟩) w:=fun _=>by kernel_rfl
theorem fld_ix16:∀ w,(Instr.index 171 (.agg #[.string ⟨#[73,100]⟩,.string ⟨#[86,101,114,115,105,111,110]⟩,.string ⟨#[75,105,110,100]⟩,.string ⟨#[83,116,101,109]⟩,.string ⟨#[79,112,116,105,111,110,115]⟩,.string ⟨#[67,104,111,105,99,101,115]⟩,.string ⟨#[86,97,108,117,101]⟩,.string ⟨#[84,111,108]⟩,.string ⟨#[84,101,120,116,115]⟩,.string ⟨#[80,111,105,110,116,115]⟩,.string ⟨#[67,111,110,116,101,110,116]⟩,.string ⟨#[70,97,109,105,108,121]⟩,.string ⟨#[83,101,116]⟩,.string ⟨#[87,111,114,100,115]⟩,.string ⟨#[83,101,99,111,110,100,115]⟩,.string ⟨#[65,115,115,101,116,115]⟩,.string ⟨#[82,117,98,114,105,99]⟩]) (.int .i64 16)).run Tryz.prog w=.ok (.string ⟨#[82,117,98,114,105,99]⟩) w:=fun _=>by kernel_rfl
theorem fld_index(k:Nat)(hk:k<17){s:ByteArray}(hs:fldNames[k]?=some s):∀ w,(Instr.index 171 (.agg #[.string ⟨#[73,100]⟩,.string ⟨#[86,101,114,115,105,111,110]⟩,.string ⟨#[75,105,110,100]⟩,.string ⟨#[83,116,101,109]⟩,.string ⟨#[79,112,116,105,111,110,115]⟩,.string ⟨#[67,104,111,105,99,101,115]⟩,.string ⟨#[86,97,108,117,101]⟩,.string ⟨#[84,111,108]⟩,.string ⟨#[84,101,120,116,115]⟩,.string ⟨#[80,111,105,110,116,115]⟩,.string ⟨#[67,111,110,116,101,110,116]⟩,.string ⟨#[70,97,109,105,108,121]⟩,.string ⟨#[83,101,116]⟩,.string ⟨#[87,111,114,100,115]⟩,.string ⟨#[83,101,99,111,110,100,115]⟩,.string ⟨#[65,115,115,101,116,115]⟩,.string ⟨#[82,117,98,114,105,99]⟩]) (.int .i64 (k:Int))).run Tryz.prog w=.ok (.string s) w:=by
 match k,hk,hs with
 | 0,_,hs=>obtain rfl:=Option.some.inj hs;exact fld_ix0
 | 1,_,hs=>obtain rfl:=Option.some.inj hs;exact fld_ix1
 | 2,_,hs=>obtain rfl:=Option.some.inj hs;exact fld_ix2
 | 3,_,hs=>obtain rfl:=Option.some.inj hs;exact fld_ix3
 | 4,_,hs=>obtain rfl:=Option.some.inj hs;exact fld_ix4
 | 5,_,hs=>obtain rfl:=Option.some.inj hs;exact fld_ix5
 | 6,_,hs=>obtain rfl:=Option.some.inj hs;exact fld_ix6
 | 7,_,hs=>obtain rfl:=Option.some.inj hs;exact fld_ix7
 | 8,_,hs=>obtain rfl:=Option.some.inj hs;exact fld_ix8
 | 9,_,hs=>obtain rfl:=Option.some.inj hs;exact fld_ix9
 | 10,_,hs=>obtain rfl:=Option.some.inj hs;exact fld_ix10
 | 11,_,hs=>obtain rfl:=Option.some.inj hs;exact fld_ix11
 | 12,_,hs=>obtain rfl:=Option.some.inj hs;exact fld_ix12
 | 13,_,hs=>obtain rfl:=Option.some.inj hs;exact fld_ix13
 | 14,_,hs=>obtain rfl:=Option.some.inj hs;exact fld_ix14
 | 15,_,hs=>obtain rfl:=Option.some.inj hs;exact fld_ix15
 | 16,_,hs=>obtain rfl:=Option.some.inj hs;exact fld_ix16
 | i+17,hk,_=>exact absurd hk (by omega)
namespace It
def sames (a b:Item):List Bool:=[a.id == b.id,a.ver == b.ver,a.kind == b.kind,It.eqB a.stem b.stem,It.eqS a.opts b.opts,It.eqI a.chs b.chs,a.value == b.value,a.tol == b.tol,It.eqS a.texts b.texts,a.pts == b.pts,It.eqB a.cont b.cont,a.fam == b.fam,a.set_ == b.set_,a.wrd == b.wrd,a.sec == b.sec,It.eqI a.assets b.assets,a.rub == b.rub]
theorem pairs_at(a b:Item){k:Nat}(hk:k<17):∃ q s,(sames a b)[k]?=some q∧fldNames[k]?=some s∧(pairs a b)[k]?=some (!q,s):=by
 match k,hk with
 | 0,_=>exact⟨_,_,rfl,rfl,rfl⟩
 | 1,_=>exact⟨_,_,rfl,rfl,rfl⟩
 | 2,_=>exact⟨_,_,rfl,rfl,rfl⟩
 | 3,_=>exact⟨_,_,rfl,rfl,rfl⟩
 | 4,_=>exact⟨_,_,rfl,rfl,rfl⟩
 | 5,_=>exact⟨_,_,rfl,rfl,rfl⟩
 | 6,_=>exact⟨_,_,rfl,rfl,rfl⟩
 | 7,_=>exact⟨_,_,rfl,rfl,rfl⟩
 | 8,_=>exact⟨_,_,rfl,rfl,rfl⟩
 | 9,_=>exact⟨_,_,rfl,rfl,rfl⟩
 | 10,_=>exact⟨_,_,rfl,rfl,rfl⟩
 | 11,_=>exact⟨_,_,rfl,rfl,rfl⟩
 | 12,_=>exact⟨_,_,rfl,rfl,rfl⟩
 | 13,_=>exact⟨_,_,rfl,rfl,rfl⟩
 | 14,_=>exact⟨_,_,rfl,rfl,rfl⟩
 | 15,_=>exact⟨_,_,rfl,rfl,rfl⟩
 | 16,_=>exact⟨_,_,rfl,rfl,rfl⟩
 | i+17,hk=>exact absurd hk (by omega)
end It
def dfV (g:Nat)(a b:It.Item)(La Lb:It.Loc)(q0 q1 q2 q3 q4 q5 q6 q7 q8 q9 q10 q11 q12 q13 q14 q15 q16:Bool):List Value:=[.pointer (some ⟨g,0,none⟩),
 .int .i64 a.id,
 .pointer (some ⟨g+1,0,none⟩),
 .int .i64 b.id,
 .bool q0,
 .pointer (some ⟨g,1,none⟩),
 .int .i64 a.ver,
 .pointer (some ⟨g+1,1,none⟩),
 .int .i64 b.ver,
 .bool q1,
 .pointer (some ⟨g,2,none⟩),
 .int .i64 a.kind,
 .pointer (some ⟨g+1,2,none⟩),
 .int .i64 b.kind,
 .bool q2,
 .pointer (some ⟨g,3,none⟩),
 .string a.stem,
 .pointer (some ⟨g+1,3,none⟩),
 .string b.stem,
 .bool q3,
 .pointer (some ⟨g,4,none⟩),
 .slice La.oA a.opts.length La.oc,
 .pointer (some ⟨g+1,4,none⟩),
 .slice Lb.oA b.opts.length Lb.oc,
 .bool q4,
 .pointer (some ⟨g,5,none⟩),
 .slice La.cA a.chs.length La.cc,
 .pointer (some ⟨g+1,5,none⟩),
 .slice Lb.cA b.chs.length Lb.cc,
 .bool q5,
 .pointer (some ⟨g,6,none⟩),
 .int .i64 a.value,
 .pointer (some ⟨g+1,6,none⟩),
 .int .i64 b.value,
 .bool q6,
 .pointer (some ⟨g,7,none⟩),
 .int .i64 a.tol,
 .pointer (some ⟨g+1,7,none⟩),
 .int .i64 b.tol,
 .bool q7,
 .pointer (some ⟨g,8,none⟩),
 .slice La.tA a.texts.length La.tc,
 .pointer (some ⟨g+1,8,none⟩),
 .slice Lb.tA b.texts.length Lb.tc,
 .bool q8,
 .pointer (some ⟨g,9,none⟩),
 .int .i64 a.pts,
 .pointer (some ⟨g+1,9,none⟩),
 .int .i64 b.pts,
 .bool q9,
 .pointer (some ⟨g,10,none⟩),
 .string a.cont,
 .pointer (some ⟨g+1,10,none⟩),
 .string b.cont,
 .bool q10,
 .pointer (some ⟨g,11,none⟩),
 .int .i64 a.fam,
 .pointer (some ⟨g+1,11,none⟩),
 .int .i64 b.fam,
 .bool q11,
 .pointer (some ⟨g,12,none⟩),
 .int .i64 a.set_,
 .pointer (some ⟨g+1,12,none⟩),
 .int .i64 b.set_,
 .bool q12,
 .pointer (some ⟨g,13,none⟩),
 .int .i64 a.wrd,
 .pointer (some ⟨g+1,13,none⟩),
 .int .i64 b.wrd,
 .bool q13,
 .pointer (some ⟨g,14,none⟩),
 .int .i64 a.sec,
 .pointer (some ⟨g+1,14,none⟩),
 .int .i64 b.sec,
 .bool q14,
 .pointer (some ⟨g,15,none⟩),
 .slice La.sA a.assets.length La.sc,
 .pointer (some ⟨g+1,15,none⟩),
 .slice Lb.sA b.assets.length Lb.sc,
 .bool q15,
 .pointer (some ⟨g,16,none⟩),
 .int .i64 a.rub,
 .pointer (some ⟨g+1,16,none⟩),
 .int .i64 b.rub,
 .bool q16,
 .agg #[.bool q0,.bool q1,.bool q2,.bool q3,.bool q4,.bool q5,.bool q6,.bool q7,.bool q8,.bool q9,.bool q10,.bool q11,.bool q12,.bool q13,.bool q14,.bool q15,.bool q16]]
def dfR (g:Nat)(a b:It.Item)(La Lb:It.Loc)(q0 q1 q2 q3 q4 q5 q6 q7 q8 q9 q10 q11 q12 q13 q14 q15 q16:Bool)(j:Nat)(u:Option Value)(w:World):Prop :=
 if j=87 then(∃ q:Nat,u=some (.pointer (some ⟨q,0,none⟩))∧g+2≤q∧w.heap[q]?=some (.cells #[.bool q0,.bool q1,.bool q2,.bool q3,.bool q4,.bool q5,.bool q6,.bool q7,.bool q8,.bool q9,.bool q10,.bool q11,.bool q12,.bool q13,.bool q14,.bool q15,.bool q16] 170 (0,0)))
 else if j=86 then(∃ q:Nat,u=some (.pointer (some ⟨q,0,none⟩))∧g+2≤q∧∃ cs:Array Value,cs.size=17∧w.heap[q]?=some (.cells cs 170 (0,0)))
 else u=some ((dfV g a b La Lb q0 q1 q2 q3 q4 q5 q6 q7 q8 q9 q10 q11 q12 q13 q14 q15 q16).getD j undef)
theorem dfR_ext(g:Nat)(a b:It.Item)(La Lb:It.Loc)(q0 q1 q2 q3 q4 q5 q6 q7 q8 q9 q10 q11 q12 q13 q14 q15 q16:Bool)(j:Nat)(u:Option Value)(w w':World)(he:Ext w w')(h:dfR g a b La Lb q0 q1 q2 q3 q4 q5 q6 q7 q8 q9 q10 q11 q12 q13 q14 q15 q16 j u w):dfR g a b La Lb q0 q1 q2 q3 q4 q5 q6 q7 q8 q9 q10 q11 q12 q13 q14 q15 q16 j u w':=by
 unfold dfR at h ⊢
 by_cases e:j=87
 · rw[if_pos e]at h ⊢;obtain⟨q,e1,e2,h1⟩:=h;exact⟨q,e1,e2,he.blockAt h1⟩
 · by_cases e':j=86
   · rw[if_neg e,if_pos e']at h ⊢;obtain⟨q,e1,e2,cs,h0,h1⟩:=h;exact⟨q,e1,e2,cs,h0,he.blockAt h1⟩
   · rw[if_neg e,if_neg e']at h ⊢;exact h
theorem dfR_val(g:Nat)(a b:It.Item)(La Lb:It.Loc)(q0 q1 q2 q3 q4 q5 q6 q7 q8 q9 q10 q11 q12 q13 q14 q15 q16:Bool){j:Nat}(h1:j≠87)(h2:j≠86)(u:Option Value)(w w':World)(h:dfR g a b La Lb q0 q1 q2 q3 q4 q5 q6 q7 q8 q9 q10 q11 q12 q13 q14 q15 q16 j u w):dfR g a b La Lb q0 q1 q2 q3 q4 q5 q6 q7 q8 q9 q10 q11 q12 q13 q14 q15 q16 j u w':=by
 unfold dfR at h ⊢;rw[if_neg h1,if_neg h2]at h ⊢;exact h
def dfD:List Nat:=[9,10,11,12,13,14,15,16,17,18,19,20,21,22,23,24,25,26,27,28,29,30,31,32,33,34,35,36,37,38,39,40,41,42,43,44,45,46,47,48,49,50,51,52,53,54,55,56,57,58,59,60,61,62,63,64,65,66,67,68,69,70,71,72,73,74,75,76,77,78,79,80,81,82,83,84,85,86,87,88,89,90,91,92,93,94,5,5]
def dfE (g:Nat)(t:Array Value):Prop:=t.getD 2 undef=.pointer (some ⟨g,0,none⟩)∧t.getD 3 undef=.pointer (some ⟨g+1,0,none⟩)∧t.size=110
theorem exec_store_row{P:Program}{ev:Operand→Value}{o:Oper}{w:World}(ty:TypeId)(x y:Operand)(ho:o.op=.store ty x y)(g:Nat)(cells:Array Value)(hx:ev x=.pointer (some ⟨g,0,none⟩))(hy:ev y=.agg cells)
    (t:TypeId) (old:Array Value) (hg:w.heap[g]?=some (.cells old t (0,0))) (hi:(P.info? ty).map (·.size)=some cells.size) (hold:old.size=cells.size) (h1:cells.all (·.oneCell')=true):(execOp ev o).run P w=.ok .skip (w.setRow g cells):=by
 unfold execOp
 simp only[ho,hx,hy,Instr.storeAt,Instr.sureAddr,Sem.run_bind,Sem.run_pure,Result.andThen_ok,run_storeVar_row w g t ty old cells hg hi hold h1]

def DfB (g:Nat)(w:World)(qs:List Bool):Prop:=∀ (i:Nat) q,qs[i]?=some q→w.cell? ⟨g,i,none⟩=some (.bool q)
theorem DfB.ext{w w':World}{g:Nat}{qs:List Bool}(h:DfB g w qs)(he:Ext w w'):DfB g w' qs:=fun i q hi=>he.keep (h i q hi)
theorem DfB.of{w:World}{g:Nat}{q0 q1 q2 q3 q4 q5 q6 q7 q8 q9 q10 q11 q12 q13 q14 q15 q16:Bool}{t:TypeId}(h:w.heap[g]?=some (.cells #[.bool q0,.bool q1,.bool q2,.bool q3,.bool q4,.bool q5,.bool q6,.bool q7,.bool q8,.bool q9,.bool q10,.bool q11,.bool q12,.bool q13,.bool q14,.bool q15,.bool q16] t (0,0))):DfB g w [q0,q1,q2,q3,q4,q5,q6,q7,q8,q9,q10,q11,q12,q13,q14,q15,q16]:=by
 intro i q hi
 rw[cell_of_row w g i _ _ _ h]
 match i,hi with
 | 0,hi=>obtain rfl:=Option.some.inj hi;rfl
 | 1,hi=>obtain rfl:=Option.some.inj hi;rfl
 | 2,hi=>obtain rfl:=Option.some.inj hi;rfl
 | 3,hi=>obtain rfl:=Option.some.inj hi;rfl
 | 4,hi=>obtain rfl:=Option.some.inj hi;rfl
 | 5,hi=>obtain rfl:=Option.some.inj hi;rfl
 | 6,hi=>obtain rfl:=Option.some.inj hi;rfl
 | 7,hi=>obtain rfl:=Option.some.inj hi;rfl
 | 8,hi=>obtain rfl:=Option.some.inj hi;rfl
 | 9,hi=>obtain rfl:=Option.some.inj hi;rfl
 | 10,hi=>obtain rfl:=Option.some.inj hi;rfl
 | 11,hi=>obtain rfl:=Option.some.inj hi;rfl
 | 12,hi=>obtain rfl:=Option.some.inj hi;rfl
 | 13,hi=>obtain rfl:=Option.some.inj hi;rfl
 | 14,hi=>obtain rfl:=Option.some.inj hi;rfl
 | 15,hi=>obtain rfl:=Option.some.inj hi;rfl
 | 16,hi=>obtain rfl:=Option.some.inj hi;rfl
 | i+17,hi=>simp at hi
set_option maxRecDepth 100000 in
set_option maxHeartbeats 64000000 in
theorem diff_any(a b:It.Item)(La Lb:It.Loc)(w:World)(ha:It.In w a La)(hb:It.In w b Lb)(hf:Fld w) :
    Calls Tryz.prog 109 #[It.agg a La,It.agg b Lb] w fun e w'=>(∃ (A:Option Addr) (c:Nat),e=.returned (.slice A (It.diff a b).length c)∧SlS w' A (It.diff a b)∧(It.diff a b).length≤c∧c≤maxLen)∧Ext w w':=by
 have HA:=Hi ha
 have HB:=Hi hb
 have HF:=Hi hf
 clear ha hb hf
 obtain⟨q0,hq0⟩:∃ q,(a.id == b.id)=q:=⟨_,rfl⟩
 obtain⟨q1,hq1⟩:∃ q,(a.ver == b.ver)=q:=⟨_,rfl⟩
 obtain⟨q2,hq2⟩:∃ q,(a.kind == b.kind)=q:=⟨_,rfl⟩
 obtain⟨q3,hq3⟩:∃ q,(It.eqB a.stem b.stem)=q:=⟨_,rfl⟩
 obtain⟨q4,hq4⟩:∃ q,(It.eqS a.opts b.opts)=q:=⟨_,rfl⟩
 obtain⟨q5,hq5⟩:∃ q,(It.eqI a.chs b.chs)=q:=⟨_,rfl⟩
 obtain⟨q6,hq6⟩:∃ q,(a.value == b.value)=q:=⟨_,rfl⟩
 obtain⟨q7,hq7⟩:∃ q,(a.tol == b.tol)=q:=⟨_,rfl⟩
 obtain⟨q8,hq8⟩:∃ q,(It.eqS a.texts b.texts)=q:=⟨_,rfl⟩
 obtain⟨q9,hq9⟩:∃ q,(a.pts == b.pts)=q:=⟨_,rfl⟩
 obtain⟨q10,hq10⟩:∃ q,(It.eqB a.cont b.cont)=q:=⟨_,rfl⟩
 obtain⟨q11,hq11⟩:∃ q,(a.fam == b.fam)=q:=⟨_,rfl⟩
 obtain⟨q12,hq12⟩:∃ q,(a.set_ == b.set_)=q:=⟨_,rfl⟩
 obtain⟨q13,hq13⟩:∃ q,(a.wrd == b.wrd)=q:=⟨_,rfl⟩
 obtain⟨q14,hq14⟩:∃ q,(a.sec == b.sec)=q:=⟨_,rfl⟩
 obtain⟨q15,hq15⟩:∃ q,(It.eqI a.assets b.assets)=q:=⟨_,rfl⟩
 obtain⟨q16,hq16⟩:∃ q,(a.rub == b.rub)=q:=⟨_,rfl⟩
 have HQ:Hid (It.sames a b=[q0,q1,q2,q3,q4,q5,q6,q7,q8,q9,q10,q11,q12,q13,q14,q15,q16]):=Hi (by unfold It.sames;rw[hq0,hq1,hq2,hq3,hq4,hq5,hq6,hq7,hq8,hq9,hq10,hq11,hq12,hq13,hq14,hq15,hq16])
 have HQ0:Hid ((a.id == b.id)=q0):=Hi hq0
 have HQ1:Hid ((a.ver == b.ver)=q1):=Hi hq1
 have HQ2:Hid ((a.kind == b.kind)=q2):=Hi hq2
 have HQ3:Hid ((a.stem.toList == b.stem.toList)=q3):=Hi (by rw[It.beqB];exact hq3)
 have HQ4:=Hi hq4
 have HQ5:=Hi hq5
 have HQ6:Hid ((a.value == b.value)=q6):=Hi hq6
 have HQ7:Hid ((a.tol == b.tol)=q7):=Hi hq7
 have HQ8:=Hi hq8
 have HQ9:Hid ((a.pts == b.pts)=q9):=Hi hq9
 have HQ10:Hid ((a.cont.toList == b.cont.toList)=q10):=Hi (by rw[It.beqB];exact hq10)
 have HQ11:Hid ((a.fam == b.fam)=q11):=Hi hq11
 have HQ12:Hid ((a.set_ == b.set_)=q12):=Hi hq12
 have HQ13:Hid ((a.wrd == b.wrd)=q13):=Hi hq13
 have HQ14:Hid ((a.sec == b.sec)=q14):=Hi hq14
 have HQ15:=Hi hq15
 have HQ16:Hid ((a.rub == b.rub)=q16):=Hi hq16
 clear hq0 hq1 hq2 hq3 hq4 hq5 hq6 hq7 hq8 hq9 hq10 hq11 hq12 hq13 hq14 hq15 hq16
 obtain⟨i0,hi0,hz0,hz1,hz2⟩:=info_parts Tryz.infoStr
 have EN:=Hi (enters_of Tryz.func47 (by kernel_rfl) rfl)
 have ES:=Hi (enters_of Tryz.func138 (by kernel_rfl) rfl)
 have ca:∀ (i:Nat) v,(It.cells a La)[i]?=some v→((w.alloc (.cells (It.cells a La).toArray 39)).alloc (.cells (It.cells b Lb).toArray 39)).cell? ⟨w.heap.size,i,none⟩=some v:=fun i v hv=>by
  refine((Ext.refl _).alloc _).keep ?_
  rw[World.cell?_alloc_new];simpa using hv
 have cb:∀ (i:Nat) v,(It.cells b Lb)[i]?=some v→((w.alloc (.cells (It.cells a La).toArray 39)).alloc (.cells (It.cells b Lb).toArray 39)).cell? ⟨w.heap.size+1,i,none⟩=some v:=fun i v hv=>by
  have:=World.cell?_alloc_new (w.alloc (.cells (It.cells a La).toArray 39)) (It.cells b Lb).toArray 39 i
  rw[show(w.alloc (.cells (It.cells a La).toArray 39)).heap.size=w.heap.size+1 by simp]at this
  rw[this];simpa using hv
 have CA:=Hi ca
 have CB:=Hi cb
 have X0:Hid (Ext w ((w.alloc (.cells (It.cells a La).toArray 39)).alloc (.cells (It.cells b Lb).toArray 39))):=Hi (((Ext.refl _).alloc _).alloc _)
 clear ca cb
 unfold It.agg
 go_enter Tryz.func109,Tryz.ntmps109
 go_wp2_with fail
 refine region_tb (by kernel_rfl) (by decide +kernel) (dfE w.heap.size) ⟨rfl,rfl,rfl⟩ 88 dfD (fun _=>none) (dfR w.heap.size a b La Lb q0 q1 q2 q3 q4 q5 q6 q7 q8 q9 q10 q11 q12 q13 q14 q15 q16) ((w.alloc (.cells (It.cells a La).toArray 39)).alloc (.cells (It.cells b Lb).toArray 39)) (Ext.refl _) (fun i h1 h2=>absurd h2 (Nat.not_lt.2 h1)) ?_ ?_
 · intro T dd l U wz i o hE ho hl hd hT
   obtain⟨t2,t3,tz⟩:=hE
   have hx:=hT.ext
   match i,ho,hl,hd with
   | 0,ho,hl,hd =>
    obtain rfl:=Option.some.inj ho
    have v0:=eval_old (d:=dd) (hT.out 2 (by decide)) (by omega) t2
    refine tb_pure (v:=.pointer (some ⟨w.heap.size,0,none⟩)) hT ho hd rfl rfl (by decide) (by decide) ?_ rfl
    generalize Act.eval ⟨over T U,dd⟩=ev at *
    simp[execOp,go_sem,v0]
   | 1,ho,hl,hd =>
    obtain rfl:=Option.some.inj ho
    have f0:U 9=some (.pointer (some ⟨w.heap.size,0,none⟩)):=hT.facts 0 (by decide) (dep hd 0 (by kernel_rfl)) (fun c e=>by cases e)
    have v0:Act.eval ⟨over T U,dd⟩ (.tmp 9)=_:=eval_new (t:=T) (d:=dd) f0 (by show 9<T.size;omega)
    have hc:=hx.keep (CA.out 0 _ rfl)
    refine tb_pure (v:=.int .i64 a.id) hT ho hd rfl rfl (by decide) (by decide) ?_ rfl
    generalize Act.eval ⟨over T U,dd⟩=ev at *
    simp[execOp,go_sem,v0,hc]
   | 2,ho,hl,hd =>
    obtain rfl:=Option.some.inj ho
    have v0:=eval_old (d:=dd) (hT.out 3 (by decide)) (by omega) t3
    refine tb_pure (v:=.pointer (some ⟨w.heap.size+1,0,none⟩)) hT ho hd rfl rfl (by decide) (by decide) ?_ rfl
    generalize Act.eval ⟨over T U,dd⟩=ev at *
    simp[execOp,go_sem,v0]
   | 3,ho,hl,hd =>
    obtain rfl:=Option.some.inj ho
    have f0:U 11=some (.pointer (some ⟨w.heap.size+1,0,none⟩)):=hT.facts 2 (by decide) (dep hd 2 (by kernel_rfl)) (fun c e=>by cases e)
    have v0:Act.eval ⟨over T U,dd⟩ (.tmp 11)=_:=eval_new (t:=T) (d:=dd) f0 (by show 11<T.size;omega)
    have hc:=hx.keep (CB.out 0 _ rfl)
    refine tb_pure (v:=.int .i64 b.id) hT ho hd rfl rfl (by decide) (by decide) ?_ rfl
    generalize Act.eval ⟨over T U,dd⟩=ev at *
    simp[execOp,go_sem,v0,hc]
   | 4,ho,hl,hd =>
    obtain rfl:=Option.some.inj ho
    have f0:U 10=some (.int .i64 a.id):=hT.facts 1 (by decide) (dep hd 1 (by kernel_rfl)) (fun c e=>by cases e)
    have v0:Act.eval ⟨over T U,dd⟩ (.tmp 10)=_:=eval_new (t:=T) (d:=dd) f0 (by show 10<T.size;omega)
    have f1:U 12=some (.int .i64 b.id):=hT.facts 3 (by decide) (dep hd 3 (by kernel_rfl)) (fun c e=>by cases e)
    have v1:Act.eval ⟨over T U,dd⟩ (.tmp 12)=_:=eval_new (t:=T) (d:=dd) f1 (by show 12<T.size;omega)
    have hq:=HQ0.out
    refine tb_pure (v:=.bool q0) hT ho hd rfl rfl (by decide) (by decide) ?_ rfl
    generalize Act.eval ⟨over T U,dd⟩=ev at *
    rw[← hq]
    simp[execOp,go_sem,v0,v1]
   | 5,ho,hl,hd =>
    obtain rfl:=Option.some.inj ho
    have v0:=eval_old (d:=dd) (hT.out 2 (by decide)) (by omega) t2
    refine tb_pure (v:=.pointer (some ⟨w.heap.size,1,none⟩)) hT ho hd rfl rfl (by decide) (by decide) ?_ rfl
    generalize Act.eval ⟨over T U,dd⟩=ev at *
    simp[execOp,go_sem,v0]
   | 6,ho,hl,hd =>
    obtain rfl:=Option.some.inj ho
    have f0:U 14=some (.pointer (some ⟨w.heap.size,1,none⟩)):=hT.facts 5 (by decide) (dep hd 5 (by kernel_rfl)) (fun c e=>by cases e)
    have v0:Act.eval ⟨over T U,dd⟩ (.tmp 14)=_:=eval_new (t:=T) (d:=dd) f0 (by show 14<T.size;omega)
    have hc:=hx.keep (CA.out 1 _ rfl)
    refine tb_pure (v:=.int .i64 a.ver) hT ho hd rfl rfl (by decide) (by decide) ?_ rfl
    generalize Act.eval ⟨over T U,dd⟩=ev at *
    simp[execOp,go_sem,v0,hc]
   | 7,ho,hl,hd =>
    obtain rfl:=Option.some.inj ho
    have v0:=eval_old (d:=dd) (hT.out 3 (by decide)) (by omega) t3
    refine tb_pure (v:=.pointer (some ⟨w.heap.size+1,1,none⟩)) hT ho hd rfl rfl (by decide) (by decide) ?_ rfl
    generalize Act.eval ⟨over T U,dd⟩=ev at *
    simp[execOp,go_sem,v0]
   | 8,ho,hl,hd =>
    obtain rfl:=Option.some.inj ho
    have f0:U 16=some (.pointer (some ⟨w.heap.size+1,1,none⟩)):=hT.facts 7 (by decide) (dep hd 7 (by kernel_rfl)) (fun c e=>by cases e)
    have v0:Act.eval ⟨over T U,dd⟩ (.tmp 16)=_:=eval_new (t:=T) (d:=dd) f0 (by show 16<T.size;omega)
    have hc:=hx.keep (CB.out 1 _ rfl)
    refine tb_pure (v:=.int .i64 b.ver) hT ho hd rfl rfl (by decide) (by decide) ?_ rfl
    generalize Act.eval ⟨over T U,dd⟩=ev at *
    simp[execOp,go_sem,v0,hc]
   | 9,ho,hl,hd =>
    obtain rfl:=Option.some.inj ho
    have f0:U 15=some (.int .i64 a.ver):=hT.facts 6 (by decide) (dep hd 6 (by kernel_rfl)) (fun c e=>by cases e)
    have v0:Act.eval ⟨over T U,dd⟩ (.tmp 15)=_:=eval_new (t:=T) (d:=dd) f0 (by show 15<T.size;omega)
    have f1:U 17=some (.int .i64 b.ver):=hT.facts 8 (by decide) (dep hd 8 (by kernel_rfl)) (fun c e=>by cases e)
    have v1:Act.eval ⟨over T U,dd⟩ (.tmp 17)=_:=eval_new (t:=T) (d:=dd) f1 (by show 17<T.size;omega)
    have hq:=HQ1.out
    refine tb_pure (v:=.bool q1) hT ho hd rfl rfl (by decide) (by decide) ?_ rfl
    generalize Act.eval ⟨over T U,dd⟩=ev at *
    rw[← hq]
    simp[execOp,go_sem,v0,v1]
   | 10,ho,hl,hd =>
    obtain rfl:=Option.some.inj ho
    have v0:=eval_old (d:=dd) (hT.out 2 (by decide)) (by omega) t2
    refine tb_pure (v:=.pointer (some ⟨w.heap.size,2,none⟩)) hT ho hd rfl rfl (by decide) (by decide) ?_ rfl
    generalize Act.eval ⟨over T U,dd⟩=ev at *
    simp[execOp,go_sem,v0]
   | 11,ho,hl,hd =>
    obtain rfl:=Option.some.inj ho
    have f0:U 19=some (.pointer (some ⟨w.heap.size,2,none⟩)):=hT.facts 10 (by decide) (dep hd 10 (by kernel_rfl)) (fun c e=>by cases e)
    have v0:Act.eval ⟨over T U,dd⟩ (.tmp 19)=_:=eval_new (t:=T) (d:=dd) f0 (by show 19<T.size;omega)
    have hc:=hx.keep (CA.out 2 _ rfl)
    refine tb_pure (v:=.int .i64 a.kind) hT ho hd rfl rfl (by decide) (by decide) ?_ rfl
    generalize Act.eval ⟨over T U,dd⟩=ev at *
    simp[execOp,go_sem,v0,hc]
   | 12,ho,hl,hd =>
    obtain rfl:=Option.some.inj ho
    have v0:=eval_old (d:=dd) (hT.out 3 (by decide)) (by omega) t3
    refine tb_pure (v:=.pointer (some ⟨w.heap.size+1,2,none⟩)) hT ho hd rfl rfl (by decide) (by decide) ?_ rfl
    generalize Act.eval ⟨over T U,dd⟩=ev at *
    simp[execOp,go_sem,v0]
   | 13,ho,hl,hd =>
    obtain rfl:=Option.some.inj ho
    have f0:U 21=some (.pointer (some ⟨w.heap.size+1,2,none⟩)):=hT.facts 12 (by decide) (dep hd 12 (by kernel_rfl)) (fun c e=>by cases e)
    have v0:Act.eval ⟨over T U,dd⟩ (.tmp 21)=_:=eval_new (t:=T) (d:=dd) f0 (by show 21<T.size;omega)
    have hc:=hx.keep (CB.out 2 _ rfl)
    refine tb_pure (v:=.int .i64 b.kind) hT ho hd rfl rfl (by decide) (by decide) ?_ rfl
    generalize Act.eval ⟨over T U,dd⟩=ev at *
    simp[execOp,go_sem,v0,hc]
   | 14,ho,hl,hd =>
    obtain rfl:=Option.some.inj ho
    have f0:U 20=some (.int .i64 a.kind):=hT.facts 11 (by decide) (dep hd 11 (by kernel_rfl)) (fun c e=>by cases e)
    have v0:Act.eval ⟨over T U,dd⟩ (.tmp 20)=_:=eval_new (t:=T) (d:=dd) f0 (by show 20<T.size;omega)
    have f1:U 22=some (.int .i64 b.kind):=hT.facts 13 (by decide) (dep hd 13 (by kernel_rfl)) (fun c e=>by cases e)
    have v1:Act.eval ⟨over T U,dd⟩ (.tmp 22)=_:=eval_new (t:=T) (d:=dd) f1 (by show 22<T.size;omega)
    have hq:=HQ2.out
    refine tb_pure (v:=.bool q2) hT ho hd rfl rfl (by decide) (by decide) ?_ rfl
    generalize Act.eval ⟨over T U,dd⟩=ev at *
    rw[← hq]
    simp[execOp,go_sem,v0,v1]
   | 15,ho,hl,hd =>
    obtain rfl:=Option.some.inj ho
    have v0:=eval_old (d:=dd) (hT.out 2 (by decide)) (by omega) t2
    refine tb_pure (v:=.pointer (some ⟨w.heap.size,3,none⟩)) hT ho hd rfl rfl (by decide) (by decide) ?_ rfl
    generalize Act.eval ⟨over T U,dd⟩=ev at *
    simp[execOp,go_sem,v0]
   | 16,ho,hl,hd =>
    obtain rfl:=Option.some.inj ho
    have f0:U 24=some (.pointer (some ⟨w.heap.size,3,none⟩)):=hT.facts 15 (by decide) (dep hd 15 (by kernel_rfl)) (fun c e=>by cases e)
    have v0:Act.eval ⟨over T U,dd⟩ (.tmp 24)=_:=eval_new (t:=T) (d:=dd) f0 (by show 24<T.size;omega)
    have hc:=hx.keep (CA.out 3 _ rfl)
    refine tb_pure (v:=.string a.stem) hT ho hd rfl rfl (by decide) (by decide) ?_ rfl
    generalize Act.eval ⟨over T U,dd⟩=ev at *
    simp[execOp,go_sem,v0,hc]
   | 17,ho,hl,hd =>
    obtain rfl:=Option.some.inj ho
    have v0:=eval_old (d:=dd) (hT.out 3 (by decide)) (by omega) t3
    refine tb_pure (v:=.pointer (some ⟨w.heap.size+1,3,none⟩)) hT ho hd rfl rfl (by decide) (by decide) ?_ rfl
    generalize Act.eval ⟨over T U,dd⟩=ev at *
    simp[execOp,go_sem,v0]
   | 18,ho,hl,hd =>
    obtain rfl:=Option.some.inj ho
    have f0:U 26=some (.pointer (some ⟨w.heap.size+1,3,none⟩)):=hT.facts 17 (by decide) (dep hd 17 (by kernel_rfl)) (fun c e=>by cases e)
    have v0:Act.eval ⟨over T U,dd⟩ (.tmp 26)=_:=eval_new (t:=T) (d:=dd) f0 (by show 26<T.size;omega)
    have hc:=hx.keep (CB.out 3 _ rfl)
    refine tb_pure (v:=.string b.stem) hT ho hd rfl rfl (by decide) (by decide) ?_ rfl
    generalize Act.eval ⟨over T U,dd⟩=ev at *
    simp[execOp,go_sem,v0,hc]
   | 19,ho,hl,hd =>
    obtain rfl:=Option.some.inj ho
    have f0:U 25=some (.string a.stem):=hT.facts 16 (by decide) (dep hd 16 (by kernel_rfl)) (fun c e=>by cases e)
    have v0:Act.eval ⟨over T U,dd⟩ (.tmp 25)=_:=eval_new (t:=T) (d:=dd) f0 (by show 25<T.size;omega)
    have f1:U 27=some (.string b.stem):=hT.facts 18 (by decide) (dep hd 18 (by kernel_rfl)) (fun c e=>by cases e)
    have v1:Act.eval ⟨over T U,dd⟩ (.tmp 27)=_:=eval_new (t:=T) (d:=dd) f1 (by show 27<T.size;omega)
    have hq:=HQ3.out
    refine tb_pure (v:=.bool q3) hT ho hd rfl rfl (by decide) (by decide) ?_ rfl
    generalize Act.eval ⟨over T U,dd⟩=ev at *
    rw[← hq]
    simp[execOp,go_sem,v0,v1]
   | 20,ho,hl,hd =>
    obtain rfl:=Option.some.inj ho
    have v0:=eval_old (d:=dd) (hT.out 2 (by decide)) (by omega) t2
    refine tb_pure (v:=.pointer (some ⟨w.heap.size,4,none⟩)) hT ho hd rfl rfl (by decide) (by decide) ?_ rfl
    generalize Act.eval ⟨over T U,dd⟩=ev at *
    simp[execOp,go_sem,v0]
   | 21,ho,hl,hd =>
    obtain rfl:=Option.some.inj ho
    have f0:U 29=some (.pointer (some ⟨w.heap.size,4,none⟩)):=hT.facts 20 (by decide) (dep hd 20 (by kernel_rfl)) (fun c e=>by cases e)
    have v0:Act.eval ⟨over T U,dd⟩ (.tmp 29)=_:=eval_new (t:=T) (d:=dd) f0 (by show 29<T.size;omega)
    have hc:=hx.keep (CA.out 4 _ rfl)
    refine tb_pure (v:=.slice La.oA a.opts.length La.oc) hT ho hd rfl rfl (by decide) (by decide) ?_ rfl
    generalize Act.eval ⟨over T U,dd⟩=ev at *
    simp[execOp,go_sem,v0,hc]
   | 22,ho,hl,hd =>
    obtain rfl:=Option.some.inj ho
    have v0:=eval_old (d:=dd) (hT.out 3 (by decide)) (by omega) t3
    refine tb_pure (v:=.pointer (some ⟨w.heap.size+1,4,none⟩)) hT ho hd rfl rfl (by decide) (by decide) ?_ rfl
    generalize Act.eval ⟨over T U,dd⟩=ev at *
    simp[execOp,go_sem,v0]
   | 23,ho,hl,hd =>
    obtain rfl:=Option.some.inj ho
    have f0:U 31=some (.pointer (some ⟨w.heap.size+1,4,none⟩)):=hT.facts 22 (by decide) (dep hd 22 (by kernel_rfl)) (fun c e=>by cases e)
    have v0:Act.eval ⟨over T U,dd⟩ (.tmp 31)=_:=eval_new (t:=T) (d:=dd) f0 (by show 31<T.size;omega)
    have hc:=hx.keep (CB.out 4 _ rfl)
    refine tb_pure (v:=.slice Lb.oA b.opts.length Lb.oc) hT ho hd rfl rfl (by decide) (by decide) ?_ rfl
    generalize Act.eval ⟨over T U,dd⟩=ev at *
    simp[execOp,go_sem,v0,hc]
   | 24,ho,hl,hd =>
    obtain rfl:=Option.some.inj ho
    have f0:U 30=some (.slice La.oA a.opts.length La.oc):=hT.facts 21 (by decide) (dep hd 21 (by kernel_rfl)) (fun c e=>by cases e)
    have v0:Act.eval ⟨over T U,dd⟩ (.tmp 30)=_:=eval_new (t:=T) (d:=dd) f0 (by show 30<T.size;omega)
    have f1:U 32=some (.slice Lb.oA b.opts.length Lb.oc):=hT.facts 23 (by decide) (dep hd 23 (by kernel_rfl)) (fun c e=>by cases e)
    have v1:Act.eval ⟨over T U,dd⟩ (.tmp 32)=_:=eval_new (t:=T) (d:=dd) f1 (by show 32<T.size;omega)
    refine tb_call (f:=138) (args:=#[.slice La.oA a.opts.length La.oc,.slice Lb.oA b.opts.length Lb.oc]) (dfR_ext w.heap.size a b La Lb q0 q1 q2 q3 q4 q5 q6 q7 q8 q9 q10 q11 q12 q13 q14 q15 q16) hT ho hd rfl rfl (by decide) (by decide) (exec_call2 rfl rfl v0 v1 ES.out) ?_
    have e1:=X0.out.trans hx
    refine(equalS_any _ _ _ _ a.opts b.opts wz (HA.out.o.ext e1) (HB.out.o.ext e1) (Nat.le_trans HA.out.ok.ol (by decide)) (Nat.le_trans HB.out.ok.ol (by decide))).mono ?_
    rintro e w' ⟨rfl,nn,rfl⟩
    exact⟨_,rfl,(Ext.refl _).drewN _,by rw[HQ4.out];rfl⟩
   | 25,ho,hl,hd =>
    obtain rfl:=Option.some.inj ho
    have v0:=eval_old (d:=dd) (hT.out 2 (by decide)) (by omega) t2
    refine tb_pure (v:=.pointer (some ⟨w.heap.size,5,none⟩)) hT ho hd rfl rfl (by decide) (by decide) ?_ rfl
    generalize Act.eval ⟨over T U,dd⟩=ev at *
    simp[execOp,go_sem,v0]
   | 26,ho,hl,hd =>
    obtain rfl:=Option.some.inj ho
    have f0:U 34=some (.pointer (some ⟨w.heap.size,5,none⟩)):=hT.facts 25 (by decide) (dep hd 25 (by kernel_rfl)) (fun c e=>by cases e)
    have v0:Act.eval ⟨over T U,dd⟩ (.tmp 34)=_:=eval_new (t:=T) (d:=dd) f0 (by show 34<T.size;omega)
    have hc:=hx.keep (CA.out 5 _ rfl)
    refine tb_pure (v:=.slice La.cA a.chs.length La.cc) hT ho hd rfl rfl (by decide) (by decide) ?_ rfl
    generalize Act.eval ⟨over T U,dd⟩=ev at *
    simp[execOp,go_sem,v0,hc]
   | 27,ho,hl,hd =>
    obtain rfl:=Option.some.inj ho
    have v0:=eval_old (d:=dd) (hT.out 3 (by decide)) (by omega) t3
    refine tb_pure (v:=.pointer (some ⟨w.heap.size+1,5,none⟩)) hT ho hd rfl rfl (by decide) (by decide) ?_ rfl
    generalize Act.eval ⟨over T U,dd⟩=ev at *
    simp[execOp,go_sem,v0]
   | 28,ho,hl,hd =>
    obtain rfl:=Option.some.inj ho
    have f0:U 36=some (.pointer (some ⟨w.heap.size+1,5,none⟩)):=hT.facts 27 (by decide) (dep hd 27 (by kernel_rfl)) (fun c e=>by cases e)
    have v0:Act.eval ⟨over T U,dd⟩ (.tmp 36)=_:=eval_new (t:=T) (d:=dd) f0 (by show 36<T.size;omega)
    have hc:=hx.keep (CB.out 5 _ rfl)
    refine tb_pure (v:=.slice Lb.cA b.chs.length Lb.cc) hT ho hd rfl rfl (by decide) (by decide) ?_ rfl
    generalize Act.eval ⟨over T U,dd⟩=ev at *
    simp[execOp,go_sem,v0,hc]
   | 29,ho,hl,hd =>
    obtain rfl:=Option.some.inj ho
    have f0:U 35=some (.slice La.cA a.chs.length La.cc):=hT.facts 26 (by decide) (dep hd 26 (by kernel_rfl)) (fun c e=>by cases e)
    have v0:Act.eval ⟨over T U,dd⟩ (.tmp 35)=_:=eval_new (t:=T) (d:=dd) f0 (by show 35<T.size;omega)
    have f1:U 37=some (.slice Lb.cA b.chs.length Lb.cc):=hT.facts 28 (by decide) (dep hd 28 (by kernel_rfl)) (fun c e=>by cases e)
    have v1:Act.eval ⟨over T U,dd⟩ (.tmp 37)=_:=eval_new (t:=T) (d:=dd) f1 (by show 37<T.size;omega)
    refine tb_call (f:=47) (args:=#[.slice La.cA a.chs.length La.cc,.slice Lb.cA b.chs.length Lb.cc]) (dfR_ext w.heap.size a b La Lb q0 q1 q2 q3 q4 q5 q6 q7 q8 q9 q10 q11 q12 q13 q14 q15 q16) hT ho hd rfl rfl (by decide) (by decide) (exec_call2 rfl rfl v0 v1 EN.out) ?_
    have e1:=X0.out.trans hx
    refine(equalI_any _ _ _ _ a.chs b.chs wz (HA.out.c.ext e1) (HB.out.c.ext e1) (Nat.le_trans HA.out.ok.cl (by decide)) (Nat.le_trans HB.out.ok.cl (by decide))).mono ?_
    rintro e w' ⟨rfl,nn,rfl⟩
    exact⟨_,rfl,(Ext.refl _).drewN _,by rw[HQ5.out];rfl⟩
   | 30,ho,hl,hd =>
    obtain rfl:=Option.some.inj ho
    have v0:=eval_old (d:=dd) (hT.out 2 (by decide)) (by omega) t2
    refine tb_pure (v:=.pointer (some ⟨w.heap.size,6,none⟩)) hT ho hd rfl rfl (by decide) (by decide) ?_ rfl
    generalize Act.eval ⟨over T U,dd⟩=ev at *
    simp[execOp,go_sem,v0]
   | 31,ho,hl,hd =>
    obtain rfl:=Option.some.inj ho
    have f0:U 39=some (.pointer (some ⟨w.heap.size,6,none⟩)):=hT.facts 30 (by decide) (dep hd 30 (by kernel_rfl)) (fun c e=>by cases e)
    have v0:Act.eval ⟨over T U,dd⟩ (.tmp 39)=_:=eval_new (t:=T) (d:=dd) f0 (by show 39<T.size;omega)
    have hc:=hx.keep (CA.out 6 _ rfl)
    refine tb_pure (v:=.int .i64 a.value) hT ho hd rfl rfl (by decide) (by decide) ?_ rfl
    generalize Act.eval ⟨over T U,dd⟩=ev at *
    simp[execOp,go_sem,v0,hc]
   | 32,ho,hl,hd =>
    obtain rfl:=Option.some.inj ho
    have v0:=eval_old (d:=dd) (hT.out 3 (by decide)) (by omega) t3
    refine tb_pure (v:=.pointer (some ⟨w.heap.size+1,6,none⟩)) hT ho hd rfl rfl (by decide) (by decide) ?_ rfl
    generalize Act.eval ⟨over T U,dd⟩=ev at *
    simp[execOp,go_sem,v0]
   | 33,ho,hl,hd =>
    obtain rfl:=Option.some.inj ho
    have f0:U 41=some (.pointer (some ⟨w.heap.size+1,6,none⟩)):=hT.facts 32 (by decide) (dep hd 32 (by kernel_rfl)) (fun c e=>by cases e)
    have v0:Act.eval ⟨over T U,dd⟩ (.tmp 41)=_:=eval_new (t:=T) (d:=dd) f0 (by show 41<T.size;omega)
    have hc:=hx.keep (CB.out 6 _ rfl)
    refine tb_pure (v:=.int .i64 b.value) hT ho hd rfl rfl (by decide) (by decide) ?_ rfl
    generalize Act.eval ⟨over T U,dd⟩=ev at *
    simp[execOp,go_sem,v0,hc]
   | 34,ho,hl,hd =>
    obtain rfl:=Option.some.inj ho
    have f0:U 40=some (.int .i64 a.value):=hT.facts 31 (by decide) (dep hd 31 (by kernel_rfl)) (fun c e=>by cases e)
    have v0:Act.eval ⟨over T U,dd⟩ (.tmp 40)=_:=eval_new (t:=T) (d:=dd) f0 (by show 40<T.size;omega)
    have f1:U 42=some (.int .i64 b.value):=hT.facts 33 (by decide) (dep hd 33 (by kernel_rfl)) (fun c e=>by cases e)
    have v1:Act.eval ⟨over T U,dd⟩ (.tmp 42)=_:=eval_new (t:=T) (d:=dd) f1 (by show 42<T.size;omega)
    have hq:=HQ6.out
    refine tb_pure (v:=.bool q6) hT ho hd rfl rfl (by decide) (by decide) ?_ rfl
    generalize Act.eval ⟨over T U,dd⟩=ev at *
    rw[← hq]
    simp[execOp,go_sem,v0,v1]
   | 35,ho,hl,hd =>
    obtain rfl:=Option.some.inj ho
    have v0:=eval_old (d:=dd) (hT.out 2 (by decide)) (by omega) t2
    refine tb_pure (v:=.pointer (some ⟨w.heap.size,7,none⟩)) hT ho hd rfl rfl (by decide) (by decide) ?_ rfl
    generalize Act.eval ⟨over T U,dd⟩=ev at *
    simp[execOp,go_sem,v0]
   | 36,ho,hl,hd =>
    obtain rfl:=Option.some.inj ho
    have f0:U 44=some (.pointer (some ⟨w.heap.size,7,none⟩)):=hT.facts 35 (by decide) (dep hd 35 (by kernel_rfl)) (fun c e=>by cases e)
    have v0:Act.eval ⟨over T U,dd⟩ (.tmp 44)=_:=eval_new (t:=T) (d:=dd) f0 (by show 44<T.size;omega)
    have hc:=hx.keep (CA.out 7 _ rfl)
    refine tb_pure (v:=.int .i64 a.tol) hT ho hd rfl rfl (by decide) (by decide) ?_ rfl
    generalize Act.eval ⟨over T U,dd⟩=ev at *
    simp[execOp,go_sem,v0,hc]
   | 37,ho,hl,hd =>
    obtain rfl:=Option.some.inj ho
    have v0:=eval_old (d:=dd) (hT.out 3 (by decide)) (by omega) t3
    refine tb_pure (v:=.pointer (some ⟨w.heap.size+1,7,none⟩)) hT ho hd rfl rfl (by decide) (by decide) ?_ rfl
    generalize Act.eval ⟨over T U,dd⟩=ev at *
    simp[execOp,go_sem,v0]
   | 38,ho,hl,hd =>
    obtain rfl:=Option.some.inj ho
    have f0:U 46=some (.pointer (some ⟨w.heap.size+1,7,none⟩)):=hT.facts 37 (by decide) (dep hd 37 (by kernel_rfl)) (fun c e=>by cases e)
    have v0:Act.eval ⟨over T U,dd⟩ (.tmp 46)=_:=eval_new (t:=T) (d:=dd) f0 (by show 46<T.size;omega)
    have hc:=hx.keep (CB.out 7 _ rfl)
    refine tb_pure (v:=.int .i64 b.tol) hT ho hd rfl rfl (by decide) (by decide) ?_ rfl
    generalize Act.eval ⟨over T U,dd⟩=ev at *
    simp[execOp,go_sem,v0,hc]
   | 39,ho,hl,hd =>
    obtain rfl:=Option.some.inj ho
    have f0:U 45=some (.int .i64 a.tol):=hT.facts 36 (by decide) (dep hd 36 (by kernel_rfl)) (fun c e=>by cases e)
    have v0:Act.eval ⟨over T U,dd⟩ (.tmp 45)=_:=eval_new (t:=T) (d:=dd) f0 (by show 45<T.size;omega)
    have f1:U 47=some (.int .i64 b.tol):=hT.facts 38 (by decide) (dep hd 38 (by kernel_rfl)) (fun c e=>by cases e)
    have v1:Act.eval ⟨over T U,dd⟩ (.tmp 47)=_:=eval_new (t:=T) (d:=dd) f1 (by show 47<T.size;omega)
    have hq:=HQ7.out
    refine tb_pure (v:=.bool q7) hT ho hd rfl rfl (by decide) (by decide) ?_ rfl
    generalize Act.eval ⟨over T U,dd⟩=ev at *
    rw[← hq]
    simp[execOp,go_sem,v0,v1]
   | 40,ho,hl,hd =>
    obtain rfl:=Option.some.inj ho
    have v0:=eval_old (d:=dd) (hT.out 2 (by decide)) (by omega) t2
    refine tb_pure (v:=.pointer (some ⟨w.heap.size,8,none⟩)) hT ho hd rfl rfl (by decide) (by decide) ?_ rfl
    generalize Act.eval ⟨over T U,dd⟩=ev at *
    simp[execOp,go_sem,v0]
   | 41,ho,hl,hd =>
    obtain rfl:=Option.some.inj ho
    have f0:U 49=some (.pointer (some ⟨w.heap.size,8,none⟩)):=hT.facts 40 (by decide) (dep hd 40 (by kernel_rfl)) (fun c e=>by cases e)
    have v0:Act.eval ⟨over T U,dd⟩ (.tmp 49)=_:=eval_new (t:=T) (d:=dd) f0 (by show 49<T.size;omega)
    have hc:=hx.keep (CA.out 8 _ rfl)
    refine tb_pure (v:=.slice La.tA a.texts.length La.tc) hT ho hd rfl rfl (by decide) (by decide) ?_ rfl
    generalize Act.eval ⟨over T U,dd⟩=ev at *
    simp[execOp,go_sem,v0,hc]
   | 42,ho,hl,hd =>
    obtain rfl:=Option.some.inj ho
    have v0:=eval_old (d:=dd) (hT.out 3 (by decide)) (by omega) t3
    refine tb_pure (v:=.pointer (some ⟨w.heap.size+1,8,none⟩)) hT ho hd rfl rfl (by decide) (by decide) ?_ rfl
    generalize Act.eval ⟨over T U,dd⟩=ev at *
    simp[execOp,go_sem,v0]
   | 43,ho,hl,hd =>
    obtain rfl:=Option.some.inj ho
    have f0:U 51=some (.pointer (some ⟨w.heap.size+1,8,none⟩)):=hT.facts 42 (by decide) (dep hd 42 (by kernel_rfl)) (fun c e=>by cases e)
    have v0:Act.eval ⟨over T U,dd⟩ (.tmp 51)=_:=eval_new (t:=T) (d:=dd) f0 (by show 51<T.size;omega)
    have hc:=hx.keep (CB.out 8 _ rfl)
    refine tb_pure (v:=.slice Lb.tA b.texts.length Lb.tc) hT ho hd rfl rfl (by decide) (by decide) ?_ rfl
    generalize Act.eval ⟨over T U,dd⟩=ev at *
    simp[execOp,go_sem,v0,hc]
   | 44,ho,hl,hd =>
    obtain rfl:=Option.some.inj ho
    have f0:U 50=some (.slice La.tA a.texts.length La.tc):=hT.facts 41 (by decide) (dep hd 41 (by kernel_rfl)) (fun c e=>by cases e)
    have v0:Act.eval ⟨over T U,dd⟩ (.tmp 50)=_:=eval_new (t:=T) (d:=dd) f0 (by show 50<T.size;omega)
    have f1:U 52=some (.slice Lb.tA b.texts.length Lb.tc):=hT.facts 43 (by decide) (dep hd 43 (by kernel_rfl)) (fun c e=>by cases e)
    have v1:Act.eval ⟨over T U,dd⟩ (.tmp 52)=_:=eval_new (t:=T) (d:=dd) f1 (by show 52<T.size;omega)
    refine tb_call (f:=138) (args:=#[.slice La.tA a.texts.length La.tc,.slice Lb.tA b.texts.length Lb.tc]) (dfR_ext w.heap.size a b La Lb q0 q1 q2 q3 q4 q5 q6 q7 q8 q9 q10 q11 q12 q13 q14 q15 q16) hT ho hd rfl rfl (by decide) (by decide) (exec_call2 rfl rfl v0 v1 ES.out) ?_
    have e1:=X0.out.trans hx
    refine(equalS_any _ _ _ _ a.texts b.texts wz (HA.out.t.ext e1) (HB.out.t.ext e1) (Nat.le_trans HA.out.ok.tl (by decide)) (Nat.le_trans HB.out.ok.tl (by decide))).mono ?_
    rintro e w' ⟨rfl,nn,rfl⟩
    exact⟨_,rfl,(Ext.refl _).drewN _,by rw[HQ8.out];rfl⟩
   | 45,ho,hl,hd =>
    obtain rfl:=Option.some.inj ho
    have v0:=eval_old (d:=dd) (hT.out 2 (by decide)) (by omega) t2
    refine tb_pure (v:=.pointer (some ⟨w.heap.size,9,none⟩)) hT ho hd rfl rfl (by decide) (by decide) ?_ rfl
    generalize Act.eval ⟨over T U,dd⟩=ev at *
    simp[execOp,go_sem,v0]
   | 46,ho,hl,hd =>
    obtain rfl:=Option.some.inj ho
    have f0:U 54=some (.pointer (some ⟨w.heap.size,9,none⟩)):=hT.facts 45 (by decide) (dep hd 45 (by kernel_rfl)) (fun c e=>by cases e)
    have v0:Act.eval ⟨over T U,dd⟩ (.tmp 54)=_:=eval_new (t:=T) (d:=dd) f0 (by show 54<T.size;omega)
    have hc:=hx.keep (CA.out 9 _ rfl)
    refine tb_pure (v:=.int .i64 a.pts) hT ho hd rfl rfl (by decide) (by decide) ?_ rfl
    generalize Act.eval ⟨over T U,dd⟩=ev at *
    simp[execOp,go_sem,v0,hc]
   | 47,ho,hl,hd =>
    obtain rfl:=Option.some.inj ho
    have v0:=eval_old (d:=dd) (hT.out 3 (by decide)) (by omega) t3
    refine tb_pure (v:=.pointer (some ⟨w.heap.size+1,9,none⟩)) hT ho hd rfl rfl (by decide) (by decide) ?_ rfl
    generalize Act.eval ⟨over T U,dd⟩=ev at *
    simp[execOp,go_sem,v0]
   | 48,ho,hl,hd =>
    obtain rfl:=Option.some.inj ho
    have f0:U 56=some (.pointer (some ⟨w.heap.size+1,9,none⟩)):=hT.facts 47 (by decide) (dep hd 47 (by kernel_rfl)) (fun c e=>by cases e)
    have v0:Act.eval ⟨over T U,dd⟩ (.tmp 56)=_:=eval_new (t:=T) (d:=dd) f0 (by show 56<T.size;omega)
    have hc:=hx.keep (CB.out 9 _ rfl)
    refine tb_pure (v:=.int .i64 b.pts) hT ho hd rfl rfl (by decide) (by decide) ?_ rfl
    generalize Act.eval ⟨over T U,dd⟩=ev at *
    simp[execOp,go_sem,v0,hc]
   | 49,ho,hl,hd =>
    obtain rfl:=Option.some.inj ho
    have f0:U 55=some (.int .i64 a.pts):=hT.facts 46 (by decide) (dep hd 46 (by kernel_rfl)) (fun c e=>by cases e)
    have v0:Act.eval ⟨over T U,dd⟩ (.tmp 55)=_:=eval_new (t:=T) (d:=dd) f0 (by show 55<T.size;omega)
    have f1:U 57=some (.int .i64 b.pts):=hT.facts 48 (by decide) (dep hd 48 (by kernel_rfl)) (fun c e=>by cases e)
    have v1:Act.eval ⟨over T U,dd⟩ (.tmp 57)=_:=eval_new (t:=T) (d:=dd) f1 (by show 57<T.size;omega)
    have hq:=HQ9.out
    refine tb_pure (v:=.bool q9) hT ho hd rfl rfl (by decide) (by decide) ?_ rfl
    generalize Act.eval ⟨over T U,dd⟩=ev at *
    rw[← hq]
    simp[execOp,go_sem,v0,v1]
   | 50,ho,hl,hd =>
    obtain rfl:=Option.some.inj ho
    have v0:=eval_old (d:=dd) (hT.out 2 (by decide)) (by omega) t2
    refine tb_pure (v:=.pointer (some ⟨w.heap.size,10,none⟩)) hT ho hd rfl rfl (by decide) (by decide) ?_ rfl
    generalize Act.eval ⟨over T U,dd⟩=ev at *
    simp[execOp,go_sem,v0]
   | 51,ho,hl,hd =>
    obtain rfl:=Option.some.inj ho
    have f0:U 59=some (.pointer (some ⟨w.heap.size,10,none⟩)):=hT.facts 50 (by decide) (dep hd 50 (by kernel_rfl)) (fun c e=>by cases e)
    have v0:Act.eval ⟨over T U,dd⟩ (.tmp 59)=_:=eval_new (t:=T) (d:=dd) f0 (by show 59<T.size;omega)
    have hc:=hx.keep (CA.out 10 _ rfl)
    refine tb_pure (v:=.string a.cont) hT ho hd rfl rfl (by decide) (by decide) ?_ rfl
    generalize Act.eval ⟨over T U,dd⟩=ev at *
    simp[execOp,go_sem,v0,hc]
   | 52,ho,hl,hd =>
    obtain rfl:=Option.some.inj ho
    have v0:=eval_old (d:=dd) (hT.out 3 (by decide)) (by omega) t3
    refine tb_pure (v:=.pointer (some ⟨w.heap.size+1,10,none⟩)) hT ho hd rfl rfl (by decide) (by decide) ?_ rfl
    generalize Act.eval ⟨over T U,dd⟩=ev at *
    simp[execOp,go_sem,v0]
   | 53,ho,hl,hd =>
    obtain rfl:=Option.some.inj ho
    have f0:U 61=some (.pointer (some ⟨w.heap.size+1,10,none⟩)):=hT.facts 52 (by decide) (dep hd 52 (by kernel_rfl)) (fun c e=>by cases e)
    have v0:Act.eval ⟨over T U,dd⟩ (.tmp 61)=_:=eval_new (t:=T) (d:=dd) f0 (by show 61<T.size;omega)
    have hc:=hx.keep (CB.out 10 _ rfl)
    refine tb_pure (v:=.string b.cont) hT ho hd rfl rfl (by decide) (by decide) ?_ rfl
    generalize Act.eval ⟨over T U,dd⟩=ev at *
    simp[execOp,go_sem,v0,hc]
   | 54,ho,hl,hd =>
    obtain rfl:=Option.some.inj ho
    have f0:U 60=some (.string a.cont):=hT.facts 51 (by decide) (dep hd 51 (by kernel_rfl)) (fun c e=>by cases e)
    have v0:Act.eval ⟨over T U,dd⟩ (.tmp 60)=_:=eval_new (t:=T) (d:=dd) f0 (by show 60<T.size;omega)
    have f1:U 62=some (.string b.cont):=hT.facts 53 (by decide) (dep hd 53 (by kernel_rfl)) (fun c e=>by cases e)
    have v1:Act.eval ⟨over T U,dd⟩ (.tmp 62)=_:=eval_new (t:=T) (d:=dd) f1 (by show 62<T.size;omega)
    have hq:=HQ10.out
    refine tb_pure (v:=.bool q10) hT ho hd rfl rfl (by decide) (by decide) ?_ rfl
    generalize Act.eval ⟨over T U,dd⟩=ev at *
    rw[← hq]
    simp[execOp,go_sem,v0,v1]
   | 55,ho,hl,hd =>
    obtain rfl:=Option.some.inj ho
    have v0:=eval_old (d:=dd) (hT.out 2 (by decide)) (by omega) t2
    refine tb_pure (v:=.pointer (some ⟨w.heap.size,11,none⟩)) hT ho hd rfl rfl (by decide) (by decide) ?_ rfl
    generalize Act.eval ⟨over T U,dd⟩=ev at *
    simp[execOp,go_sem,v0]
   | 56,ho,hl,hd =>
    obtain rfl:=Option.some.inj ho
    have f0:U 64=some (.pointer (some ⟨w.heap.size,11,none⟩)):=hT.facts 55 (by decide) (dep hd 55 (by kernel_rfl)) (fun c e=>by cases e)
    have v0:Act.eval ⟨over T U,dd⟩ (.tmp 64)=_:=eval_new (t:=T) (d:=dd) f0 (by show 64<T.size;omega)
    have hc:=hx.keep (CA.out 11 _ rfl)
    refine tb_pure (v:=.int .i64 a.fam) hT ho hd rfl rfl (by decide) (by decide) ?_ rfl
    generalize Act.eval ⟨over T U,dd⟩=ev at *
    simp[execOp,go_sem,v0,hc]
   | 57,ho,hl,hd =>
    obtain rfl:=Option.some.inj ho
    have v0:=eval_old (d:=dd) (hT.out 3 (by decide)) (by omega) t3
    refine tb_pure (v:=.pointer (some ⟨w.heap.size+1,11,none⟩)) hT ho hd rfl rfl (by decide) (by decide) ?_ rfl
    generalize Act.eval ⟨over T U,dd⟩=ev at *
    simp[execOp,go_sem,v0]
   | 58,ho,hl,hd =>
    obtain rfl:=Option.some.inj ho
    have f0:U 66=some (.pointer (some ⟨w.heap.size+1,11,none⟩)):=hT.facts 57 (by decide) (dep hd 57 (by kernel_rfl)) (fun c e=>by cases e)
    have v0:Act.eval ⟨over T U,dd⟩ (.tmp 66)=_:=eval_new (t:=T) (d:=dd) f0 (by show 66<T.size;omega)
    have hc:=hx.keep (CB.out 11 _ rfl)
    refine tb_pure (v:=.int .i64 b.fam) hT ho hd rfl rfl (by decide) (by decide) ?_ rfl
    generalize Act.eval ⟨over T U,dd⟩=ev at *
    simp[execOp,go_sem,v0,hc]
   | 59,ho,hl,hd =>
    obtain rfl:=Option.some.inj ho
    have f0:U 65=some (.int .i64 a.fam):=hT.facts 56 (by decide) (dep hd 56 (by kernel_rfl)) (fun c e=>by cases e)
    have v0:Act.eval ⟨over T U,dd⟩ (.tmp 65)=_:=eval_new (t:=T) (d:=dd) f0 (by show 65<T.size;omega)
    have f1:U 67=some (.int .i64 b.fam):=hT.facts 58 (by decide) (dep hd 58 (by kernel_rfl)) (fun c e=>by cases e)
    have v1:Act.eval ⟨over T U,dd⟩ (.tmp 67)=_:=eval_new (t:=T) (d:=dd) f1 (by show 67<T.size;omega)
    have hq:=HQ11.out
    refine tb_pure (v:=.bool q11) hT ho hd rfl rfl (by decide) (by decide) ?_ rfl
    generalize Act.eval ⟨over T U,dd⟩=ev at *
    rw[← hq]
    simp[execOp,go_sem,v0,v1]
   | 60,ho,hl,hd =>
    obtain rfl:=Option.some.inj ho
    have v0:=eval_old (d:=dd) (hT.out 2 (by decide)) (by omega) t2
    refine tb_pure (v:=.pointer (some ⟨w.heap.size,12,none⟩)) hT ho hd rfl rfl (by decide) (by decide) ?_ rfl
    generalize Act.eval ⟨over T U,dd⟩=ev at *
    simp[execOp,go_sem,v0]
   | 61,ho,hl,hd =>
    obtain rfl:=Option.some.inj ho
    have f0:U 69=some (.pointer (some ⟨w.heap.size,12,none⟩)):=hT.facts 60 (by decide) (dep hd 60 (by kernel_rfl)) (fun c e=>by cases e)
    have v0:Act.eval ⟨over T U,dd⟩ (.tmp 69)=_:=eval_new (t:=T) (d:=dd) f0 (by show 69<T.size;omega)
    have hc:=hx.keep (CA.out 12 _ rfl)
    refine tb_pure (v:=.int .i64 a.set_) hT ho hd rfl rfl (by decide) (by decide) ?_ rfl
    generalize Act.eval ⟨over T U,dd⟩=ev at *
    simp[execOp,go_sem,v0,hc]
   | 62,ho,hl,hd =>
    obtain rfl:=Option.some.inj ho
    have v0:=eval_old (d:=dd) (hT.out 3 (by decide)) (by omega) t3
    refine tb_pure (v:=.pointer (some ⟨w.heap.size+1,12,none⟩)) hT ho hd rfl rfl (by decide) (by decide) ?_ rfl
    generalize Act.eval ⟨over T U,dd⟩=ev at *
    simp[execOp,go_sem,v0]
   | 63,ho,hl,hd =>
    obtain rfl:=Option.some.inj ho
    have f0:U 71=some (.pointer (some ⟨w.heap.size+1,12,none⟩)):=hT.facts 62 (by decide) (dep hd 62 (by kernel_rfl)) (fun c e=>by cases e)
    have v0:Act.eval ⟨over T U,dd⟩ (.tmp 71)=_:=eval_new (t:=T) (d:=dd) f0 (by show 71<T.size;omega)
    have hc:=hx.keep (CB.out 12 _ rfl)
    refine tb_pure (v:=.int .i64 b.set_) hT ho hd rfl rfl (by decide) (by decide) ?_ rfl
    generalize Act.eval ⟨over T U,dd⟩=ev at *
    simp[execOp,go_sem,v0,hc]
   | 64,ho,hl,hd =>
    obtain rfl:=Option.some.inj ho
    have f0:U 70=some (.int .i64 a.set_):=hT.facts 61 (by decide) (dep hd 61 (by kernel_rfl)) (fun c e=>by cases e)
    have v0:Act.eval ⟨over T U,dd⟩ (.tmp 70)=_:=eval_new (t:=T) (d:=dd) f0 (by show 70<T.size;omega)
    have f1:U 72=some (.int .i64 b.set_):=hT.facts 63 (by decide) (dep hd 63 (by kernel_rfl)) (fun c e=>by cases e)
    have v1:Act.eval ⟨over T U,dd⟩ (.tmp 72)=_:=eval_new (t:=T) (d:=dd) f1 (by show 72<T.size;omega)
    have hq:=HQ12.out
    refine tb_pure (v:=.bool q12) hT ho hd rfl rfl (by decide) (by decide) ?_ rfl
    generalize Act.eval ⟨over T U,dd⟩=ev at *
    rw[← hq]
    simp[execOp,go_sem,v0,v1]
   | 65,ho,hl,hd =>
    obtain rfl:=Option.some.inj ho
    have v0:=eval_old (d:=dd) (hT.out 2 (by decide)) (by omega) t2
    refine tb_pure (v:=.pointer (some ⟨w.heap.size,13,none⟩)) hT ho hd rfl rfl (by decide) (by decide) ?_ rfl
    generalize Act.eval ⟨over T U,dd⟩=ev at *
    simp[execOp,go_sem,v0]
   | 66,ho,hl,hd =>
    obtain rfl:=Option.some.inj ho
    have f0:U 74=some (.pointer (some ⟨w.heap.size,13,none⟩)):=hT.facts 65 (by decide) (dep hd 65 (by kernel_rfl)) (fun c e=>by cases e)
    have v0:Act.eval ⟨over T U,dd⟩ (.tmp 74)=_:=eval_new (t:=T) (d:=dd) f0 (by show 74<T.size;omega)
    have hc:=hx.keep (CA.out 13 _ rfl)
    refine tb_pure (v:=.int .i64 a.wrd) hT ho hd rfl rfl (by decide) (by decide) ?_ rfl
    generalize Act.eval ⟨over T U,dd⟩=ev at *
    simp[execOp,go_sem,v0,hc]
   | 67,ho,hl,hd =>
    obtain rfl:=Option.some.inj ho
    have v0:=eval_old (d:=dd) (hT.out 3 (by decide)) (by omega) t3
    refine tb_pure (v:=.pointer (some ⟨w.heap.size+1,13,none⟩)) hT ho hd rfl rfl (by decide) (by decide) ?_ rfl
    generalize Act.eval ⟨over T U,dd⟩=ev at *
    simp[execOp,go_sem,v0]
   | 68,ho,hl,hd =>
    obtain rfl:=Option.some.inj ho
    have f0:U 76=some (.pointer (some ⟨w.heap.size+1,13,none⟩)):=hT.facts 67 (by decide) (dep hd 67 (by kernel_rfl)) (fun c e=>by cases e)
    have v0:Act.eval ⟨over T U,dd⟩ (.tmp 76)=_:=eval_new (t:=T) (d:=dd) f0 (by show 76<T.size;omega)
    have hc:=hx.keep (CB.out 13 _ rfl)
    refine tb_pure (v:=.int .i64 b.wrd) hT ho hd rfl rfl (by decide) (by decide) ?_ rfl
    generalize Act.eval ⟨over T U,dd⟩=ev at *
    simp[execOp,go_sem,v0,hc]
   | 69,ho,hl,hd =>
    obtain rfl:=Option.some.inj ho
    have f0:U 75=some (.int .i64 a.wrd):=hT.facts 66 (by decide) (dep hd 66 (by kernel_rfl)) (fun c e=>by cases e)
    have v0:Act.eval ⟨over T U,dd⟩ (.tmp 75)=_:=eval_new (t:=T) (d:=dd) f0 (by show 75<T.size;omega)
    have f1:U 77=some (.int .i64 b.wrd):=hT.facts 68 (by decide) (dep hd 68 (by kernel_rfl)) (fun c e=>by cases e)
    have v1:Act.eval ⟨over T U,dd⟩ (.tmp 77)=_:=eval_new (t:=T) (d:=dd) f1 (by show 77<T.size;omega)
    have hq:=HQ13.out
    refine tb_pure (v:=.bool q13) hT ho hd rfl rfl (by decide) (by decide) ?_ rfl
    generalize Act.eval ⟨over T U,dd⟩=ev at *
    rw[← hq]
    simp[execOp,go_sem,v0,v1]
   | 70,ho,hl,hd =>
    obtain rfl:=Option.some.inj ho
    have v0:=eval_old (d:=dd) (hT.out 2 (by decide)) (by omega) t2
    refine tb_pure (v:=.pointer (some ⟨w.heap.size,14,none⟩)) hT ho hd rfl rfl (by decide) (by decide) ?_ rfl
    generalize Act.eval ⟨over T U,dd⟩=ev at *
    simp[execOp,go_sem,v0]
   | 71,ho,hl,hd =>
    obtain rfl:=Option.some.inj ho
    have f0:U 79=some (.pointer (some ⟨w.heap.size,14,none⟩)):=hT.facts 70 (by decide) (dep hd 70 (by kernel_rfl)) (fun c e=>by cases e)
    have v0:Act.eval ⟨over T U,dd⟩ (.tmp 79)=_:=eval_new (t:=T) (d:=dd) f0 (by show 79<T.size;omega)
    have hc:=hx.keep (CA.out 14 _ rfl)
    refine tb_pure (v:=.int .i64 a.sec) hT ho hd rfl rfl (by decide) (by decide) ?_ rfl
    generalize Act.eval ⟨over T U,dd⟩=ev at *
    simp[execOp,go_sem,v0,hc]
   | 72,ho,hl,hd =>
    obtain rfl:=Option.some.inj ho
    have v0:=eval_old (d:=dd) (hT.out 3 (by decide)) (by omega) t3
    refine tb_pure (v:=.pointer (some ⟨w.heap.size+1,14,none⟩)) hT ho hd rfl rfl (by decide) (by decide) ?_ rfl
    generalize Act.eval ⟨over T U,dd⟩=ev at *
    simp[execOp,go_sem,v0]
   | 73,ho,hl,hd =>
    obtain rfl:=Option.some.inj ho
    have f0:U 81=some (.pointer (some ⟨w.heap.size+1,14,none⟩)):=hT.facts 72 (by decide) (dep hd 72 (by kernel_rfl)) (fun c e=>by cases e)
    have v0:Act.eval ⟨over T U,dd⟩ (.tmp 81)=_:=eval_new (t:=T) (d:=dd) f0 (by show 81<T.size;omega)
    have hc:=hx.keep (CB.out 14 _ rfl)
    refine tb_pure (v:=.int .i64 b.sec) hT ho hd rfl rfl (by decide) (by decide) ?_ rfl
    generalize Act.eval ⟨over T U,dd⟩=ev at *
    simp[execOp,go_sem,v0,hc]
   | 74,ho,hl,hd =>
    obtain rfl:=Option.some.inj ho
    have f0:U 80=some (.int .i64 a.sec):=hT.facts 71 (by decide) (dep hd 71 (by kernel_rfl)) (fun c e=>by cases e)
    have v0:Act.eval ⟨over T U,dd⟩ (.tmp 80)=_:=eval_new (t:=T) (d:=dd) f0 (by show 80<T.size;omega)
    have f1:U 82=some (.int .i64 b.sec):=hT.facts 73 (by decide) (dep hd 73 (by kernel_rfl)) (fun c e=>by cases e)
    have v1:Act.eval ⟨over T U,dd⟩ (.tmp 82)=_:=eval_new (t:=T) (d:=dd) f1 (by show 82<T.size;omega)
    have hq:=HQ14.out
    refine tb_pure (v:=.bool q14) hT ho hd rfl rfl (by decide) (by decide) ?_ rfl
    generalize Act.eval ⟨over T U,dd⟩=ev at *
    rw[← hq]
    simp[execOp,go_sem,v0,v1]
   | 75,ho,hl,hd =>
    obtain rfl:=Option.some.inj ho
    have v0:=eval_old (d:=dd) (hT.out 2 (by decide)) (by omega) t2
    refine tb_pure (v:=.pointer (some ⟨w.heap.size,15,none⟩)) hT ho hd rfl rfl (by decide) (by decide) ?_ rfl
    generalize Act.eval ⟨over T U,dd⟩=ev at *
    simp[execOp,go_sem,v0]
   | 76,ho,hl,hd =>
    obtain rfl:=Option.some.inj ho
    have f0:U 84=some (.pointer (some ⟨w.heap.size,15,none⟩)):=hT.facts 75 (by decide) (dep hd 75 (by kernel_rfl)) (fun c e=>by cases e)
    have v0:Act.eval ⟨over T U,dd⟩ (.tmp 84)=_:=eval_new (t:=T) (d:=dd) f0 (by show 84<T.size;omega)
    have hc:=hx.keep (CA.out 15 _ rfl)
    refine tb_pure (v:=.slice La.sA a.assets.length La.sc) hT ho hd rfl rfl (by decide) (by decide) ?_ rfl
    generalize Act.eval ⟨over T U,dd⟩=ev at *
    simp[execOp,go_sem,v0,hc]
   | 77,ho,hl,hd =>
    obtain rfl:=Option.some.inj ho
    have v0:=eval_old (d:=dd) (hT.out 3 (by decide)) (by omega) t3
    refine tb_pure (v:=.pointer (some ⟨w.heap.size+1,15,none⟩)) hT ho hd rfl rfl (by decide) (by decide) ?_ rfl
    generalize Act.eval ⟨over T U,dd⟩=ev at *
    simp[execOp,go_sem,v0]
   | 78,ho,hl,hd =>
    obtain rfl:=Option.some.inj ho
    have f0:U 86=some (.pointer (some ⟨w.heap.size+1,15,none⟩)):=hT.facts 77 (by decide) (dep hd 77 (by kernel_rfl)) (fun c e=>by cases e)
    have v0:Act.eval ⟨over T U,dd⟩ (.tmp 86)=_:=eval_new (t:=T) (d:=dd) f0 (by show 86<T.size;omega)
    have hc:=hx.keep (CB.out 15 _ rfl)
    refine tb_pure (v:=.slice Lb.sA b.assets.length Lb.sc) hT ho hd rfl rfl (by decide) (by decide) ?_ rfl
    generalize Act.eval ⟨over T U,dd⟩=ev at *
    simp[execOp,go_sem,v0,hc]
   | 79,ho,hl,hd =>
    obtain rfl:=Option.some.inj ho
    have f0:U 85=some (.slice La.sA a.assets.length La.sc):=hT.facts 76 (by decide) (dep hd 76 (by kernel_rfl)) (fun c e=>by cases e)
    have v0:Act.eval ⟨over T U,dd⟩ (.tmp 85)=_:=eval_new (t:=T) (d:=dd) f0 (by show 85<T.size;omega)
    have f1:U 87=some (.slice Lb.sA b.assets.length Lb.sc):=hT.facts 78 (by decide) (dep hd 78 (by kernel_rfl)) (fun c e=>by cases e)
    have v1:Act.eval ⟨over T U,dd⟩ (.tmp 87)=_:=eval_new (t:=T) (d:=dd) f1 (by show 87<T.size;omega)
    refine tb_call (f:=47) (args:=#[.slice La.sA a.assets.length La.sc,.slice Lb.sA b.assets.length Lb.sc]) (dfR_ext w.heap.size a b La Lb q0 q1 q2 q3 q4 q5 q6 q7 q8 q9 q10 q11 q12 q13 q14 q15 q16) hT ho hd rfl rfl (by decide) (by decide) (exec_call2 rfl rfl v0 v1 EN.out) ?_
    have e1:=X0.out.trans hx
    refine(equalI_any _ _ _ _ a.assets b.assets wz (HA.out.s.ext e1) (HB.out.s.ext e1) (Nat.le_trans HA.out.ok.sl (by decide)) (Nat.le_trans HB.out.ok.sl (by decide))).mono ?_
    rintro e w' ⟨rfl,nn,rfl⟩
    exact⟨_,rfl,(Ext.refl _).drewN _,by rw[HQ15.out];rfl⟩
   | 80,ho,hl,hd =>
    obtain rfl:=Option.some.inj ho
    have v0:=eval_old (d:=dd) (hT.out 2 (by decide)) (by omega) t2
    refine tb_pure (v:=.pointer (some ⟨w.heap.size,16,none⟩)) hT ho hd rfl rfl (by decide) (by decide) ?_ rfl
    generalize Act.eval ⟨over T U,dd⟩=ev at *
    simp[execOp,go_sem,v0]
   | 81,ho,hl,hd =>
    obtain rfl:=Option.some.inj ho
    have f0:U 89=some (.pointer (some ⟨w.heap.size,16,none⟩)):=hT.facts 80 (by decide) (dep hd 80 (by kernel_rfl)) (fun c e=>by cases e)
    have v0:Act.eval ⟨over T U,dd⟩ (.tmp 89)=_:=eval_new (t:=T) (d:=dd) f0 (by show 89<T.size;omega)
    have hc:=hx.keep (CA.out 16 _ rfl)
    refine tb_pure (v:=.int .i64 a.rub) hT ho hd rfl rfl (by decide) (by decide) ?_ rfl
    generalize Act.eval ⟨over T U,dd⟩=ev at *
    simp[execOp,go_sem,v0,hc]
   | 82,ho,hl,hd =>
    obtain rfl:=Option.some.inj ho
    have v0:=eval_old (d:=dd) (hT.out 3 (by decide)) (by omega) t3
    refine tb_pure (v:=.pointer (some ⟨w.heap.size+1,16,none⟩)) hT ho hd rfl rfl (by decide) (by decide) ?_ rfl
    generalize Act.eval ⟨over T U,dd⟩=ev at *
    simp[execOp,go_sem,v0]
   | 83,ho,hl,hd =>
    obtain rfl:=Option.some.inj ho
    have f0:U 91=some (.pointer (some ⟨w.heap.size+1,16,none⟩)):=hT.facts 82 (by decide) (dep hd 82 (by kernel_rfl)) (fun c e=>by cases e)
    have v0:Act.eval ⟨over T U,dd⟩ (.tmp 91)=_:=eval_new (t:=T) (d:=dd) f0 (by show 91<T.size;omega)
    have hc:=hx.keep (CB.out 16 _ rfl)
    refine tb_pure (v:=.int .i64 b.rub) hT ho hd rfl rfl (by decide) (by decide) ?_ rfl
    generalize Act.eval ⟨over T U,dd⟩=ev at *
    simp[execOp,go_sem,v0,hc]
   | 84,ho,hl,hd =>
    obtain rfl:=Option.some.inj ho
    have f0:U 90=some (.int .i64 a.rub):=hT.facts 81 (by decide) (dep hd 81 (by kernel_rfl)) (fun c e=>by cases e)
    have v0:Act.eval ⟨over T U,dd⟩ (.tmp 90)=_:=eval_new (t:=T) (d:=dd) f0 (by show 90<T.size;omega)
    have f1:U 92=some (.int .i64 b.rub):=hT.facts 83 (by decide) (dep hd 83 (by kernel_rfl)) (fun c e=>by cases e)
    have v1:Act.eval ⟨over T U,dd⟩ (.tmp 92)=_:=eval_new (t:=T) (d:=dd) f1 (by show 92<T.size;omega)
    have hq:=HQ16.out
    refine tb_pure (v:=.bool q16) hT ho hd rfl rfl (by decide) (by decide) ?_ rfl
    generalize Act.eval ⟨over T U,dd⟩=ev at *
    rw[← hq]
    simp[execOp,go_sem,v0,v1]
   | 85,ho,hl,hd =>
    obtain rfl:=Option.some.inj ho
    have f0:U 13=some (.bool q0):=hT.facts 4 (by decide) (dep hd 4 (by kernel_rfl)) (fun c e=>by cases e)
    have v0:Act.eval ⟨over T U,dd⟩ (.tmp 13)=_:=eval_new (t:=T) (d:=dd) f0 (by show 13<T.size;omega)
    have f1:U 18=some (.bool q1):=hT.facts 9 (by decide) (dep hd 9 (by kernel_rfl)) (fun c e=>by cases e)
    have v1:Act.eval ⟨over T U,dd⟩ (.tmp 18)=_:=eval_new (t:=T) (d:=dd) f1 (by show 18<T.size;omega)
    have f2:U 23=some (.bool q2):=hT.facts 14 (by decide) (dep hd 14 (by kernel_rfl)) (fun c e=>by cases e)
    have v2:Act.eval ⟨over T U,dd⟩ (.tmp 23)=_:=eval_new (t:=T) (d:=dd) f2 (by show 23<T.size;omega)
    have f3:U 28=some (.bool q3):=hT.facts 19 (by decide) (dep hd 19 (by kernel_rfl)) (fun c e=>by cases e)
    have v3:Act.eval ⟨over T U,dd⟩ (.tmp 28)=_:=eval_new (t:=T) (d:=dd) f3 (by show 28<T.size;omega)
    have f4:U 33=some (.bool q4):=hT.facts 24 (by decide) (dep hd 24 (by kernel_rfl)) (fun c e=>by cases e)
    have v4:Act.eval ⟨over T U,dd⟩ (.tmp 33)=_:=eval_new (t:=T) (d:=dd) f4 (by show 33<T.size;omega)
    have f5:U 38=some (.bool q5):=hT.facts 29 (by decide) (dep hd 29 (by kernel_rfl)) (fun c e=>by cases e)
    have v5:Act.eval ⟨over T U,dd⟩ (.tmp 38)=_:=eval_new (t:=T) (d:=dd) f5 (by show 38<T.size;omega)
    have f6:U 43=some (.bool q6):=hT.facts 34 (by decide) (dep hd 34 (by kernel_rfl)) (fun c e=>by cases e)
    have v6:Act.eval ⟨over T U,dd⟩ (.tmp 43)=_:=eval_new (t:=T) (d:=dd) f6 (by show 43<T.size;omega)
    have f7:U 48=some (.bool q7):=hT.facts 39 (by decide) (dep hd 39 (by kernel_rfl)) (fun c e=>by cases e)
    have v7:Act.eval ⟨over T U,dd⟩ (.tmp 48)=_:=eval_new (t:=T) (d:=dd) f7 (by show 48<T.size;omega)
    have f8:U 53=some (.bool q8):=hT.facts 44 (by decide) (dep hd 44 (by kernel_rfl)) (fun c e=>by cases e)
    have v8:Act.eval ⟨over T U,dd⟩ (.tmp 53)=_:=eval_new (t:=T) (d:=dd) f8 (by show 53<T.size;omega)
    have f9:U 58=some (.bool q9):=hT.facts 49 (by decide) (dep hd 49 (by kernel_rfl)) (fun c e=>by cases e)
    have v9:Act.eval ⟨over T U,dd⟩ (.tmp 58)=_:=eval_new (t:=T) (d:=dd) f9 (by show 58<T.size;omega)
    have f10:U 63=some (.bool q10):=hT.facts 54 (by decide) (dep hd 54 (by kernel_rfl)) (fun c e=>by cases e)
    have v10:Act.eval ⟨over T U,dd⟩ (.tmp 63)=_:=eval_new (t:=T) (d:=dd) f10 (by show 63<T.size;omega)
    have f11:U 68=some (.bool q11):=hT.facts 59 (by decide) (dep hd 59 (by kernel_rfl)) (fun c e=>by cases e)
    have v11:Act.eval ⟨over T U,dd⟩ (.tmp 68)=_:=eval_new (t:=T) (d:=dd) f11 (by show 68<T.size;omega)
    have f12:U 73=some (.bool q12):=hT.facts 64 (by decide) (dep hd 64 (by kernel_rfl)) (fun c e=>by cases e)
    have v12:Act.eval ⟨over T U,dd⟩ (.tmp 73)=_:=eval_new (t:=T) (d:=dd) f12 (by show 73<T.size;omega)
    have f13:U 78=some (.bool q13):=hT.facts 69 (by decide) (dep hd 69 (by kernel_rfl)) (fun c e=>by cases e)
    have v13:Act.eval ⟨over T U,dd⟩ (.tmp 78)=_:=eval_new (t:=T) (d:=dd) f13 (by show 78<T.size;omega)
    have f14:U 83=some (.bool q14):=hT.facts 74 (by decide) (dep hd 74 (by kernel_rfl)) (fun c e=>by cases e)
    have v14:Act.eval ⟨over T U,dd⟩ (.tmp 83)=_:=eval_new (t:=T) (d:=dd) f14 (by show 83<T.size;omega)
    have f15:U 88=some (.bool q15):=hT.facts 79 (by decide) (dep hd 79 (by kernel_rfl)) (fun c e=>by cases e)
    have v15:Act.eval ⟨over T U,dd⟩ (.tmp 88)=_:=eval_new (t:=T) (d:=dd) f15 (by show 88<T.size;omega)
    have f16:U 93=some (.bool q16):=hT.facts 84 (by decide) (dep hd 84 (by kernel_rfl)) (fun c e=>by cases e)
    have v16:Act.eval ⟨over T U,dd⟩ (.tmp 93)=_:=eval_new (t:=T) (d:=dd) f16 (by show 93<T.size;omega)
    refine tb_pure (v:=.agg #[.bool q0,.bool q1,.bool q2,.bool q3,.bool q4,.bool q5,.bool q6,.bool q7,.bool q8,.bool q9,.bool q10,.bool q11,.bool q12,.bool q13,.bool q14,.bool q15,.bool q16]) hT ho hd rfl rfl (by decide) (by decide) ?_ rfl
    generalize Act.eval ⟨over T U,dd⟩=ev at *
    simp[execOp,go_sem,v0,v1,v2,v3,v4,v5,v6,v7,v8,v9,v10,v11,v12,v13,v14,v15,v16]
   | 86,ho,hl,hd =>
    obtain rfl:=Option.some.inj ho
    have hsz:w.heap.size+2≤wz.heap.size:=by have:=hx.size;simp at this;omega
    refine tb_extW (v:=.pointer (some ⟨wz.heap.size,0,none⟩)) (w':=wz.alloc (.cells #[.bool false,.bool false,.bool false,.bool false,.bool false,.bool false,.bool false,.bool false,.bool false,.bool false,.bool false,.bool false,.bool false,.bool false,.bool false,.bool false,.bool false] 170)) (dfR_ext w.heap.size a b La Lb q0 q1 q2 q3 q4 q5 q6 q7 q8 q9 q10 q11 q12 q13 q14 q15 q16) hT ho hd rfl rfl (by decide) (fun j hj hji hlj=>?_) ?_ ((Ext.refl _).alloc _) ⟨wz.heap.size,rfl,hsz,_,rfl,heap_alloc_new _ _⟩
    · by_cases h87:j=87
      · subst h87
        have:=dep (hT.shut 87 _ rfl hlj) 86 (by kernel_rfl)
        rw[hl]at this;cases this
      · exact(show ∀ j,j<88→j≠86→j≠87→dfD.getD j 0≠5 by decide) j hj hji h87
    · generalize Act.eval ⟨over T U,dd⟩=ev at *
      simp[execOp,go_sem]
   | 87,ho,hl,hd =>
    obtain rfl:=Option.some.inj ho
    obtain⟨q,f5,hq,cs,hcs,hblk⟩:∃ q:Nat,U 5=some (.pointer (some ⟨q,0,none⟩))∧w.heap.size+2≤q∧∃ cs:Array Value,cs.size=17∧wz.heap[q]?=some (.cells cs 170 (0,0)):=hT.facts 86 (by decide) (dep hd 86 (by kernel_rfl)) (fun c e=>by cases e)
    have f6:U 94=some (.agg #[.bool q0,.bool q1,.bool q2,.bool q3,.bool q4,.bool q5,.bool q6,.bool q7,.bool q8,.bool q9,.bool q10,.bool q11,.bool q12,.bool q13,.bool q14,.bool q15,.bool q16]):=hT.facts 85 (by decide) (dep hd 85 (by kernel_rfl)) (fun c e=>by cases e)
    have v6:Act.eval ⟨over T U,dd⟩ (.tmp 94)=_:=eval_new (t:=T) (d:=dd) f6 (by show 94<T.size;omega)
    have v5:Act.eval ⟨over T U,dd⟩ (.tmp 5)=_:=eval_new (t:=T) (d:=dd) f5 (by show 5<T.size;omega)
    refine tb_store (w':=wz.setRow q #[.bool q0,.bool q1,.bool q2,.bool q3,.bool q4,.bool q5,.bool q6,.bool q7,.bool q8,.bool q9,.bool q10,.bool q11,.bool q12,.bool q13,.bool q14,.bool q15,.bool q16]) hT ho hd rfl rfl (exec_store_row _ _ _ rfl q _ v5 v6 _ cs hblk (by kernel_rfl) hcs (by simp[Value.oneCell'])) (hx.setRow (by simp;omega) _) ⟨q,f5,hq,setRow_at hblk⟩ (fun j hj hji hlj hcj hR=>?_)
    by_cases h86:j=86
    · subst h86
      obtain⟨q',e1,e2,cs',h0,h1⟩:∃ q:Nat,U 5=some (.pointer (some ⟨q,0,none⟩))∧w.heap.size+2≤q∧∃ cs:Array Value,cs.size=17∧wz.heap[q]?=some (.cells cs 170 (0,0)):=hR
      rw[f5]at e1
      cases e1
      exact⟨q,f5,hq,_,rfl,setRow_at hblk⟩
    · exact dfR_val w.heap.size a b La Lb q0 q1 q2 q3 q4 q5 q6 q7 q8 q9 q10 q11 q12 q13 q14 q15 q16 hji h86 _ _ _ hR
   | i+88,ho,_,_=>exact absurd ho (by simp)
 · intro U wz hex hout hfin
   obtain⟨q,f5,hq,hblk⟩:∃ q:Nat,U 5=some (.pointer (some ⟨q,0,none⟩))∧w.heap.size+2≤q∧wz.heap[q]?=some (.cells #[.bool q0,.bool q1,.bool q2,.bool q3,.bool q4,.bool q5,.bool q6,.bool q7,.bool q8,.bool q9,.bool q10,.bool q11,.bool q12,.bool q13,.bool q14,.bool q15,.bool q16] 170 (0,0)):=hfin 87 (by decide) rfl
   have HX:=Hi (X0.out.trans hex)
   have HDB:=Hi (DfB.of hblk)
   have hqlt:q<wz.heap.size:=by
    rcases Nat.lt_or_ge q wz.heap.size with g | g
    · exact g
    · rw[Array.getElem?_eq_none g]at hblk;cases hblk
   clear hex hfin hblk
   rw[over_list]
   simp(disch:=decide) only[overL,Nat.reduceAdd,hout,Option.getD_none]
   rw[f5]
   simp only[Option.getD_some]
   clear hout f5
   have g0:wz.cell? ⟨0,0,none⟩=some (.string ⟨#[73,100]⟩):=(HF.out.ext HX.out) 0 _ rfl
   have g1:wz.cell? ⟨0,1,none⟩=some (.string ⟨#[86,101,114,115,105,111,110]⟩):=(HF.out.ext HX.out) 1 _ rfl
   have g2:wz.cell? ⟨0,2,none⟩=some (.string ⟨#[75,105,110,100]⟩):=(HF.out.ext HX.out) 2 _ rfl
   have g3:wz.cell? ⟨0,3,none⟩=some (.string ⟨#[83,116,101,109]⟩):=(HF.out.ext HX.out) 3 _ rfl
   have g4:wz.cell? ⟨0,4,none⟩=some (.string ⟨#[79,112,116,105,111,110,115]⟩):=(HF.out.ext HX.out) 4 _ rfl
   have g5:wz.cell? ⟨0,5,none⟩=some (.string ⟨#[67,104,111,105,99,101,115]⟩):=(HF.out.ext HX.out) 5 _ rfl
   have g6:wz.cell? ⟨0,6,none⟩=some (.string ⟨#[86,97,108,117,101]⟩):=(HF.out.ext HX.out) 6 _ rfl
   have g7:wz.cell? ⟨0,7,none⟩=some (.string ⟨#[84,111,108]⟩):=(HF.out.ext HX.out) 7 _ rfl
   have g8:wz.cell? ⟨0,8,none⟩=some (.string ⟨#[84,101,120,116,115]⟩):=(HF.out.ext HX.out) 8 _ rfl
   have g9:wz.cell? ⟨0,9,none⟩=some (.string ⟨#[80,111,105,110,116,115]⟩):=(HF.out.ext HX.out) 9 _ rfl
   have g10:wz.cell? ⟨0,10,none⟩=some (.string ⟨#[67,111,110,116,101,110,116]⟩):=(HF.out.ext HX.out) 10 _ rfl
   have g11:wz.cell? ⟨0,11,none⟩=some (.string ⟨#[70,97,109,105,108,121]⟩):=(HF.out.ext HX.out) 11 _ rfl
   have g12:wz.cell? ⟨0,12,none⟩=some (.string ⟨#[83,101,116]⟩):=(HF.out.ext HX.out) 12 _ rfl
   have g13:wz.cell? ⟨0,13,none⟩=some (.string ⟨#[87,111,114,100,115]⟩):=(HF.out.ext HX.out) 13 _ rfl
   have g14:wz.cell? ⟨0,14,none⟩=some (.string ⟨#[83,101,99,111,110,100,115]⟩):=(HF.out.ext HX.out) 14 _ rfl
   have g15:wz.cell? ⟨0,15,none⟩=some (.string ⟨#[65,115,115,101,116,115]⟩):=(HF.out.ext HX.out) 15 _ rfl
   have g16:wz.cell? ⟨0,16,none⟩=some (.string ⟨#[82,117,98,114,105,99]⟩):=(HF.out.ext HX.out) 16 _ rfl
   generalize (List.map _ _:List Value)=JUNK
   go_wp2
   clear g0 g1 g2 g3 g4 g5 g6 g7 g8 g9 g10 g11 g12 g13 g14 g15 g16
   go_loopw [6,96] (fun n i wr=>∃ k:Nat,k≤17∧i=.int .i64 k∧Hid (RowS wz.heap.size (It.foldN ((It.pairs a b).take k)) wr n)∧Hid (Ext wz wr)) (fun _ i _=>17-(intOf i).toNat)
   case atStart=>exact⟨0,by omega,rfl,Hi (own_nil _ _ _ _),Hi (Ext.refl _)⟩
   case round =>
    obtain⟨k,hk,rfl,HR,HE⟩:=hrel
    by_cases hlt:k<17
    · obtain⟨qk,s,h1,h2,h3⟩:=It.pairs_at a b hlt
      rw[HQ.out]at h1
      have c0:_=_:=(HDB.out.ext HE.out) k qk h1
      have hix:=fld_index k hlt h2
      have ki0:(0:Int)≤(k:Int):=by omega
      have ki1:(k:Int)<17:=by omega
      have HN:=Hi (It.foldN_snoc h3)
      have hle:=It.foldN_le ((It.pairs a b).take k)
      have hle2:=List.length_take_le k (It.pairs a b)
      have hqz:q<wr.heap.size:=Nat.lt_of_lt_of_le hqlt HE.out.size
      clear h1 h2 h3
      cases qk with
      | true =>
       go_wp2
       go_roundw
       case rel=>exact⟨k+1,by omega,by go_num,Hi (by rw[HN.out];exact HR.out),HE⟩
       case measure=>simp[intOf];omega
      | false =>
       obtain⟨nx,hxn⟩:∃ n,(It.foldN ((It.pairs a b).take k)).length=n:=⟨_,rfl⟩
       obtain⟨A,c,rfl⟩:=own_form HR.out
       have HO2:Hid (wr.ownsRow wz.heap.size 9 1 (.slice A nx c) nx ((It.foldN ((It.pairs a b).take k)).map Value.string)):=Hi (by rw[← hxn];exact HR.out)
       have hn:nx≤1000:=by omega
       have HXN:=Hi hxn
       rw[hxn]
       clear hxn HR hle hle2
       go_wp2_with (at_builtin;refine wpList_append_lies _ rfl _ _ 37 rfl wz.heap.size 9 i0 (.string ⟨#[]⟩) 1 16 Tryz.underlying37 hi0 hz0 hz1 hz2 rfl (by decide) _ _ _ rfl (HO2.out.alloc _) ⟨wr.heap.size,0,none⟩ 1 1 [.string s] rfl rfl (cell_one_new _ _ _) (by simp[Value.oneCell']) (by decide) (by unfold maxLen;omega) (by omega) (by have:=HE.out.size;simp;omega) (wr.heap.size+1) (by simp) ?_;intro gg cap w2 hown2 hgrow2 hat hlt2)
       have HO3:=Hi hown2
       have he2:=Hi ((HE.out.alloc (.cells #[.string s] 9)).grown hgrow2 (fun q hq=>own_ge HO2.out q hq))
       clear hown2 hgrow2
       go_wp2
       go_roundw
       case rel=>exact⟨k+1,by omega,by go_num,Hi (by
        unfold RowS
        rw[HN.out,Bool.not_false,It.addL_yes,List.length_append,List.map_append,HXN.out]
        exact HO3.out),he2⟩
       case measure=>simp[intOf];omega
    · obtain rfl:k=17:=by omega
      have HE17:Hid (It.foldN ((It.pairs a b).take 17)=It.diff a b):=Hi rfl
      obtain⟨A,c,hsl,hl1,hl2,hSl⟩:=HR.out.sl
      subst hsl
      have HS:=Hi hSl
      have HL:=Hi hl1
      have HM:=Hi hl2
      clear hSl hl1 hl2
      go_wp2
      go_ret
      rw[HE17.out]at HS HL ⊢
      exact⟨⟨A,c,rfl,HS.out,HL.out,HM.out⟩,HX.out.trans HE.out⟩
end Go.Proofs.YtfnmgcblhebdbaaGreatDoor
