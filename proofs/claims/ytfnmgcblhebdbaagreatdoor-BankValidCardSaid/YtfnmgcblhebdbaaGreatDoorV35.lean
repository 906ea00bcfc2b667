/- item.Diff: a contract. Conditions: those of each theorem (the package's variable fields holds the names). -/
import Derived.Test.YtfnmgcblhebdbaaGreatDoorV17
import Derived.Test.YtfnmgcblhebdbaaGreatDoorV13
import Derived.Test.YtfnmgcblhebdbaaGreatDoorV11
namespace Go.Proofs.YtfnmgcblhebdbaaGreatDoor
open Go.RowKit Go.Shelf

theorem setRow_at{w:World}{g:Nat}{cs cs':Array Value}{t:TypeId}(h:w.heap[g]?=some (.cells cs t (0,0))):(w.setRow g cs').heap[g]?=some (.cells cs' t (0,0)):=by simp[World.setRow,Array.getElem?_modify,h]
theorem Ext.setRow{a b:World}(h:Ext a b){g:Nat}(hg:a.heap.size≤g)(cs:Array Value):Ext a (b.setRow g cs):=h.rowSet hg cs
def fldNames:List ByteArray:=[⟨#[73,100]⟩,⟨#[86,101,114,115,105,111,110]⟩,⟨#[75,105,110,100]⟩,⟨#[83,116,101,109]⟩,⟨#[79,112,116,105,111,110,115]⟩,⟨#[67,104,111,105,99,101,115]⟩,⟨#[86,97,108,117,101]⟩,⟨#[84,111,108]⟩,⟨#[84,101,120,116,115]⟩,⟨#[80,111,105,110,116,115]⟩,⟨#[67,111,110,116,101,110,116]⟩,⟨#[70,97,109,105,108,121]⟩,⟨#[83,101,116]⟩,⟨#[87,111,114,100,115]⟩,⟨#[83,101,99,111,110,100,115]⟩,⟨#[65,115,115,101,116,115]⟩,⟨#[82,117,98,114,105,99]⟩]
def Fld (w:World):Prop:=∀ i s,fldNames[i]?=some s→w.cell? ⟨0,i,none⟩=some (.string s)
theorem Fld.ext{w w':World}(h:Fld w)(he:Ext w w'):Fld w':=fun i s hi=>he.keep (h i s hi)
theorem fld_ix0:∀ w,(Instr.index 171 (.agg #[.string ⟨#[73,100]⟩,.string ⟨#[86,101,114,115,105,111,110]⟩,.string ⟨#[75,105,110,100]⟩,.string ⟨#[83,116,101,109]⟩,.string ⟨#[79,112,116,105,111,110,115]⟩,.string ⟨#[67,104,111,105,99,101,115]⟩,.string ⟨#[86,97,108,117,101]⟩,.string ⟨#[84,111,108]⟩,.string ⟨#[84,101,120,116,115]⟩,.string ⟨#[80,111,105,110,116,115]⟩,.string ⟨#[67,111,110,116,101,110,116]⟩,.string ⟨#[70,97,109,105,108,121]⟩,.string ⟨#[83,101,116]⟩,.string ⟨#[87,111,114,100,115]⟩,.string ⟨#[83,101,99,111,110,100,115]⟩,.string ⟨#[65,115,115,101,116,115]⟩,.string ⟨#[82,117,98,114,105,99]⟩]) (.int .i64 0)).run Tryz.prog w=.ok (.string ⟨#[73,100]⟩) w:=fun _=>by kernel_rfl
theorem fld_ix1:∀ w,(Instr.index 171 (.agg #[.string ⟨#[73,100]⟩,.string ⟨#[86,101,114,115,105,111,110]⟩,.string ⟨#[75,105,110,100]⟩,.string ⟨#[83,116,101,109]⟩,.string ⟨#[79,112,116,105,111,110,115]⟩,.string ⟨#[67,104,111,105,99,101,115]⟩,.string ⟨#[86,97,108,117,101]⟩,.string ⟨#[84,111,108]⟩,.string ⟨#[84,101,120,116,115]⟩,.string ⟨#[80,111,105,110,116,115]⟩,.string ⟨#[67,111,110,116,101,110,116]⟩,.string ⟨#[70,97,109,105,108,121]⟩,.string ⟨#[83,101,116]⟩,.string ⟨#[87,111,114,100,115]⟩,.string ⟨#[83,101,99,111,110,100,115]⟩,.string ⟨#[65,115,115,101,116,115]⟩,.string ⟨#[82,117,98,114,105,99]⟩]) (.int .i64 1)).run Tryz.prog w=.ok (.string ⟨#[86,101,114,115,105,111,110]⟩) w:=fun _=>by kernel_rfl
theorem fld_ix2:∀ w,(Instr.index 171 (.agg #[.string ⟨#[73,100]⟩,.string ⟨#[86,101,114,115,105,111,110]⟩,.string ⟨#[75,105,110,100]⟩,.string ⟨#[83,116,101,109]⟩,.string ⟨#[79,112,116,105,111,110,115]⟩,.string ⟨#[67,104,111,105,99,101,115]⟩,.string ⟨#[86,97,108,117,101]⟩,.string ⟨#[84,111,108]⟩,.string ⟨#[84,101,120,116,115]⟩,.string ⟨#[80,111,105,110,116,115]⟩,.string ⟨#[67,111,110,116,101,110,116]⟩,.string ⟨#[70,97,109,105,108,121]⟩,.string ⟨#[83,101,116]⟩,.string ⟨#[87,111,114,100,115]⟩,.string ⟨#[83,101,99,111,110,100,115]⟩,.string ⟨#[65,115,115,101,116,115]⟩,.string ⟨#[82,117,98,114,105,99]⟩]) (.int .i64 2)).run Tryz.prog w=.ok (.string ⟨#[75,105,110,100]⟩) w:=fun _=>by kernel_rfl
theorem fld_ix3:∀ w,(Instr.index 171 (.agg #[.string ⟨#[73,100]⟩,.string ⟨#[86,101,114,115,105,111,110]⟩,.string ⟨#[75,105,110,100]⟩,.string ⟨#[83,116,101,109]⟩,.string ⟨#[79,112,116,105,111,110,115]⟩,.string ⟨#[67,104,111,105,99,101,115]⟩,.string ⟨#[86,97,108,117,101]⟩,.string ⟨#[84,111,108]⟩,.string ⟨#[84,101,120,116,115]⟩,.string ⟨#[80,111,105,110,116,115]⟩,.string ⟨#[67,111,110,116,101,110,116]⟩,.string ⟨#[70,97,109,105,108,121]⟩,.string ⟨#[83,101,116]⟩,.string ⟨#[87,111,114,100,115]⟩,.string ⟨#[83,101,99,111,110,100,115]⟩,.string ⟨#[65,115,115,101,116,115]⟩,.string ⟨#[82,117,98,114,105,99]⟩]) (.int .i64 3)).run Tryz.prog w=.ok (.string ⟨#[83,116,101,109]⟩) w:=fun _=>by kernel_rfl
theorem fld_ix4:∀ w,(Instr.index 171 (.agg #[.string ⟨#[73,100]⟩,.string ⟨#[86,101,114,115,105,111,110]⟩,.string ⟨#[75,105,110,100]⟩,.string ⟨#[83,116,101,109]⟩,.string ⟨#[79,112,116,105,111,110,115]⟩,.string ⟨#[67,104,111,105,99,101,115]⟩,.string ⟨#[86,97,108,117,101]⟩,.string ⟨#[84,111,108]⟩,.string ⟨#[84,101,120,116,115]⟩,.string ⟨#[80,111,105,110,116,115]⟩,.string ⟨#[67,111,110,116,101,110,116]⟩,.string ⟨#[70,97,109,105,108,121]⟩,.string ⟨#[83,101,116]⟩,.string ⟨#[87,111,114,100,115]⟩,.string ⟨#[83,101,99,111,110,100,115]⟩,.string ⟨#[65,115,115,101,116,115]⟩,.string ⟨#[82,117,98,114,105,99]⟩]) (.int .i64 4)).run Tryz.prog w=.ok (.string ⟨#[79,112,116,105,111,110,115]⟩) w:=fun _=>by kernel_rfl
theorem fld_ix5:∀ w,(Instr.index 171 (.agg #[.string ⟨#[73,100]⟩,.string ⟨#[86,101,114,115,105,111,110]⟩,.string ⟨#[75,105,110,100]⟩,.string ⟨#[83,116,101,109]⟩,.string ⟨#[79,112,116,105,111,110,115]⟩,.string ⟨#[67,104,111,105,99,101,115]⟩,.string ⟨#[86,97,108,117,101]⟩,.string ⟨#[84,111,108]⟩,.string ⟨#[84,101,120,116,115]⟩,.string ⟨#[80,111,105,110,116,115]⟩,.string ⟨#[67,111,110,116,101,110,116]⟩,.string ⟨#[70,97,109,105,108,121]⟩,.string ⟨#[83,101,116]⟩,.string ⟨#[87,111,114,100,115]⟩,.string ⟨#[83,101,99,111,110,100,115]⟩,.string ⟨#[65,115,115,101,116,115]⟩,.string ⟨#[82,117,98,114,105,99]⟩]) (.int .i64 5)).run Tryz.prog w=.ok (.string ⟨#[67,104,111,105,99,101,115]⟩) w:=fun _=>by kernel_rfl
theorem fld_ix6:∀ w,(Instr.index 171 (.agg #[.string ⟨#[73,100]⟩,.string ⟨#[86,101,114,115,105,111,110]⟩,.string ⟨#[75,105,110,100]⟩,.string ⟨#[83,116,101,109]⟩,.string ⟨#[79,112,116,105,111,110,115]⟩,.string ⟨#[67,104,111,105,99,101,115]⟩,.string ⟨#[86,97,108,117,101]⟩,.string ⟨#[84,111,108]⟩,.string ⟨#[84,101,120,116,115]⟩,.string ⟨#[80,111,105,110,116,115]⟩,.string ⟨#[67,111,110,116,101,110,116]⟩,.string ⟨#[70,97,109,105,108,121]⟩,.string ⟨#[83,101,116]⟩,.string ⟨#[87,111,114,100,115]⟩,.string ⟨#[83,101,99,111,110,100,115]⟩,.string ⟨#[65,115,115,101,116,115]⟩,.string ⟨#[82,117,98,114,105,99]⟩]) (.int .i64 6)).run Tryz.prog w=.ok (.string ⟨#[86,97,108,117,101]⟩) w:=fun _=>by kernel_rfl
theorem fld_ix7:∀ w,(Instr.index 171 (.agg #[.string ⟨#[73,100]⟩,.string ⟨#[86,101,114,115,105,111,110]⟩,.string ⟨#[75,105,110,100]⟩,.string ⟨#[83,116,101,109]⟩,.string ⟨#[79,112,116,105,111,110,115]⟩,.string ⟨#[67,104,111,105,99,101,115]⟩,.string ⟨#[86,97,108,117,101]⟩,.string ⟨#[84,111,108]⟩,.string ⟨#[84,101,120,116,115]⟩,.string ⟨#[80,111,105,110,116,115]⟩,.string ⟨#[67,111,110,116,101,110,116]⟩,.string ⟨#[70,97,109,105,108,121]⟩,.string ⟨#[83,101,116]⟩,.string ⟨#[87,111,114,100,115]⟩,.string ⟨#[83,101,99,111,110,100,115]⟩,.string ⟨#[65,115,115,101,116,115]⟩,.string ⟨#[82,117,98,114,105,99]⟩]) (.int .i64 7)).run Tryz.prog w=.ok (.string ⟨#[84,111,108]⟩) w:=fun _=>by kernel_rfl
theorem fld_ix8:∀ w,(Instr.index 171 (.agg #[.string ⟨#[73,100]⟩,.string ⟨#[86,101,114,115,105,111,110]⟩,.string ⟨#[75,105,110,100]⟩,.string ⟨#[83,116,101,109]⟩,.string ⟨#[79,112,116,105,111,110,115]⟩,.string ⟨#[67,104,111,105,99,101,115]⟩,.string ⟨#[86,97,108,117,101]⟩,.string ⟨#[84,111,108]⟩,.string ⟨#[84,101,120,116,115]⟩,.string ⟨#[80,111,105,110,116,115]⟩,.string ⟨#[67,111,110,116,101,110,116]⟩,.string ⟨#[70,97,109,105,108,121]⟩,.string ⟨#[83,101,116]⟩,.string ⟨#[87,111,114,100,115]⟩,.string ⟨#[83,101,99,111,110,100,115]⟩,.string ⟨#[65,115,115,101,116,115]⟩,.string ⟨#[82,117,98,114,105,99]⟩]) (.int .i64 8)).run Tryz.prog w=.ok (.string ⟨#[84,101,120,116,115]⟩) w:=fun _=>by kernel_rfl
theorem fld_ix9:∀ w,(Instr.index 171 (.agg #[.string ⟨#[73,100]⟩,.string ⟨#[86,101,114,115,105,111,110]⟩,.string ⟨#[75,105,110,100]⟩,.string ⟨#[83,116,101,109]⟩,.string ⟨#[79,112,116,105,111,110,115]⟩,.string ⟨#[67,104,111,105,99,101,115]⟩,.string ⟨#[86,97,108,117,101]⟩,.string ⟨#[84,111,108]⟩,.string ⟨#[84,101,120,116,115]⟩,.string ⟨#[80,111,105,110,116,115]⟩,.string ⟨#[67,111,110,116,101,110,116]⟩,.string ⟨#[70,97,109,105,108,121]⟩,.string ⟨#[83,101,116]⟩,.string ⟨#[87,111,114,100,115]⟩,.string ⟨#[83,101,99,111,110,100,115]⟩,.string ⟨#[65,115,115,101,116,115]⟩,.string ⟨#[82,117,98,114,105,99]⟩]) (.int .i64 9)).run Tryz.prog w=.ok (.string ⟨#[80,111,105,110,116,115]⟩) w:=fun _=>by kernel_rfl
theorem fld_ix10:∀ w,(Instr.index 171 (.agg #[.string ⟨#[73,100]⟩,.string ⟨#[86,101,114,115,105,111,110]⟩,.string ⟨#[75,105,110,100]⟩,.string ⟨#[83,116,101,109]⟩,.string ⟨#[79,112,116,105,111,110,115]⟩,.string ⟨#[67,104,111,105,99,101,115]⟩,.string ⟨#[86,97,108,117,101]⟩,.string ⟨#[84,111,108]⟩,.string ⟨#[84,101,120,116,115]⟩,.string ⟨#[80,111,105,110,116,115]⟩,.string ⟨#[67,111,110,116,101,110,116]⟩,.string ⟨#[70,97,109,105,108,121]⟩,.string ⟨#[83,101,116]⟩,.string ⟨#[87,111,114,100,115]⟩,.string ⟨#[83,101,99,111,110,100,115]⟩,.string ⟨#[65,115,115,101,116,115]⟩,.string ⟨#[82,117,98,114,105,99]⟩]) (.int .i64 10)).run Tryz.prog w=.ok (.string ⟨#[67,111,110,116,101,110,116]⟩) w:=fun _=>by kernel_rfl
theorem fld_ix11:∀ w,(Instr.index 171 (.agg #[.string ⟨#[73,100]⟩,.string ⟨#[86,101,114,115,105,111,110]⟩,.string ⟨#[75,105,110,100]⟩,.string ⟨#[83,116,101,109]⟩,.string ⟨#[79,112,116,105,111,110,115]⟩,.string ⟨#[67,104,111,105,99,101,115]⟩,.string ⟨#[86,97,108,117,101]⟩,.string ⟨#[84,111,108]⟩,.string ⟨#[84,101,120,116,115]⟩,.string ⟨#[80,111,105,110,116,115]⟩,.string ⟨#[67,111,110,116,101,110,116]⟩,.string ⟨#[70,97,109,105,108,121]⟩,.string ⟨#[83,101,116]⟩,.string ⟨#[87,111,114,100,115]⟩,.string ⟨#[83,101,99,111,110,100,115]⟩,.string ⟨#[65,115,115,101,116,115]⟩,.string ⟨#[82,117,98,114,105,99]⟩]) (.int .i64 11)).run Tryz.prog w=.ok (.string ⟨#[70,97,109,105,108,121]⟩) w:=fun _=>by kernel_rfl
theorem fld_ix12:∀ w,(Instr.index 171 (.agg #[.string ⟨#[73,100]⟩,.string ⟨#[86,101,114,115,105,111,110]⟩,.string ⟨#[75,105,110,100]⟩,.string ⟨#[83,116,101,109]⟩,.string ⟨#[79,112,116,105,111,110,115]⟩,.string ⟨#[67,104,111,105,99,101,115]⟩,.string ⟨#[86,97,108,117,101]⟩,.string ⟨#[84,111,108]⟩,.string ⟨#[84,101,120,116,115]⟩,.string ⟨#[80,111,105,110,116,115]⟩,.string ⟨#[67,111,110,116,101,110,116]⟩,.string ⟨#[70,97,109,105,108,121]⟩,.string ⟨#[83,101,116]⟩,.string ⟨#[87,111,114,100,115]⟩,.string ⟨#[83,101,99,111,110,100,115]⟩,.string ⟨#[65,115,115,101,116,115]⟩,.string ⟨#[82,117,98,114,105,99]⟩]) (.int .i64 12)).run Tryz.prog w=.ok (.string ⟨#[83,101,116]⟩) w:=fun _=>by kernel_rfl
theorem fld_ix13:∀ w,(Instr.index 171 (.agg #[.string ⟨#[73,100]⟩,.string ⟨#[86,101,114,115,105,111,110]⟩,.string ⟨#[75,105,110,100]⟩,.string ⟨#[83,116,101,109]⟩,.string ⟨#[79,112,116,105,111,110,115]⟩,.string ⟨#[67,104,111,105,99,101,115]⟩,.string ⟨#[86,97,108,117,101]⟩,.string ⟨#[84,111,108]⟩,.string ⟨#[84,101,120,116,115]⟩,.string ⟨#[80,111,105,110,116,115]⟩,.string ⟨#[67,111,110,116,101,110,116]⟩,.string ⟨#[70,97,109,105,108,121]⟩,.string ⟨#[83,101,116]⟩,.string ⟨#[87,111,114,100,115]⟩,.string ⟨#[83,101,99,111,110,100,115]⟩,.string ⟨#[65,115,115,101,116,115]⟩,.string ⟨#[82,117,98,114,105,99]⟩]) (.int .i64 13)).run Tryz.prog w=.ok (.string ⟨#[87,111,114,100,115]⟩) w:=fun _=>by kernel_rfl
theorem fld_ix14:∀ w,(Instr.index 171 (.agg #[.string ⟨#[73,100]⟩,.string ⟨#[86,101,114,115,105,111,110]⟩,.string ⟨#[75,105,110,100]⟩,.string ⟨#[83,116,101,109]⟩,.string ⟨#[79,112,116,105,111,110,115]⟩,.string ⟨#[67,104,111,105,99,101,115]⟩,.string ⟨#[86,97,108,117,101]⟩,.string ⟨#[84,111,108]⟩,.string ⟨#[84,101,120,116,115]⟩,.string ⟨#[80,111,105,110,116,115]⟩,.string ⟨#[67,111,110,116,101,110,116]⟩,.string ⟨#[70,97,109,105,108,121]⟩,.string ⟨#[83,101,116]⟩,.string ⟨#[87,111,114,100,115]⟩,.string ⟨#[83,101,99,111,110,100,115]⟩,.string ⟨#[65,115,115,101,116,115]⟩,.string ⟨#[82,117,98,114,105,99]⟩]) (.int .i64 14)).run Tryz.prog w=.ok (.string ⟨#[83,101,99,111,110,100,115]⟩) w:=fun _=>by kernel_rfl
theorem fld_ix15:∀ w,(Instr.index 171 (.agg #[.string ⟨#[73,100]⟩,.string ⟨#[86,101,114,115,105,111,110]⟩,.string ⟨#[75,105,110,100]⟩,.string ⟨#[83,116,101,109]⟩,.string ⟨#[79,112,116,105,111,110,115]⟩,.string ⟨#[67,104,111,105,99,101,115]⟩,.string ⟨#[86,97,108,117,101]⟩,.string ⟨#[84,111,108]⟩,.string ⟨#[84,101,120,116,115]⟩,.string ⟨#[80,111,105,110,116,115]⟩,.string ⟨#[67,111,110,116,101,110,116]⟩,.string ⟨#[70,97,109,105,108,121]⟩,.string ⟨#[83,101,116]⟩,.string ⟨#[87,111,114,100,115]⟩,.string ⟨#[83,101,99,111,110,100,115]⟩,.string ⟨#[65,115,115,101,116,115]⟩,.string ⟨#[82,117,98,114,105,99]⟩]) (.int .i64 15)).run Tryz.prog w=.ok (.string ⟨#[65,115,115,101,116,115]⟩) w:=fun _=>by kernel_rfl
theorem fld_ix16:∀ w,(Instr.index 171 (.agg #[.string ⟨#[73,100]⟩,.string ⟨#[86,101,114,115,105,111,110]⟩,.string ⟨#[75,105,110,100]⟩,.string ⟨#[83,116,101,109]⟩,.string ⟨#[79,112,116,105,111,110,115]⟩,.string ⟨#[67,104,111,105,99,101,115]⟩,.string ⟨#[86,97,108,117,101]⟩,.string ⟨#[84,111,108]⟩,.string ⟨#[84,101,120,116,115]⟩,.string ⟨#[80,111,105,110,116,115]⟩,.string ⟨#[67,111,110,116,101,110,116]⟩,.string ⟨#[70,97,109,105,108,121]⟩,.string ⟨#[83,101,116]⟩,.string ⟨#[87,111,114,100,115]⟩,.string ⟨#[83,101,99,111,110,100,115]⟩,.string ⟨#[65,115,115,101,116,115]⟩,.string ⟨#[82,117,98,114,105,99]⟩]) (.int .i64 16)).run Tryz.prog w=.ok (.string ⟨#[82,117,98,114,105,99]⟩) w:=fun _=>by kernel_rfl
theorem fld_index(k:Nat)(hk:k<17){s:ByteArray}(hs:fldNames[k]?=some s):∀ w,(Instr.index 171 (.agg #[.string ⟨#[73,100]⟩,.string ⟨#[86,101,114,115,105,111,110]⟩,.string ⟨#[75,105,110,100]⟩,.string ⟨#[83,116,101,109]⟩,.string ⟨#[79,112,116,105,111,110,115]⟩,.string ⟨#[67,104,111,105,99,101,115]⟩,.string ⟨#[86,97,108,117,101]⟩,.string ⟨#[84,111,108]⟩,.string ⟨#[84,101,120,116,115]⟩,.string ⟨#[80,111,105,110,116,115]⟩,.string ⟨#[67,111,110,116,101,110,116]⟩,.string ⟨#[70,97,109,105,108,121]⟩,.string ⟨#[83,101,116]⟩,.string ⟨#[87,111,114,100,115]⟩,.string ⟨#[83,101,99,111,110,100,115]⟩,.string ⟨#[65,115,115,101,116,115]⟩,.string ⟨#[82,117,98,114,105,99]⟩]) (.int .i64 (k:Int))).run Tryz.prog w=.ok (.string s) w:=by
 match k,hk,hs with
 | 0,_,hs=>obtain rfl:=Option.some.inj hs;exact fld_ix0
 | 1,_,hs=>obtain rfl:=Option.some.inj hs;exact fld_ix1
 | 2,_,hs=>obtain rfl:=Option.some.inj hs;exact fld_ix2
 | 3,_,hs=>obtain rfl:=Option.some.inj hs;exact fld_ix3
 | 4,_,hs=>obtain rfl:=Option.some.inj hs;exact fld_ix4
 | 5,_,hs=>obtain rfl:=Option.some.inj hs;exact fld_ix5
 | 6,_,hs=>obtain rfl:=Option.some.inj hs;exact fld_ix6
 | 7,_,hs=>obtain rfl:=Option.some.inj hs;exact fld_ix7
 | 8,_,hs=>obtain rfl:=Option.some.inj hs;exact fld_ix8
 | 9,_,hs=>obtain rfl:=Option.some.inj hs;exact fld_ix9
 | 10,_,hs=>obtain rfl:=Option.some.inj hs;exact fld_ix10
 | 11,_,hs=>obtain rfl:=Option.some.inj hs;exact fld_ix11
 | 12,_,hs=>obtain rfl:=Option.some.inj hs;exact fld_ix12
 | 13,_,hs=>obtain rfl:=Option.some.inj hs;exact fld_ix13
 | 14,_,hs=>obtain rfl:=Option.some.inj hs;exact fld_ix14
 | 15,_,hs=>obtain rfl:=Option.some.inj hs;exact fld_ix15
 | 16,_,hs=>obtain rfl:=Option.some.inj hs;exact fld_ix16
 | i+17,hk,_=>exact absurd hk (by omega)
namespace It
def sames (a b:Item):List Bool:=[a.id == b.id,a.ver == b.ver,a.kind == b.kind,It.eqB a.stem b.stem,It.eqS a.opts b.opts,It.eqI a.chs b.chs,a.value == b.value,a.tol == b.tol,It.eqS a.texts b.texts,a.pts == b.pts,It.eqB a.cont b.cont,a.fam == b.fam,a.set_ == b.set_,a.wrd == b.wrd,a.sec == b.sec,It.eqI a.assets b.assets,a.rub == b.rub]
theorem pairs_at(a b:Item){k:Nat}(hk:k<17):∃ q s,(sames a b)[k]?=some q∧fldNames[k]?=some s∧(pairs a b)[k]?=some (!q,s):=by
 match k,hk with
 | 0,_=>exact⟨_,_,rfl,rfl,rfl⟩
 | 1,_=>exact⟨_,_,rfl,rfl,rfl⟩
 | 2,_=>exact⟨_,_,rfl,rfl,rfl⟩
 | 3,_=>exact⟨_,_,rfl,rfl,rfl⟩
 | 4,_=>exact⟨_,_,rfl,rfl,rfl⟩
 | 5,_=>exact⟨_,_,rfl,rfl,rfl⟩
 | 6,_=>exact⟨_,_,rfl,rfl,rfl⟩
 | 7,_=>exact⟨_,_,rfl,rfl,rfl⟩
 | 8,_=>exact⟨_,_,rfl,rfl,rfl⟩
 | 9,_=>exact⟨_,_,rfl,rfl,rfl⟩
 | 10,_=>exact⟨_,_,rfl,rfl,rfl⟩
 | 11,_=>exact⟨_,_,rfl,rfl,rfl⟩
 | 12,_=>exact⟨_,_,rfl,rfl,rfl⟩
 | 13,_=>exact⟨_,_,rfl,rfl,rfl⟩
 | 14,_=>exact⟨_,_,rfl,rfl,rfl⟩
 | 15,_=>exact⟨_,_,rfl,rfl,rfl⟩
 | 16,_=>exact⟨_,_,rfl,rfl,rfl⟩
 | i+17,hk=>exact absurd hk (by omega)
end It
def dfV (g:Nat)(a b:It.Item)(La Lb:It.Loc)(q0 q1 q2 q3 q4 q5 q6 q7 q8 q9 q10 q11 q12 q13 q14 q15 q16:Bool):List Value:=[.pointer (some ⟨g,0,none⟩),
 .int .i64 a.id,
 .pointer (some ⟨g+1,0,none⟩),
 .int .i64 b.id,
 .bool q0,
 .pointer (some ⟨g,1,none⟩),
 .int .i64 a.ver,
 .pointer (some ⟨g+1,1,none⟩),
 .int .i64 b.ver,
 .bool q1,
 .pointer (some ⟨g,2,none⟩),
 .int .i64 a.kind,
 .pointer (some ⟨g+1,2,none⟩),
 .int .i64 b.kind,
 .bool q2,
 .pointer (some ⟨g,3,none⟩),
 .string a.stem,
 .pointer (some ⟨g+1,3,none⟩),
 .string b.stem,
 .bool q3,
 .pointer (some ⟨g,4,none⟩),
 .slice La.oA a.opts.length La.oc,
 .pointer (some ⟨g+1,4,none⟩),
 .slice Lb.oA b.opts.length Lb.oc,
 .bool q4,
 .pointer (some ⟨g,5,none⟩),
 .slice La.cA a.chs.length La.cc,
 .pointer (some ⟨g+1,5,none⟩),
 .slice Lb.cA b.chs.length Lb.cc,
 .bool q5,
 .pointer (some ⟨g,6,none⟩),
 .int .i64 a.value,
 .pointer (some ⟨g+1,6,none⟩),
 .int .i64 b.value,
 .bool q6,
 .pointer (some ⟨g,7,none⟩),
 .int .i64 a.tol,
 .pointer (some ⟨g+1,7,none⟩),
 .int .i64 b.tol,
 .bool q7,
 .pointer (some ⟨g,8,none⟩),
 .slice La.tA a.texts.length La.tc,
 .pointer (some ⟨g+1,8,none⟩),
 .slice Lb.tA b.texts.length Lb.tc,
 .bool q8,
 .pointer (some ⟨g,9,none⟩),
 .int .i64 a.pts,
 .pointer (some ⟨g+1,9,none⟩),
 .int .i64 b.pts,
 .bool q9,
 .pointer (some ⟨g,10,none⟩),
 .string a.cont,
 .pointer (some ⟨g+1,10,none⟩),
 .string b.cont,
 .bool q10,
 .pointer (some ⟨g,11,none⟩),
 .int .i64 a.fam,
 .pointer (some ⟨g+1,11,none⟩),
 .int .i64 b.fam,
 .bool q11,
 .pointer (some ⟨g,12,none⟩),
 .int .i64 a.set_,
 .pointer (some ⟨g+1,12,none⟩),
 .int .i64 b.set_,
 .bool q12,
 .pointer (some ⟨g,13,none⟩),
 .int .i64 a.wrd,
 .pointer (some ⟨g+1,13,none⟩),
 .int .i64 b.wrd,
 .bool q13,
 .pointer (some ⟨g,14,none⟩),
 .int .i64 a.sec,
 .pointer (some ⟨g+1,14,none⟩),
 .int .i64 b.sec,
 .bool q14,
 .pointer (some ⟨g,15,none⟩),
 .slice La.sA a.assets.length La.sc,
 .pointer (some ⟨g+1,15,none⟩),
 .slice Lb.sA b.assets.length Lb.sc,
 .bool q15,
 .pointer (some ⟨g,16,none⟩),
 .int .i64 a.rub,
 .pointer (some ⟨g+1,16,none⟩),
 .int .i64 b.rub,
 .bool q16,
 .agg #[.bool q0,.bool q1,.bool q2,.bool q3,.bool q4,.bool q5,.bool q6,.bool q7,.bool q8,.bool q9,.bool q10,.bool q11,.bool q12,.bool q13,.bool q14,.bool q15,.bool q16]]
def dfR (g:Nat)(a b:It.Item)(La Lb:It.Loc)(q0 q1 q2 q3 q4 q5 q6 q7 q8 q9 q10 q11 q12 q13 q14 q15 q16:Bool)(j:Nat)(u:Option Value)(w:World):Prop :=
 if j=87 then(∃ q:Nat,u=some (.pointer (some ⟨q,0,none⟩))∧g+2≤q∧w.heap[q]?=some (.cells #[.bool q0,.bool q1,.bool q2,.bool q3,.bool q4,.bool q5,.bool q6,.bool q7,.bool q8,.bool q9,.bool q10,.bool q11,.bool q12,.bool q13,.bool q14,.bool q15,.bool q16] 170 (0,0)))
 else if j=86 then(∃ q:Nat,u=some (.pointer (some ⟨q,0,none⟩))∧g+2≤q∧∃ cs:Array Value,cs.size=17∧w.heap[q]?=some (.cells cs 170 (0,0)))
 else u=some ((dfV g a b La Lb q0 q1 q2 q3 q4 q5 q6 q7 q8 q9 q10 q11 q12 q13 q14 q15 q16).getD j undef)
theorem dfR_ext(g:Nat)(a b:It.Item)(La Lb:It.Loc)(q0 q1 q2 q3 q4 q5 q6 q7 q8 q9 q10 q11 q12 q13 q14 q15 q16:Bool)(j:Nat)(u:Option Value)(w w':World)(he:Ext w w')(h:dfR g a b La Lb q0 q1 q2 q3 q4 q5 q6 q7 q8 q9 q10 q11 q12 q13 q14 q15 q16 j u w):dfR g a b La Lb q0 q1 q2 q3 q4 q5 q6 q7 q8 q9 q10 q11 q12 q13 q14 q15 q16 j u w':=by
 unfold dfR at h ⊢;by_cases e:j=87
 · rw[if_pos e]at h ⊢;obtain⟨q,e1,e2,h1⟩:=h;exact⟨q,e1,e2,he.blockAt h1⟩
 · by_cases e':j=86
   · rw[if_neg e,if_pos e']at h ⊢;obtain⟨q,e1,e2,cs,h0,h1⟩:=h;exact⟨q,e1,e2,cs,h0,he.blockAt h1⟩
   · rw[if_neg e,if_neg e']at h ⊢;exact h
theorem dfR_val(g:Nat)(a b:It.Item)(La Lb:It.Loc)(q0 q1 q2 q3 q4 q5 q6 q7 q8 q9 q10 q11 q12 q13 q14 q15 q16:Bool){j:Nat}(h1:j≠87)(h2:j≠86)(u:Option Value)(w w':World)(h:dfR g a b La Lb q0 q1 q2 q3 q4 q5 q6 q7 q8 q9 q10 q11 q12 q13 q14 q15 q16 j u w):dfR g a b La Lb q0 q1 q2 q3 q4 q5 q6 q7 q8 q9 q10 q11 q12 q13 q14 q15 q16 j u w':=by unfold dfR at h ⊢;rw[if_neg h1,if_neg h2]at h ⊢;exact h
def dfD:List Nat:=[9,10,11,12,13,14,15,16,17,18,19,20,21,22,23,24,25,26,27,28,29,30,31,32,33,34,35,36,37,38,39,40,41,42,43,44,45,46,47,48,49,50,51,52,53,54,55,56,57,58,59,60,61,62,63,64,65,66,67,68,69,70,71,72,73,74,75,76,77,78,79,80,81,82,83,84,85,86,87,88,89,90,91,92,93,94,5,5]
def dfE (g:Nat)(t:Array Value):Prop:=t.getD 2 undef=.pointer (some ⟨g,0,none⟩)∧t.getD 3 undef=.pointer (some ⟨g+1,0,none⟩)∧t.size=110
theorem exec_store_row{P:Program}{ev:Operand→Value}{o:Oper}{w:World}(ty:TypeId)(x y:Operand)(ho:o.op=.store ty x y)(g:Nat)(cells:Array Value)(hx:ev x=.pointer (some ⟨g,0,none⟩))(hy:ev y=.agg cells)
    (t:TypeId) (old:Array Value) (hg:w.heap[g]?=some (.cells old t (0,0))) (hi:(P.info? ty).map (·.size)=some cells.size) (hold:old.size=cells.size) (h1:cells.all (·.oneCell')=true):(execOp ev o).run P w=.ok .skip (w.setRow g cells):=by
 unfold execOp;simp only[ho,hx,hy,Instr.storeAt,Instr.sureAddr,Sem.run_bind,Sem.run_pure,Result.andThen_ok,run_storeVar_row w g t ty old cells hg hi hold h1]

def DfB (g:Nat)(w:World)(qs:List Bool):Prop:=∀ (i:Nat) q,qs[i]?=some q→w.cell? ⟨g,i,none⟩=some (.bool q)
theorem DfB.ext{w w':World}{g:Nat}{qs:List Bool}(h:DfB g w qs)(he:Ext w w'):DfB g w' qs:=fun i q hi=>he.keep (h i q hi)
theorem DfB.of{w:World}{g:Nat}{q0 q1 q2 q3 q4 q5 q6 q7 q8 q9 q10 q11 q12 q13 q14 q15 q16:Bool}{t:TypeId}(h:w.heap[g]?=some (.cells #[.bool q0,.bool q1,.bool q2,.bool q3,.bool q4,.bool q5,.bool q6,.bool q7,.bool q8,.bool q9,.bool q10,.bool q11,.bool q12,.bool q13,.bool q14,.bool q15,.bool q16] t (0,0))):DfB g w [q0,q1,q2,q3,q4,q5,q6,q7,q8,q9,q10,q11,q12,q13,q14,q15,q16]:=by
 intro i q hi;rw[cell_of_row w g i _ _ _ h]
 match i,hi with
 | 0,hi=>obtain rfl:=Option.some.inj hi;rfl
 | 1,hi=>obtain rfl:=Option.some.inj hi;rfl
 | 2,hi=>obtain rfl:=Option.some.inj hi;rfl
 | 3,hi=>obtain rfl:=Option.some.inj hi;rfl
 | 4,hi=>obtain rfl:=Option.some.inj hi;rfl
 | 5,hi=>obtain rfl:=Option.some.inj hi;rfl
 | 6,hi=>obtain rfl:=Option.some.inj hi;rfl
 | 7,hi=>obtain rfl:=Option.some.inj hi;rfl
 | 8,hi=>obtain rfl:=Option.some.inj hi;rfl
 | 9,hi=>obtain rfl:=Option.some.inj hi;rfl
 | 10,hi=>obtain rfl:=Option.some.inj hi;rfl
 | 11,hi=>obtain rfl:=Option.some.inj hi;rfl
 | 12,hi=>obtain rfl:=Option.some.inj hi;rfl
 | 13,hi=>obtain rfl:=Option.some.inj hi;rfl
 | 14,hi=>obtain rfl:=Option.some.inj hi;rfl
 | 15,hi=>obtain rfl:=Option.some.inj hi;rfl
 | 16,hi=>obtain rfl:=Option.some.inj hi;rfl
 | i+17,hi=>simp at hi
set_option maxRecDepth 100000 in
set_option maxHeartbeats 64000000 in
theorem diff_any(a b:It.Item)(La Lb:It.Loc)(w:World)(ha:It.In w a La)(hb:It.In w b Lb)(hf:Fld w) :
    Calls Tryz.prog 109 #[It.agg a La,It.agg b Lb] w fun e w'=>(∃ (A:Option Addr) (c:Nat),e=.returned (.slice A (It.diff a b).length c)∧SlS w' A (It.diff a b)∧(It.diff a b).length≤c∧c≤maxLen)∧Ext w w':=by
 have HA:=Hi ha;have HB:=Hi hb;have HF:=Hi hf;clear ha hb hf;obtain⟨q0,hq0⟩:∃ q,(a.id == b.id)=q:=⟨_,rfl⟩;obtain⟨q1,hq1⟩:∃ q,(a.ver == b.ver)=q:=⟨_,rfl⟩;obtain⟨q2,hq2⟩:∃ q,(a.kind == b.kind)=q:=⟨_,rfl⟩;obtain⟨q3,hq3⟩:∃ q,(It.eqB a.stem b.stem)=q:=⟨_,rfl⟩;obtain⟨q4,hq4⟩:∃ q,(It.eqS a.opts b.opts)=q:=⟨_,rfl⟩;obtain⟨q5,hq5⟩:∃ q,(It.eqI a.chs b.chs)=q:=⟨_,rfl⟩;obtain⟨q6,hq6⟩:∃ q,(a.value == b.value)=q:=⟨_,rfl⟩;obtain⟨q7,hq7⟩:∃ q,(a.tol == b.tol)=q:=⟨_,rfl⟩;obtain⟨q8,hq8⟩:∃ q,(It.eqS a.texts b.texts)=q:=⟨_,rfl⟩;obtain⟨q9,hq9⟩:∃ q,(a.pts == b.pts)=q:=⟨_,rfl⟩;obtain⟨q10,hq10⟩:∃ q,(It.eqB a.cont b.cont)=q:=⟨_,rfl⟩;obtain⟨q11,hq11⟩:∃ q,(a.fam == b.fam)=q:=⟨_,rfl⟩;obtain⟨q12,hq12⟩:∃ q,(a.set_ == b.set_)=q:=⟨_,rfl⟩;obtain⟨q13,hq13⟩:∃ q,(a.wrd == b.wrd)=q:=⟨_,rfl⟩;obtain⟨q14,hq14⟩:∃ q,(a.sec == b.sec)=q:=⟨_,rfl⟩;obtain⟨q15,hq15⟩:∃ q,(It.eqI a.assets b.assets)=q:=⟨_,rfl⟩;obtain⟨q16,hq16⟩:∃ q,(a.rub == b.rub)=q:=⟨_,rfl⟩;have HQ:Hid (It.sames a b=[q0,q1,q2,q3,q4,q5,q6,q7,q8,q9,q10,q11,q12,q13,q14,q15,q16]):=Hi (by unfold It.sames;rw[hq0,hq1,hq2,hq3,hq4,hq5,hq6,hq7,hq8,hq9,hq10,hq11,hq12,hq13,hq14,hq15,hq16]);have HQ0:Hid ((a.id == b.id)=q0):=Hi hq0;have HQ1:Hid ((a.ver == b.ver)=q1):=Hi hq1;have HQ2:Hid ((a.kind == b.kind)=q2):=Hi hq2;have HQ3:Hid ((a.stem.toList == b.stem.toList)=q3):=Hi (by rw[It.beqB];exact hq3);have HQ4:=Hi hq4;have HQ5:=Hi hq5;have HQ6:Hid ((a.value == b.value)=q6):=Hi hq6;have HQ7:Hid ((a.tol == b.tol)=q7):=Hi hq7;have HQ8:=Hi hq8;have HQ9:Hid ((a.pts == b.pts)=q9):=Hi hq9;have HQ10:Hid ((a.cont.toList == b.cont.toList)=q10):=Hi (by rw[It.beqB];exact hq10);have HQ11:Hid ((a.fam == b.fam)=q11):=Hi hq11;have HQ12:Hid ((a.set_ == b.set_)=q12):=Hi hq12;have HQ13:Hid ((a.wrd == b.wrd)=q13):=Hi hq13;have HQ14:Hid ((a.sec == b.sec)=q14):=Hi hq14;have HQ15:=Hi hq15;have HQ16:Hid ((a.rub == b.rub)=q16):=Hi hq16;clear hq0 hq1 hq2 hq3 hq4 hq5 hq6 hq7 hq8 hq9 hq10 hq11 hq12 hq13 hq14 hq15 hq16;obtain⟨i0,hi0,hz0,hz1,hz2⟩:=info_parts Tryz.infoStr;have EN:=Hi (enters_of Tryz.func47 (by kernel_rfl) rfl);have ES:=Hi (enters_of Tryz.func138 (by kernel_rfl) rfl);have ca:∀ (i:Nat) v,(It.cells a La)[i]?=some v→((w.alloc (.cells (It.cells a La).toArray 39)).alloc (.cells (It.cells b Lb).toArray 39)).cell? ⟨w.heap.size,i,none⟩=some v:=fun i v hv=>by refine((Ext.refl _).alloc _).keep ?_;rw[World.cell?_alloc_new];simpa using hv
 have cb:∀ (i:Nat) v,(It.cells b Lb)[i]?=some v→((w.alloc (.cells (It.cells a La).toArray 39)).alloc (.cells (It.cells b Lb).toArray 39)).cell? ⟨w.heap.size+1,i,none⟩=some v:=fun i v hv=>by have:=World.cell?_alloc_new (w.alloc (.cells (It.cells a La).toArray 39)) (It.cells b Lb).toArray 39 i;rw[show(w.alloc (.cells (It.cells a La).toArray 39)).heap.size=w.heap.size+1 by simp]at this;rw[this];simpa using hv
 have CA:=Hi ca;have CB:=Hi cb;have X0:Hid (Ext w ((w.alloc (.cells (It.cells a La).toArray 39)).alloc (.cells (It.cells b Lb).toArray 39))):=Hi (((Ext.refl _).alloc _).alloc _);clear ca cb;unfold It.agg;go_enter Tryz.func109,Tryz.ntmps109
 go_wp2_with fail
 refine region_tb (by kernel_rfl) (by decide +kernel) (dfE w.heap.size) ⟨rfl,rfl,rfl⟩ 88 dfD (fun _=>none) (dfR w.heap.size a b La Lb q0 q1 q2 q3 q4 q5 q6 q7 q8 q9 q10 q11 q12 q13 q14 q15 q16) ((w.alloc (.cells (It.cells a La).toArray 39)).alloc (.cells (It.cells b Lb).toArray 39)) (Ext.refl _) (fun i h1 h2=>absurd h2 (Nat.not_lt.2 h1)) ?_ ?_
 · intro Tv dd lv U wz i oZ hE ho hlv hd hT;obtain⟨t2,t3,tz⟩:=hE;have hx:=hT.ext;have rX:=dfR_ext w.heap.size a b La Lb q0 q1 q2 q3 q4 q5 q6 q7 q8 q9 q10 q11 q12 q13 q14 q15 q16
   match i,ho,hlv,hd with
   | 0,ho,hlv,hd =>obtain rfl:=oi ho;exact yl1 hT rX ho hd (.pointer (some ⟨w.heap.size,0,none⟩)) (od dd hT tz t2)
   | 1,ho,hlv,hd =>obtain rfl:=oi ho;exact yk1 hT rX ho hd (.int .i64 a.id) (nw dd hT hd tz 0 9 (.pointer (some ⟨w.heap.size,0,none⟩))) (hx.keep (CA.out 0 _ rfl))
   | 2,ho,hlv,hd =>obtain rfl:=oi ho;exact yl1 hT rX ho hd (.pointer (some ⟨w.heap.size+1,0,none⟩)) (od dd hT tz t3)
   | 3,ho,hlv,hd =>obtain rfl:=oi ho;exact yk1 hT rX ho hd (.int .i64 b.id) (nw dd hT hd tz 2 11 (.pointer (some ⟨w.heap.size+1,0,none⟩))) (hx.keep (CB.out 0 _ rfl))
   | 4,ho,hlv,hd =>obtain rfl:=oi ho;have v0:=nw dd hT hd tz 1 10 (.int .i64 a.id);have v1:=nw dd hT hd tz 3 12 (.int .i64 b.id);have hq:=HQ0.out;refine yxe hT rX ho hd (.bool q0) ?_;generalize Act.eval ⟨over Tv U,dd⟩=ev at *;rw[← hq];simp[execOp,go_sem,v0,v1]
   | 5,ho,hlv,hd =>obtain rfl:=oi ho;exact yl1 hT rX ho hd (.pointer (some ⟨w.heap.size,1,none⟩)) (od dd hT tz t2)
   | 6,ho,hlv,hd =>obtain rfl:=oi ho;exact yk1 hT rX ho hd (.int .i64 a.ver) (nw dd hT hd tz 5 14 (.pointer (some ⟨w.heap.size,1,none⟩))) (hx.keep (CA.out 1 _ rfl))
   | 7,ho,hlv,hd =>obtain rfl:=oi ho;exact yl1 hT rX ho hd (.pointer (some ⟨w.heap.size+1,1,none⟩)) (od dd hT tz t3)
   | 8,ho,hlv,hd =>obtain rfl:=oi ho;exact yk1 hT rX ho hd (.int .i64 b.ver) (nw dd hT hd tz 7 16 (.pointer (some ⟨w.heap.size+1,1,none⟩))) (hx.keep (CB.out 1 _ rfl))
   | 9,ho,hlv,hd =>obtain rfl:=oi ho;have v0:=nw dd hT hd tz 6 15 (.int .i64 a.ver);have v1:=nw dd hT hd tz 8 17 (.int .i64 b.ver);have hq:=HQ1.out;refine yxe hT rX ho hd (.bool q1) ?_;generalize Act.eval ⟨over Tv U,dd⟩=ev at *;rw[← hq];simp[execOp,go_sem,v0,v1]
   | 10,ho,hlv,hd =>obtain rfl:=oi ho;exact yl1 hT rX ho hd (.pointer (some ⟨w.heap.size,2,none⟩)) (od dd hT tz t2)
   | 11,ho,hlv,hd =>obtain rfl:=oi ho;exact yk1 hT rX ho hd (.int .i64 a.kind) (nw dd hT hd tz 10 19 (.pointer (some ⟨w.heap.size,2,none⟩))) (hx.keep (CA.out 2 _ rfl))
   | 12,ho,hlv,hd =>obtain rfl:=oi ho;exact yl1 hT rX ho hd (.pointer (some ⟨w.heap.size+1,2,none⟩)) (od dd hT tz t3)
   | 13,ho,hlv,hd =>obtain rfl:=oi ho;exact yk1 hT rX ho hd (.int .i64 b.kind) (nw dd hT hd tz 12 21 (.pointer (some ⟨w.heap.size+1,2,none⟩))) (hx.keep (CB.out 2 _ rfl))
   | 14,ho,hlv,hd =>obtain rfl:=oi ho;have v0:=nw dd hT hd tz 11 20 (.int .i64 a.kind);have v1:=nw dd hT hd tz 13 22 (.int .i64 b.kind);have hq:=HQ2.out;refine yxe hT rX ho hd (.bool q2) ?_;generalize Act.eval ⟨over Tv U,dd⟩=ev at *;rw[← hq];simp[execOp,go_sem,v0,v1]
   | 15,ho,hlv,hd =>obtain rfl:=oi ho;exact yl1 hT rX ho hd (.pointer (some ⟨w.heap.size,3,none⟩)) (od dd hT tz t2)
   | 16,ho,hlv,hd =>obtain rfl:=oi ho;exact yk1 hT rX ho hd (.string a.stem) (nw dd hT hd tz 15 24 (.pointer (some ⟨w.heap.size,3,none⟩))) (hx.keep (CA.out 3 _ rfl))
   | 17,ho,hlv,hd =>obtain rfl:=oi ho;exact yl1 hT rX ho hd (.pointer (some ⟨w.heap.size+1,3,none⟩)) (od dd hT tz t3)
   | 18,ho,hlv,hd =>obtain rfl:=oi ho;exact yk1 hT rX ho hd (.string b.stem) (nw dd hT hd tz 17 26 (.pointer (some ⟨w.heap.size+1,3,none⟩))) (hx.keep (CB.out 3 _ rfl))
   | 19,ho,hlv,hd =>obtain rfl:=oi ho;have v0:=nw dd hT hd tz 16 25 (.string a.stem);have v1:=nw dd hT hd tz 18 27 (.string b.stem);have hq:=HQ3.out;refine yxe hT rX ho hd (.bool q3) ?_;generalize Act.eval ⟨over Tv U,dd⟩=ev at *;rw[← hq];simp[execOp,go_sem,v0,v1]
   | 20,ho,hlv,hd =>obtain rfl:=oi ho;exact yl1 hT rX ho hd (.pointer (some ⟨w.heap.size,4,none⟩)) (od dd hT tz t2)
   | 21,ho,hlv,hd =>obtain rfl:=oi ho;exact yk1 hT rX ho hd (.slice La.oA a.opts.length La.oc) (nw dd hT hd tz 20 29 (.pointer (some ⟨w.heap.size,4,none⟩))) (hx.keep (CA.out 4 _ rfl))
   | 22,ho,hlv,hd =>obtain rfl:=oi ho;exact yl1 hT rX ho hd (.pointer (some ⟨w.heap.size+1,4,none⟩)) (od dd hT tz t3)
   | 23,ho,hlv,hd =>obtain rfl:=oi ho;exact yk1 hT rX ho hd (.slice Lb.oA b.opts.length Lb.oc) (nw dd hT hd tz 22 31 (.pointer (some ⟨w.heap.size+1,4,none⟩))) (hx.keep (CB.out 4 _ rfl))
   | 24,ho,hlv,hd =>obtain rfl:=oi ho;have v0:=nw dd hT hd tz 21 30 (.slice La.oA a.opts.length La.oc);have v1:=nw dd hT hd tz 23 32 (.slice Lb.oA b.opts.length Lb.oc);refine cl hT rX ho hd (f:=138) (args:=#[.slice La.oA a.opts.length La.oc,.slice Lb.oA b.opts.length Lb.oc]) (exec_call2 rfl rfl v0 v1 ES.out) ?_;have e1:=X0.out.trans hx;refine(equalS_any _ _ _ _ a.opts b.opts wz (HA.out.o.ext e1) (HB.out.o.ext e1) (Nat.le_trans HA.out.ok.ol (by decide)) (Nat.le_trans HB.out.ok.ol (by decide))).mono ?_;rintro e w' ⟨rfl,nn,rfl⟩;exact⟨_,rfl,(Ext.refl _).drewN _,by rw[HQ4.out];rfl⟩
   | 25,ho,hlv,hd =>obtain rfl:=oi ho;exact yl1 hT rX ho hd (.pointer (some ⟨w.heap.size,5,none⟩)) (od dd hT tz t2)
   | 26,ho,hlv,hd =>obtain rfl:=oi ho;exact yk1 hT rX ho hd (.slice La.cA a.chs.length La.cc) (nw dd hT hd tz 25 34 (.pointer (some ⟨w.heap.size,5,none⟩))) (hx.keep (CA.out 5 _ rfl))
   | 27,ho,hlv,hd =>obtain rfl:=oi ho;exact yl1 hT rX ho hd (.pointer (some ⟨w.heap.size+1,5,none⟩)) (od dd hT tz t3)
   | 28,ho,hlv,hd =>obtain rfl:=oi ho;exact yk1 hT rX ho hd (.slice Lb.cA b.chs.length Lb.cc) (nw dd hT hd tz 27 36 (.pointer (some ⟨w.heap.size+1,5,none⟩))) (hx.keep (CB.out 5 _ rfl))
   | 29,ho,hlv,hd =>obtain rfl:=oi ho;have v0:=nw dd hT hd tz 26 35 (.slice La.cA a.chs.length La.cc);have v1:=nw dd hT hd tz 28 37 (.slice Lb.cA b.chs.length Lb.cc);refine cl hT rX ho hd (f:=47) (args:=#[.slice La.cA a.chs.length La.cc,.slice Lb.cA b.chs.length Lb.cc]) (exec_call2 rfl rfl v0 v1 EN.out) ?_;have e1:=X0.out.trans hx;refine(equalI_any _ _ _ _ a.chs b.chs wz (HA.out.c.ext e1) (HB.out.c.ext e1) (Nat.le_trans HA.out.ok.cl (by decide)) (Nat.le_trans HB.out.ok.cl (by decide))).mono ?_;rintro e w' ⟨rfl,nn,rfl⟩;exact⟨_,rfl,(Ext.refl _).drewN _,by rw[HQ5.out];rfl⟩
   | 30,ho,hlv,hd =>obtain rfl:=oi ho;exact yl1 hT rX ho hd (.pointer (some ⟨w.heap.size,6,none⟩)) (od dd hT tz t2)
   | 31,ho,hlv,hd =>obtain rfl:=oi ho;exact yk1 hT rX ho hd (.int .i64 a.value) (nw dd hT hd tz 30 39 (.pointer (some ⟨w.heap.size,6,none⟩))) (hx.keep (CA.out 6 _ rfl))
   | 32,ho,hlv,hd =>obtain rfl:=oi ho;exact yl1 hT rX ho hd (.pointer (some ⟨w.heap.size+1,6,none⟩)) (od dd hT tz t3)
   | 33,ho,hlv,hd =>obtain rfl:=oi ho;exact yk1 hT rX ho hd (.int .i64 b.value) (nw dd hT hd tz 32 41 (.pointer (some ⟨w.heap.size+1,6,none⟩))) (hx.keep (CB.out 6 _ rfl))
   | 34,ho,hlv,hd =>obtain rfl:=oi ho;have v0:=nw dd hT hd tz 31 40 (.int .i64 a.value);have v1:=nw dd hT hd tz 33 42 (.int .i64 b.value);have hq:=HQ6.out;refine yxe hT rX ho hd (.bool q6) ?_;generalize Act.eval ⟨over Tv U,dd⟩=ev at *;rw[← hq];simp[execOp,go_sem,v0,v1]
   | 35,ho,hlv,hd =>obtain rfl:=oi ho;exact yl1 hT rX ho hd (.pointer (some ⟨w.heap.size,7,none⟩)) (od dd hT tz t2)
   | 36,ho,hlv,hd =>obtain rfl:=oi ho;exact yk1 hT rX ho hd (.int .i64 a.tol) (nw dd hT hd tz 35 44 (.pointer (some ⟨w.heap.size,7,none⟩))) (hx.keep (CA.out 7 _ rfl))
   | 37,ho,hlv,hd =>obtain rfl:=oi ho;exact yl1 hT rX ho hd (.pointer (some ⟨w.heap.size+1,7,none⟩)) (od dd hT tz t3)
   | 38,ho,hlv,hd =>obtain rfl:=oi ho;exact yk1 hT rX ho hd (.int .i64 b.tol) (nw dd hT hd tz 37 46 (.pointer (some ⟨w.heap.size+1,7,none⟩))) (hx.keep (CB.out 7 _ rfl))
   | 39,ho,hlv,hd =>obtain rfl:=oi ho;have v0:=nw dd hT hd tz 36 45 (.int .i64 a.tol);have v1:=nw dd hT hd tz 38 47 (.int .i64 b.tol);have hq:=HQ7.out;refine yxe hT rX ho hd (.bool q7) ?_;generalize Act.eval ⟨over Tv U,dd⟩=ev at *;rw[← hq];simp[execOp,go_sem,v0,v1]
   | 40,ho,hlv,hd =>obtain rfl:=oi ho;exact yl1 hT rX ho hd (.pointer (some ⟨w.heap.size,8,none⟩)) (od dd hT tz t2)
   | 41,ho,hlv,hd =>obtain rfl:=oi ho;exact yk1 hT rX ho hd (.slice La.tA a.texts.length La.tc) (nw dd hT hd tz 40 49 (.pointer (some ⟨w.heap.size,8,none⟩))) (hx.keep (CA.out 8 _ rfl))
   | 42,ho,hlv,hd =>obtain rfl:=oi ho;exact yl1 hT rX ho hd (.pointer (some ⟨w.heap.size+1,8,none⟩)) (od dd hT tz t3)
   | 43,ho,hlv,hd =>obtain rfl:=oi ho;exact yk1 hT rX ho hd (.slice Lb.tA b.texts.length Lb.tc) (nw dd hT hd tz 42 51 (.pointer (some ⟨w.heap.size+1,8,none⟩))) (hx.keep (CB.out 8 _ rfl))
   | 44,ho,hlv,hd =>obtain rfl:=oi ho;have v0:=nw dd hT hd tz 41 50 (.slice La.tA a.texts.length La.tc);have v1:=nw dd hT hd tz 43 52 (.slice Lb.tA b.texts.length Lb.tc);refine cl hT rX ho hd (f:=138) (args:=#[.slice La.tA a.texts.length La.tc,.slice Lb.tA b.texts.length Lb.tc]) (exec_call2 rfl rfl v0 v1 ES.out) ?_;have e1:=X0.out.trans hx;refine(equalS_any _ _ _ _ a.texts b.texts wz (HA.out.t.ext e1) (HB.out.t.ext e1) (Nat.le_trans HA.out.ok.tl (by decide)) (Nat.le_trans HB.out.ok.tl (by decide))).mono ?_;rintro e w' ⟨rfl,nn,rfl⟩;exact⟨_,rfl,(Ext.refl _).drewN _,by rw[HQ8.out];rfl⟩
   | 45,ho,hlv,hd =>obtain rfl:=oi ho;exact yl1 hT rX ho hd (.pointer (some ⟨w.heap.size,9,none⟩)) (od dd hT tz t2)
   | 46,ho,hlv,hd =>obtain rfl:=oi ho;exact yk1 hT rX ho hd (.int .i64 a.pts) (nw dd hT hd tz 45 54 (.pointer (some ⟨w.heap.size,9,none⟩))) (hx.keep (CA.out 9 _ rfl))
   | 47,ho,hlv,hd =>obtain rfl:=oi ho;exact yl1 hT rX ho hd (.pointer (some ⟨w.heap.size+1,9,none⟩)) (od dd hT tz t3)
   | 48,ho,hlv,hd =>obtain rfl:=oi ho;exact yk1 hT rX ho hd (.int .i64 b.pts) (nw dd hT hd tz 47 56 (.pointer (some ⟨w.heap.size+1,9,none⟩))) (hx.keep (CB.out 9 _ rfl))
   | 49,ho,hlv,hd =>obtain rfl:=oi ho;have v0:=nw dd hT hd tz 46 55 (.int .i64 a.pts);have v1:=nw dd hT hd tz 48 57 (.int .i64 b.pts);have hq:=HQ9.out;refine yxe hT rX ho hd (.bool q9) ?_;generalize Act.eval ⟨over Tv U,dd⟩=ev at *;rw[← hq];simp[execOp,go_sem,v0,v1]
   | 50,ho,hlv,hd =>obtain rfl:=oi ho;exact yl1 hT rX ho hd (.pointer (some ⟨w.heap.size,10,none⟩)) (od dd hT tz t2)
   | 51,ho,hlv,hd =>obtain rfl:=oi ho;exact yk1 hT rX ho hd (.string a.cont) (nw dd hT hd tz 50 59 (.pointer (some ⟨w.heap.size,10,none⟩))) (hx.keep (CA.out 10 _ rfl))
   | 52,ho,hlv,hd =>obtain rfl:=oi ho;exact yl1 hT rX ho hd (.pointer (some ⟨w.heap.size+1,10,none⟩)) (od dd hT tz t3)
   | 53,ho,hlv,hd =>obtain rfl:=oi ho;exact yk1 hT rX ho hd (.string b.cont) (nw dd hT hd tz 52 61 (.pointer (some ⟨w.heap.size+1,10,none⟩))) (hx.keep (CB.out 10 _ rfl))
   | 54,ho,hlv,hd =>obtain rfl:=oi ho;have v0:=nw dd hT hd tz 51 60 (.string a.cont);have v1:=nw dd hT hd tz 53 62 (.string b.cont);have hq:=HQ10.out;refine yxe hT rX ho hd (.bool q10) ?_;generalize Act.eval ⟨over Tv U,dd⟩=ev at *;rw[← hq];simp[execOp,go_sem,v0,v1]
   | 55,ho,hlv,hd =>obtain rfl:=oi ho;exact yl1 hT rX ho hd (.pointer (some ⟨w.heap.size,11,none⟩)) (od dd hT tz t2)
   | 56,ho,hlv,hd =>obtain rfl:=oi ho;exact yk1 hT rX ho hd (.int .i64 a.fam) (nw dd hT hd tz 55 64 (.pointer (some ⟨w.heap.size,11,none⟩))) (hx.keep (CA.out 11 _ rfl))
   | 57,ho,hlv,hd =>obtain rfl:=oi ho;exact yl1 hT rX ho hd (.pointer (some ⟨w.heap.size+1,11,none⟩)) (od dd hT tz t3)
   | 58,ho,hlv,hd =>obtain rfl:=oi ho;exact yk1 hT rX ho hd (.int .i64 b.fam) (nw dd hT hd tz 57 66 (.pointer (some ⟨w.heap.size+1,11,none⟩))) (hx.keep (CB.out 11 _ rfl))
   | 59,ho,hlv,hd =>obtain rfl:=oi ho;have v0:=nw dd hT hd tz 56 65 (.int .i64 a.fam);have v1:=nw dd hT hd tz 58 67 (.int .i64 b.fam);have hq:=HQ11.out;refine yxe hT rX ho hd (.bool q11) ?_;generalize Act.eval ⟨over Tv U,dd⟩=ev at *;rw[← hq];simp[execOp,go_sem,v0,v1]
   | 60,ho,hlv,hd =>obtain rfl:=oi ho;exact yl1 hT rX ho hd (.pointer (some ⟨w.heap.size,12,none⟩)) (od dd hT tz t2)
   | 61,ho,hlv,hd =>obtain rfl:=oi ho;exact yk1 hT rX ho hd (.int .i64 a.set_) (nw dd hT hd tz 60 69 (.pointer (some ⟨w.heap.size,12,none⟩))) (hx.keep (CA.out 12 _ rfl))
   | 62,ho,hlv,hd =>obtain rfl:=oi ho;exact yl1 hT rX ho hd (.pointer (some ⟨w.heap.size+1,12,none⟩)) (od dd hT tz t3)
   | 63,ho,hlv,hd =>obtain rfl:=oi ho;exact yk1 hT rX ho hd (.int .i64 b.set_) (nw dd hT hd tz 62 71 (.pointer (some ⟨w.heap.size+1,12,none⟩))) (hx.keep (CB.out 12 _ rfl))
   | 64,ho,hlv,hd =>obtain rfl:=oi ho;have v0:=nw dd hT hd tz 61 70 (.int .i64 a.set_);have v1:=nw dd hT hd tz 63 72 (.int .i64 b.set_);have hq:=HQ12.out;refine yxe hT rX ho hd (.bool q12) ?_;generalize Act.eval ⟨over Tv U,dd⟩=ev at *;rw[← hq];simp[execOp,go_sem,v0,v1]
   | 65,ho,hlv,hd =>obtain rfl:=oi ho;exact yl1 hT rX ho hd (.pointer (some ⟨w.heap.size,13,none⟩)) (od dd hT tz t2)
   | 66,ho,hlv,hd =>obtain rfl:=oi ho;exact yk1 hT rX ho hd (.int .i64 a.wrd) (nw dd hT hd tz 65 74 (.pointer (some ⟨w.heap.size,13,none⟩))) (hx.keep (CA.out 13 _ rfl))
   | 67,ho,hlv,hd =>obtain rfl:=oi ho;exact yl1 hT rX ho hd (.pointer (some ⟨w.heap.size+1,13,none⟩)) (od dd hT tz t3)
   | 68,ho,hlv,hd =>obtain rfl:=oi ho;exact yk1 hT rX ho hd (.int .i64 b.wrd) (nw dd hT hd tz 67 76 (.pointer (some ⟨w.heap.size+1,13,none⟩))) (hx.keep (CB.out 13 _ rfl))
   | 69,ho,hlv,hd =>obtain rfl:=oi ho;have v0:=nw dd hT hd tz 66 75 (.int .i64 a.wrd);have v1:=nw dd hT hd tz 68 77 (.int .i64 b.wrd);have hq:=HQ13.out;refine yxe hT rX ho hd (.bool q13) ?_;generalize Act.eval ⟨over Tv U,dd⟩=ev at *;rw[← hq];simp[execOp,go_sem,v0,v1]
   | 70,ho,hlv,hd =>obtain rfl:=oi ho;exact yl1 hT rX ho hd (.pointer (some ⟨w.heap.size,14,none⟩)) (od dd hT tz t2)
   | 71,ho,hlv,hd =>obtain rfl:=oi ho;exact yk1 hT rX ho hd (.int .i64 a.sec) (nw dd hT hd tz 70 79 (.pointer (some ⟨w.heap.size,14,none⟩))) (hx.keep (CA.out 14 _ rfl))
   | 72,ho,hlv,hd =>obtain rfl:=oi ho;exact yl1 hT rX ho hd (.pointer (some ⟨w.heap.size+1,14,none⟩)) (od dd hT tz t3)
   | 73,ho,hlv,hd =>obtain rfl:=oi ho;exact yk1 hT rX ho hd (.int .i64 b.sec) (nw dd hT hd tz 72 81 (.pointer (some ⟨w.heap.size+1,14,none⟩))) (hx.keep (CB.out 14 _ rfl))
   | 74,ho,hlv,hd =>obtain rfl:=oi ho;have v0:=nw dd hT hd tz 71 80 (.int .i64 a.sec);have v1:=nw dd hT hd tz 73 82 (.int .i64 b.sec);have hq:=HQ14.out;refine yxe hT rX ho hd (.bool q14) ?_;generalize Act.eval ⟨over Tv U,dd⟩=ev at *;rw[← hq];simp[execOp,go_sem,v0,v1]
   | 75,ho,hlv,hd =>obtain rfl:=oi ho;exact yl1 hT rX ho hd (.pointer (some ⟨w.heap.size,15,none⟩)) (od dd hT tz t2)
   | 76,ho,hlv,hd =>obtain rfl:=oi ho;exact yk1 hT rX ho hd (.slice La.sA a.assets.length La.sc) (nw dd hT hd tz 75 84 (.pointer (some ⟨w.heap.size,15,none⟩))) (hx.keep (CA.out 15 _ rfl))
   | 77,ho,hlv,hd =>obtain rfl:=oi ho;exact yl1 hT rX ho hd (.pointer (some ⟨w.heap.size+1,15,none⟩)) (od dd hT tz t3)
   | 78,ho,hlv,hd =>obtain rfl:=oi ho;exact yk1 hT rX ho hd (.slice Lb.sA b.assets.length Lb.sc) (nw dd hT hd tz 77 86 (.pointer (some ⟨w.heap.size+1,15,none⟩))) (hx.keep (CB.out 15 _ rfl))
   | 79,ho,hlv,hd =>obtain rfl:=oi ho;have v0:=nw dd hT hd tz 76 85 (.slice La.sA a.assets.length La.sc);have v1:=nw dd hT hd tz 78 87 (.slice Lb.sA b.assets.length Lb.sc);refine cl hT rX ho hd (f:=47) (args:=#[.slice La.sA a.assets.length La.sc,.slice Lb.sA b.assets.length Lb.sc]) (exec_call2 rfl rfl v0 v1 EN.out) ?_;have e1:=X0.out.trans hx;refine(equalI_any _ _ _ _ a.assets b.assets wz (HA.out.s.ext e1) (HB.out.s.ext e1) (Nat.le_trans HA.out.ok.sl (by decide)) (Nat.le_trans HB.out.ok.sl (by decide))).mono ?_;rintro e w' ⟨rfl,nn,rfl⟩;exact⟨_,rfl,(Ext.refl _).drewN _,by rw[HQ15.out];rfl⟩
   | 80,ho,hlv,hd =>obtain rfl:=oi ho;exact yl1 hT rX ho hd (.pointer (some ⟨w.heap.size,16,none⟩)) (od dd hT tz t2)
   | 81,ho,hlv,hd =>obtain rfl:=oi ho;exact yk1 hT rX ho hd (.int .i64 a.rub) (nw dd hT hd tz 80 89 (.pointer (some ⟨w.heap.size,16,none⟩))) (hx.keep (CA.out 16 _ rfl))
   | 82,ho,hlv,hd =>obtain rfl:=oi ho;exact yl1 hT rX ho hd (.pointer (some ⟨w.heap.size+1,16,none⟩)) (od dd hT tz t3)
   | 83,ho,hlv,hd =>obtain rfl:=oi ho;exact yk1 hT rX ho hd (.int .i64 b.rub) (nw dd hT hd tz 82 91 (.pointer (some ⟨w.heap.size+1,16,none⟩))) (hx.keep (CB.out 16 _ rfl))
   | 84,ho,hlv,hd =>obtain rfl:=oi ho;have v0:=nw dd hT hd tz 81 90 (.int .i64 a.rub);have v1:=nw dd hT hd tz 83 92 (.int .i64 b.rub);have hq:=HQ16.out;refine yxe hT rX ho hd (.bool q16) ?_;generalize Act.eval ⟨over Tv U,dd⟩=ev at *;rw[← hq];simp[execOp,go_sem,v0,v1]
   | 85,ho,hlv,hd =>obtain rfl:=oi ho;have v0:=nw dd hT hd tz 4 13 (.bool q0);have v1:=nw dd hT hd tz 9 18 (.bool q1);have v2:=nw dd hT hd tz 14 23 (.bool q2);have v3:=nw dd hT hd tz 19 28 (.bool q3);have v4:=nw dd hT hd tz 24 33 (.bool q4);have v5:=nw dd hT hd tz 29 38 (.bool q5);have v6:=nw dd hT hd tz 34 43 (.bool q6);have v7:=nw dd hT hd tz 39 48 (.bool q7);have v8:=nw dd hT hd tz 44 53 (.bool q8);have v9:=nw dd hT hd tz 49 58 (.bool q9);have v10:=nw dd hT hd tz 54 63 (.bool q10);have v11:=nw dd hT hd tz 59 68 (.bool q11);have v12:=nw dd hT hd tz 64 73 (.bool q12);have v13:=nw dd hT hd tz 69 78 (.bool q13);have v14:=nw dd hT hd tz 74 83 (.bool q14);have v15:=nw dd hT hd tz 79 88 (.bool q15);have v16:=nw dd hT hd tz 84 93 (.bool q16);refine yxe hT rX ho hd (.agg #[.bool q0,.bool q1,.bool q2,.bool q3,.bool q4,.bool q5,.bool q6,.bool q7,.bool q8,.bool q9,.bool q10,.bool q11,.bool q12,.bool q13,.bool q14,.bool q15,.bool q16]) ?_;generalize Act.eval ⟨over Tv U,dd⟩=ev at *;simp[execOp,go_sem,v0,v1,v2,v3,v4,v5,v6,v7,v8,v9,v10,v11,v12,v13,v14,v15,v16]
   | 86,ho,hlv,hd =>
    obtain rfl:=oi ho;have hsz:w.heap.size+2≤wz.heap.size:=by have:=hx.size;simp at this;omega
    refine tb_extW (v:=.pointer (some ⟨wz.heap.size,0,none⟩)) (w':=wz.alloc (.cells #[.bool false,.bool false,.bool false,.bool false,.bool false,.bool false,.bool false,.bool false,.bool false,.bool false,.bool false,.bool false,.bool false,.bool false,.bool false,.bool false,.bool false] 170)) (dfR_ext w.heap.size a b La Lb q0 q1 q2 q3 q4 q5 q6 q7 q8 q9 q10 q11 q12 q13 q14 q15 q16) hT ho hd rfl rfl (by decide) (fun j hj hji hlj=>?_) ?_ ((Ext.refl _).alloc _) ⟨wz.heap.size,rfl,hsz,_,rfl,heap_alloc_new _ _⟩
    · by_cases h87:j=87
      · subst h87;have:=dep (hT.shut 87 _ rfl hlj) 86 (by kernel_rfl);rw[hlv]at this;cases this
      · exact(show ∀ j,j<88→j≠86→j≠87→dfD.getD j 0≠5 by decide) j hj hji h87
    · generalize Act.eval ⟨over Tv U,dd⟩=ev at *;simp[execOp,go_sem]
   | 87,ho,hlv,hd =>
    obtain rfl:=oi ho;obtain⟨q,f5,hq,cs,hcs,hblk⟩:∃ q:Nat,U 5=some (.pointer (some ⟨q,0,none⟩))∧w.heap.size+2≤q∧∃ cs:Array Value,cs.size=17∧wz.heap[q]?=some (.cells cs 170 (0,0)):=hT.facts 86 (by decide) (dep hd 86 (by kernel_rfl)) (fun c e=>by cases e);have v6:=nw dd hT hd tz 85 94 (.agg #[.bool q0,.bool q1,.bool q2,.bool q3,.bool q4,.bool q5,.bool q6,.bool q7,.bool q8,.bool q9,.bool q10,.bool q11,.bool q12,.bool q13,.bool q14,.bool q15,.bool q16]);have v5:Act.eval ⟨over Tv U,dd⟩ (.tmp 5)=_:=eval_new (t:=Tv) (d:=dd) f5 (by show 5<Tv.size;omega);refine tb_store (w':=wz.setRow q #[.bool q0,.bool q1,.bool q2,.bool q3,.bool q4,.bool q5,.bool q6,.bool q7,.bool q8,.bool q9,.bool q10,.bool q11,.bool q12,.bool q13,.bool q14,.bool q15,.bool q16]) hT ho hd rfl rfl (exec_store_row _ _ _ rfl q _ v5 v6 _ cs hblk (by kernel_rfl) hcs (by simp[Value.oneCell'])) (hx.setRow (by simp;omega) _) ⟨q,f5,hq,setRow_at hblk⟩ (fun j hj hji hlj hcj hR=>?_);by_cases h86:j=86
    · subst h86;obtain⟨q',e1,e2,cs',h0,h1⟩:∃ q:Nat,U 5=some (.pointer (some ⟨q,0,none⟩))∧w.heap.size+2≤q∧∃ cs:Array Value,cs.size=17∧wz.heap[q]?=some (.cells cs 170 (0,0)):=hR;rw[f5]at e1;cases e1;exact⟨q,f5,hq,_,rfl,setRow_at hblk⟩
    · exact dfR_val w.heap.size a b La Lb q0 q1 q2 q3 q4 q5 q6 q7 q8 q9 q10 q11 q12 q13 q14 q15 q16 hji h86 _ _ _ hR
   | i+88,ho,_,_=>exact absurd ho (by simp)
 · intro U wz hex hout hfin;obtain⟨q,f5,hq,hblk⟩:∃ q:Nat,U 5=some (.pointer (some ⟨q,0,none⟩))∧w.heap.size+2≤q∧wz.heap[q]?=some (.cells #[.bool q0,.bool q1,.bool q2,.bool q3,.bool q4,.bool q5,.bool q6,.bool q7,.bool q8,.bool q9,.bool q10,.bool q11,.bool q12,.bool q13,.bool q14,.bool q15,.bool q16] 170 (0,0)):=hfin 87 (by decide) rfl;have HX:=Hi (X0.out.trans hex);have HDB:=Hi (DfB.of hblk);have hqlt:q<wz.heap.size:=by
    rcases Nat.lt_or_ge q wz.heap.size with g | g
    · exact g
    · rw[Array.getElem?_eq_none g]at hblk;cases hblk
   clear hex hfin hblk;rw[over_list];simp(disch:=decide) only[overL,Nat.reduceAdd,hout,Option.getD_none];rw[f5];simp only[Option.getD_some];clear hout f5;have g0:wz.cell? ⟨0,0,none⟩=some (.string ⟨#[73,100]⟩):=(HF.out.ext HX.out) 0 _ rfl;have g1:wz.cell? ⟨0,1,none⟩=some (.string ⟨#[86,101,114,115,105,111,110]⟩):=(HF.out.ext HX.out) 1 _ rfl;have g2:wz.cell? ⟨0,2,none⟩=some (.string ⟨#[75,105,110,100]⟩):=(HF.out.ext HX.out) 2 _ rfl;have g3:wz.cell? ⟨0,3,none⟩=some (.string ⟨#[83,116,101,109]⟩):=(HF.out.ext HX.out) 3 _ rfl;have g4:wz.cell? ⟨0,4,none⟩=some (.string ⟨#[79,112,116,105,111,110,115]⟩):=(HF.out.ext HX.out) 4 _ rfl;have g5:wz.cell? ⟨0,5,none⟩=some (.string ⟨#[67,104,111,105,99,101,115]⟩):=(HF.out.ext HX.out) 5 _ rfl;have g6:wz.cell? ⟨0,6,none⟩=some (.string ⟨#[86,97,108,117,101]⟩):=(HF.out.ext HX.out) 6 _ rfl;have g7:wz.cell? ⟨0,7,none⟩=some (.string ⟨#[84,111,108]⟩):=(HF.out.ext HX.out) 7 _ rfl;have g8:wz.cell? ⟨0,8,none⟩=some (.string ⟨#[84,101,120,116,115]⟩):=(HF.out.ext HX.out) 8 _ rfl;have g9:wz.cell? ⟨0,9,none⟩=some (.string ⟨#[80,111,105,110,116,115]⟩):=(HF.out.ext HX.out) 9 _ rfl;have g10:wz.cell? ⟨0,10,none⟩=some (.string ⟨#[67,111,110,116,101,110,116]⟩):=(HF.out.ext HX.out) 10 _ rfl;have g11:wz.cell? ⟨0,11,none⟩=some (.string ⟨#[70,97,109,105,108,121]⟩):=(HF.out.ext HX.out) 11 _ rfl;have g12:wz.cell? ⟨0,12,none⟩=some (.string ⟨#[83,101,116]⟩):=(HF.out.ext HX.out) 12 _ rfl;have g13:wz.cell? ⟨0,13,none⟩=some (.string ⟨#[87,111,114,100,115]⟩):=(HF.out.ext HX.out) 13 _ rfl;have g14:wz.cell? ⟨0,14,none⟩=some (.string ⟨#[83,101,99,111,110,100,115]⟩):=(HF.out.ext HX.out) 14 _ rfl;have g15:wz.cell? ⟨0,15,none⟩=some (.string ⟨#[65,115,115,101,116,115]⟩):=(HF.out.ext HX.out) 15 _ rfl;have g16:wz.cell? ⟨0,16,none⟩=some (.string ⟨#[82,117,98,114,105,99]⟩):=(HF.out.ext HX.out) 16 _ rfl;generalize (List.map _ _:List Value)=JUNK;go_wp2;clear g0 g1 g2 g3 g4 g5 g6 g7 g8 g9 g10 g11 g12 g13 g14 g15 g16;go_loopw [6,96] (fun n i wr=>∃ k:Nat,k≤17∧i=.int .i64 k∧Hid (RowS wz.heap.size (It.foldN ((It.pairs a b).take k)) wr n)∧Hid (Ext wz wr)) (fun _ i _=>17-(intOf i).toNat)
   case atStart=>exact⟨0,by omega,rfl,Hi (own_nil _ _ _ _),Hi (Ext.refl _)⟩
   case round =>
    obtain⟨k,hk,rfl,HR,HE⟩:=hrel;by_cases hlt:k<17
    · obtain⟨qk,s,h1,h2,h3⟩:=It.pairs_at a b hlt;rw[HQ.out]at h1;have c0:_=_:=(HDB.out.ext HE.out) k qk h1;have hix:=fld_index k hlt h2;have ki0:(0:Int)≤(k:Int):=(by omega);have ki1:(k:Int)<17:=(by omega);have HN:=Hi (It.foldN_snoc h3);have hle:=It.foldN_le ((It.pairs a b).take k);have hle2:=List.length_take_le k (It.pairs a b);have hqz:q<wr.heap.size:=Nat.lt_of_lt_of_le hqlt HE.out.size;clear h1 h2 h3;cases qk with
      | true =>
       go_wp2;go_roundw;case rel=>exact⟨k+1,by omega,by go_num,Hi (by rw[HN.out];exact HR.out),HE⟩
       case measure=>simp[intOf];omega
      | false =>
       obtain⟨nx,hxn⟩:∃ n,(It.foldN ((It.pairs a b).take k)).length=n:=⟨_,rfl⟩;obtain⟨A,c,rfl⟩:=own_form HR.out;have HO2:Hid (wr.ownsRow wz.heap.size 9 1 (.slice A nx c) nx ((It.foldN ((It.pairs a b).take k)).map Value.string)):=Hi (by rw[← hxn];exact HR.out);have hn:nx≤1000:=(by omega);have HXN:=Hi hxn;rw[hxn];clear hxn HR hle hle2;go_wp2_with (at_builtin;refine wpList_append_lies _ rfl _ _ 37 rfl wz.heap.size 9 i0 (.string ⟨#[]⟩) 1 16 Tryz.underlying37 hi0 hz0 hz1 hz2 rfl (by decide) _ _ _ rfl (HO2.out.alloc _) ⟨wr.heap.size,0,none⟩ 1 1 [.string s] rfl rfl (cell_one_new _ _ _) (by simp[Value.oneCell']) (by decide) (by unfold maxLen;omega) (by omega) (by have:=HE.out.size;simp;omega) (wr.heap.size+1) (by simp) ?_;intro gg cap w2 hown2 hgrow2 hat hlt2)
       have HO3:=Hi hown2;have he2:=Hi ((HE.out.alloc (.cells #[.string s] 9)).grown hgrow2 (fun q hq=>own_ge HO2.out q hq));clear hown2 hgrow2;go_wp2;go_roundw;case rel=>exact⟨k+1,by omega,by go_num,Hi (by unfold RowS;rw[HN.out,Bool.not_false,It.addL_yes,List.length_append,List.map_append,HXN.out];exact HO3.out),he2⟩
       case measure=>simp[intOf];omega
    · obtain rfl:k=17:=by omega
      have HE17:Hid (It.foldN ((It.pairs a b).take 17)=It.diff a b):=Hi rfl;obtain⟨A,c,hsl,hl1,hl2,hSl⟩:=HR.out.sl;subst hsl;have HS:=Hi hSl;have HL:=Hi hl1;have HM:=Hi hl2;clear hSl hl1 hl2;go_wp2;go_ret;rw[HE17.out]at HS HL ⊢;exact⟨⟨A,c,rfl,HS.out,HL.out,HM.out⟩,HX.out.trans HE.out⟩
end Go.Proofs.YtfnmgcblhebdbaaGreatDoor
namespace Go.Proofs.YtfnmgcblhebdbaaGreatDoor
open Go.RowKit
namespace Bk
theorem sl_len63{n c:Nat}(h:n≤c∧c≤maxLen):n≤9223372036854775807:=by have:=h.2;unfold maxLen at this;omega
set_option maxRecDepth 100000 in
set_option maxHeartbeats 25600000 in
theorem equalPar_any(A:Option Addr)(c:Nat)(xs:List (Int×Int))(B:Option Addr)(d:Nat)(ys:List (Int×Int)){n m:Nat}(hn:xs.length=n)(hm:ys.length=m){v:Bool}(hv:v=true↔xs=ys)(hl:n≤9223372036854775807)(w:World)(ha:SlX ePar w A xs)(hb:SlX ePar w B ys) :
    Calls Tryz.prog 52 #[.slice A n c,.slice B m d] w fun e w'=>e=.returned (.bool v)∧Ext w w':=by
 have HL1:=Hi ha;have HL2:=Hi hb;have HN:=Hi hn;have HM:=Hi hm;have HV:=Hi hv;clear ha hb hn hm hv;by_cases hnm:n=m;case neg =>
  have hl':((n:Int) != (m:Int))=true:=by rw[bne_iff_ne];omega
  have HF:=Hi (no_eq HV.out (fun e=>hnm (by rw[← HN.out,← HM.out,e])));clear hnm;go_enter Tryz.func52,Tryz.ntmps52
  go_wp2;go_ret;exact⟨ret_bool HF.out.symm,Ext.refl _⟩
 subst hnm;have hl':((n:Int) != (n:Int))=false:=by simp
 go_enter Tryz.func52,Tryz.ntmps52
 go_wp2;go_loopw [13] (fun i wr=>∃ k:Nat,k≤n∧i=.int .i64 k∧Hid (∀ j,j<k→xs[j]?=ys[j]?)∧Hid (Ext w wr)) (fun i _=>n-(intOf i).toNat)
 case atStart=>exact⟨0,by omega,rfl,Hi (fun j hj=>absurd hj (by omega)),Hi (Ext.refl _)⟩
 case round =>
  obtain⟨k,hk,rfl,HALL,HE⟩:=hrel;by_cases hlt:k<n
  · obtain⟨a,ha⟩:∃ a,xs[k]?=some a:=⟨xs[k]'(by rw[HN.out];exact hlt),List.getElem?_eq_getElem _⟩;obtain⟨b,hb⟩:∃ a,ys[k]?=some a:=⟨ys[k]'(by rw[HM.out];exact hlt),List.getElem?_eq_getElem _⟩;obtain⟨b1,o1,rfl,hb1,hc1,-⟩:=(HL1.out.ext HE.out).at_ ha;obtain⟨b2,o2,rfl,hb2,hc2,-⟩:=(HL2.out.ext HE.out).at_ hb;have x0:wr.cell? ⟨b1,o1+k*2,none⟩=some (.int .i64 (a.1)):=hc1 0 _ rfl;have x1:wr.cell? ⟨b1,o1+k*2+1,none⟩=some (.int .i64 (a.2)):=hc1 1 _ rfl;have y0:wr.cell? ⟨b2,o2+k*2,none⟩=some (.int .i64 (b.1)):=hc2 0 _ rfl;have y1:wr.cell? ⟨b2,o2+k*2+1,none⟩=some (.int .i64 (b.2)):=hc2 1 _ rfl;have ki0:(0:Int)≤(k:Int):=(by omega);have ki1:(k:Int)<(n:Int):=(by omega);have HP:=Hi ha;have HQ:=Hi hb;clear ha hb hc1 hc2;by_cases h0:a.1=b.1;case neg =>
     have HF:=Hi (no_eq HV.out (fun e=>ne_at HP.out HQ.out (fun e2=>h0 (by rw[e2])) e));have u0:(a.1 == b.1)=false:=(by rw[beq_eq_false_iff_ne];exact h0);clear h0;go_wp2;go_quiet (fail)
     go_wp2;go_ret;exact⟨ret_bool HF.out.symm,HE.out.drewN _⟩
    by_cases h1:a.2=b.2;case neg =>
     have HF:=Hi (no_eq HV.out (fun e=>ne_at HP.out HQ.out (fun e2=>h1 (by rw[e2])) e));have u0:(a.1 == b.1)=true:=(by rw[h0];simp);have u1:(a.2 == b.2)=false:=(by rw[beq_eq_false_iff_ne];exact h1);clear h0 h1;go_wp2;go_quiet (fail)
     go_wp2;go_ret;exact⟨ret_bool HF.out.symm,HE.out.drewN _⟩
    have hab:a=b:=by cases a;cases b;simp only at h0 h1;rw[h0,h1]
    clear h0 h1;have HF:=Hi (all_next HP.out HQ.out hab HALL.out);subst hab;go_wp2;go_quiet (fail)
    go_wp2;go_roundw;case rel=>exact⟨k+1,by omega,by go_num,HF,Hi (HE.out.drewN _)⟩
    case measure=>simp[intOf];omega
  · obtain rfl:k=n:=by omega
    have HF:Hid (v=true):=Hi (HV.out.2 (List.ext_getElem? (fun j=>by
     rcases Nat.lt_or_ge j k with g | g
     · exact HALL.out j g
     · rw[List.getElem?_eq_none (by rw[HN.out];exact g),List.getElem?_eq_none (by rw[HM.out];exact g)])))
    go_wp2;go_ret;exact⟨ret_bool HF.out.symm,HE.out⟩
set_option maxRecDepth 100000 in
set_option maxHeartbeats 25600000 in
theorem equalAct_any(A:Option Addr)(c:Nat)(xs:List Rev.Act)(B:Option Addr)(d:Nat)(ys:List Rev.Act){n m:Nat}(hn:xs.length=n)(hm:ys.length=m){v:Bool}(hv:v=true↔xs=ys)(hl:n≤9223372036854775807)(w:World)(ha:SlX eAct w A xs)(hb:SlX eAct w B ys) :
    Calls Tryz.prog 117 #[.slice A n c,.slice B m d] w fun e w'=>e=.returned (.bool v)∧Ext w w':=by
 have HL1:=Hi ha;have HL2:=Hi hb;have HN:=Hi hn;have HM:=Hi hm;have HV:=Hi hv;clear ha hb hn hm hv;by_cases hnm:n=m;case neg =>
  have hl':((n:Int) != (m:Int))=true:=by rw[bne_iff_ne];omega
  have HF:=Hi (no_eq HV.out (fun e=>hnm (by rw[← HN.out,← HM.out,e])));clear hnm;go_enter Tryz.func117,Tryz.ntmps117
  go_wp2;go_ret;exact⟨ret_bool HF.out.symm,Ext.refl _⟩
 subst hnm;have hl':((n:Int) != (n:Int))=false:=by simp
 go_enter Tryz.func117,Tryz.ntmps117
 go_wp2;go_loopw [13] (fun i wr=>∃ k:Nat,k≤n∧i=.int .i64 k∧Hid (∀ j,j<k→xs[j]?=ys[j]?)∧Hid (Ext w wr)) (fun i _=>n-(intOf i).toNat)
 case atStart=>exact⟨0,by omega,rfl,Hi (fun j hj=>absurd hj (by omega)),Hi (Ext.refl _)⟩
 case round =>
  obtain⟨k,hk,rfl,HALL,HE⟩:=hrel;by_cases hlt:k<n
  · obtain⟨a,ha⟩:∃ a,xs[k]?=some a:=⟨xs[k]'(by rw[HN.out];exact hlt),List.getElem?_eq_getElem _⟩;obtain⟨b,hb⟩:∃ a,ys[k]?=some a:=⟨ys[k]'(by rw[HM.out];exact hlt),List.getElem?_eq_getElem _⟩;obtain⟨b1,o1,rfl,hb1,hc1,-⟩:=(HL1.out.ext HE.out).at_ ha;obtain⟨b2,o2,rfl,hb2,hc2,-⟩:=(HL2.out.ext HE.out).at_ hb;have x0:wr.cell? ⟨b1,o1+k*4,none⟩=some (.int .i64 (a.kind)):=hc1 0 _ rfl;have x1:wr.cell? ⟨b1,o1+k*4+1,none⟩=some (.int .i64 (a.user)):=hc1 1 _ rfl;have x2:wr.cell? ⟨b1,o1+k*4+2,none⟩=some (.int .i64 (a.roles)):=hc1 2 _ rfl;have x3:wr.cell? ⟨b1,o1+k*4+3,none⟩=some (.int .i64 (a.time)):=hc1 3 _ rfl;have y0:wr.cell? ⟨b2,o2+k*4,none⟩=some (.int .i64 (b.kind)):=hc2 0 _ rfl;have y1:wr.cell? ⟨b2,o2+k*4+1,none⟩=some (.int .i64 (b.user)):=hc2 1 _ rfl;have y2:wr.cell? ⟨b2,o2+k*4+2,none⟩=some (.int .i64 (b.roles)):=hc2 2 _ rfl;have y3:wr.cell? ⟨b2,o2+k*4+3,none⟩=some (.int .i64 (b.time)):=hc2 3 _ rfl;have ki0:(0:Int)≤(k:Int):=(by omega);have ki1:(k:Int)<(n:Int):=(by omega);have HP:=Hi ha;have HQ:=Hi hb;clear ha hb hc1 hc2;by_cases h0:a.kind=b.kind;case neg =>
     have HF:=Hi (no_eq HV.out (fun e=>ne_at HP.out HQ.out (fun e2=>h0 (by rw[e2])) e));have u0:(a.kind == b.kind)=false:=(by rw[beq_eq_false_iff_ne];exact h0);clear h0;go_wp2;go_quiet (fail)
     go_wp2;go_ret;exact⟨ret_bool HF.out.symm,HE.out.drewN _⟩
    by_cases h1:a.user=b.user;case neg =>
     have HF:=Hi (no_eq HV.out (fun e=>ne_at HP.out HQ.out (fun e2=>h1 (by rw[e2])) e));have u0:(a.kind == b.kind)=true:=(by rw[h0];simp);have u1:(a.user == b.user)=false:=(by rw[beq_eq_false_iff_ne];exact h1);clear h0 h1;go_wp2;go_quiet (fail)
     go_wp2;go_ret;exact⟨ret_bool HF.out.symm,HE.out.drewN _⟩
    by_cases h2:a.roles=b.roles;case neg =>
     have HF:=Hi (no_eq HV.out (fun e=>ne_at HP.out HQ.out (fun e2=>h2 (by rw[e2])) e));have u0:(a.kind == b.kind)=true:=(by rw[h0];simp);have u1:(a.user == b.user)=true:=(by rw[h1];simp);have u2:(a.roles == b.roles)=false:=(by rw[beq_eq_false_iff_ne];exact h2);clear h0 h1 h2;go_wp2;go_quiet (fail)
     go_wp2;go_ret;exact⟨ret_bool HF.out.symm,HE.out.drewN _⟩
    by_cases h3:a.time=b.time;case neg =>
     have HF:=Hi (no_eq HV.out (fun e=>ne_at HP.out HQ.out (fun e2=>h3 (by rw[e2])) e));have u0:(a.kind == b.kind)=true:=(by rw[h0];simp);have u1:(a.user == b.user)=true:=(by rw[h1];simp);have u2:(a.roles == b.roles)=true:=(by rw[h2];simp);have u3:(a.time == b.time)=false:=(by rw[beq_eq_false_iff_ne];exact h3);clear h0 h1 h2 h3;go_wp2;go_quiet (fail)
     go_wp2;go_ret;exact⟨ret_bool HF.out.symm,HE.out.drewN _⟩
    have hab:a=b:=by cases a;cases b;simp only at h0 h1 h2 h3;rw[h0,h1,h2,h3]
    clear h0 h1 h2 h3;have HF:=Hi (all_next HP.out HQ.out hab HALL.out);subst hab;go_wp2;go_quiet (fail)
    go_wp2;go_roundw;case rel=>exact⟨k+1,by omega,by go_num,HF,Hi (HE.out.drewN _)⟩
    case measure=>simp[intOf];omega
  · obtain rfl:k=n:=by omega
    have HF:Hid (v=true):=Hi (HV.out.2 (List.ext_getElem? (fun j=>by
     rcases Nat.lt_or_ge j k with g | g
     · exact HALL.out j g
     · rw[List.getElem?_eq_none (by rw[HN.out];exact g),List.getElem?_eq_none (by rw[HM.out];exact g)])))
    go_wp2;go_ret;exact⟨ret_bool HF.out.symm,HE.out⟩
end Bk
end Go.Proofs.YtfnmgcblhebdbaaGreatDoor
