/- How items and bytes come out of a row's reading. Conditions: those of each theorem. -/
import Derived.Test.YtnlenappjjlbjaaGreatDoorQ36
import Derived.Test.YtnlenappjjlbjaaGreatDoorQ37
import Derived.Lib.SmallJoins
import Derived.Test.YtnlenappjjlbjaaGreatDoorCards
import Derived.Test.YtnlenappjjlbjaaGreatDoorTie
import Derived.LaidMore
import Derived.LaidSub
import Derived.MakeChecks
import Derived.Lib.LaidTab
import Derived.Deep.DeepHandedRow
import Derived.SevenTiedAt
import Derived.Shelf.Vars
namespace Go.Proofs.YtnlenappjjlbjaaGreatDoor
open Go.ChangeShapes Go.WideShapes Go.ChangeAt Go.RowKit
def valLaid:DataW Unit→Array Value
 | .agg l=>(l.map fun | .lit (.int k n)=>Value.int k n | .lit (.string s)=>Value.string ⟨s.toArray⟩ | _=>undef).toArray
 | _=>#[]
noncomputable def laidW (os:Os):World :=
 { World.doorLaid Tryz.prog 4000 os with heap := (World.doorLaid Tryz.prog 4000 os).heap.modify 1 fun
     | .cells _ t frozen=>.cells (valLaid Rows.laid_unicode_utf8_first) t frozen
     | o=>o }

theorem u8_wf {x:Int} (h:(Lit.int .u8 x).wf=true):0≤x∧x<256:=by
 simp [Lit.wf,IntKind.min,IntKind.max,IntKind.signed,IntKind.bits] at h
 omega
theorem u64_wf {x:Int} (h:(Lit.int .u64 x).wf=true):Bu.U64 x:=by
 simp [Lit.wf,IntKind.min,IntKind.max,IntKind.signed,IntKind.bits] at h
 unfold Bu.U64
 omega
set_option maxRecDepth 100000 in
theorem bytes_open {H : Type} {enc : TypeId × Value → H} {W : World} {base : Nat} {v : Value} {d : DataW H} {p : List MemPlace} (hv : Value.okWide Tryz.prog W .any base 24 v)
    (h:DataW.Trod enc Tryz.prog W 0 (fun _=>true) true 24 v d p) (hd:Light Tryz.prog 24 d):∃ (A:Option Addr) (c:Nat) (xs:List Int),v=.slice A xs.length c∧SlU W A xs∧Bu.Byt xs∧xs.length≤c∧c≤maxLen∧c*1≤140737488351232:=by
 obtain ⟨A0,n0,c0,rfl⟩:=okWide_slice Tryz.underlying24 hv
 obtain ⟨fuel,hf⟩:=h
 obtain ⟨A,xs,c,h1,h2,h3,h4,h5,h6⟩:=open_slW (fun x:Int=>[.int .u8 x]) (fun x=>0≤x∧x<256) Tryz.underlying24 (by kernel_rfl) (k:=1) (by omega) (bs:=1) (by kernel_rfl) (fun n cs y hy _=>by
  obtain ⟨x,h1,_,h3⟩:=DataW.trod_int Tryz.underlying5 hy
  exact ⟨x,h1,u8_wf h3⟩) hf hd
 simp [Value.cells] at h1
 obtain ⟨rfl,rfl,rfl⟩:=h1
 exact ⟨_,_,xs,rfl,h6,h5,h2,h3,h4⟩
end Go.Proofs.YtnlenappjjlbjaaGreatDoor
