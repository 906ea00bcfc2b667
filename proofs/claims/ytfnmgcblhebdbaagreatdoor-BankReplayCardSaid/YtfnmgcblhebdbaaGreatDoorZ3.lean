/- Slices of integers with where they lie; rows that a call owns as slices. No conditions. -/
import Derived.Test.YtfnmgcblhebdbaaGreatDoorZ2
import Derived.Deep.OwnRows
import Derived.Deep.AppendLies
import Derived.Deep.RegionHeld3
import Derived.Deep.QuietTactic
import Derived.BigQuiet
namespace Go.Proofs.YtfnmgcblhebdbaaGreatDoor
open Go.RowKit

structure IL where
 A:Option Addr
 c:Nat
 xs:List Int
instance:Inhabited IL:=⟨⟨none,0,[]⟩⟩
def IL.val (h:IL):Value:=.slice h.A h.xs.length h.c
def IL.In (w:World)(h:IL):Prop:=SlI w h.A h.xs∧h.xs.length≤h.c∧h.c≤maxLen∧∀ x∈h.xs,In64 x
theorem IL.In.ext{w w':World}{h:IL}(hi:h.In w)(he:Ext w w'):h.In w':=⟨hi.1.ext he,hi.2⟩
def SlL (w:World)(L:Option Addr)(ls:List IL):Prop:=Sl w 1 L (ls.map fun h=>[h.val])∧∀ h∈ls,h.In w
theorem SlL.ext{w w':World}{L:Option Addr}{ls:List IL}(h:SlL w L ls)(he:Ext w w'):SlL w' L ls:=⟨h.1.ext he,fun x hx=>(h.2 x hx).ext he⟩
theorem SlL.at_{w:World}{L:Option Addr}{ls:List IL}(h:SlL w L ls){i:Nat}{x:IL}(hi:ls[i]?=some x) :
    ∃ b off,L=some ⟨b,off,none⟩∧b<w.heap.size∧w.cell? ⟨b,off+i,none⟩=some (.slice x.A x.xs.length x.c)∧x.In w:=by
 obtain⟨b,off,hA,hb,hc⟩:=Sl.at_ (i:=i) (cs:=[x.val]) h.1 (by simp[hi]);exact⟨b,off,hA,hb,by simpa[IL.val]using hc 0 _ rfl,h.2 x (List.mem_of_getElem? hi)⟩

theorem Sl.new(w:World)(cs:List Value)(t:TypeId):Sl (w.alloc (.cells cs.toArray t)) 1 (some ⟨w.heap.size,0,none⟩) (cs.map fun v=>[v]):=by
 refine Or.inr ⟨w.heap.size,0,rfl,by simp,fun i xs hi j v hv=>?_⟩;rw[List.getElem?_map]at hi;obtain⟨u,hu,rfl⟩:=Option.map_eq_some_iff.1 hi;have hj:j=0:=by
  rcases Nat.eq_zero_or_pos j with g | g
  · exact g
  · rw[List.getElem?_eq_none (by simp;omega)]at hv;cases hv
 subst hj;simp at hv;subst hv;rw[World.cell?_alloc_new];simpa using hu

theorem Sl.new_at(w:World)(cs:List Value)(t:TypeId)(n:Nat)(hn:n=w.heap.size):Sl (w.alloc (.cells cs.toArray t)) 1 (some ⟨n,0,none⟩) (cs.map fun v=>[v]):=by
 subst hn;exact Sl.new w cs t

theorem Tryz.infoInt:(Tryz.prog.info? 3).map (fun i=>(i.zero,i.size,i.bytes))=some (some (.int .i64 0),1,8):=by kernel_rfl

theorem ret_ib{k:IntKind}{a b:Int}{x y:Bool}(h:a=b)(g:x=y):Ending.returned (.tuple #[.int k a,.bool x])=.returned (.tuple #[.int k b,.bool y]):=by rw[h,g]
theorem own_ge{w:World}{base:Nat}{e:TypeId}{size:Nat}{v:Value}{n:Nat}{xs:List Value}(h:w.ownsRow base e size v n xs):∀ q,v.ownBlock=some q→base≤q:=by
 intro q hq;rcases h.2 with ⟨rfl,_⟩ | ⟨g,cap,cur,rfl,hg,_⟩
 · simp[Value.ownBlock]at hq
 · have:g=q:=by simpa[Value.ownBlock]using hq
   omega
theorem SlI.of_own{w:World}{base:Nat}{e:TypeId}{v:Value}{n:Nat}{xs:List Int}(h:w.ownsRow base e 1 v n (xs.map (Value.int .i64))):∃ A c,v=.slice A xs.length c∧xs.length≤c∧c≤maxLen∧SlI w A xs:=by
 have hl:xs.length=n:=by have:=h.1;simpa using this
 rcases h.2 with ⟨rfl,rfl⟩ | ⟨g,cap,cur,rfl,hg,hh,h1,h2,h3,h4⟩
 · have:xs=[]:=List.eq_nil_of_length_eq_zero hl;subst this;exact⟨none,0,rfl,Nat.le_refl _,Nat.zero_le _,SlI.nil _ _⟩
 · refine⟨some ⟨g,0,none⟩,cap,by rw[hl],by omega,h2,Or.inr ⟨g,0,rfl,?_,fun i cs hi j v hv=>?_⟩⟩
   · rcases Nat.lt_or_ge g w.heap.size with hlt | hge
     · exact hlt
     · rw[Array.getElem?_eq_none hge]at hh;cases hh
   · rw[List.getElem?_map]at hi;obtain⟨x,hx,rfl⟩:=Option.map_eq_some_iff.1 hi;have hj:j=0:=by
      rcases Nat.eq_zero_or_pos j with e | e
      · exact e
      · rw[List.getElem?_eq_none (by simp;omega)]at hv;cases hv
     subst hj;simp at hv;subst hv;have hi':i<xs.length:=by
      rcases Nat.lt_or_ge i xs.length with e | e
      · exact e
      · rw[List.getElem?_eq_none e]at hx;cases hx
     have h5:(cur.toList.take (n*1))[i]?=some (.int .i64 x):=(by rw[h4,List.getElem?_map,hx];rfl);rw[List.getElem?_take_of_lt (by omega)]at h5;have h6:=cell_of_row w g i cur e (0,0) hh;rw[show(0+(i*1+0))=i by omega,h6];simpa using h5

end Go.Proofs.YtfnmgcblhebdbaaGreatDoor
