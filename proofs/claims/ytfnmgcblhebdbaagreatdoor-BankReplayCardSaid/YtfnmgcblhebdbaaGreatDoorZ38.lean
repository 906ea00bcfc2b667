/- slices.Sort of a row of the call's own; slices.Compact of integers, weakly: contracts. Conditions: those of each theorem. -/
import Derived.Test.YtfnmgcblhebdbaaGreatDoorZ24
import Derived.Test.YtfnmgcblhebdbaaGreatDoorZ12
import Derived.Lib.SmallJoins
namespace Go.Proofs.YtfnmgcblhebdbaaGreatDoor
set_option maxRecDepth 100000
set_option maxHeartbeats 6400000
open Go.ChangeShapes Go.WideShapes Go.ChangeAt Go.RowKit Go.Shelf Go.Sort
theorem sort_own(W0:World)(base:Nat)(hB:W0.heap.size≤base)(v:Value)(xs:List Int){n:Nat}(hn:xs.length=n)(hb:n<4611686018427387904)(w:World)(hX:Ext W0 w)(h:w.ownsRow base 3 1 v n (xs.map (Value.int .i64))) :
    Calls Tryz.prog 135 #[v] w fun e w'=>e=.returned (.tuple #[])∧w'.ownsRow base 3 1 v n ((It.sorted xs).map (Value.int .i64))∧Ext W0 w':=by
 subst hn;rcases h.2 with ⟨rfl,hz⟩ | ⟨gb,cap,cur,rfl,hbase,hgb,r1,r2,r3,r4⟩
 · have hss:xs=[]:=List.eq_nil_of_length_eq_zero hz;subst hss;refine(AnyM.slices_Sort_int_none Tryz.sortA none 0 w).mono ?_;rintro e w' ⟨rfl,rfl⟩;exact⟨rfl,by simpa[It.sorted]using h,hX⟩
 · have hH:Holds encZ w gb 0 xs.toArray:=holds_of_block_i hgb (by simpa using r4);have hgl:gb<w.heap.size:=(Array.getElem?_eq_some_iff.1 hgb).1;refine(AnyM.slices_Sort_int Tryz.sortA gb 0 cap xs w hH hgl hb).mono ?_;rintro e w' ⟨rfl,nn,os,rfl⟩;exact⟨rfl,ownsRow_sorted_i (by simp) hbase hgb r1 r2 r3,hX.grown (grownBy_sorted_i _) (fun j hj=>by cases hj;exact Nat.le_trans hB hbase)⟩
namespace Bk
def IntB (w:World)(g cap:Nat):Prop:=∃ cur,w.heap[g]?=some (.cells cur 3 (0,0))∧cap≤cur.size∧∀ j,j<cap→∃ z,cur[j]?=some (.int .i64 z)
theorem IntB.ext{w w':World}{g cap:Nat}(h:IntB w g cap)(he:Ext w w'):IntB w' g cap:=h.elim fun cur h=>⟨cur,he.blockAt h.1,h.2⟩
theorem IntB.at_{w:World}{g cap:Nat}(h:IntB w g cap){j:Nat}(hj:j<cap):∃ z,w.cell? ⟨g,j,none⟩=some (.int .i64 z):=by obtain⟨cur,h1,-,h3⟩:=h;obtain⟨z,hz⟩:=h3 j hj;exact⟨z,(cell_of_row _ _ j _ _ _ h1).trans hz⟩
theorem IntB.free{w:World}{g cap:Nat}(h:IntB w g cap)(j:Nat):w.frozen? ⟨g,j,none⟩=false:=by obtain⟨cur,h1,-⟩:=h;exact frozen_of_row _ _ j _ _ h1
theorem IntB.set{w:World}{g cap:Nat}(h:IntB w g cap)(i:Nat)(z:Int):IntB (w.setCell ⟨g,i,none⟩ (.int .i64 z)) g cap:=by
 obtain⟨cur,h1,h2,h3⟩:=h;refine⟨_,heap_setCell_same _ _ _ _ _ _ h1,by rw[Array.size_setIfInBounds];exact h2,fun j hj=>?_⟩;rw[Array.getElem?_setIfInBounds];split
 · split
   · exact⟨z,rfl⟩
   · omega
 · exact h3 j hj
theorem IntB.clear{W w:World}{g cap K m:Nat}(hg:W.heap.size≤g)(h:IntB w g cap)(hW:Ext W w)(hm:K+m≤cap)(h0:0<m) :
    ∃ wZ,(∀ cc,(Builtin.clear_ #[22] 0 #[.slice (some ⟨g,K,none⟩) m cc]).run Tryz.prog w=.ok (.tuple #[]) wZ)∧Ext W wZ:=by
 have hv:∀ w,(zeroValue 3).run Tryz.prog w=.ok (.int .i64 0) w:=fun w=>by kernel_rfl
 obtain⟨p,rfl⟩:∃ p,m=p+1:=⟨m-1,by omega⟩;have hl:((Builtin.zeroCells #[.int .i64 0] (p+1)).toList).length=p+1:=by simp[Builtin.zeroCells]
 have hst:=run_storeCells_cells (P:=Tryz.prog) g K (Builtin.zeroCells #[.int .i64 0] (p+1)).toList 0 w (fun j hj=>by
  rw[hl]at hj;obtain⟨z,hz⟩:=h.at_ (j:=K+0+j) (by omega);rw[hz];rfl) (fun j _=>h.free _) (fun v hv=>by
  simp only[Builtin.zeroCells,Array.toList_map,List.mem_map]at hv;obtain⟨i,-,rfl⟩:=hv;simp[Nat.mod_one,Value.oneCell'])
 refine⟨w.setCells g K (Builtin.zeroCells #[.int .i64 0] (p+1)).toList,fun cc=>?_,Ext.setCells hg _ _ _ hW⟩;simp only[Nat.add_zero]at hst;simp[Builtin.clear_,run_underlying Tryz.underlying22,hv,Value.cells,hst]
theorem compI_any(W:World)(A:Option Addr)(c n cap:Nat)(w:World)(hW:Ext W w)(h:(A=none∧n=0)∨∃ g,A=some ⟨g,0,none⟩∧W.heap.size≤g∧IntB w g cap)(hn:n≤cap)(hnc:n≤c)(hc:c≤9223372036854775807) :
    Calls Tryz.prog 136 #[.slice A n c] w fun e w'=>(∃ A' n' c',e=.returned (.slice A' n' c')∧(n'=0↔n=0))∧Ext W w':=by
 by_cases h2:n<2
 · have h2':(n:Int)<2:=(by omega);clear h;go_enter Tryz.func136,Tryz.ntmps136
   go_wp2;go_ret;exact⟨⟨A,n,c,rfl,Iff.rfl⟩,hW⟩
 · have h2':¬ (n:Int)<2:=(by omega);obtain⟨g,rfl,hg,hrow⟩:∃ g,A=some ⟨g,0,none⟩∧W.heap.size≤g∧IntB w g cap:=by
    rcases h with h | h
    · omega
    · exact h
   have HR:=Hi hrow;clear hrow h;go_enter Tryz.func136,Tryz.ntmps136
   go_wp2;go_loopw [3] (fun i wr=>∃ k:Nat,1≤k∧k≤n∧i=.int .i64 k∧Ext w wr) (fun i _=>n-(intOf i).toNat)
   case atStart=>exact⟨1,by omega,by omega,rfl,Ext.refl _⟩
   case round =>
    obtain⟨k,hk1,hk,rfl,he⟩:=hrel;by_cases hlt:k<n
    · obtain⟨p,hp⟩:=(HR.out.ext he).at_ (j:=k) (by omega);obtain⟨q,hq⟩:=(HR.out.ext he).at_ (j:=k-1) (by omega);have ki0:(0:Int)≤(k:Int):=(by omega);have ki1:(k:Int)<(n:Int):=(by omega);have kj0:(0:Int)≤(k:Int)-1:=(by omega);have kj1:(k:Int)-1<(n:Int):=(by omega);have kj2:1≤(k:Int):=(by omega);have hwr:IntKind.i64.wrap ((k:Int)-1)=(k:Int)-1:=(by rw[IntKind.wrap_i64];omega);have e1:((k:Int)-1).toNat=k-1:=(by omega);obtain⟨v,hv⟩:∃ v,(p == q)=v:=⟨_,rfl⟩;cases v with
      | false =>
       go_wp2;go_quiet (fail)
       go_wp2;go_roundw;case rel=>exact⟨k+1,by omega,by omega,by go_num,he.drewN _⟩
       case measure=>simp[intOf];omega
      | true =>
       go_wp2;go_quiet (fail)
       go_wp2;clear hp hq hv kj0 kj1 kj2 hwr e1;obtain⟨wo,rfl⟩:∃ wo:World,wo=wr:=⟨_,rfl⟩;have hWo:Ext W (wo.drewN nq):=(hW.trans he).drewN _;have HRo:Hid (IntB (wo.drewN nq) g cap):=Hi (HR.out.ext (he.drewN _));have hsub:((n:Int)-(k:Int))=((n-k:Nat):Int):=(by omega);go_loopw [5,3] (fun i kk wr=>∃ (k2 K:Nat),1≤k2∧k2≤n-k∧i=.int .i64 k2∧kk=.int .i64 K∧K<k+k2∧1≤K∧IntB wr g cap∧Ext W wr) (fun i _ _=>(n-k)-(intOf i).toNat)
       case atStart=>exact⟨1,k,by omega,by omega,rfl,rfl,by omega,hk1,HRo.out,hWo⟩
       case round =>
        obtain⟨k2,K,hk21,hk2,rfl,rfl,hK,hK1,hzr,hez⟩:=hrel;have HZR:=Hi hzr;clear hzr;by_cases hlt2:k2<n-k
        · obtain⟨p2,hp2⟩:=HZR.out.at_ (j:=k+k2) (by omega);obtain⟨q2,hq2⟩:=HZR.out.at_ (j:=k+(k2-1)) (by omega);obtain⟨zK,hzK⟩:=HZR.out.at_ (j:=K) (by omega);have hfz:=HZR.out.free K;have ji0:(0:Int)≤(k2:Int):=(by omega);have ji1:(k2:Int)<((n-k:Nat):Int):=(by omega);have jj0:(0:Int)≤(k2:Int)-1:=(by omega);have jj1:(k2:Int)-1<((n-k:Nat):Int):=(by omega);have jj2:1≤(k2:Int):=(by omega);have jk0:(0:Int)≤(K:Int):=(by omega);have jk1:(K:Int)<(n:Int):=(by omega);have hwr:IntKind.i64.wrap ((k2:Int)-1)=(k2:Int)-1:=(by rw[IntKind.wrap_i64];omega);have e1:((k2:Int)-1).toNat=k2-1:=(by omega);obtain⟨v,hv⟩:∃ v,(p2 != q2)=v:=⟨_,rfl⟩;cases v with
          | false =>
           go_wp2;go_quiet (fail)
           go_wp2;go_roundw;case rel=>exact⟨k2+1,K,by omega,by omega,by go_num,rfl,by omega,hK1,HZR.out.ext ((Ext.refl _).drewN _),hez.drewN _⟩
           case measure=>simp[intOf];omega
          | true =>
           go_wp2;go_quiet (fail)
           go_wp2;go_roundw;case rel=>exact⟨k2+1,K+1,by omega,by omega,by go_num,by go_num,by omega,by omega,IntB.set (HZR.out.ext ((Ext.refl _).drewN _)) K p2,Ext.setCell (hez.drewN _) hg _⟩
           case measure=>simp[intOf];omega
        · have hKn:K<n:=(by omega);obtain⟨wZ,hcl,hZ2⟩:=IntB.clear (K:=K) (m:=n-K) hg HZR.out hez (by omega) (by omega);have jk0:(0:Int)≤(K:Int):=(by omega);have jk1:(K:Int)<(n:Int):=(by omega);have hKc:K≤c:=(by omega);go_wp2;go_ret;exact⟨⟨_,K,_,rfl,by omega⟩,hZ2⟩
    · go_wp2;go_ret;exact⟨⟨_,n,_,rfl,Iff.rfl⟩,hW.trans he⟩
end Bk
end Go.Proofs.YtfnmgcblhebdbaaGreatDoor
