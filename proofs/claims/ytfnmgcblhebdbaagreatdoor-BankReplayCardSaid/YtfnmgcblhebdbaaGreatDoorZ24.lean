/- slices.Sorted(slices.Values(l)) at a slice of integers: a contract (the shelf's proofs of AppendSeq, Collect and Sorted turned, and the iterator of slices.Values walked). Conditions: those of each theorem. -/
import Derived.Test.YtfnmgcblhebdbaaGreatDoorZ16
import Derived.Shelf.SlIterI.Sorted
import Derived.Shelf.SortM.Plain
import Derived.Shelf.SortM.SortNone
import Derived.RangeFuncBox
import Derived.RangeFuncLeaves
import Derived.Shelf.Abstract
import Derived.OwnWalkIn
import Derived.TacticsInMore
import Derived.LoopNIn
import Derived.LoopIn
import Derived.Test.YtfnmgcblhebdbaaGreatDoorZ4
namespace Go.Proofs.YtfnmgcblhebdbaaGreatDoor
set_option maxRecDepth 100000
set_option maxHeartbeats 2000000
open Go.RowKit Go.Maps Go.Sort Go.Shelf

section
variable {P:Program} {ρ:Ren}
def SeqGivesB {α:Type}(F:Fence)(n:Nat)(P:Program)(g:Nat)(lb:Array Value)(enc:α→Value)(S:List α→Prop)(N:Nat)(w:World):Prop :=
 ∀ (l:Nat) (J:List α→World→Prop) (W:World),Below w.heap.size w W→AbidesFrom W.heap.size J→(∀ pre W1,J pre W1→Below w.heap.size w W1) →
  (∀ pre x W1,J pre W1→pre.length<N→YieldAt F (n-1) P l #[enc x] W1 fun e W'=>e=.returned (.bool true)∧J (pre ++ [x]) W'∧KeepsWalks W1 W') →
  J [] W →
  CallsIn F n P g (#[.func (.yield l) #[] #[]] ++ lb) W fun e W'=>(∃ v,e=.returned v)∧∃ xs,S xs∧J xs W'
theorem it_appendSeq_in(L:SlLaysZI.n11 P ρ)(F:Fence)(n:Nat)(h11:F.fn (ρ.f 11))(hro:F.round=none)(hn:2≤n)(g:Nat)(lb:Array Value)(hFg:F.fn g)(eg:∀ args w,(callFunc g args).run P w=.ok (.enter g args) w)
    (S:List Int→Prop) (N:Nat) (hN:N≤maxLen) (hNb:N*8≤140737488355328) (w:World) (hseq:SeqGivesB F (n-1) P g lb encZ S N w) :
    CallsIn F n P (ρ.f 11) #[.slice none 0 0,.func (.func g) #[] lb] w fun e w'=>∃ (v:Value) (ss:List Int),e=.returned v∧S ss∧w'.ownsRow w.heap.size (ρ.t 26) 1 v ss.length (ss.map encZ)∧(v=.slice none 0 0↔ss=[])∧Below w.heap.size w w':=by
 have h1:1≤n:=by omega
 have mixed:=L.mixed;have t0:=L.t0;have a0:=L.a0;have z0:=L.z0;have v0:=L.v0;have t24:=L.t24;have a24:=L.a24;have z24:=L.z24;have v24:=L.v24;have t26:=L.t26;have a26:=L.a26;have z26:=L.z26;have v26:=L.v26;have t28:=L.t28;have a28:=L.a28;have z28:=L.z28;have v28:=L.v28;have hne:ρ.t 24≠ρ.t 26:=fun e=>by have h:=L.t24;rw[e,L.t26]at h;cases h
 have u0:=run_underlying L.t0;have u24:=run_underlying L.t24;have u26:=run_underlying L.t26;have u28:=run_underlying L.t28;obtain⟨_,_,FG⟩:=L.f11;refine callsIn_of_wp_marks FG rfl h11 ?_ hro;simp only[SlBodyZ.n11_ntmps ρ,List.size_toArray,List.length_cons,List.length_nil,Nat.reduceAdd,Nat.reduceSub,Array.replicate_succ,Array.replicate_zero,List.push_toArray,List.append_toArray,List.nil_append,List.cons_append]
 gi_wp2
 refine wpIn_rangeFunc ?_;intro fn hfn;rw[hro];obtain⟨W0,hW0⟩:∃ W0,w.alloc (.cells #[.slice none 0 0] (ρ.t 24))=W0:=⟨_,rfl⟩;have hs0:W0.heap.size=w.heap.size+1:=by rw[← hW0];simp
 have hv0:W0.heap[w.heap.size]?=some (.cells #[.slice none 0 0] (ρ.t 24) (0,0)):=by rw[← hW0];exact World.alloc_heap_new w _
 have hb0:Below w.heap.size w W0:=by rw[← hW0];exact(Below.refl _ w).alloc (Nat.le_refl _) _
 rw[hW0];obtain⟨W1,hW1⟩:∃ W1,(W0.alloc (.deferred (some []))).alloc (.loop (AnyZI.apRec ρ fn (.func (.func g) #[] lb) w.heap.size W0.heap.size .ready none))=W1:=⟨_,rfl⟩;have hold:∀ k,k<W0.heap.size→W1.heap[k]?=W0.heap[k]?:=fun k hk=>by rw[← hW1];exact(Below.heap_alloc _ _ k (by simp;omega)).trans (Below.heap_alloc _ _ k hk)
 have hb1:Below w.heap.size w W1:=by rw[← hW1];exact(hb0.alloc hb0.size _).alloc (by have:=hb0.size;simp;omega) _
 have hs1:W1.heap.size=W0.heap.size+2:=by rw[← hW1];simp
 have hM:AnyZI.ApAt ρ w fn (.func (.func g) #[] lb) w.heap.size (W0.heap.size+1) W0.heap.size [] W1 :=
  ⟨⟨_,(hold w.heap.size (by omega)).trans hv0,⟨rfl,.inl ⟨rfl,rfl⟩⟩,by simp⟩,
   by rw[← hW1];have:=World.alloc_heap_new (W0.alloc (.deferred (some []))) (.loop (AnyZI.apRec ρ fn (.func (.func g) #[] lb) w.heap.size W0.heap.size .ready none));rwa [World.size_alloc]at this,
   by rw[← hW1];exact(Below.heap_alloc _ _ _ (by simp)).trans (World.alloc_heap_new W0 _),hb1⟩
 refine⟨W0.heap.size+1,[{ target:=.collected W0.heap.size,args:=#[] }],W1,{ target:=.fn (.func g) lb,args:=#[.func (.yield (W0.heap.size+1)) #[] #[]] },W1,g,
  #[.func (.yield (W0.heap.size + 1)) #[] #[]] ++ lb, W1, ?_, ?_, ?_, ?_, fun _ => h1, ?_⟩
 · rw[← hW1];exact run_enterLoop_outer _ _ _ _ _
 · simp[resolve,go_sem]
 · intro f' hf';simp[Target.leads]at hf';subst hf';exact hFg
 · simp[invoke,go_sem,eg]
 · refine (hseq (W0.heap.size + 1) (AnyZI.ApAt ρ w fn (.func (.func g) #[] lb) w.heap.size (W0.heap.size + 1) W0.heap.size) W1 hb1 (AnyZI.ap_abides ρ _ _ _ _ _ _ _ hb1.size) (fun pre W h => h.below)
     (fun pre x W hJ hl=>AnyZI.apYield { L with } F (n-1-1) w fn hfn _ w.heap.size (W0.heap.size+1) W0.heap.size (by omega) (by omega) (by omega) (Nat.le_refl _) (by omega) N hN hNb pre x W hJ hl) hM).mono ?_
   rintro e W2 ⟨⟨v0,rfl⟩,ss,hS,h2⟩;obtain⟨v,hv,hrow,hnil⟩:=h2.box;have hend:=run_endLoop (P:=P) h2.L (by simp[AnyZI.apRec]);obtain⟨W3,hW3⟩:∃ W3,W2.putObj (W0.heap.size+1) (.loop { AnyZI.apRec ρ fn (.func (.func g) #[] lb) w.heap.size W0.heap.size .ready none with state:=.exhausted })=W3:=⟨_,rfl⟩;rw[hW3]at hend;have hg3:W2.grownBy W3 (some (W0.heap.size+1)):=(by rw[← hW3];exact grownBy_putObj_a _ _ _);have hv3:W3.heap[w.heap.size]?=some (.cells #[v] (ρ.t 24) (0,0)):=(by rw[← hW3];exact(World.putObj_heap_other (by omega)).trans hv);have hK3:W3.heap[W0.heap.size]?=some (.deferred (some [])):=(by rw[← hW3];exact(World.putObj_heap_other (by omega)).trans h2.K);have hrow3:=hrow.kept hg3 (ownsRow_ne_a hrow h2.L (fun cur e=>by first | cases e | exact hne (Obj.cells.inj e).2.1));have hb3:Below w.heap.size w W3:=h2.below.grown hg3 h2.below.size (fun k e=>by cases e;omega);obtain⟨hc3,hf3⟩:=cell_of_box_a hv3;clear hW3;refine⟨none,W3,hend,?_⟩
   gi_wp2
   rw[← hs0];refine⟨by simp,.inl ⟨_,_,rfl,run_takeDeferred hK3,?_⟩⟩;exact⟨_,results_tmp rfl _ _ _,v,ss,rfl,hS,hrow3.kept (grownBy_putObj_a _ _ _) (ownsRow_ne_a hrow3 hK3 (fun cur e=>by first | cases e | exact hne (Obj.cells.inj e).2.1)),hnil,hb3.grown (grownBy_putObj_a _ _ _) hb3.size (fun k e=>by cases e;omega)⟩
theorem it_collect_in(L:SlLaysZI.n8 P ρ)(F:Fence)(n:Nat)(h8:F.fn (ρ.f 8))(h11:F.fn (ρ.f 11))(hro:F.round=none)(hn:3≤n)(g:Nat)(lb:Array Value)(hFg:F.fn g)(eg:∀ args w,(callFunc g args).run P w=.ok (.enter g args) w)
    (S:List Int→Prop) (N:Nat) (hN:N≤maxLen) (hNb:N*8≤140737488355328) (w:World) (hseq:SeqGivesB F (n-1-1) P g lb encZ S N w) :
    CallsIn F n P (ρ.f 8) #[.func (.func g) #[] lb] w fun e w'=>∃ (v:Value) (ss:List Int),e=.returned v∧S ss∧w'.ownsRow w.heap.size (ρ.t 26) 1 v ss.length (ss.map encZ)∧(v=.slice none 0 0↔ss=[])∧Below w.heap.size w w':=by
 have h1:1≤n:=by omega
 have e11:∀ args w,(callFunc (ρ.f 11) args).run P w=.ok (.enter (ρ.f 11) args) w:=L.f11.enters rfl;have mixed:=L.mixed;have t0:=L.t0;have a0:=L.a0;have z0:=L.z0;have v0:=L.v0;have t24:=L.t24;have a24:=L.a24;have z24:=L.z24;have v24:=L.v24;have t26:=L.t26;have a26:=L.a26;have z26:=L.z26;have v26:=L.v26;have t28:=L.t28;have a28:=L.a28;have z28:=L.z28;have v28:=L.v28;have u0:=run_underlying L.t0;have u24:=run_underlying L.t24;have u26:=run_underlying L.t26;have u28:=run_underlying L.t28;obtain⟨_,_,FG⟩:=L.f8;refine callsIn_of_wp FG rfl h8 ?_ hro;simp only[SlBodyZ.n8_ntmps ρ,List.size_toArray,List.length_cons,List.length_nil,Nat.reduceAdd,Nat.reduceSub,Array.replicate_succ,Array.replicate_zero,List.push_toArray,List.append_toArray,List.nil_append,List.cons_append]
 gi_wp2_with (gi_at_fn (ρ.f 11);refine(it_appendSeq_in { L with } F (n-1) h11 hro (by omega) g lb hFg eg S N hN hNb _ hseq).mono ?_;rintro e w' ⟨v,ss,rfl,hS,hrow,hnil,hb⟩)
 go_ret;exact⟨v,ss,rfl,hS,hrow,hnil,hb⟩
theorem it_sorted_in(L:SlLaysZI.n6 P ρ)(F:Fence)(n:Nat)(h6:F.fn (ρ.f 6))(h8:F.fn (ρ.f 8))(h9:F.fn (ρ.f 9))(h11:F.fn (ρ.f 11))(hro:F.round=none)(hn:4≤n)(hsort:AnyZI.SortsIn P ρ F (n-1))(e9:∀ args w,(callFunc (ρ.f 9) args).run P w=.ok (.enter (ρ.f 9) args) w)(g:Nat)(lb:Array Value)(hFg:F.fn g)(eg:∀ args w,(callFunc g args).run P w=.ok (.enter g args) w)
    (S:List Int→Prop) (N:Nat) (hSN:∀ ss,S ss→ss.length≤N) (hN:N≤maxLen) (hNb:N*8≤140737488355328) (w:World) (hseq:SeqGivesB F (n-1-1-1) P g lb encZ S N w) :
    CallsIn F n P (ρ.f 6) #[.func (.func g) #[] lb] w fun e w'=>∃ (v:Value) (ss:List Int),e=.returned v∧S ss ∧
     w'.ownsRow w.heap.size (ρ.t 26) 1 v ss.length ((ss.mergeSort (fun x y=>decide (x≤y))).map encZ)∧(v=.slice none 0 0↔ss=[])∧Below w.heap.size w w':=by
 have h1:1≤n:=by omega
 have e8:∀ args w,(callFunc (ρ.f 8) args).run P w=.ok (.enter (ρ.f 8) args) w:=L.f8.enters rfl;have mixed:=L.mixed;have t0:=L.t0;have a0:=L.a0;have z0:=L.z0;have v0:=L.v0;have t24:=L.t24;have a24:=L.a24;have z24:=L.z24;have v24:=L.v24;have t26:=L.t26;have a26:=L.a26;have z26:=L.z26;have v26:=L.v26;have t28:=L.t28;have a28:=L.a28;have z28:=L.z28;have v28:=L.v28;have u0:=run_underlying L.t0;have u24:=run_underlying L.t24;have u26:=run_underlying L.t26;have u28:=run_underlying L.t28;obtain⟨_,_,FG⟩:=L.f6;refine callsIn_of_wp FG rfl h6 ?_ hro;simp only[SlBodyZ.n6_ntmps ρ,List.size_toArray,List.length_cons,List.length_nil,Nat.reduceAdd,Nat.reduceSub,Array.replicate_succ,Array.replicate_zero,List.push_toArray,List.append_toArray,List.nil_append,List.cons_append]
 gi_wp2_with (gi_at_fn (ρ.f 8);refine(it_collect_in { L with } F (n-1) h8 h11 hro (by omega) g lb hFg eg _ N hN hNb _ hseq).mono ?_;rintro e W ⟨v,ss,rfl,hS,hrow,hnil,hb⟩)
 rcases hrow.2 with ⟨rfl,hz⟩ | ⟨gb,cap,cur,rfl,hbase,hgb,r1,r2,r3,r4⟩
 · -- nothing came: the nil slice is sorted and handed back
   have hss:ss=[]:=List.eq_nil_of_length_eq_zero hz;subst hss
   gi_wp2_with (gi_at_fn (ρ.f 9);refine(hsort.2 none 0 W).mono ?_;rintro e w' ⟨rfl,rfl⟩)
   go_ret;exact⟨.slice none 0 0,[],rfl,hS,by simpa using hrow,by simp,hb⟩
 · have hH:Holds encZ W gb 0 ss.toArray:=holds_of_block_i hgb (by simpa using r4);have hgl:gb<W.heap.size:=(Array.getElem?_eq_some_iff.1 hgb).1;have hlen:=hSN ss hS;have hsz:ss.length<4611686018427387904:=(by omega);have cS:=hsort.1 gb 0 cap ss W hH hgl hsz
   gi_wp2_with (gi_at_fn (ρ.f 9);refine cS.mono ?_;rintro e w' ⟨rfl,nn,os,rfl⟩)
   go_ret;exact⟨_,ss,rfl,hS,ownsRow_sorted_i (by simp) hbase hgb r1 r2 r3,hnil,hb.grown (grownBy_sorted_i _) hb.size (fun j hj=>by cases hj;exact hbase)⟩
end

section
attribute [local go_sem] Oper.semAt_some
theorem values1_in(F:Fence)(n:Nat)(h7:F.fn 151)(hro:F.round=none)(hn:1≤n)(l Bs b off cap:Nat)(zs:List Int)(hreach:zs.length*8≤140737488351232)(w:World)(hBl:Bs<w.heap.size)(hb:b<w.heap.size)
    (hBs:w.cell? ⟨Bs,0,none⟩=some (.slice (some ⟨b,off,none⟩) zs.length cap)) (hc:∀ j x,zs[j]?=some x→w.cell? ⟨b,off+j,none⟩=some (.int .i64 x)) (J:List Int→World→Prop) (hJB:∀ pre W1,J pre W1→Below w.heap.size w W1)
    (hY:∀ pre x W1,J pre W1→pre.length<zs.length→YieldAt F (n-1) Tryz.prog l #[encZ x] W1 fun e W'=>e=.returned (.bool true)∧J (pre ++ [x]) W'∧KeepsWalks W1 W')
    (W:World) (h0:J [] W) :
    CallsIn F n Tryz.prog 151 #[.func (.yield l) #[] #[],.pointer (some ⟨Bs,0,none⟩)] W fun e W'=>(∃ v,e=.returned v)∧∃ xs,xs=zs∧J xs W':=by
 have hBW:W.cell? ⟨Bs,0,none⟩=some (.slice (some ⟨b,off,none⟩) zs.length cap):=((hJB _ _ h0).cell (p:=⟨Bs,0,none⟩) hBl).trans hBs;have hsm:zs.length≤17592186043904:=by omega
 have HC:=Hi hc;clear hc hBs;refine callsIn_of_wp Tryz.func151 rfl h7 ?_ hro;simp only[Tryz.ntmps151,List.size_toArray,List.length_cons,List.length_nil,Nat.reduceAdd,Nat.reduceSub,Array.replicate_succ,Array.replicate_zero,List.push_toArray,List.append_toArray,List.nil_append,List.cons_append]
 gi_wp2
 gi_loopw [7] (fun i wr=>∃ k:Nat,k≤zs.length∧i=.int .i64 k∧J (zs.take k) wr) (fun i _=>zs.length-(intOf i).toNat)
 case atStart=>exact⟨0,Nat.zero_le _,rfl,h0⟩
 case round =>
  obtain⟨k,hk,rfl,hJs⟩:=hrel;by_cases hlt:k<zs.length
  · obtain⟨x,hx⟩:∃ x,zs[k]?=some x:=⟨zs[k],List.getElem?_eq_getElem hlt⟩;have hcx:wr.cell? ⟨b,off+k,none⟩=some (.int .i64 x):=((hJB _ _ hJs).cell (p:=⟨b,off+k,none⟩) hb).trans (HC.out k x hx);obtain⟨fn,tmps,assign,body,hy,hR⟩:=hY _ x wr hJs (by rw[List.length_take];omega);have hts:Hid (zs.take (k+1)=zs.take k ++ [x]):=Hi (by rw[List.take_add_one,hx];rfl);clear hx;unfold encZ at hy
    gi_wp2
    refine hR.mono ?_;rintro e W3 ⟨rfl,hJ3,hk3⟩
    gi_wp2
    go_roundw;case rel=>exact⟨k+1,by omega,by simp,by rw[hts.out];exact hJ3⟩
    case measure=>simp[intOf];omega
  · obtain rfl:k=zs.length:=by omega
    gi_wp2
    go_end0
    exact⟨⟨_,rfl⟩,zs,rfl,by rw[List.take_length]at hJs;exact hJs⟩
end
theorem values_any(A:Option Addr)(n c:Nat)(w:World):Calls Tryz.prog 132 #[.slice A n c] w fun e w'=>e=.returned (.func (.func 151) #[] #[.pointer (some ⟨w.heap.size,0,none⟩)])∧w'=w.alloc (.cells #[.slice A n c] 22):=by
 go_enter Tryz.func132,Tryz.ntmps132
 go_wp2;go_ret;exact⟨rfl,rfl⟩
theorem sortsIn(m:Nat):AnyZI.SortsIn Tryz.prog Tryz.sortedA_ren Fence.wide m :=
 ⟨fun blk off cap ss W hH hblk hsz=>callsIn_wide.2 (AnyM.slices_Sort_int Tryz.sortA blk off cap ss W hH hblk hsz),
  fun p cap W=>callsIn_wide.2 (AnyM.slices_Sort_int_none Tryz.sortA p cap W)⟩
theorem sorted_any(A:Option Addr)(c Bs:Nat)(zs:List Int)(w:World)(hz:zs≠[])(hl:zs.length≤1000000)(hbox:w.cell? ⟨Bs,0,none⟩=some (.slice A zs.length c))(h:SlI w A zs) :
    Calls Tryz.prog 131 #[.func (.func 151) #[] #[.pointer (some ⟨Bs,0,none⟩)]] w fun e w'=>(∃ (R:Option Addr) (rc:Nat),e=.returned (.slice R (It.sorted zs).length rc)∧SlI w' R (It.sorted zs))∧Ext w w':=by
 refine(callsIn_wide (n:=6)).1 ?_;rcases h with h | ⟨b,off,rfl,hb,hc⟩
 · simp at h;exact absurd h hz
 have hBl:Bs<w.heap.size:=World.block_lt_of_cell? w ⟨Bs,0,none⟩ hbox;have hseq:SeqGivesB Fence.wide 3 Tryz.prog 151 #[.pointer (some ⟨Bs,0,none⟩)] encZ (fun ss=>ss=zs) zs.length w:=fun l J W hW hJ hJB hY h0 =>
  values1_in Fence.wide 3 trivial rfl (by omega) l Bs b off c zs (by omega) w hBl hb hbox (fun j x hx=>by have:=hc j [.int .i64 x] (by rw[List.getElem?_map,hx];rfl) 0 _ rfl;simpa using this) J hJB hY W h0
 have cS:=it_sorted_in (ρ:=Tryz.sortedA_ren) Tryz.sortedA Fence.wide 6 trivial trivial trivial trivial rfl (by omega) (sortsIn _) (enters_of Tryz.func135 (by kernel_rfl) rfl) 151 #[.pointer (some ⟨Bs,0,none⟩)] trivial (enters_of Tryz.func151 (by kernel_rfl) rfl) _ zs.length (fun ss e=>by rw[e];exact Nat.le_refl _) (by unfold maxLen;omega) (by omega) w hseq;refine CallsIn.mono cS ?_;rintro e w' ⟨v,ss,rfl,rfl,hrow,hnil,hb'⟩;have hlen:(It.sorted ss).length=ss.length:=(It.sorted_perm ss).length_eq;have hrow':w'.ownsRow w.heap.size 3 1 v ss.length ((It.sorted ss).map (Value.int .i64)):=hrow;obtain⟨R,rc,hv,r1,r2,r3⟩:=SlI.of_own hrow';exact⟨⟨R,rc,by rw[hv],r3⟩,hb'⟩
theorem sorted_to(A:Option Addr)(c Bs n:Nat)(zs:List Int)(hn:zs.length=n)(w:World)(hz:0<n)(hl:n≤1000000)(hbox:w.cell? ⟨Bs,0,none⟩=some (.slice A n c))(h:SlI w A zs) :
    Calls Tryz.prog 131 #[.func (.func 151) #[] #[.pointer (some ⟨Bs,0,none⟩)]] w fun e w'=>(∃ (R:Option Addr) (rc:Nat),e=.returned (.slice R n rc)∧SlI w' R (It.sorted zs))∧Ext w w':=by
 subst hn;have:=sorted_any A c Bs zs w (List.length_pos_iff.1 hz) hl hbox h;rwa [(It.sorted_perm zs).length_eq]at this
end Go.Proofs.YtfnmgcblhebdbaaGreatDoor
namespace Go.Proofs.YtfnmgcblhebdbaaGreatDoor
open Go.RowKit

namespace It
def noOpt (it:Item):Bool:=decide (it.opts.length=0) && decide (it.chs.length=0)
def noNum (it:Item):Bool:=decide (it.value=0) && decide (it.tol=0)
def noTxt (it:Item):Bool:=decide (it.texts.length=0)
def noEss (it:Item):Bool:=decide (it.rub=0)
def sle (a b:ByteArray):Bool:=Op.bytesLess a.toList b.toList || a.toList == b.toList
def txA (f:ByteArray→Bool)(l:List ByteArray)(i:Nat):Bool:=f (l.getD i ⟨#[]⟩) && (decide (i=0) || !sle (l.getD i ⟨#[]⟩) (l.getD (i-1) ⟨#[]⟩))
def txs (f:ByteArray→Bool)(l:List ByteArray):Bool:=allN (txA f l) l.length
def key1 (it:Item):Bool:=noNum it && noTxt it && noEss it && decide (2≤it.opts.length) && decide (it.chs.length=1) && rising it.chs 0 ((it.opts.length:Int)-1)
def key2 (it:Item):Bool:=noNum it && noTxt it && noEss it && decide (2≤it.opts.length) && decide (1≤it.chs.length) && rising it.chs 0 ((it.opts.length:Int)-1)
def key3 (it:Item):Bool:=noNum it && noTxt it && noEss it && decide (2≤it.opts.length) && perm it.chs it.opts.length
def key4 (it:Item):Bool:=noOpt it && noTxt it && noEss it && wi it.value (-9999999) 9999999 && wi it.tol 0 9999999
def key5 (f:ByteArray→Bool)(it:Item):Bool:=txs f it.texts && (noOpt it && noNum it && noEss it && decide (1≤it.texts.length))
def key6 (it:Item):Bool:=noOpt it && noNum it && noTxt it && decide (1≤it.rub)
def key (it:Item):Bool:=if it.kind=1 then key1 it else if it.kind=2 then key2 it else if it.kind=3 then key3 it else if it.kind=4 then key4 it else if it.kind=5 then key5 nrm it else key6 it
end It

end Go.Proofs.YtfnmgcblhebdbaaGreatDoor
namespace Go.Proofs.YtfnmgcblhebdbaaGreatDoor
set_option maxRecDepth 100000
set_option maxHeartbeats 6400000
open Go.RowKit

namespace It
def only(it:Item):Bool:=(decide (it.kind≤3) || noOpt it) && (decide (it.kind=4) || noNum it) && ((decide (it.kind=5) || noTxt it) && (decide (it.kind=6) || noEss it))
def val1 (it:Item):Bool:=decide (2≤it.opts.length) && decide (it.chs.length=1) && wi (it.chs.getD 0 0) 0 ((it.opts.length:Int)-1)
def val2 (it:Item):Bool:=decide (2≤it.opts.length) && decide (1≤it.chs.length) && rising it.chs 0 ((it.opts.length:Int)-1)
def val3 (it:Item):Bool:=decide (2≤it.opts.length) && decide (it.chs.length=it.opts.length) && rising (sorted it.chs) 0 ((it.opts.length:Int)-1)
def val4 (it:Item):Bool:=wi it.value (-9999999) 9999999 && wi it.tol 0 9999999
def val5 (it:Item):Bool:=txs nrmC it.texts && decide (1≤it.texts.length)
def val6 (it:Item):Bool:=decide (1≤it.rub)
def val (it:Item):Bool:=if it.kind=1 then val1 it else if it.kind=2 then val2 it else if it.kind=3 then val3 it else if it.kind=4 then val4 it else if it.kind=5 then val5 it else val6 it
theorem rising_one{l:List Int}{hi:Int}(h:l.length=1):rising l 0 hi=wi (l.getD 0 0) 0 hi:=by unfold rising;rw[h,allN_succ,allN_zero,Bool.true_and];unfold risA;simp
theorem txs_eq{l:List ByteArray}(h:∀ s∈l,0<s.size):txs nrmC l=txs nrm l:=by unfold txs;refine allN_congr fun i hi=>?_;unfold txA;rw[nrm_eq _ (by rw[List.getD_eq_getElem?_getD,List.getElem?_eq_getElem hi];exact h _ (List.getElem_mem hi))]
theorem key_eq(it:Item)(hk:1≤it.kind∧it.kind≤6)(ht:∀ s∈it.texts,0<s.size):(only it && val it)=key it:=by
 unfold only val key;rcases(show it.kind=1∨it.kind=2∨it.kind=3∨it.kind=4∨it.kind=5∨it.kind=6 by omega)with e | e | e | e | e | e
 · rw[e];simp only[show((1:Int)≤3)=True from by simp,show((1:Int)=4)=False from by simp,show((1:Int)=5)=False from by simp,show((1:Int)=6)=False from by simp,decide_true,decide_false,Bool.true_or,Bool.false_or,Bool.true_and,if_true];unfold val1 key1;by_cases h1:it.chs.length=1
   · rw[rising_one h1];simp only[Bool.and_assoc]
   · rw[decide_eq_false h1];simp
 · rw[e];simp only[show((2:Int)≤3)=True from by simp,show((2:Int)=1)=False from by simp,show((2:Int)=4)=False from by simp,show((2:Int)=5)=False from by simp,show((2:Int)=6)=False from by simp,decide_true,decide_false,Bool.true_or,Bool.false_or,Bool.true_and,if_true,if_false];unfold val2 key2;simp only[Bool.and_assoc]
 · rw[e];simp only[show((3:Int)≤3)=True from by simp,show((3:Int)=1)=False from by simp,show((3:Int)=2)=False from by simp,show((3:Int)=4)=False from by simp,show((3:Int)=5)=False from by simp,show((3:Int)=6)=False from by simp,decide_true,decide_false,Bool.true_or,Bool.false_or,Bool.true_and,if_true,if_false];unfold val3 key3;by_cases h1:it.chs.length=it.opts.length
   · rw[perm_eq _ _ h1,decide_eq_true h1,Bool.and_true];simp only[Bool.and_assoc]
   · unfold perm;rw[decide_eq_false h1];simp
 · rw[e];simp only[show((4:Int)≤3)=False from by simp,show((4:Int)=1)=False from by simp,show((4:Int)=2)=False from by simp,show((4:Int)=3)=False from by simp,show((4:Int)=5)=False from by simp,show((4:Int)=6)=False from by simp,decide_true,decide_false,Bool.true_or,Bool.false_or,Bool.and_true,if_true,if_false];unfold val4 key4;simp only[Bool.and_assoc]
 · rw[e];simp only[show((5:Int)≤3)=False from by simp,show((5:Int)=1)=False from by simp,show((5:Int)=2)=False from by simp,show((5:Int)=3)=False from by simp,show((5:Int)=4)=False from by simp,show((5:Int)=6)=False from by simp,decide_true,decide_false,Bool.true_or,Bool.false_or,Bool.true_and,if_true,if_false];unfold val5 key5;rw[txs_eq ht];cases txs nrm it.texts <;> simp only[Bool.false_and,Bool.and_false,Bool.true_and,Bool.and_assoc]
 · rw[e];simp only[show((6:Int)≤3)=False from by simp,show((6:Int)=1)=False from by simp,show((6:Int)=2)=False from by simp,show((6:Int)=3)=False from by simp,show((6:Int)=4)=False from by simp,show((6:Int)=5)=False from by simp,decide_true,decide_false,Bool.true_or,Bool.false_or,Bool.and_true,if_false];unfold val6 key6;simp only[Bool.and_assoc]
end It


theorem rising_to(A:Option Addr)(c:Nat)(l:List Int){n:Nat}(hn:l.length=n)(lo hi:Int)(w:World)(h:SlI w A l)(hl:n≤9223372036854775807) :
    Calls Tryz.prog 105 #[.slice A n c,.int .i64 lo,.int .i64 hi] w fun e w'=>e=.returned (.bool (It.rising l lo hi))∧w=w':=by
 subst hn;exact rising_any A c l lo hi w h hl


theorem validKey_5(it:It.Item)(L:It.Loc)(w:World)(h:It.In w it L)(hk:it.kind=5)(hsz:∀ s∈it.texts,s.size≤200)(hg:Gm w) :
    Calls Tryz.prog 104 #[It.agg it L] w fun e w'=>e=.returned (.bool (It.val5 it))∧Ext w w':=by
 have H:=Hi h;have hl1:it.opts.length≤140737488351232:=h.ok.ol;have hl2:it.chs.length≤140737488351232:=h.ok.cl;have hl3:it.texts.length≤140737488351232:=h.ok.tl;have hvl:-9223372036854775808≤it.value∧it.value≤9223372036854775807:=h.ok.value;have htl:-9223372036854775808≤it.tol∧it.tol≤9223372036854775807:=h.ok.tol;have HSZ:=Hi hsz;clear hsz;have HG:=Hi hg;clear hg;clear h;obtain⟨oA,oc,cA,cc,tA,tc,sA,sc⟩:=L;have HT:Hid (SlS w tA it.texts):=Hi H.out.t;clear H;unfold It.agg
 dsimp only
 rw[hk];clear hk;go_enter Tryz.func104,Tryz.ntmps104

 go_wp2
 go_loop [81] (fun i=>∃ k:Nat,k≤it.texts.length∧i=.int .i64 k∧Hid (It.allN (It.txA It.nrmC it.texts) k=true)) (fun i=>it.texts.length-(intOf i).toNat)
 case atStart=>exact⟨0,by omega,rfl,Hi rfl⟩
 case round =>
  obtain⟨k,hk,rfl,HA⟩:=hrel;by_cases hlt:k<it.texts.length
  · obtain⟨b,off,rfl,hb,hc⟩:=HT.out.at_ hlt;obtain⟨x,hx⟩:∃ x,it.texts[k]=x:=⟨_,rfl⟩;rw[hx]at hc;have hxs:x.size≤200:=(by rw[← hx];exact HSZ.out _ (List.getElem_mem hlt));have hxd:Hid (it.texts.getD k ⟨#[]⟩=x):=Hi (by rw[List.getD_eq_getElem?_getD,List.getElem?_eq_getElem hlt,hx];rfl);clear hx;obtain⟨q,hq⟩:∃ q,It.nrmC x=q:=⟨_,rfl⟩;have HQ:=Hi hq;clear hq;have ki0:(0:Int)≤(k:Int):=(by omega);have ki1:(k:Int)<(it.texts.length:Int):=(by omega);have HE:Hid (It.txA It.nrmC it.texts k=false→It.txs It.nrmC it.texts=false):=Hi fun g=>It.allN_no hlt g;have HN:Hid (It.txA It.nrmC it.texts k=true→It.allN (It.txA It.nrmC it.texts) (k+1)=true):=Hi fun g=>It.allN_next HA.out g;cases q with
    | false =>
     have HF:=Hi (HE.out (by unfold It.txA;rw[hxd.out,HQ.out];rfl));go_wp2_with (go_at_call 133;refine(normalized_any x _ (by omega) (HG.out.ext ((Ext.refl _).alloc _))).mono ?_;rintro e w' ⟨rfl,rfl⟩;rw[HQ.out])
     all_goals
      go_ret;exact⟨ret_bool (by unfold It.val5;rw[HF.out];rfl),(Ext.refl _).alloc _⟩
    | true =>
     rcases Nat.eq_zero_or_pos k with h0 | h0
     · subst h0;have hc0:w.cell? ⟨b,off,none⟩=some (.string x):=(by simpa using hc);have HF:=Hi (HN.out (by unfold It.txA;rw[hxd.out,HQ.out];rfl));go_wp2_with (go_at_call 133;refine(normalized_any x _ (by omega) (HG.out.ext ((Ext.refl _).alloc _))).mono ?_;rintro e w' ⟨rfl,rfl⟩;rw[HQ.out])
       all_goals
        go_round
        case rel=>exact⟨0+1,by omega,by go_num,HF⟩
        case measure=>simp[intOf];omega
     · obtain⟨j,rfl⟩:∃ j,k=j+1:=⟨k-1,by omega⟩;obtain⟨b',off',e',hb',hc'⟩:=HT.out.at_ (i:=j) (by omega);obtain⟨rfl,rfl⟩:b=b'∧off=off':=by cases e';exact⟨rfl,rfl⟩
       clear e';obtain⟨y,hy⟩:∃ y,it.texts[j]=y:=⟨_,rfl⟩;rw[hy]at hc';have hyd:Hid (it.texts.getD (j+1-1) ⟨#[]⟩=y):=Hi (by rw[Nat.add_sub_cancel,List.getD_eq_getElem?_getD,List.getElem?_eq_getElem (by omega),hy];rfl);clear hy;obtain⟨b1,hb1⟩:∃ b1,Op.bytesLess x.toList y.toList=b1:=⟨_,rfl⟩;obtain⟨b2,hb2⟩:∃ b2,(x.toList == y.toList)=b2:=⟨_,rfl⟩;have HS:Hid (It.sle x y=(b1 || b2)):=Hi (by unfold It.sle;rw[hb1,hb2]);have HTA:Hid (It.txA It.nrmC it.texts (j+1)=!(b1 || b2)):=Hi (by unfold It.txA;rw[hxd.out,hyd.out,HQ.out,HS.out,decide_eq_false (by omega)];rfl);have hno:(b1 || b2)=true→Hid (It.txs It.nrmC it.texts=false):=fun g=>Hi (HE.out (by rw[HTA.out,g];rfl));have hyes:(b1 || b2)=false→Hid (It.allN (It.txA It.nrmC it.texts) (j+1+1)=true):=fun g=>Hi (HN.out (by rw[HTA.out,g];rfl));cases b1 <;> cases b2
       · have HF:=hyes rfl;clear hno hyes;go_wp2_with (go_at_call 133;refine(normalized_any x _ (by omega) (HG.out.ext ((Ext.refl _).alloc _))).mono ?_;rintro e w' ⟨rfl,rfl⟩;rw[HQ.out])
         all_goals
          go_round
          case rel=>exact⟨j+1+1,by omega,by go_num,HF⟩
          case measure=>simp[intOf];omega
       all_goals
        have HF:=hno rfl;clear hno hyes;go_wp2_with (go_at_call 133;refine(normalized_any x _ (by omega) (HG.out.ext ((Ext.refl _).alloc _))).mono ?_;rintro e w' ⟨rfl,rfl⟩;rw[HQ.out])
        all_goals
         go_ret;exact⟨ret_bool (by unfold It.val5;rw[HF.out];rfl),(Ext.refl _).alloc _⟩
  · obtain rfl:k=it.texts.length:=by omega
    have HF:Hid (It.txs It.nrmC it.texts=true):=Hi HA.out;go_wp2
    all_goals
     go_ret;exact⟨ret_bool (by unfold It.val5;rw[HF.out];first | (simp[*];done) | (simp_all;done) | (simp;intros;first | contradiction | omega | (simp_all;done) | (simp_all;omega)) | (simp_all;omega)),(Ext.refl _).alloc _⟩


theorem validKey_1(it:It.Item)(L:It.Loc)(w:World)(h:It.In w it L)(hk:it.kind=1) :
    Calls Tryz.prog 104 #[It.agg it L] w fun e w'=>e=.returned (.bool (It.val1 it))∧Ext w w':=by
 have H:=Hi h;have hl1:it.opts.length≤140737488351232:=h.ok.ol;have hl2:it.chs.length≤140737488351232:=h.ok.cl;have hl3:it.texts.length≤140737488351232:=h.ok.tl;have hvl:-9223372036854775808≤it.value∧it.value≤9223372036854775807:=h.ok.value;have htl:-9223372036854775808≤it.tol∧it.tol≤9223372036854775807:=h.ok.tol;clear h;unfold It.agg;rw[hk];clear hk;go_enter Tryz.func104,Tryz.ntmps104

 rcases(show it.chs.length=1∨it.chs.length≠1 by omega)with h1 | h1
 · obtain⟨oA,oc,cA,cc,tA,tc,sA,sc⟩:=L;obtain⟨b,off,x,hA,hb,hx,hc⟩:=SlI.at_ (show SlI w cA it.chs from H.out.c) (i:=0) (by omega);have hxd:Hid (it.chs.getD 0 0=x):=Hi (by rw[List.getD_eq_getElem?_getD,hx];rfl);have hc0:w.cell? ⟨b,off,none⟩=some (.int .i64 x):=(by simpa using hc);clear hx hc;subst hA
   dsimp only
   rw[h1];have H1:=Hi h1;clear h1 H;have hp:(0:Nat)<1:=(by omega);go_wp2_with (go_at_call 101;refine(within_any _ _ _ _).mono ?_;rintro e w' ⟨rfl,rfl⟩)
   all_goals
    go_ret;exact⟨ret_bool (by unfold It.val1;rw[hxd.out,H1.out];first | (simp[*];done) | (simp_all;done) | (simp;intros;first | contradiction | omega | (simp_all;done) | (simp_all;omega)) | (simp_all;omega)),(Ext.refl _).alloc _⟩
 · have h1':((it.chs.length:Int) == 1)=false:=(by rw[beq_eq_false_iff_ne];omega);have HF:Hid (It.val1 it=false):=Hi (by unfold It.val1;rw[decide_eq_false h1];simp);clear h1;go_wp2
   all_goals
    go_ret;exact⟨ret_bool HF.out.symm,(Ext.refl _).alloc _⟩


theorem validKey_2(it:It.Item)(L:It.Loc)(w:World)(h:It.In w it L)(hk:it.kind=2) :
    Calls Tryz.prog 104 #[It.agg it L] w fun e w'=>e=.returned (.bool (It.val2 it))∧Ext w w':=by
 have H:=Hi h;have hl1:it.opts.length≤140737488351232:=h.ok.ol;have hl2:it.chs.length≤140737488351232:=h.ok.cl;have hl3:it.texts.length≤140737488351232:=h.ok.tl;have hvl:-9223372036854775808≤it.value∧it.value≤9223372036854775807:=h.ok.value;have htl:-9223372036854775808≤it.tol∧it.tol≤9223372036854775807:=h.ok.tol;clear h;unfold It.agg;rw[hk];clear hk;go_enter Tryz.func104,Tryz.ntmps104

 go_wp2_with (go_at_call 105;refine(rising_any L.cA L.cc it.chs 0 _ _ (H.out.c.ext ((Ext.refl _).alloc _)) (by omega)).mono ?_;rintro e w' ⟨rfl,rfl⟩)
 all_goals first
  | (go_ret;exact⟨ret_bool (by unfold It.val2;first | (simp[*];done) | (simp_all;done) | (simp;intros;first | contradiction | omega | (simp_all;done) | (simp_all;omega)) | (simp_all;omega)),(Ext.refl _).alloc _⟩)


theorem validKey_3(it:It.Item)(L:It.Loc)(w:World)(h:It.In w it L)(hk:it.kind=3)(ho:it.opts.length≤10) :
    Calls Tryz.prog 104 #[It.agg it L] w fun e w'=>e=.returned (.bool (It.val3 it))∧Ext w w':=by
 have H:=Hi h;have hl1:it.opts.length≤140737488351232:=h.ok.ol;have hl2:it.chs.length≤140737488351232:=h.ok.cl;have hl3:it.texts.length≤140737488351232:=h.ok.tl;have hvl:-9223372036854775808≤it.value∧it.value≤9223372036854775807:=h.ok.value;have htl:-9223372036854775808≤it.tol∧it.tol≤9223372036854775807:=h.ok.tol;clear h;unfold It.agg;rw[hk];clear hk;go_enter Tryz.func104,Tryz.ntmps104

 by_cases hb:2≤it.opts.length∧it.chs.length=it.opts.length
 · obtain⟨h2,h3⟩:=hb;have h2':(1:Int)≤(it.opts.length:Int)-1:=(by omega);have h3':((it.chs.length:Int) == (it.opts.length:Int))=true:=(by rw[beq_iff_eq];omega);have HF:Hid (It.val3 it=It.rising (It.sorted it.chs) 0 ((it.opts.length:Int)-1)):=Hi (by unfold It.val3;rw[decide_eq_true h2,decide_eq_true h3];rfl);have HL:=Hi h3;have hcl:it.chs.length≤10:=(by omega);have hcp:0<it.chs.length:=(by omega);have HLN:Hid ((It.sorted it.chs).length=it.chs.length):=Hi (It.sorted_perm it.chs).length_eq;clear h3;go_wp2_with fail
   with_reducible refine(values_any L.cA it.chs.length L.cc _).mono ?_
   rintro e w1 ⟨rfl,rfl⟩;go_wp2_with fail
   refine(sorted_to L.cA L.cc (w.heap.size+1) it.chs.length it.chs rfl _ hcp (by omega) (by rw[World.cell?_alloc_at _ _ _ _ (by simp)];rfl) (H.out.c.ext (((Ext.refl _).alloc _).alloc _))).mono ?_;rintro e w2 ⟨⟨R,rc,rfl,hS⟩,hb2⟩;obtain⟨hc2,hf2⟩:=hb2.cells;have HS:=Hi hS;have x2:Hid (Ext w w2):=Hi ((((Ext.refl w).alloc _).alloc _).trans hb2);clear hS hb2;go_wp2_with (go_at_call 105;refine(rising_to R rc (It.sorted it.chs) HLN.out 0 _ _ HS.out (by omega)).mono ?_;rintro e w' ⟨rfl,rfl⟩)
   go_ret;exact⟨ret_bool HF.out.symm,x2.out⟩
 · have HF:Hid (It.val3 it=false):=Hi (by unfold It.val3;simp;intros;omega);have hb2:(it.opts.length:Int)-1<1∨((1:Int)≤(it.opts.length:Int)-1∧((it.chs.length:Int) == (it.opts.length:Int))=false):=(by rw[beq_eq_false_iff_ne];omega);clear hb;rcases hb2 with h2 | ⟨h2,h3⟩
   all_goals
    go_wp2
    all_goals
     go_ret;exact⟨ret_bool HF.out.symm,(Ext.refl _).alloc _⟩


theorem validKey_4(it:It.Item)(L:It.Loc)(w:World)(h:It.In w it L)(hk:it.kind=4) :
    Calls Tryz.prog 104 #[It.agg it L] w fun e w'=>e=.returned (.bool (It.val4 it))∧Ext w w':=by
 have H:=Hi h;have hl1:it.opts.length≤140737488351232:=h.ok.ol;have hl2:it.chs.length≤140737488351232:=h.ok.cl;have hl3:it.texts.length≤140737488351232:=h.ok.tl;have hvl:-9223372036854775808≤it.value∧it.value≤9223372036854775807:=h.ok.value;have htl:-9223372036854775808≤it.tol∧it.tol≤9223372036854775807:=h.ok.tol;clear h;unfold It.agg;rw[hk];clear hk;go_enter Tryz.func104,Tryz.ntmps104

 go_wp2_with (go_at_call 101;refine(within_any _ _ _ _).mono ?_;rintro e w' ⟨rfl,rfl⟩)
 all_goals first
  | (go_ret;exact⟨ret_bool (by unfold It.val4;first | (simp[*];done) | (simp_all;done) | (simp;intros;first | contradiction | omega | (simp_all;done) | (simp_all;omega)) | (simp_all;omega)),(Ext.refl _).alloc _⟩)


theorem validKey_6(it:It.Item)(L:It.Loc)(w:World)(h:It.In w it L)(hk:it.kind=6) :
    Calls Tryz.prog 104 #[It.agg it L] w fun e w'=>e=.returned (.bool (It.val6 it))∧Ext w w':=by
 have H:=Hi h;have hl1:it.opts.length≤140737488351232:=h.ok.ol;have hl2:it.chs.length≤140737488351232:=h.ok.cl;have hl3:it.texts.length≤140737488351232:=h.ok.tl;have hvl:-9223372036854775808≤it.value∧it.value≤9223372036854775807:=h.ok.value;have htl:-9223372036854775808≤it.tol∧it.tol≤9223372036854775807:=h.ok.tol;clear h;unfold It.agg;rw[hk];clear hk;go_enter Tryz.func104,Tryz.ntmps104

 go_wp2
 all_goals first
  | (go_ret;exact⟨ret_bool (by unfold It.val6;first | (simp[*];done) | (simp_all;done) | (simp;intros;first | contradiction | omega | (simp_all;done) | (simp_all;omega)) | (simp_all;omega)),(Ext.refl _).alloc _⟩)


theorem onlyKey_low(it:It.Item)(L:It.Loc)(w:World)(h:It.In w it L)(hk:it.kind≤3) :
    Calls Tryz.prog 103 #[It.agg it L] w fun e w'=>e=.returned (.bool (It.only it))∧Ext w w':=by
 have hl1:it.opts.length≤140737488351232:=h.ok.ol;have hl2:it.chs.length≤140737488351232:=h.ok.cl;have hl3:it.texts.length≤140737488351232:=h.ok.tl;clear h;obtain⟨v,hv⟩:∃ v,It.only it=v:=⟨_,rfl⟩;have HV:Hid ((It.noNum it && (It.noTxt it && It.noEss it))=v):=Hi (by rw[← hv];unfold It.only;rw[decide_eq_true hk,decide_eq_false (show ¬ it.kind=4 by omega),decide_eq_false (show ¬ it.kind=5 by omega),decide_eq_false (show ¬ it.kind=6 by omega)];simp only[Bool.true_or,Bool.false_or,Bool.true_and]);rw[hv];clear hv;have e1:¬ (3:Int)<it.kind:=by omega
 have e2:(it.kind != 4)=true:=by rw[bne_iff_ne];omega
 have e3:(it.kind == 5)=false:=by rw[beq_eq_false_iff_ne];omega
 have e4:(it.kind == 6)=false:=by rw[beq_eq_false_iff_ne];omega
 clear hk;unfold It.agg;by_cases hq:it.value=0
 · have q_value:=Hi hq;have e_value:(it.value != 0)=false:=(by rw[hq];rfl);clear hq;by_cases hq:it.tol=0
   · have q_tol:=Hi hq;have e_tol:(it.tol != 0)=false:=(by rw[hq];rfl);clear hq;by_cases hq:it.texts.length=0
     · have q_texts:=Hi hq;have e_texts:((it.texts.length:Int) == 0)=true:=(by rw[hq];rfl);have f_texts:it.texts=[]:=List.eq_nil_of_length_eq_zero hq;clear hq;by_cases hq:it.rub=0
       · have q_rub:=Hi hq;have e_rub:(it.rub == 0)=true:=(by rw[hq];rfl);clear hq;have HF:Hid (v=true):=Hi (by rw[← HV.out];unfold It.noNum It.noTxt It.noEss;simp[q_value.out,q_tol.out,q_texts.out,q_rub.out]);clear HV q_value q_tol q_texts q_rub;go_enter Tryz.func103,Tryz.ntmps103
         go_wp2
         all_goals
          go_ret;exact⟨ret_bool HF.out.symm,(Ext.refl _).alloc _⟩
       · have HF:Hid (v=false):=Hi (by rw[← HV.out];unfold It.noNum It.noTxt It.noEss;simp[hq]);have e_rub:(it.rub == 0)=false:=(by rw[beq_eq_false_iff_ne];exact hq);clear hq HV q_value q_tol q_texts;go_enter Tryz.func103,Tryz.ntmps103
         go_wp2
         all_goals
          go_ret;exact⟨ret_bool HF.out.symm,(Ext.refl _).alloc _⟩
     · have HF:Hid (v=false):=Hi (by rw[← HV.out];unfold It.noNum It.noTxt It.noEss;simp[hq]);have e_texts:((it.texts.length:Int) == 0)=false:=(by rw[beq_eq_false_iff_ne];omega);have f_texts:¬ it.texts=[]:=fun e=>hq (by rw[e];rfl);clear hq HV q_value q_tol;go_enter Tryz.func103,Tryz.ntmps103
       go_wp2
       all_goals
        go_ret;exact⟨ret_bool HF.out.symm,(Ext.refl _).alloc _⟩
   · have HF:Hid (v=false):=Hi (by rw[← HV.out];unfold It.noNum It.noTxt It.noEss;simp[hq]);have e_tol:(it.tol != 0)=true:=(by rw[bne_iff_ne];exact hq);clear hq HV q_value;go_enter Tryz.func103,Tryz.ntmps103
     go_wp2
     all_goals
      go_ret;exact⟨ret_bool HF.out.symm,(Ext.refl _).alloc _⟩
 · have HF:Hid (v=false):=Hi (by rw[← HV.out];unfold It.noNum It.noTxt It.noEss;simp[hq]);have e_value:(it.value != 0)=true:=(by rw[bne_iff_ne];exact hq);clear hq HV ;go_enter Tryz.func103,Tryz.ntmps103
   go_wp2
   all_goals
       go_ret;exact⟨ret_bool HF.out.symm,(Ext.refl _).alloc _⟩


theorem onlyKey_k4(it:It.Item)(L:It.Loc)(w:World)(h:It.In w it L)(hk:it.kind=4) :
    Calls Tryz.prog 103 #[It.agg it L] w fun e w'=>e=.returned (.bool (It.only it))∧Ext w w':=by
 have hl1:it.opts.length≤140737488351232:=h.ok.ol;have hl2:it.chs.length≤140737488351232:=h.ok.cl;have hl3:it.texts.length≤140737488351232:=h.ok.tl;clear h;obtain⟨v,hv⟩:∃ v,It.only it=v:=⟨_,rfl⟩;have HV:Hid ((It.noOpt it && (It.noTxt it && It.noEss it))=v):=Hi (by rw[← hv];unfold It.only;rw[decide_eq_false (show ¬ it.kind≤3 by omega),decide_eq_true (show it.kind=4 by omega),decide_eq_false (show ¬ it.kind=5 by omega),decide_eq_false (show ¬ it.kind=6 by omega)];simp only[Bool.true_or,Bool.false_or,Bool.and_true]);rw[hv];clear hv;unfold It.agg;rw[hk];clear hk;by_cases hq:it.opts.length=0
 · have q_opts:=Hi hq;have e_opts:¬ 0<it.opts.length:=(by omega);have f_opts:decide (0<it.opts.length)=false:=decide_eq_false e_opts;have g_opts:it.opts=[]:=List.eq_nil_of_length_eq_zero hq;clear hq;by_cases hq:it.chs.length=0
   · have q_chs:=Hi hq;have e_chs:¬ 0<it.chs.length:=(by omega);have f_chs:decide (0<it.chs.length)=false:=decide_eq_false e_chs;clear hq;by_cases hq:it.texts.length=0
     · have q_texts:=Hi hq;have e_texts:((it.texts.length:Int) == 0)=true:=(by rw[hq];rfl);have f_texts:it.texts=[]:=List.eq_nil_of_length_eq_zero hq;clear hq;by_cases hq:it.rub=0
       · have q_rub:=Hi hq;have e_rub:(it.rub == 0)=true:=(by rw[hq];rfl);clear hq;have HF:Hid (v=true):=Hi (by rw[← HV.out];unfold It.noOpt It.noTxt It.noEss;simp[q_opts.out,q_chs.out,q_texts.out,q_rub.out]);clear HV q_opts q_chs q_texts q_rub;go_enter Tryz.func103,Tryz.ntmps103
         go_wp2
         all_goals
          go_ret;exact⟨ret_bool HF.out.symm,(Ext.refl _).alloc _⟩
       · have HF:Hid (v=false):=Hi (by rw[← HV.out];unfold It.noOpt It.noTxt It.noEss;simp[hq]);have e_rub:(it.rub == 0)=false:=(by rw[beq_eq_false_iff_ne];exact hq);clear hq HV q_opts q_chs q_texts;go_enter Tryz.func103,Tryz.ntmps103
         go_wp2
         all_goals
          go_ret;exact⟨ret_bool HF.out.symm,(Ext.refl _).alloc _⟩
     · have HF:Hid (v=false):=Hi (by rw[← HV.out];unfold It.noOpt It.noTxt It.noEss;simp[hq]);have e_texts:((it.texts.length:Int) == 0)=false:=(by rw[beq_eq_false_iff_ne];omega);have f_texts:¬ it.texts=[]:=fun e=>hq (by rw[e];rfl);clear hq HV q_opts q_chs;go_enter Tryz.func103,Tryz.ntmps103
       go_wp2
       all_goals
        go_ret;exact⟨ret_bool HF.out.symm,(Ext.refl _).alloc _⟩
   · have HF:Hid (v=false):=Hi (by rw[← HV.out];unfold It.noOpt It.noTxt It.noEss;simp[hq]);have e_chs:0<it.chs.length:=(by omega);have f_chs:decide (0<it.chs.length)=true:=decide_eq_true e_chs;clear hq HV q_opts;go_enter Tryz.func103,Tryz.ntmps103
     go_wp2
     all_goals
      go_ret;exact⟨ret_bool HF.out.symm,(Ext.refl _).alloc _⟩
 · have HF:Hid (v=false):=Hi (by rw[← HV.out];unfold It.noOpt It.noTxt It.noEss;simp[hq]);have e_opts:0<it.opts.length:=(by omega);have f_opts:decide (0<it.opts.length)=true:=decide_eq_true e_opts;have g_opts:¬ it.opts=[]:=fun e=>hq (by rw[e];rfl);clear hq HV ;go_enter Tryz.func103,Tryz.ntmps103
   go_wp2
   all_goals
       go_ret;exact⟨ret_bool HF.out.symm,(Ext.refl _).alloc _⟩


theorem onlyKey_k5(it:It.Item)(L:It.Loc)(w:World)(h:It.In w it L)(hk:it.kind=5) :
    Calls Tryz.prog 103 #[It.agg it L] w fun e w'=>e=.returned (.bool (It.only it))∧Ext w w':=by
 have hl1:it.opts.length≤140737488351232:=h.ok.ol;have hl2:it.chs.length≤140737488351232:=h.ok.cl;have hl3:it.texts.length≤140737488351232:=h.ok.tl;clear h;obtain⟨v,hv⟩:∃ v,It.only it=v:=⟨_,rfl⟩;have HV:Hid ((It.noOpt it && It.noNum it && It.noEss it)=v):=Hi (by rw[← hv];unfold It.only;rw[decide_eq_false (show ¬ it.kind≤3 by omega),decide_eq_false (show ¬ it.kind=4 by omega),decide_eq_true (show it.kind=5 by omega),decide_eq_false (show ¬ it.kind=6 by omega)];simp only[Bool.true_or,Bool.false_or,Bool.true_and]);rw[hv];clear hv;unfold It.agg;rw[hk];clear hk;by_cases hq:it.opts.length=0
 · have q_opts:=Hi hq;have e_opts:¬ 0<it.opts.length:=(by omega);have f_opts:decide (0<it.opts.length)=false:=decide_eq_false e_opts;have g_opts:it.opts=[]:=List.eq_nil_of_length_eq_zero hq;clear hq;by_cases hq:it.chs.length=0
   · have q_chs:=Hi hq;have e_chs:¬ 0<it.chs.length:=(by omega);have f_chs:decide (0<it.chs.length)=false:=decide_eq_false e_chs;clear hq;by_cases hq:it.value=0
     · have q_value:=Hi hq;have e_value:(it.value != 0)=false:=(by rw[hq];rfl);clear hq;by_cases hq:it.tol=0
       · have q_tol:=Hi hq;have e_tol:(it.tol != 0)=false:=(by rw[hq];rfl);clear hq;by_cases hq:it.rub=0
         · have q_rub:=Hi hq;have e_rub:(it.rub == 0)=true:=(by rw[hq];rfl);clear hq;have HF:Hid (v=true):=Hi (by rw[← HV.out];unfold It.noOpt It.noNum It.noEss;simp[q_opts.out,q_chs.out,q_value.out,q_tol.out,q_rub.out]);clear HV q_opts q_chs q_value q_tol q_rub;go_enter Tryz.func103,Tryz.ntmps103
           go_wp2
           all_goals
            go_ret;exact⟨ret_bool HF.out.symm,(Ext.refl _).alloc _⟩
         · have HF:Hid (v=false):=Hi (by rw[← HV.out];unfold It.noOpt It.noNum It.noEss;simp[hq]);have e_rub:(it.rub == 0)=false:=(by rw[beq_eq_false_iff_ne];exact hq);clear hq HV q_opts q_chs q_value q_tol;go_enter Tryz.func103,Tryz.ntmps103
           go_wp2
           all_goals
            go_ret;exact⟨ret_bool HF.out.symm,(Ext.refl _).alloc _⟩
       · have HF:Hid (v=false):=Hi (by rw[← HV.out];unfold It.noOpt It.noNum It.noEss;simp[hq]);have e_tol:(it.tol != 0)=true:=(by rw[bne_iff_ne];exact hq);clear hq HV q_opts q_chs q_value;go_enter Tryz.func103,Tryz.ntmps103
         go_wp2
         all_goals
          go_ret;exact⟨ret_bool HF.out.symm,(Ext.refl _).alloc _⟩
     · have HF:Hid (v=false):=Hi (by rw[← HV.out];unfold It.noOpt It.noNum It.noEss;simp[hq]);have e_value:(it.value != 0)=true:=(by rw[bne_iff_ne];exact hq);clear hq HV q_opts q_chs;go_enter Tryz.func103,Tryz.ntmps103
       go_wp2
       all_goals
        go_ret;exact⟨ret_bool HF.out.symm,(Ext.refl _).alloc _⟩
   · have HF:Hid (v=false):=Hi (by rw[← HV.out];unfold It.noOpt It.noNum It.noEss;simp[hq]);have e_chs:0<it.chs.length:=(by omega);have f_chs:decide (0<it.chs.length)=true:=decide_eq_true e_chs;clear hq HV q_opts;go_enter Tryz.func103,Tryz.ntmps103
     go_wp2
     all_goals
      go_ret;exact⟨ret_bool HF.out.symm,(Ext.refl _).alloc _⟩
 · have HF:Hid (v=false):=Hi (by rw[← HV.out];unfold It.noOpt It.noNum It.noEss;simp[hq]);have e_opts:0<it.opts.length:=(by omega);have f_opts:decide (0<it.opts.length)=true:=decide_eq_true e_opts;have g_opts:¬ it.opts=[]:=fun e=>hq (by rw[e];rfl);clear hq HV ;go_enter Tryz.func103,Tryz.ntmps103
   go_wp2
   all_goals
       go_ret;exact⟨ret_bool HF.out.symm,(Ext.refl _).alloc _⟩


theorem onlyKey_k6(it:It.Item)(L:It.Loc)(w:World)(h:It.In w it L)(hk:it.kind=6) :
    Calls Tryz.prog 103 #[It.agg it L] w fun e w'=>e=.returned (.bool (It.only it))∧Ext w w':=by
 have hl1:it.opts.length≤140737488351232:=h.ok.ol;have hl2:it.chs.length≤140737488351232:=h.ok.cl;have hl3:it.texts.length≤140737488351232:=h.ok.tl;clear h;obtain⟨v,hv⟩:∃ v,It.only it=v:=⟨_,rfl⟩;have HV:Hid ((It.noOpt it && It.noNum it && It.noTxt it)=v):=Hi (by rw[← hv];unfold It.only;rw[decide_eq_false (show ¬ it.kind≤3 by omega),decide_eq_false (show ¬ it.kind=4 by omega),decide_eq_false (show ¬ it.kind=5 by omega),decide_eq_true (show it.kind=6 by omega)];simp only[Bool.true_or,Bool.false_or,Bool.and_true]);rw[hv];clear hv;unfold It.agg;rw[hk];clear hk;by_cases hq:it.opts.length=0
 · have q_opts:=Hi hq;have e_opts:¬ 0<it.opts.length:=(by omega);have f_opts:decide (0<it.opts.length)=false:=decide_eq_false e_opts;have g_opts:it.opts=[]:=List.eq_nil_of_length_eq_zero hq;clear hq;by_cases hq:it.chs.length=0
   · have q_chs:=Hi hq;have e_chs:¬ 0<it.chs.length:=(by omega);have f_chs:decide (0<it.chs.length)=false:=decide_eq_false e_chs;clear hq;by_cases hq:it.value=0
     · have q_value:=Hi hq;have e_value:(it.value != 0)=false:=(by rw[hq];rfl);clear hq;by_cases hq:it.tol=0
       · have q_tol:=Hi hq;have e_tol:(it.tol != 0)=false:=(by rw[hq];rfl);clear hq;by_cases hq:it.texts.length=0
         · have q_texts:=Hi hq;have e_texts:((it.texts.length:Int) == 0)=true:=(by rw[hq];rfl);have f_texts:it.texts=[]:=List.eq_nil_of_length_eq_zero hq;clear hq;have HF:Hid (v=true):=Hi (by rw[← HV.out];unfold It.noOpt It.noNum It.noTxt;simp[q_opts.out,q_chs.out,q_value.out,q_tol.out,q_texts.out]);clear HV q_opts q_chs q_value q_tol q_texts;go_enter Tryz.func103,Tryz.ntmps103
           go_wp2
           all_goals
            go_ret;exact⟨ret_bool HF.out.symm,(Ext.refl _).alloc _⟩
         · have HF:Hid (v=false):=Hi (by rw[← HV.out];unfold It.noOpt It.noNum It.noTxt;simp[hq]);have e_texts:((it.texts.length:Int) == 0)=false:=(by rw[beq_eq_false_iff_ne];omega);have f_texts:¬ it.texts=[]:=fun e=>hq (by rw[e];rfl);clear hq HV q_opts q_chs q_value q_tol;go_enter Tryz.func103,Tryz.ntmps103
           go_wp2
           all_goals
            go_ret;exact⟨ret_bool HF.out.symm,(Ext.refl _).alloc _⟩
       · have HF:Hid (v=false):=Hi (by rw[← HV.out];unfold It.noOpt It.noNum It.noTxt;simp[hq]);have e_tol:(it.tol != 0)=true:=(by rw[bne_iff_ne];exact hq);clear hq HV q_opts q_chs q_value;go_enter Tryz.func103,Tryz.ntmps103
         go_wp2
         all_goals
          go_ret;exact⟨ret_bool HF.out.symm,(Ext.refl _).alloc _⟩
     · have HF:Hid (v=false):=Hi (by rw[← HV.out];unfold It.noOpt It.noNum It.noTxt;simp[hq]);have e_value:(it.value != 0)=true:=(by rw[bne_iff_ne];exact hq);clear hq HV q_opts q_chs;go_enter Tryz.func103,Tryz.ntmps103
       go_wp2
       all_goals
        go_ret;exact⟨ret_bool HF.out.symm,(Ext.refl _).alloc _⟩
   · have HF:Hid (v=false):=Hi (by rw[← HV.out];unfold It.noOpt It.noNum It.noTxt;simp[hq]);have e_chs:0<it.chs.length:=(by omega);have f_chs:decide (0<it.chs.length)=true:=decide_eq_true e_chs;clear hq HV q_opts;go_enter Tryz.func103,Tryz.ntmps103
     go_wp2
     all_goals
      go_ret;exact⟨ret_bool HF.out.symm,(Ext.refl _).alloc _⟩
 · have HF:Hid (v=false):=Hi (by rw[← HV.out];unfold It.noOpt It.noNum It.noTxt;simp[hq]);have e_opts:0<it.opts.length:=(by omega);have f_opts:decide (0<it.opts.length)=true:=decide_eq_true e_opts;have g_opts:¬ it.opts=[]:=fun e=>hq (by rw[e];rfl);clear hq HV ;go_enter Tryz.func103,Tryz.ntmps103
   go_wp2
   all_goals
       go_ret;exact⟨ret_bool HF.out.symm,(Ext.refl _).alloc _⟩

theorem onlyKey_any(it:It.Item)(L:It.Loc)(w:World)(h:It.In w it L)(hk:1≤it.kind∧it.kind≤6) :
    Calls Tryz.prog 103 #[It.agg it L] w fun e w'=>e=.returned (.bool (It.only it))∧Ext w w':=by
 rcases(show it.kind≤3∨it.kind=4∨it.kind=5∨it.kind=6 by omega)with e | e | e | e
 · exact onlyKey_low it L w h e
 · exact onlyKey_k4 it L w h e
 · exact onlyKey_k5 it L w h e
 · exact onlyKey_k6 it L w h e
theorem validKey_any(it:It.Item)(L:It.Loc)(w:World)(h:It.In w it L)(hk:1≤it.kind∧it.kind≤6)(ho:it.opts.length≤10)(hsz:∀ s∈it.texts,s.size≤200)(hg:Gm w) :
    Calls Tryz.prog 104 #[It.agg it L] w fun e w'=>e=.returned (.bool (It.val it))∧Ext w w':=by
 unfold It.val;rcases(show it.kind=1∨it.kind=2∨it.kind=3∨it.kind=4∨it.kind=5∨it.kind=6 by omega)with e | e | e | e | e | e
 · rw[if_pos e];exact validKey_1 it L w h e
 · rw[if_neg (by omega),if_pos e];exact validKey_2 it L w h e
 · rw[if_neg (by omega),if_neg (by omega),if_pos e];exact validKey_3 it L w h e ho
 · rw[if_neg (by omega),if_neg (by omega),if_neg (by omega),if_pos e];exact validKey_4 it L w h e
 · rw[if_neg (by omega),if_neg (by omega),if_neg (by omega),if_neg (by omega),if_pos e];exact validKey_5 it L w h e hsz hg
 · rw[if_neg (by omega),if_neg (by omega),if_neg (by omega),if_neg (by omega),if_neg (by omega)];exact validKey_6 it L w h e
set_option maxRecDepth 100000
set_option maxHeartbeats 6400000
open Go.RowKit

namespace It
def prT (s:ByteArray):Bool:=prn s 200 false
def textsOk (it:Item):Bool:=prn it.stem 2000 true && (it.opts.all prT && (it.texts.all prT && codeC it.cont))
theorem allp_no{p:ByteArray→Bool}{l:List ByteArray}{k:Nat}{x:ByteArray}(hx:l[k]?=some x)(hb:p x=false):l.all p=false:=by rw[List.all_eq_false];exact⟨x,List.mem_of_getElem? hx,by rw[hb];simp⟩
theorem allp_next{p:ByteArray→Bool}{l:List ByteArray}{k:Nat}{x:ByteArray}(hx:l[k]?=some x)(h:(l.take k).all p=true)(hb:p x=true):(l.take (k+1)).all p=true:=by rw[List.take_add_one,hx,List.all_append,h];simp[hb]
def vld (it:Item):Int:=if ranges it=false then 3 else if wi it.kind 1 6=false then 1 else if textsOk it=false then 2 else if 10<it.opts.length∨10<it.texts.length∨8<it.assets.length then 5 else if key it=false then 19 else if rising it.assets 1 9999999=false then 23 else 0
theorem texts_small{it:Item}(h:textsOk it=true):∀ s∈it.texts,0<s.size∧s.size≤200:=by unfold textsOk at h;simp only[Bool.and_eq_true]at h;intro s hs;have:=List.all_eq_true.1 h.2.2.1 s hs;unfold prT prn at this;simp only[Bool.and_eq_true,decide_eq_true_eq]at this;omega
end It
theorem within_to(n lo hi:Int){v:Bool}(hv:It.wi n lo hi=v)(w:World):Calls Tryz.prog 101 #[.int .i64 n,.int .i64 lo,.int .i64 hi] w fun e w'=>e=.returned (.bool v)∧w=w':=by subst hv;exact within_any n lo hi w
theorem rising_v(A:Option Addr)(c:Nat)(l:List Int)(lo hi:Int){v:Bool}(hv:It.rising l lo hi=v)(w:World)(h:SlI w A l)(hl:l.length≤9223372036854775807) :
    Calls Tryz.prog 105 #[.slice A l.length c,.int .i64 lo,.int .i64 hi] w fun e w'=>e=.returned (.bool v)∧w=w':=by subst hv;exact rising_any A c l lo hi w h hl
theorem printable_to(s:ByteArray)(most:Nat){m:Int}(hm:m=most){v:Bool}(hv:It.prn s most false=v)(w:World)(hs:s.size≤9223372036854775807) :
    Calls Tryz.prog 129 #[.string s,.int .i64 m] w fun e w'=>e=.returned (.bool v)∧w=w':=by
 subst hm hv;exact printable_any s most w hs
theorem validStrings_any(it:It.Item)(L:It.Loc)(w:World)(h:It.In w it L)(hg:Gm w) :
    Calls Tryz.prog 102 #[It.agg it L] w fun e w'=>e=.returned (.bool (It.textsOk it))∧Ext w w':=by
 have H:=Hi h;have OK:Hid (It.Ok it):=Hi h.ok;have HG:=Hi hg;have hst:it.stem.size≤140737488351232:=h.ok.stem;have hct:it.cont.size≤140737488351232:=h.ok.cont;have hl1:it.opts.length≤140737488351232:=h.ok.ol;have hl3:it.texts.length≤140737488351232:=h.ok.tl;clear h hg;obtain⟨v,hv⟩:∃ v,It.textsOk it=v:=⟨_,rfl⟩;have HV:=Hi hv;rw[hv];clear hv;obtain⟨oA,oc,cA,cc,tA,tc,sA,sc⟩:=L;unfold It.agg
 dsimp only
 go_enter Tryz.func102,Tryz.ntmps102
 go_wp2_with fail
 refine(replaceAll_any it.stem _ hst).mono ?_;rintro e w1 ⟨rfl,hb1⟩;obtain⟨hc1,hf1⟩:=hb1.cells;have hz1:w.heap.size+1≤w1.heap.size:=by have:=hb1.size;simpa using this
 have xw:Hid (Ext w w1):=Hi (((Ext.refl w).alloc _).trans hb1);have HOP:Hid (SlS w1 oA it.opts):=Hi ((show SlS w oA it.opts from H.out.o).ext xw.out);have HT:Hid (SlS w1 tA it.texts):=Hi ((show SlS w tA it.texts from H.out.t).ext xw.out);clear hb1 H;have hfs:(feed it.stem).size≤140737488351232:=by
  have:(feed it.stem).size=it.stem.size:=by show(it.stem.data.toList.map _).toArray.size=it.stem.data.toList.length;simp
  omega
 obtain⟨q,hq⟩:∃ q,It.prn it.stem 2000 true=q:=⟨_,rfl⟩;have HP:=Hi hq;have HPF:Hid (It.prn (feed it.stem) 2000 false=q):=Hi (by rw[It.prn_feed];exact hq);clear hq;obtain⟨fs,hfe⟩:∃ fs,feed it.stem=fs:=⟨_,rfl⟩;rw[hfe]at hfs HPF ⊢;clear hfe;cases q with
 | false =>
  have HF:Hid (v=false):=Hi (by rw[← HV.out];unfold It.textsOk;rw[HP.out];rfl);go_wp2_with (go_at_call 129;refine(printable_to fs 2000 rfl HPF.out _ (by omega)).mono ?_;rintro e w' ⟨rfl,rfl⟩)
  go_ret;exact⟨ret_bool HF.out.symm,xw.out⟩
 | true =>
  go_wp2_with (go_at_call 129;refine(printable_to fs 2000 rfl HPF.out _ (by omega)).mono ?_;rintro e w' ⟨rfl,rfl⟩)
  go_loop [15] (fun i=>∃ k:Nat,k≤it.opts.length∧i=.int .i64 k∧Hid ((it.opts.take k).all It.prT=true)) (fun i=>it.opts.length-(intOf i).toNat)
  case atStart=>exact⟨0,by omega,rfl,Hi rfl⟩
  case round =>
   obtain⟨k,hk,rfl,HA⟩:=hrel;by_cases hlt:k<it.opts.length
   · obtain⟨b,off,rfl,hb,hc⟩:=HOP.out.at_ hlt;obtain⟨x,hx⟩:∃ x,it.opts[k]=x:=⟨_,rfl⟩;rw[hx]at hc;have HX:Hid (it.opts[k]?=some x):=Hi (by rw[List.getElem?_eq_getElem hlt,hx]);have hxs:x.size≤140737488351232:=OK.out.opts x (List.mem_of_getElem? HX.out);clear hx;have ki0:(0:Int)≤(k:Int):=(by omega);have ki1:(k:Int)<(it.opts.length:Int):=(by omega);obtain⟨q,hq⟩:∃ q,It.prn x 200 false=q:=⟨_,rfl⟩;have HQ:=Hi hq;clear hq;cases q with
     | false =>
      have HF:Hid (v=false):=Hi (by rw[← HV.out];unfold It.textsOk;rw[It.allp_no HX.out (show It.prT x=false from HQ.out)];simp);go_wp2_with (go_at_call 129;refine(printable_to x 200 rfl HQ.out _ (by omega)).mono ?_;rintro e w' ⟨rfl,rfl⟩)
      go_ret;exact⟨ret_bool HF.out.symm,xw.out⟩
     | true =>
      have HN:=Hi (It.allp_next HX.out HA.out (show It.prT x=true from HQ.out));go_wp2_with (go_at_call 129;refine(printable_to x 200 rfl HQ.out _ (by omega)).mono ?_;rintro e w' ⟨rfl,rfl⟩)
      go_round
      case rel=>exact⟨k+1,by omega,by go_num,HN⟩
      case measure=>simp[intOf];omega
   · obtain rfl:k=it.opts.length:=by omega
     have HO:Hid (it.opts.all It.prT=true):=Hi (by have:=HA.out;rwa [List.take_length]at this);go_wp2
     go_loop [26] (fun i=>∃ k:Nat,k≤it.texts.length∧i=.int .i64 k∧Hid ((it.texts.take k).all It.prT=true)) (fun i=>it.texts.length-(intOf i).toNat)
     case atStart=>exact⟨0,by omega,rfl,Hi rfl⟩
     case round =>
      obtain⟨k,hk,rfl,HA⟩:=hrel;by_cases hlt:k<it.texts.length
      · obtain⟨b,off,rfl,hb,hc⟩:=HT.out.at_ hlt;obtain⟨x,hx⟩:∃ x,it.texts[k]=x:=⟨_,rfl⟩;rw[hx]at hc;have HX:Hid (it.texts[k]?=some x):=Hi (by rw[List.getElem?_eq_getElem hlt,hx]);have hxs:x.size≤140737488351232:=OK.out.texts x (List.mem_of_getElem? HX.out);clear hx;have ki0:(0:Int)≤(k:Int):=(by omega);have ki1:(k:Int)<(it.texts.length:Int):=(by omega);obtain⟨q,hq⟩:∃ q,It.prn x 200 false=q:=⟨_,rfl⟩;have HQ:=Hi hq;clear hq;cases q with
        | false =>
         have HF:Hid (v=false):=Hi (by rw[← HV.out];unfold It.textsOk;rw[It.allp_no HX.out (show It.prT x=false from HQ.out)];simp);go_wp2_with (go_at_call 129;refine(printable_to x 200 rfl HQ.out _ (by omega)).mono ?_;rintro e w' ⟨rfl,rfl⟩)
         go_ret;exact⟨ret_bool HF.out.symm,xw.out⟩
        | true =>
         have HN:=Hi (It.allp_next HX.out HA.out (show It.prT x=true from HQ.out));go_wp2_with (go_at_call 129;refine(printable_to x 200 rfl HQ.out _ (by omega)).mono ?_;rintro e w' ⟨rfl,rfl⟩)
         go_round
         case rel=>exact⟨k+1,by omega,by go_num,HN⟩
         case measure=>simp[intOf];omega
      · obtain rfl:k=it.texts.length:=by omega
        have HTX:Hid (it.texts.all It.prT=true):=Hi (by have:=HA.out;rwa [List.take_length]at this);go_wp2_with fail
        refine(cvalid_any it.cont _ (by omega) (HG.out.ext xw.out)).mono ?_;rintro e w9 ⟨rfl,hb9⟩;have HF:Hid (v=It.codeC it.cont):=Hi (by rw[← HV.out];unfold It.textsOk;rw[HP.out,HO.out,HTX.out];rfl);go_wp2;go_ret;exact⟨ret_bool HF.out.symm,xw.out.trans hb9⟩


theorem validStrings_any_v(it:It.Item)(L:It.Loc){v:Bool}(hv:It.textsOk it=v)(w:World)(h:It.In w it L)(hg:Gm w) :
    Calls Tryz.prog 102 #[It.agg it L] w fun e w'=>e=.returned (.bool v)∧Ext w w':=by subst hv;exact validStrings_any it L w h hg
theorem onlyKey_v(it:It.Item)(L:It.Loc){v:Bool}(hv:It.only it=v)(w:World)(h:It.In w it L)(hk:1≤it.kind∧it.kind≤6) :
    Calls Tryz.prog 103 #[It.agg it L] w fun e w'=>e=.returned (.bool v)∧Ext w w':=by subst hv;exact onlyKey_any it L w h hk
theorem validKey_v(it:It.Item)(L:It.Loc){v:Bool}(hv:It.val it=v)(w:World)(h:It.In w it L)(hk:1≤it.kind∧it.kind≤6)(ho:it.opts.length≤10)(hsz:∀ s∈it.texts,s.size≤200)(hg:Gm w) :
    Calls Tryz.prog 104 #[It.agg it L] w fun e w'=>e=.returned (.bool v)∧Ext w w':=by subst hv;exact validKey_any it L w h hk ho hsz hg
theorem validNumbers_any_v(it:It.Item)(L:It.Loc){v:Bool}(hv:It.ranges it=v)(w:World):Calls Tryz.prog 100 #[It.agg it L] w fun e w'=>e=.returned (.bool v)∧Ext w w':=by subst hv;exact validNumbers_any it L w
theorem valid_any(it:It.Item)(L:It.Loc)(w:World)(h:It.In w it L)(hg:Gm w) :
    Calls Tryz.prog 68 #[It.agg it L] w fun e w'=>e=.returned (.int .i64 (It.vld it))∧Ext w w':=by
 have H:=Hi h;have HG:=Hi hg;have hl1:it.opts.length≤140737488351232:=h.ok.ol;have hl3:it.texts.length≤140737488351232:=h.ok.tl;have hl4:it.assets.length≤140737488351232:=h.ok.sl;clear h hg;obtain⟨v,hv⟩:∃ v,It.vld it=v:=⟨_,rfl⟩;have HV:=Hi hv;rw[hv];clear hv;obtain⟨q1,hq1⟩:∃ q,It.ranges it=q:=⟨_,rfl⟩;have HQ1:=Hi hq1;clear hq1;obtain⟨q2,hq2⟩:∃ q,It.wi it.kind 1 6=q:=⟨_,rfl⟩;have HQ2:=Hi hq2;clear hq2;obtain⟨q3,hq3⟩:∃ q,It.textsOk it=q:=⟨_,rfl⟩;have HQ3:=Hi hq3;clear hq3;have x0:Hid (Ext w w):=Hi (Ext.refl w);unfold It.agg;go_enter Tryz.func68,Tryz.ntmps68
 go_wp2_with fail
 refine(validNumbers_any_v it L HQ1.out _).mono ?_;rintro e w1 ⟨rfl,hb1⟩;obtain⟨hc1,hf1⟩:=hb1.cells;have hz1:w.heap.size<w1.heap.size:=by have:=hb1.size;simp at this;omega
 have x1:Hid (Ext w w1):=Hi (((Ext.refl w).alloc _).trans hb1);clear hb1;cases q1 with
 | false=>have HF:Hid (v=3):=Hi (by rw[← HV.out];unfold It.vld;rw[if_pos HQ1.out]);go_wp2;go_ret;exact⟨ret_int HF.out.symm,x1.out⟩
 | true =>
 as_aux_lemma =>
 have hn1:¬ It.ranges it=false:=by rw[HQ1.out];simp
 have HN1:=Hi hn1;clear hn1;cases q2 with
 | false =>
  have HF:Hid (v=1):=Hi (by rw[← HV.out];unfold It.vld;rw[if_neg HN1.out,if_pos HQ2.out]);go_wp2_with (go_at_call 101;refine(within_to _ _ _ HQ2.out _).mono ?_;rintro e w' ⟨rfl,rfl⟩)
  go_ret;exact⟨ret_int HF.out.symm,x1.out⟩
 | true =>
 as_aux_lemma =>
 have HK:Hid (1≤it.kind∧it.kind≤6):=Hi (It.wi_iff.1 HQ2.out);have HN2:Hid (¬ It.wi it.kind 1 6=false):=Hi (by rw[HQ2.out];simp);go_wp2_with (go_at_call 101;refine(within_to _ _ _ HQ2.out _).mono ?_;rintro e w' ⟨rfl,rfl⟩)
 refine(validStrings_any_v it L HQ3.out _ (H.out.ext x1.out) (HG.out.ext x1.out)).mono ?_;rintro e w2 ⟨rfl,hb2⟩;obtain⟨hc2,hf2⟩:=hb2.cells;have hz2:w.heap.size<w2.heap.size:=Nat.lt_of_lt_of_le hz1 hb2.size;have x2:Hid (Ext w w2):=Hi (x1.out.trans hb2);clear hb2;cases q3 with
 | false=>have HF:Hid (v=2):=Hi (by rw[← HV.out];unfold It.vld;rw[if_neg HN1.out,if_neg HN2.out,if_pos HQ3.out]);go_wp2;go_ret;exact⟨ret_int HF.out.symm,x2.out⟩
 | true =>
 as_aux_lemma =>
 have HN3:Hid (¬ It.textsOk it=false):=Hi (by rw[HQ3.out];simp);have HTS:=Hi (It.texts_small HQ3.out);by_cases hlen:10<it.opts.length∨10<it.texts.length∨8<it.assets.length
 · have HF:Hid (v=5):=Hi (by rw[← HV.out];unfold It.vld;rw[if_neg HN1.out,if_neg HN2.out,if_neg HN3.out,if_pos hlen]);rcases(show(10:Int)<(it.opts.length:Int)∨(¬ (10:Int)<(it.opts.length:Int)∧(10:Int)<(it.texts.length:Int))∨(¬ (10:Int)<(it.opts.length:Int)∧¬ (10:Int)<(it.texts.length:Int)∧(8:Int)<(it.assets.length:Int))by omega)with g | ⟨g,g2⟩ | ⟨g,g2,g3⟩
   all_goals
    clear hlen;go_wp2;go_ret;exact⟨ret_int HF.out.symm,x2.out⟩
 · as_aux_lemma =>
   have HN4:=Hi hlen;have g1:¬ (10:Int)<(it.opts.length:Int):=(by omega);have g2:¬ (10:Int)<(it.texts.length:Int):=(by omega);have g3:¬ (8:Int)<(it.assets.length:Int):=(by omega);have ho:it.opts.length≤10:=(by omega);clear hlen;obtain⟨q4,hq4⟩:∃ q,It.key it=q:=⟨_,rfl⟩;have HQ4:=Hi hq4;clear hq4;have HKE:Hid ((It.only it && It.val it)=It.key it):=Hi (It.key_eq it HK.out (fun s hs=>(HTS.out s hs).1));obtain⟨q6,hq6⟩:∃ q,It.only it=q:=⟨_,rfl⟩;have HQ6:=Hi hq6;clear hq6;obtain⟨q7,hq7⟩:∃ q,It.val it=q:=⟨_,rfl⟩;have HQ7:=Hi hq7;clear hq7;go_wp2_with fail
   refine(onlyKey_v it L HQ6.out _ (H.out.ext x2.out) HK.out).mono ?_;rintro e w3 ⟨rfl,hb3⟩;obtain⟨hc3,hf3⟩:=hb3.cells;have hz3:w.heap.size<w3.heap.size:=Nat.lt_of_lt_of_le hz2 hb3.size;have x3:Hid (Ext w w3):=Hi (x2.out.trans hb3);clear hb3;cases q6 with
   | false=>have HF:Hid (v=19):=Hi (by rw[← HV.out];unfold It.vld;rw[if_neg HN1.out,if_neg HN2.out,if_neg HN3.out,if_neg HN4.out,if_pos (by rw[← HKE.out,HQ6.out];rfl)]);go_wp2;go_ret;exact⟨ret_int HF.out.symm,x3.out⟩
   | true =>
   as_aux_lemma =>
   go_wp2_with fail
   refine(validKey_v it L HQ7.out _ (H.out.ext x3.out) HK.out ho (fun s hs=>(HTS.out s hs).2) (HG.out.ext x3.out)).mono ?_;rintro e w4 ⟨rfl,hb4⟩;obtain⟨hc4,hf4⟩:=hb4.cells;have hz4:w.heap.size<w4.heap.size:=Nat.lt_of_lt_of_le hz3 hb4.size;have x4:Hid (Ext w w4):=Hi (x3.out.trans hb4);clear hb4;cases q7 with
   | false=>have HF:Hid (v=19):=Hi (by rw[← HV.out];unfold It.vld;rw[if_neg HN1.out,if_neg HN2.out,if_neg HN3.out,if_neg HN4.out,if_pos (by rw[← HKE.out,HQ6.out,HQ7.out];rfl)]);go_wp2;go_ret;exact⟨ret_int HF.out.symm,x4.out⟩
   | true =>
   as_aux_lemma =>
   obtain rfl:q4=true:=by rw[← HQ4.out,← HKE.out,HQ6.out,HQ7.out];rfl
   have HN5:Hid (¬ It.key it=false):=Hi (by rw[HQ4.out];simp);obtain⟨q5,hq5⟩:∃ q,It.rising it.assets 1 9999999=q:=⟨_,rfl⟩;have HQ5:=Hi hq5;clear hq5;cases q5 with
   | false =>
    have HF:Hid (v=23):=Hi (by rw[← HV.out];unfold It.vld;rw[if_neg HN1.out,if_neg HN2.out,if_neg HN3.out,if_neg HN4.out,if_neg HN5.out,if_pos HQ5.out]);go_wp2_with (go_at_call 105;refine(rising_v L.sA L.sc it.assets 1 9999999 HQ5.out _ (H.out.s.ext x4.out) (by omega)).mono ?_;rintro e w' ⟨rfl,rfl⟩)
    go_ret;exact⟨ret_int HF.out.symm,x4.out⟩
   | true =>
    have HF:Hid (v=0):=Hi (by rw[← HV.out];unfold It.vld;rw[if_neg HN1.out,if_neg HN2.out,if_neg HN3.out,if_neg HN4.out,if_neg HN5.out,if_neg (by rw[HQ5.out];simp)]);go_wp2_with (go_at_call 105;refine(rising_v L.sA L.sc it.assets 1 9999999 HQ5.out _ (H.out.s.ext x4.out) (by omega)).mono ?_;rintro e w' ⟨rfl,rfl⟩)
    go_ret;exact⟨ret_int HF.out.symm,x4.out⟩
namespace Rs
def fstN (f:Nat→Int):Nat→Int
 | 0=>0
 | n+1=>if fstN f n≠0 then fstN f n else f n
theorem fstN_zero{f:Nat→Int}:∀ {n:Nat},fstN f n=0↔∀ i,i<n→f i=0
 | 0=>⟨fun _ i h=>by omega,fun _=>rfl⟩
 | n+1=>by
  have ih:=fstN_zero (f:=f) (n:=n);unfold fstN;constructor
  · intro h i hi;by_cases h0:fstN f n=0
    · rw[if_neg (by simpa using h0)]at h;rcases Nat.lt_or_ge i n with g | g
      · exact ih.1 h0 i g
      · obtain rfl:i=n:=by omega
        exact h
    · rw[if_pos h0]at h;exact absurd h h0
  · intro h;have h0:fstN f n=0:=ih.2 fun i hi=>h i (by omega);rw[if_neg (by simpa using h0)];exact h n (by omega)
theorem fstN_next{f:Nat→Int}{k:Nat}(h:fstN f k=0)(hk:f k=0):fstN f (k+1)=0:=by unfold fstN;rw[if_neg (by simpa using h)];exact hk
theorem fstN_stay{f:Nat→Int}{k:Nat}(h:fstN f k≠0):∀ d,fstN f (k+d)=fstN f k
 | 0=>rfl
 | d+1=>by have ih:=fstN_stay h d;show(if fstN f (k+d)≠0 then fstN f (k+d)else f (k+d))=fstN f k;rw[ih,if_pos h]
theorem fstN_hit{f:Nat→Int}{n k:Nat}{v:Int}(hk:k<n)(h:fstN f k=0)(hf:f k=v)(hv:v≠0):fstN f n=v:=by
 have h1:fstN f (k+1)=v:=by unfold fstN;rw[if_neg (by simpa using h)];exact hf
 have:=fstN_stay (f:=f) (k:=k+1) (by rw[h1];exact hv) (n-(k+1));rw[show k+1+(n-(k+1))=n by omega]at this;rw[this,h1]
end Rs
end Go.Proofs.YtfnmgcblhebdbaaGreatDoor
namespace Go.Proofs.YtfnmgcblhebdbaaGreatDoor
open Go.RowKit
namespace It
end It
end Go.Proofs.YtfnmgcblhebdbaaGreatDoor
