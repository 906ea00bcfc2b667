/- slices.Insert of one element into a row of the call's own: contracts. Conditions: those of each theorem. -/
import Derived.Test.YtfnmgcblhebdbaaGreatDoorZ13
import Derived.Test.YtfnmgcblhebdbaaGreatDoorZ12
import Derived.Shelf.Spec.SlicesInsertGrow
import Derived.Test.YtfnmgcblhebdbaaGreatDoorZ8
namespace Go.Proofs.YtfnmgcblhebdbaaGreatDoor
set_option maxRecDepth 100000
set_option maxHeartbeats 25600000
open Go.RowKit
namespace Bk
theorem RetIns.end_{X:Type}{E:Elt X}{w w':World}{base c n c':Nat}{A A':Option Addr}{xs:List X}{x:X}(hn:xs.length=n)(hR:RowX E E.T w' base (.slice A' (n+1) c') (xs ++ [x]))(hG:w.grownBy w' (Value.slice A n c).ownBlock)
    (hat:(Value.slice A' (n+1) c').ownBlock=(Value.slice A n c).ownBlock∨(Value.slice A' (n+1) c').ownBlock=some w.heap.size):RetIns E w base (.slice A n c) xs x n (.returned (.slice A' (n+1) c')) w':=by
 have e1:xs.take n=xs:=List.take_of_length_le (by rw[hn];exact Nat.le_refl _);have e2:xs.drop n=[]:=List.drop_eq_nil_of_le (by rw[hn];exact Nat.le_refl _);refine⟨⟨A',c',by rw[hn],by rw[e1,e2,hn];exact hR,?_⟩,fun h0=>?_,fun q hq=>But.grown' hG (Or.inr hq),fun w0 h0 hq=>h0.grown hG hq⟩
 · intro a ha;subst ha;rcases hat with e | e
   · exact Or.inl (e.symm.trans rfl)
   · injection e with e;exact Or.inr (Nat.le_of_eq e.symm)
 · rw[h0]at hG;exact grown_none hG
theorem insEndTpc(base:Nat)(A:Option Addr)(c n:Nat)(xs:List Tpc)(x:Tpc)(hn:xs.length=n)(p:Nat)(w:World)(h:RowX eTpc 41 w base (.slice A n c) xs)(hbase:base≤w.heap.size)(hbig:(n+1)*32≤140737488355328)
    (hp:Sl w 2 (some ⟨p,0,none⟩) [eTpc.enc x]) (hx:eTpc.In w x) (hxo:∀ q,(Value.slice A n c).ownBlock=some q→eTpc.Off q x) :
    Calls Tryz.prog 64 #[.slice A n c,.int .i64 n,.slice (some ⟨p,0,none⟩) 1 1] w (RetIns eTpc w base (.slice A n c) xs x n):=by
 have H:=Hi h;have HN:=Hi hn;have hown0:w.ownsRow base 41 2 (.slice A n c) n (xs.map eTpc.enc).flatten:=by have h:=h.own;rw[hn]at h;exact h
 obtain⟨i0,hi0,hz0,hz1,hz2⟩:=info_parts infoTpc;obtain⟨v',w',hrun,hown',hgr,hat⟩:=run_append_sl (P:=Tryz.prog) w base 26 26 41 i0 (.agg #[.string ⟨#[]⟩,.string ⟨#[]⟩]) 2 32 Tryz.underlying26 hi0 hz0 hz1 hz2 rfl (by decide) _ _ _ hown0 (some ⟨p,0,none⟩) 1 [eTpc.enc x] hp (fun c hc=>by obtain rfl:=List.mem_singleton.1 hc;exact eTpc.len x) (fun c hc=>by obtain rfl:=List.mem_singleton.1 hc;exact eTpc.one x) (by unfold maxLen;simp only[List.length_singleton];omega) hbig hbase;obtain⟨A',c',rfl⟩:=own_form hown';have e0:[eTpc.enc x].flatten=eTpc.enc x:=by simp
 rw[e0]at hown';have FIN:Hid (RetIns eTpc w base (.slice A n c) xs x n (.returned (.slice A' (n+1) c')) w'):=Hi (RetIns.end_ hn (h.app hx hxo (Ext.refl _) (by rw[hn];exact hown') hgr hat) hgr hat);have hsplit:(A=none∧n=0∧c=0)∨(∃ g,A=some ⟨g,0,none⟩):=by
  rcases H.out.own.2 with ⟨hv,-⟩ | ⟨g,cap,cur,hv,-⟩
  · injection hv with h1 h2 h3;rw[HN.out]at *;exact Or.inl ⟨h1,by omega,h3⟩
  · injection hv with h1 h2 h3;exact Or.inr ⟨g,h1⟩
 have hnc:n≤c:=by have:=H.out.slx;omega
 clear hown' hgr hat h hn hp hx hxo hown0 e0;have hrun2:(Builtin.append_ #[26,26] 26 #[.slice A n c,.slice (some ⟨p,0,none⟩) 1 1]).run Tryz.prog w=.ok (.slice A' (n+1) c') w':=hrun;clear hrun;rcases hsplit with ⟨rfl,rfl,rfl⟩ | ⟨g,rfl⟩
 · clear hnc;go_enter Tryz.func64,Tryz.ntmps64
   go_wp2_with (at_builtin;refine Lib.wpList_append_run _ rfl _ _ _ _ rfl _ _ rfl rfl _ _ hrun2 ?_)
   go_ret;exact FIN.out
 by_cases hcn:c=n
 · subst hcn;clear hnc;go_enter Tryz.func64,Tryz.ntmps64
   go_wp2_with (at_builtin;refine Lib.wpList_append_run _ rfl _ _ _ _ rfl _ _ rfl rfl _ _ hrun2 ?_)
   go_ret;exact FIN.out
 · go_enter Tryz.func64,Tryz.ntmps64
   go_wp2_with (at_builtin;refine Lib.wpList_append_run _ rfl _ _ _ _ rfl _ _ rfl rfl _ _ hrun2 ?_)
   go_ret;exact FIN.out
theorem insShiftTpc(base g cap n i:Nat)(xs:List Tpc)(x:Tpc)(hn:xs.length=n)(p:Nat)(w:World)(cur:Array Value)(h:RowX eTpc 41 w base (.slice (some ⟨g,0,none⟩) n cap) xs)(hb:base≤g)(hg:w.heap[g]?=some (.cells cur 41 (0,0)))(hs:cur.size=cap*2)(hm:cap≤maxLen)
    (hcs:∀ j v,((xs.map eTpc.enc).flatten)[j]?=some v→w.cell? ⟨g,j,none⟩=some v) (hi:i<n) (hroom:n+1≤cap) (hbig:(n+1)*32≤140737488355328) (PC:Array Value) (hpc:(eTpc.enc x).toArray=PC)
    (hp:w.heap[p]?=some (.cells PC 41 (0,0))) (hpg:p≠g) (hx:eTpc.In w x) (hxo:eTpc.Off g x) :
    Calls Tryz.prog 64 #[.slice (some ⟨g,0,none⟩) n cap,.int .i64 i,.slice (some ⟨p,0,none⟩) 1 1] w (RetIns eTpc w base (.slice (some ⟨g,0,none⟩) n cap) xs x i):=by
 obtain⟨cs,hcse⟩:∃ cs,(xs.map eTpc.enc).flatten=cs:=⟨_,rfl⟩;obtain⟨us,hus⟩:∃ us,eTpc.enc x=us:=⟨_,rfl⟩;have hul:us.length=2:=by rw[← hus];exact eTpc.len x
 have hcl:cs.length=n*2:=by rw[← hcse,flatten_len (map_len xs),List.length_map,hn];rfl
 have h1c:∀ v∈cs,v.oneCell'=true:=fun v hv=>by rw[← hcse]at hv;obtain⟨c,h1,h2⟩:=List.mem_flatten.1 hv;obtain⟨y,-,rfl⟩:=List.mem_map.1 h1;exact eTpc.one y v h2
 have h1u:∀ v∈us,v.oneCell'=true:=fun v hv=>by rw[← hus]at hv;exact eTpc.one x v hv
 have HFIN:=Hi (fun(w':World) hw=>RetIns.shift (x:=x) (i:=i) (w':=w') (hn ▸ h) hb hg (by omega) hm hs hcs (by omega) hx hxo hw);rw[hcse]at HFIN hcs;rw[hn]at HFIN;rw[hus]at HFIN hpc;have hps:PC.size=2:=by rw[← hpc];simpa using hul
 have hvs:∀ j v,us[j]?=some v→w.cell? ⟨p,j,none⟩=some v:=fun j v hj=>by rw[cell_of_row _ _ j _ _ _ hp,← hpc];simpa using hj
 have hsa:w.shape? p=some (41,2):=by unfold World.shape?;rw[hp];simp[hps]
 have hsb:w.shape? g=some (41,cap*2):=by unfold World.shape?;rw[hg];simp[hs]
 have hfa:=frozen_of_row _ _ 0 _ _ hp;have hfe:=frozen_of_row _ _ 2 _ _ hp;have hcap63:cap≤9223372036854775807:=by unfold maxLen at hm;omega
 have hov:∀ lb cb,(callFunc 96 #[.slice (some ⟨p,0,none⟩) 1 1,.slice (some ⟨g,(i+1)*2,none⟩) lb cb]).run Tryz.prog w=.ok (.value (.bool false)) w:=fun lb cb=>by
  rw[run_callFunc_extern Tryz.func96 (by kernel_rfl) (by kernel_rfl) (by kernel_rfl) (e:=Extern.SlicesOverlaps.overlaps #[26,26] #[4]) (by kernel_rfl),
   Lib.run_overlaps_apart w 26 4 41 Tryz.underlying26 2 (fun w=>by kernel_rfl) ⟨p,0,none⟩ ⟨g,(i+1)*2,none⟩ 1 1 lb cb hpg 41 41 2 (cap*2) hsa hsb (by omega) hfa hfe]
  rfl
 have hsz:(Tryz.prog.info? 41).map (·.size)=some 2:=by kernel_rfl
 have hdl:(cs.drop (i*2)).length=(n-i)*2:=by rw[List.length_drop,hcl,Nat.sub_mul]
 have hspn:∀ j,j<cap*2→(w.cell? ⟨g,j,none⟩).isSome=true:=fun j hj=>cells_some hg (by omega);have hfz:∀ j,w.frozen? ⟨g,j,none⟩=false:=fun j=>frozen_of_row _ _ j _ _ hg;have hcp1:∀ ty dc sc,(Builtin.copy_ #[26,26] ty #[.slice (some ⟨g,(i+1)*2,none⟩) (n-i) dc,.slice (some ⟨g,i*2,none⟩) (n+1-i) sc]).run Tryz.prog w.drew=.ok (goInt ((n-i:Nat):Int)) (w.drew.setCells g ((i+1)*2) (cs.drop (i*2))):=fun ty dc sc =>
  run_copy_cellsK 2 w.drew _ _ ty 41 g ((i+1)*2) (n-i) dc ⟨g,i*2,none⟩ (n+1-i) sc (n-i) (cs.drop (i*2)) Tryz.underlying26 hsz (by simp only[Nat.min_def];split <;> omega) hdl
   (fun j v hj=>by rw[Addr.add_lit];rw[List.getElem?_drop]at hj;exact hcs _ v hj)
   (fun j hj=>hspn _ (by rw[hdl]at hj;omega)) (fun j _=>hfz _) (fun v hv=>h1c v (List.mem_of_mem_drop hv))
 obtain⟨W1,hW1⟩:∃ W1,W1=w.drew.setCells g ((i+1)*2) (cs.drop (i*2)):=⟨_,rfl⟩;have hcp2:∀ (W:World),(∀ x,W.cell? x=W1.cell? x)→(∀ x,W.frozen? x=W1.frozen? x)→∀ ty dc,(Builtin.copy_ #[26,26] ty #[.slice (some ⟨g,i*2,none⟩) (n+1-i) dc,.slice (some ⟨p,0,none⟩) 1 1]).run Tryz.prog W=.ok (goInt 1) (W.setCells g (i*2) us):=fun W hWc hWf ty dc =>
  run_copy_cellsK 2 W _ _ ty 41 g (i*2) (n+1-i) dc ⟨p,0,none⟩ 1 1 1 us Tryz.underlying26 hsz (by simp only[Nat.min_def];split <;> omega) (by rw[hul])
   (fun j v hj=>by rw[Addr.add_lit,hWc,hW1,World.cell?_setCells_out g _ _ _ _ (fun h _=>absurd h hpg),Nat.zero_add];exact hvs j v hj)
   (fun j hj=>by rw[hWc,hW1];exact some_setCells g (cs.drop (i*2)) ((i+1)*2) w.drew (fun t ht=>hspn ((i+1)*2+t) (by rw[hdl]at ht;omega)) (i*2+j) (hspn (i*2+j) (by rw[hul]at hj;omega))) (fun j hj=>by rw[hWf,hW1,World.frozen?_setCells];exact hfz _) h1u
 rw[← hW1]at hcp1;have hz2:¬ ((i:Int)=(n:Int)):=by omega
 have hw1:IntKind.i64.wrap ((i:Int)+1)=(i:Int)+1:=by rw[IntKind.wrap_i64];omega
 have hw2:IntKind.i64.wrap ((n:Int)+1)=(n:Int)+1:=by rw[IntKind.wrap_i64];omega
 have hb1:(0:Int)≤(i:Int)+1:=by omega
 have hin:i≤n:=by omega
 have htn:((i:Int)+1).toNat=i+1:=by omega
 have hb2:¬ (cap=i+1):=by omega
 have hb3:(i:Int)≤(n:Int)+1:=by omega
 have hb4:¬ (cap=i):=by omega
 have mixed:Tryz.prog.follows .mixedOrders=true:=by kernel_rfl
 have HW1:=Hi hW1;have HUL:=Hi hul;clear hcs h1c h1u h hg hp hn hcse hus hvs hsa hsb hspn hfz hdl hpc hcl hx hxo hul;go_enter Tryz.func64,Tryz.ntmps64
 go_wp2_with (simp only[hov])
 go_region_law_o (refine step_copy_runI rfl _ _ 26 26 rfl _ _ (by simp[Act.eval,Act.put]) (by simp[Act.eval,Act.put]) (hcp1 _ _ _) ?_)
 go_wp2_with (at_builtin;refine wpList_copy_runI _ rfl _ _ 26 26 rfl _ _ rfl rfl (hcp2 _ (fun _=>rfl) (fun _=>rfl) _ _) ?_)
 go_ret;have hfin:=HFIN.out _ rfl;rw[show i*eTpc.k+us.length=(i+1)*2 from by show i*2+us.length=_;rw[HUL.out];omega]at hfin
 first | exact hfin | (rw[← HW1.out]at hfin;exact hfin)
theorem zcTpc:(.agg #[.string ⟨#[]⟩,.string ⟨#[]⟩]:Value).cells.size=2:=rfl
theorem insGrowTpc(base g n i:Nat)(xs:List Tpc)(x:Tpc)(hn:xs.length=n)(p:Nat)(w:World)(cur:Array Value)(h:RowX eTpc 41 w base (.slice (some ⟨g,0,none⟩) n n) xs)(hbase:base≤w.heap.size)(hg:w.heap[g]?=some (.cells cur 41 (0,0)))
    (hcs:∀ j v,((xs.map eTpc.enc).flatten)[j]?=some v→w.cell? ⟨g,j,none⟩=some v) (hi:i<n) (hbig:(n+1)*32≤140737488355328) (PC:Array Value) (hpc:(eTpc.enc x).toArray=PC)
    (hp:w.heap[p]?=some (.cells PC 41 (0,0))) (hx:eTpc.In w x) :
    Calls Tryz.prog 64 #[.slice (some ⟨g,0,none⟩) n n,.int .i64 i,.slice (some ⟨p,0,none⟩) 1 1] w (RetIns eTpc w base (.slice (some ⟨g,0,none⟩) n n) xs x i):=by
 obtain⟨i0,hi0,hz0,hzs,hzb⟩:=info_parts infoTpc;obtain⟨cs,hcse⟩:∃ cs,(xs.map eTpc.enc).flatten=cs:=⟨_,rfl⟩;obtain⟨us,hus⟩:∃ us,eTpc.enc x=us:=⟨_,rfl⟩;have hul:us.length=2:=by rw[← hus];exact eTpc.len x
 have hcl:cs.length=n*2:=by rw[← hcse,flatten_len (map_len xs),List.length_map,hn];rfl
 have h1c:∀ v∈cs,v.oneCell'=true:=fun v hv=>by rw[← hcse]at hv;obtain⟨c,h1,h2⟩:=List.mem_flatten.1 hv;obtain⟨y,-,rfl⟩:=List.mem_map.1 h1;exact eTpc.one y v h2
 have h1u:∀ v∈us,v.oneCell'=true:=fun v hv=>by rw[← hus]at hv;exact eTpc.one x v hv
 have hgw:g<w.heap.size:=blk_lt hg;have hpw:p<w.heap.size:=blk_lt hp;have hsz:(Tryz.prog.info? 41).map (·.size)=some 2:=by kernel_rfl
 have hdl:(cs.drop (i*2)).length=(n-i)*2:=by rw[List.length_drop,hcl,Nat.sub_mul]
 have htl:(cs.take (i*2)).length=i*2:=by rw[List.length_take,hcl];omega
 have hvs:∀ j v,us[j]?=some v→w.cell? ⟨p,j,none⟩=some v:=fun j v hj=>by rw[cell_of_row _ _ j _ _ _ hp,← hpc,hus];simpa using hj
 obtain⟨G,hG⟩:∃ G,G=grownCap w (n+1) n 41:=⟨_,rfl⟩;obtain⟨ROW,hROW⟩:∃ ROW:Array Value,ROW=(cs.take (i*2)).toArray ++ Builtin.zeroCells (.agg #[.string ⟨#[]⟩,.string ⟨#[]⟩]:Value).cells (n+1-i) ++ Builtin.zeroCells (.agg #[.string ⟨#[]⟩,.string ⟨#[]⟩]:Value).cells (G-(n+1)):=⟨_,rfl⟩;have hGn:n+1≤G:=by rw[hG];exact grownCap_ge w _ _ _
 have hGm:G≤maxLen:=by rw[hG];exact grownCap_le_maxLen w (n+1) n 41 (by unfold maxLen;omega)
 have hG63:G≤9223372036854775807:=by unfold maxLen at hGm;omega
 have hRs:ROW.size=G*2:=by rw[hROW];simp only[Array.size_append,List.size_toArray,htl,Builtin.zeroCells,Array.size_map,Array.size_range,zcTpc];omega
 have hold:(Builtin.firstCells i0.size i (.slice (some ⟨g,0,none⟩) i n)).run Tryz.prog w.drew=.ok (cs.take (i*2)).toArray w.drew:=by
  rw[hzs];exact run_firstCells_some w.drew 2 i ⟨g,0,none⟩ i n (cs.take (i*2)) htl (fun j v hj=>by
   rw[Addr.add_lit,Nat.zero_add];rw[List.getElem?_take]at hj;split at hj
   · exact hcs j v (by rw[hcse];exact hj)
   · cases hj)
 have hkk:(n:Int)+1-(i:Int)=((n+1-i:Nat):Int):=by omega
 have hik:i+(n+1-i)=n+1:=by omega
 have hrz:∀ ty,(Builtin.append_ #[26,3] ty #[.slice (some ⟨g,0,none⟩) i n,.int .i64 ((n:Int)+1-(i:Int))]).run Tryz.prog w=.ok (.slice (some ⟨w.heap.size,0,none⟩) (n+1) G) (w.drew.alloc (.cells ROW 41)):=fun ty=>by have h:=Lib.run_append_grow_zeros w 26 3 ty 41 i0 _ .i64 .i64 Tryz.underlying26 Tryz.underlying3 hi0 hz0 (some ⟨g,0,none⟩) i n (cs.take (i*2)) hold (n+1-i) (by omega) (by omega) (by omega) (by omega) (by rw[hzb];omega) (by rw[hzb,hik];exact growslice_fits (by omega) hbig);rw[hik,← hG,← hROW]at h;rw[hkk];exact h
 obtain⟨W1,hW1⟩:∃ W1,W1=w.drew.alloc (.cells ROW 41):=⟨_,rfl⟩;have hxe:Ext w W1:=by rw[hW1];exact(Ext.refl w).drew.alloc _
 have hblk:W1.heap[w.heap.size]?=some (.cells ROW 41 (0,0)):=by rw[hW1];exact heap_alloc_new w.drew _
 have hRc:∀ j v,(cs.take (i*2))[j]?=some v→W1.cell? ⟨w.heap.size,j,none⟩=some v:=fun j v hj=>by
  rw[cell_of_row _ _ j _ _ _ hblk,hROW];have hj2:j<i*2:=by have:=(List.getElem?_eq_some_iff.1 hj).1;omega
  rw[Array.getElem?_append_left (by simp only[Array.size_append,List.size_toArray,htl];omega),Array.getElem?_append_left (by simp only[List.size_toArray,htl];omega)];simpa using hj
 have HFIN:=Hi (fun(w':World) hw=>RetIns.grow (E:=eTpc) (x:=x) (i:=i) (w':=w') (v:=.slice (some ⟨g,0,none⟩) n n) h.ins rfl hxe hbase hblk (by rw[hn];exact hGn) hGm hRs (by rw[hcse];exact hRc) (by omega) hx hw);rw[hcse,hn,hus]at HFIN;rw[hcse]at hcs;rw[← hW1]at hrz;have hN:∀ j,j<G*2→(W1.cell? ⟨w.heap.size,j,none⟩).isSome=true:=fun j hj=>cells_some hblk (by omega);have hNf:∀ j,W1.frozen? ⟨w.heap.size,j,none⟩=false:=fun j=>frozen_of_row _ _ j _ _ hblk;have hOb:∀ j v,w.cell? ⟨g,j,none⟩=some v→W1.cell? ⟨g,j,none⟩=some v:=fun j v h=>hxe.keep h;have hOv:∀ j v,w.cell? ⟨p,j,none⟩=some v→W1.cell? ⟨p,j,none⟩=some v:=fun j v h=>hxe.keep h;have hcpA:∀ (W:World),(∀ x,W.cell? x=W1.cell? x)→(∀ x,W.frozen? x=W1.frozen? x)→∀ ty dc,(Builtin.copy_ #[26,26] ty #[.slice (some ⟨w.heap.size,i*2,none⟩) (n+1-i) dc,.slice (some ⟨p,0,none⟩) 1 1]).run Tryz.prog W=.ok (goInt 1) (W.setCells w.heap.size (i*2) us):=fun W hWc hWf ty dc =>
  run_copy_cellsK 2 W _ _ ty 41 w.heap.size (i*2) (n+1-i) dc ⟨p,0,none⟩ 1 1 1 us Tryz.underlying26 hsz (by simp only[Nat.min_def];split <;> omega) (by rw[hul])
   (fun j v hj=>by rw[Addr.add_lit,hWc,Nat.zero_add];exact hOv _ v (hvs j v hj))
   (fun j hj=>by rw[hWc];exact hN (i*2+j) (by rw[hul]at hj;omega)) (fun j hj=>by rw[hWf];exact hNf _) h1u
 have hgN:g≠w.heap.size:=by omega
 have hcpB:∀ (W:World),(∀ x,W.cell? x=(W1.setCells w.heap.size (i*2) us).cell? x)→(∀ x,W.frozen? x=(W1.setCells w.heap.size (i*2) us).frozen? x)→∀ ty dc sc,(Builtin.copy_ #[26,26] ty #[.slice (some ⟨w.heap.size,(i+1)*2,none⟩) (n-i) dc,.slice (some ⟨g,i*2,none⟩) (n-i) sc]).run Tryz.prog W=.ok (goInt ((n-i:Nat):Int)) (W.setCells w.heap.size ((i+1)*2) (cs.drop (i*2))):=fun W hWc hWf ty dc sc =>
  run_copy_cellsK 2 W _ _ ty 41 w.heap.size ((i+1)*2) (n-i) dc ⟨g,i*2,none⟩ (n-i) sc (n-i) (cs.drop (i*2)) Tryz.underlying26 hsz (by simp only[Nat.min_def];split <;> omega) hdl
   (fun j v hj=>by rw[Addr.add_lit,hWc,World.cell?_setCells_out _ _ _ _ _ (fun h _=>absurd h hgN)];rw[List.getElem?_drop]at hj;exact hOb _ v (hcs _ v hj))
   (fun j hj=>by rw[hWc];exact some_setCells w.heap.size us (i*2) W1 (fun t ht=>hN (i*2+t) (by rw[hul]at ht;omega)) ((i+1)*2+j) (hN _ (by rw[hdl]at hj;omega)))
   (fun j hj=>by rw[hWf,World.frozen?_setCells];exact hNf _) (fun v hv=>h1c v (List.mem_of_mem_drop hv))
 have HUL:=Hi hul;subst hW1;have hE1:∀ x,((w.alloc (.cells ROW 41)).drew).cell? x=(w.drew.alloc (.cells ROW 41)).cell? x:=fun x=>rfl;have hE2:∀ x,((w.alloc (.cells ROW 41)).drew).frozen? x=(w.drew.alloc (.cells ROW 41)).frozen? x:=fun x=>rfl;have hF1:∀ x,(((w.alloc (.cells ROW 41)).drew.setCells w.heap.size (i*2) us).drew).cell? x=((w.drew.alloc (.cells ROW 41)).setCells w.heap.size (i*2) us).cell? x:=fun x=>rfl;have hF2:∀ x,(((w.alloc (.cells ROW 41)).drew.setCells w.heap.size (i*2) us).drew).frozen? x=((w.drew.alloc (.cells ROW 41)).setCells w.heap.size (i*2) us).frozen? x:=fun x=>rfl;have hz2:¬ ((i:Int)=(n:Int)):=by omega
 have hz3:(n:Int)<(n:Int)+1:=by omega
 have hw1:IntKind.i64.wrap ((i:Int)+1)=(i:Int)+1:=by rw[IntKind.wrap_i64];omega
 have hw2:IntKind.i64.wrap ((n:Int)+1)=(n:Int)+1:=by rw[IntKind.wrap_i64];omega
 have hw3:IntKind.i64.wrap ((n:Int)+1-(i:Int))=(n:Int)+1-(i:Int):=by rw[IntKind.wrap_i64];omega
 have hb1:(0:Int)≤(i:Int)+1:=by omega
 have hin:i≤n:=by omega
 have htn:((i:Int)+1).toNat=i+1:=by omega
 have hb3:(i:Int)≤(n:Int):=by omega
 have hGi:¬ (G=i):=by omega
 have hGim:¬ (G=i+1):=by omega
 have hci:¬ (n=i):=by omega
 have mixed:Tryz.prog.follows .mixedOrders=true:=by kernel_rfl
 clear hkk hik hold hROW hG hcs h1c h1u h hg hp hn hcse hus hvs hdl htl hpc hcl hx hul hRs hxe hblk hRc hN hNf hOb hOv hGm hGn;go_enter Tryz.func64,Tryz.ntmps64
 go_wp2_with (first
  | (at_builtin;refine Lib.wpList_append_run _ rfl _ _ _ _ rfl _ _ rfl rfl _ _ (hrz _) ?_)
  | (at_builtin;refine wpList_copy_runI _ rfl _ _ 26 26 rfl _ _ rfl rfl (hcpA _ hE1 hE2 _ _) ?_))
 go_region_law_o (refine step_copy_runI rfl _ _ 26 26 rfl (.slice (some ⟨w.heap.size,(i+1)*2,none⟩) (n-i) (G-(i+1))) (.slice (some ⟨g,i*2,none⟩) (n-i) (n-i)) (by simp[Act.eval,Act.put]) (by simp[Act.eval,Act.put]) (hcpB _ hF1 hF2 3 (G-(i+1)) (n-i)) ?_)
 go_wp2;go_ret;have hfin:=HFIN.out _ rfl;rw[show i*eTpc.k+us.length=(i+1)*2 from by show i*2+us.length=_;rw[HUL.out];omega]at hfin;exact hfin
theorem insTpc_any(base:Nat)(A:Option Addr)(c n i:Nat)(xs:List Tpc)(x:Tpc)(hn:xs.length=n)(p:Nat)(w:World)(h:RowX eTpc 41 w base (.slice A n c) xs)(hbase:base≤w.heap.size)(hi:i≤n)(hbig:(n+1)*32≤140737488355328)
    (hp:w.heap[p]?=some (.cells (eTpc.enc x).toArray 41 (0,0))) (hx:eTpc.In w x) (hxo:∀ q,(Value.slice A n c).ownBlock=some q→eTpc.Off q x∧p≠q) :
    Calls Tryz.prog 64 #[.slice A n c,.int .i64 i,.slice (some ⟨p,0,none⟩) 1 1] w (RetIns eTpc w base (.slice A n c) xs x i):=by
 have hsl:Sl w 2 (some ⟨p,0,none⟩) [eTpc.enc x]:=Or.inr ⟨p,0,rfl,blk_lt hp,fun j cs hj r v hr=>by
  cases j with
  | zero =>
   obtain rfl:eTpc.enc x=cs:=by simpa using hj
   simp only[Nat.zero_mul,Nat.zero_add];rw[cell_of_row _ _ r _ _ _ hp];simpa using hr
  | succ j=>simp at hj⟩
 rcases Nat.lt_or_ge i n with hlt | hge
 · rcases h.own.2 with ⟨hv,-⟩ | ⟨g,cap,cur,hv,hb,hg,hnc,hm,hs,-⟩
   · injection hv with h1 h2 h3;have h4:=h.own.1;omega
   · injection hv with h1 h2 h3;subst h1 h3;have hcs:∀ j v,((xs.map eTpc.enc).flatten)[j]?=some v→w.cell? ⟨g,j,none⟩=some v:=fun j v hj=>by have h5:=h.own.cells rfl j v hj;rwa [Addr.add_lit,Nat.zero_add]at h5
     by_cases hr:n+1≤c
     · exact insShiftTpc base g c n i xs x hn p w cur h hb hg hs hm hcs hlt hr hbig _ rfl hp (hxo g rfl).2 hx (hxo g rfl).1
     · obtain rfl:c=n:=by omega
       exact insGrowTpc base g c i xs x hn p w cur h hbase hg hcs hlt hbig _ rfl hp hx
 · obtain rfl:i=n:=by omega
   exact insEndTpc base A c i xs x hn p w h hbase hbig hsl hx (fun q hq=>(hxo q hq).1)
theorem insEndAst(base:Nat)(A:Option Addr)(c n:Nat)(xs:List Ast)(x:Ast)(hn:xs.length=n)(p:Nat)(w:World)(h:RowX eAst 43 w base (.slice A n c) xs)(hbase:base≤w.heap.size)(hbig:(n+1)*48≤140737488355328)
    (hp:Sl w 5 (some ⟨p,0,none⟩) [eAst.enc x]) (hx:eAst.In w x) (hxo:∀ q,(Value.slice A n c).ownBlock=some q→eAst.Off q x) :
    Calls Tryz.prog 67 #[.slice A n c,.int .i64 n,.slice (some ⟨p,0,none⟩) 1 1] w (RetIns eAst w base (.slice A n c) xs x n):=by
 have H:=Hi h;have HN:=Hi hn;have hown0:w.ownsRow base 43 5 (.slice A n c) n (xs.map eAst.enc).flatten:=by have h:=h.own;rw[hn]at h;exact h
 obtain⟨i0,hi0,hz0,hz1,hz2⟩:=info_parts infoAst;obtain⟨v',w',hrun,hown',hgr,hat⟩:=run_append_sl (P:=Tryz.prog) w base 27 27 43 i0 (.agg #[.int .i64 0,.int .i64 0,.string ⟨#[]⟩,.int .i64 0,.int .i64 0]) 5 48 Tryz.underlying27 hi0 hz0 hz1 hz2 rfl (by decide) _ _ _ hown0 (some ⟨p,0,none⟩) 1 [eAst.enc x] hp (fun c hc=>by obtain rfl:=List.mem_singleton.1 hc;exact eAst.len x) (fun c hc=>by obtain rfl:=List.mem_singleton.1 hc;exact eAst.one x) (by unfold maxLen;simp only[List.length_singleton];omega) hbig hbase;obtain⟨A',c',rfl⟩:=own_form hown';have e0:[eAst.enc x].flatten=eAst.enc x:=by simp
 rw[e0]at hown';have FIN:Hid (RetIns eAst w base (.slice A n c) xs x n (.returned (.slice A' (n+1) c')) w'):=Hi (RetIns.end_ hn (h.app hx hxo (Ext.refl _) (by rw[hn];exact hown') hgr hat) hgr hat);have hsplit:(A=none∧n=0∧c=0)∨(∃ g,A=some ⟨g,0,none⟩):=by
  rcases H.out.own.2 with ⟨hv,-⟩ | ⟨g,cap,cur,hv,-⟩
  · injection hv with h1 h2 h3;rw[HN.out]at *;exact Or.inl ⟨h1,by omega,h3⟩
  · injection hv with h1 h2 h3;exact Or.inr ⟨g,h1⟩
 have hnc:n≤c:=by have:=H.out.slx;omega
 clear hown' hgr hat h hn hp hx hxo hown0 e0;have hrun2:(Builtin.append_ #[27,27] 27 #[.slice A n c,.slice (some ⟨p,0,none⟩) 1 1]).run Tryz.prog w=.ok (.slice A' (n+1) c') w':=hrun;clear hrun;rcases hsplit with ⟨rfl,rfl,rfl⟩ | ⟨g,rfl⟩
 · clear hnc;go_enter Tryz.func67,Tryz.ntmps67
   go_wp2_with (at_builtin;refine Lib.wpList_append_run _ rfl _ _ _ _ rfl _ _ rfl rfl _ _ hrun2 ?_)
   go_ret;exact FIN.out
 by_cases hcn:c=n
 · subst hcn;clear hnc;go_enter Tryz.func67,Tryz.ntmps67
   go_wp2_with (at_builtin;refine Lib.wpList_append_run _ rfl _ _ _ _ rfl _ _ rfl rfl _ _ hrun2 ?_)
   go_ret;exact FIN.out
 · go_enter Tryz.func67,Tryz.ntmps67
   go_wp2_with (at_builtin;refine Lib.wpList_append_run _ rfl _ _ _ _ rfl _ _ rfl rfl _ _ hrun2 ?_)
   go_ret;exact FIN.out
theorem insShiftAst(base g cap n i:Nat)(xs:List Ast)(x:Ast)(hn:xs.length=n)(p:Nat)(w:World)(cur:Array Value)(h:RowX eAst 43 w base (.slice (some ⟨g,0,none⟩) n cap) xs)(hb:base≤g)(hg:w.heap[g]?=some (.cells cur 43 (0,0)))(hs:cur.size=cap*5)(hm:cap≤maxLen)
    (hcs:∀ j v,((xs.map eAst.enc).flatten)[j]?=some v→w.cell? ⟨g,j,none⟩=some v) (hi:i<n) (hroom:n+1≤cap) (hbig:(n+1)*48≤140737488355328) (PC:Array Value) (hpc:(eAst.enc x).toArray=PC)
    (hp:w.heap[p]?=some (.cells PC 43 (0,0))) (hpg:p≠g) (hx:eAst.In w x) (hxo:eAst.Off g x) :
    Calls Tryz.prog 67 #[.slice (some ⟨g,0,none⟩) n cap,.int .i64 i,.slice (some ⟨p,0,none⟩) 1 1] w (RetIns eAst w base (.slice (some ⟨g,0,none⟩) n cap) xs x i):=by
 obtain⟨cs,hcse⟩:∃ cs,(xs.map eAst.enc).flatten=cs:=⟨_,rfl⟩;obtain⟨us,hus⟩:∃ us,eAst.enc x=us:=⟨_,rfl⟩;have hul:us.length=5:=by rw[← hus];exact eAst.len x
 have hcl:cs.length=n*5:=by rw[← hcse,flatten_len (map_len xs),List.length_map,hn];rfl
 have h1c:∀ v∈cs,v.oneCell'=true:=fun v hv=>by rw[← hcse]at hv;obtain⟨c,h1,h2⟩:=List.mem_flatten.1 hv;obtain⟨y,-,rfl⟩:=List.mem_map.1 h1;exact eAst.one y v h2
 have h1u:∀ v∈us,v.oneCell'=true:=fun v hv=>by rw[← hus]at hv;exact eAst.one x v hv
 have HFIN:=Hi (fun(w':World) hw=>RetIns.shift (x:=x) (i:=i) (w':=w') (hn ▸ h) hb hg (by omega) hm hs hcs (by omega) hx hxo hw);rw[hcse]at HFIN hcs;rw[hn]at HFIN;rw[hus]at HFIN hpc;have hps:PC.size=5:=by rw[← hpc];simpa using hul
 have hvs:∀ j v,us[j]?=some v→w.cell? ⟨p,j,none⟩=some v:=fun j v hj=>by rw[cell_of_row _ _ j _ _ _ hp,← hpc];simpa using hj
 have hsa:w.shape? p=some (43,5):=by unfold World.shape?;rw[hp];simp[hps]
 have hsb:w.shape? g=some (43,cap*5):=by unfold World.shape?;rw[hg];simp[hs]
 have hfa:=frozen_of_row _ _ 0 _ _ hp;have hfe:=frozen_of_row _ _ 5 _ _ hp;have hcap63:cap≤9223372036854775807:=by unfold maxLen at hm;omega
 have hov:∀ lb cb,(callFunc 98 #[.slice (some ⟨p,0,none⟩) 1 1,.slice (some ⟨g,(i+1)*5,none⟩) lb cb]).run Tryz.prog w=.ok (.value (.bool false)) w:=fun lb cb=>by
  rw[run_callFunc_extern Tryz.func98 (by kernel_rfl) (by kernel_rfl) (by kernel_rfl) (e:=Extern.SlicesOverlaps.overlaps #[27,27] #[4]) (by kernel_rfl),
   Lib.run_overlaps_apart w 27 4 43 Tryz.underlying27 5 (fun w=>by kernel_rfl) ⟨p,0,none⟩ ⟨g,(i+1)*5,none⟩ 1 1 lb cb hpg 43 43 5 (cap*5) hsa hsb (by omega) hfa hfe]
  rfl
 have hsz:(Tryz.prog.info? 43).map (·.size)=some 5:=by kernel_rfl
 have hdl:(cs.drop (i*5)).length=(n-i)*5:=by rw[List.length_drop,hcl,Nat.sub_mul]
 have hspn:∀ j,j<cap*5→(w.cell? ⟨g,j,none⟩).isSome=true:=fun j hj=>cells_some hg (by omega);have hfz:∀ j,w.frozen? ⟨g,j,none⟩=false:=fun j=>frozen_of_row _ _ j _ _ hg;have hcp1:∀ ty dc sc,(Builtin.copy_ #[27,27] ty #[.slice (some ⟨g,(i+1)*5,none⟩) (n-i) dc,.slice (some ⟨g,i*5,none⟩) (n+1-i) sc]).run Tryz.prog w.drew=.ok (goInt ((n-i:Nat):Int)) (w.drew.setCells g ((i+1)*5) (cs.drop (i*5))):=fun ty dc sc =>
  run_copy_cellsK 5 w.drew _ _ ty 43 g ((i+1)*5) (n-i) dc ⟨g,i*5,none⟩ (n+1-i) sc (n-i) (cs.drop (i*5)) Tryz.underlying27 hsz (by simp only[Nat.min_def];split <;> omega) hdl
   (fun j v hj=>by rw[Addr.add_lit];rw[List.getElem?_drop]at hj;exact hcs _ v hj)
   (fun j hj=>hspn _ (by rw[hdl]at hj;omega)) (fun j _=>hfz _) (fun v hv=>h1c v (List.mem_of_mem_drop hv))
 obtain⟨W1,hW1⟩:∃ W1,W1=w.drew.setCells g ((i+1)*5) (cs.drop (i*5)):=⟨_,rfl⟩;have hcp2:∀ (W:World),(∀ x,W.cell? x=W1.cell? x)→(∀ x,W.frozen? x=W1.frozen? x)→∀ ty dc,(Builtin.copy_ #[27,27] ty #[.slice (some ⟨g,i*5,none⟩) (n+1-i) dc,.slice (some ⟨p,0,none⟩) 1 1]).run Tryz.prog W=.ok (goInt 1) (W.setCells g (i*5) us):=fun W hWc hWf ty dc =>
  run_copy_cellsK 5 W _ _ ty 43 g (i*5) (n+1-i) dc ⟨p,0,none⟩ 1 1 1 us Tryz.underlying27 hsz (by simp only[Nat.min_def];split <;> omega) (by rw[hul])
   (fun j v hj=>by rw[Addr.add_lit,hWc,hW1,World.cell?_setCells_out g _ _ _ _ (fun h _=>absurd h hpg),Nat.zero_add];exact hvs j v hj)
   (fun j hj=>by rw[hWc,hW1];exact some_setCells g (cs.drop (i*5)) ((i+1)*5) w.drew (fun t ht=>hspn ((i+1)*5+t) (by rw[hdl]at ht;omega)) (i*5+j) (hspn (i*5+j) (by rw[hul]at hj;omega))) (fun j hj=>by rw[hWf,hW1,World.frozen?_setCells];exact hfz _) h1u
 rw[← hW1]at hcp1;have hz2:¬ ((i:Int)=(n:Int)):=by omega
 have hw1:IntKind.i64.wrap ((i:Int)+1)=(i:Int)+1:=by rw[IntKind.wrap_i64];omega
 have hw2:IntKind.i64.wrap ((n:Int)+1)=(n:Int)+1:=by rw[IntKind.wrap_i64];omega
 have hb1:(0:Int)≤(i:Int)+1:=by omega
 have hin:i≤n:=by omega
 have htn:((i:Int)+1).toNat=i+1:=by omega
 have hb2:¬ (cap=i+1):=by omega
 have hb3:(i:Int)≤(n:Int)+1:=by omega
 have hb4:¬ (cap=i):=by omega
 have mixed:Tryz.prog.follows .mixedOrders=true:=by kernel_rfl
 have HW1:=Hi hW1;have HUL:=Hi hul;clear hcs h1c h1u h hg hp hn hcse hus hvs hsa hsb hspn hfz hdl hpc hcl hx hxo hul;go_enter Tryz.func67,Tryz.ntmps67
 go_wp2_with (simp only[hov])
 go_region_law_o (refine step_copy_runI rfl _ _ 27 27 rfl _ _ (by simp[Act.eval,Act.put]) (by simp[Act.eval,Act.put]) (hcp1 _ _ _) ?_)
 go_wp2_with (at_builtin;refine wpList_copy_runI _ rfl _ _ 27 27 rfl _ _ rfl rfl (hcp2 _ (fun _=>rfl) (fun _=>rfl) _ _) ?_)
 go_ret;have hfin:=HFIN.out _ rfl;rw[show i*eAst.k+us.length=(i+1)*5 from by show i*5+us.length=_;rw[HUL.out];omega]at hfin
 first | exact hfin | (rw[← HW1.out]at hfin;exact hfin)
theorem zcAst:(.agg #[.int .i64 0,.int .i64 0,.string ⟨#[]⟩,.int .i64 0,.int .i64 0]:Value).cells.size=5:=rfl
theorem insGrowAst(base g n i:Nat)(xs:List Ast)(x:Ast)(hn:xs.length=n)(p:Nat)(w:World)(cur:Array Value)(h:RowX eAst 43 w base (.slice (some ⟨g,0,none⟩) n n) xs)(hbase:base≤w.heap.size)(hg:w.heap[g]?=some (.cells cur 43 (0,0)))
    (hcs:∀ j v,((xs.map eAst.enc).flatten)[j]?=some v→w.cell? ⟨g,j,none⟩=some v) (hi:i<n) (hbig:(n+1)*48≤140737488355328) (PC:Array Value) (hpc:(eAst.enc x).toArray=PC)
    (hp:w.heap[p]?=some (.cells PC 43 (0,0))) (hx:eAst.In w x) :
    Calls Tryz.prog 67 #[.slice (some ⟨g,0,none⟩) n n,.int .i64 i,.slice (some ⟨p,0,none⟩) 1 1] w (RetIns eAst w base (.slice (some ⟨g,0,none⟩) n n) xs x i):=by
 obtain⟨i0,hi0,hz0,hzs,hzb⟩:=info_parts infoAst;obtain⟨cs,hcse⟩:∃ cs,(xs.map eAst.enc).flatten=cs:=⟨_,rfl⟩;obtain⟨us,hus⟩:∃ us,eAst.enc x=us:=⟨_,rfl⟩;have hul:us.length=5:=by rw[← hus];exact eAst.len x
 have hcl:cs.length=n*5:=by rw[← hcse,flatten_len (map_len xs),List.length_map,hn];rfl
 have h1c:∀ v∈cs,v.oneCell'=true:=fun v hv=>by rw[← hcse]at hv;obtain⟨c,h1,h2⟩:=List.mem_flatten.1 hv;obtain⟨y,-,rfl⟩:=List.mem_map.1 h1;exact eAst.one y v h2
 have h1u:∀ v∈us,v.oneCell'=true:=fun v hv=>by rw[← hus]at hv;exact eAst.one x v hv
 have hgw:g<w.heap.size:=blk_lt hg;have hpw:p<w.heap.size:=blk_lt hp;have hsz:(Tryz.prog.info? 43).map (·.size)=some 5:=by kernel_rfl
 have hdl:(cs.drop (i*5)).length=(n-i)*5:=by rw[List.length_drop,hcl,Nat.sub_mul]
 have htl:(cs.take (i*5)).length=i*5:=by rw[List.length_take,hcl];omega
 have hvs:∀ j v,us[j]?=some v→w.cell? ⟨p,j,none⟩=some v:=fun j v hj=>by rw[cell_of_row _ _ j _ _ _ hp,← hpc,hus];simpa using hj
 obtain⟨G,hG⟩:∃ G,G=grownCap w (n+1) n 43:=⟨_,rfl⟩;obtain⟨ROW,hROW⟩:∃ ROW:Array Value,ROW=(cs.take (i*5)).toArray ++ Builtin.zeroCells (.agg #[.int .i64 0,.int .i64 0,.string ⟨#[]⟩,.int .i64 0,.int .i64 0]:Value).cells (n+1-i) ++ Builtin.zeroCells (.agg #[.int .i64 0,.int .i64 0,.string ⟨#[]⟩,.int .i64 0,.int .i64 0]:Value).cells (G-(n+1)):=⟨_,rfl⟩;have hGn:n+1≤G:=by rw[hG];exact grownCap_ge w _ _ _
 have hGm:G≤maxLen:=by rw[hG];exact grownCap_le_maxLen w (n+1) n 43 (by unfold maxLen;omega)
 have hG63:G≤9223372036854775807:=by unfold maxLen at hGm;omega
 have hRs:ROW.size=G*5:=by rw[hROW];simp only[Array.size_append,List.size_toArray,htl,Builtin.zeroCells,Array.size_map,Array.size_range,zcAst];omega
 have hold:(Builtin.firstCells i0.size i (.slice (some ⟨g,0,none⟩) i n)).run Tryz.prog w.drew=.ok (cs.take (i*5)).toArray w.drew:=by
  rw[hzs];exact run_firstCells_some w.drew 5 i ⟨g,0,none⟩ i n (cs.take (i*5)) htl (fun j v hj=>by
   rw[Addr.add_lit,Nat.zero_add];rw[List.getElem?_take]at hj;split at hj
   · exact hcs j v (by rw[hcse];exact hj)
   · cases hj)
 have hkk:(n:Int)+1-(i:Int)=((n+1-i:Nat):Int):=by omega
 have hik:i+(n+1-i)=n+1:=by omega
 have hrz:∀ ty,(Builtin.append_ #[27,3] ty #[.slice (some ⟨g,0,none⟩) i n,.int .i64 ((n:Int)+1-(i:Int))]).run Tryz.prog w=.ok (.slice (some ⟨w.heap.size,0,none⟩) (n+1) G) (w.drew.alloc (.cells ROW 43)):=fun ty=>by have h:=Lib.run_append_grow_zeros w 27 3 ty 43 i0 _ .i64 .i64 Tryz.underlying27 Tryz.underlying3 hi0 hz0 (some ⟨g,0,none⟩) i n (cs.take (i*5)) hold (n+1-i) (by omega) (by omega) (by omega) (by omega) (by rw[hzb];omega) (by rw[hzb,hik];exact growslice_fits (by omega) hbig);rw[hik,← hG,← hROW]at h;rw[hkk];exact h
 obtain⟨W1,hW1⟩:∃ W1,W1=w.drew.alloc (.cells ROW 43):=⟨_,rfl⟩;have hxe:Ext w W1:=by rw[hW1];exact(Ext.refl w).drew.alloc _
 have hblk:W1.heap[w.heap.size]?=some (.cells ROW 43 (0,0)):=by rw[hW1];exact heap_alloc_new w.drew _
 have hRc:∀ j v,(cs.take (i*5))[j]?=some v→W1.cell? ⟨w.heap.size,j,none⟩=some v:=fun j v hj=>by
  rw[cell_of_row _ _ j _ _ _ hblk,hROW];have hj2:j<i*5:=by have:=(List.getElem?_eq_some_iff.1 hj).1;omega
  rw[Array.getElem?_append_left (by simp only[Array.size_append,List.size_toArray,htl];omega),Array.getElem?_append_left (by simp only[List.size_toArray,htl];omega)];simpa using hj
 have HFIN:=Hi (fun(w':World) hw=>RetIns.grow (E:=eAst) (x:=x) (i:=i) (w':=w') (v:=.slice (some ⟨g,0,none⟩) n n) h.ins rfl hxe hbase hblk (by rw[hn];exact hGn) hGm hRs (by rw[hcse];exact hRc) (by omega) hx hw);rw[hcse,hn,hus]at HFIN;rw[hcse]at hcs;rw[← hW1]at hrz;have hN:∀ j,j<G*5→(W1.cell? ⟨w.heap.size,j,none⟩).isSome=true:=fun j hj=>cells_some hblk (by omega);have hNf:∀ j,W1.frozen? ⟨w.heap.size,j,none⟩=false:=fun j=>frozen_of_row _ _ j _ _ hblk;have hOb:∀ j v,w.cell? ⟨g,j,none⟩=some v→W1.cell? ⟨g,j,none⟩=some v:=fun j v h=>hxe.keep h;have hOv:∀ j v,w.cell? ⟨p,j,none⟩=some v→W1.cell? ⟨p,j,none⟩=some v:=fun j v h=>hxe.keep h;have hcpA:∀ (W:World),(∀ x,W.cell? x=W1.cell? x)→(∀ x,W.frozen? x=W1.frozen? x)→∀ ty dc,(Builtin.copy_ #[27,27] ty #[.slice (some ⟨w.heap.size,i*5,none⟩) (n+1-i) dc,.slice (some ⟨p,0,none⟩) 1 1]).run Tryz.prog W=.ok (goInt 1) (W.setCells w.heap.size (i*5) us):=fun W hWc hWf ty dc =>
  run_copy_cellsK 5 W _ _ ty 43 w.heap.size (i*5) (n+1-i) dc ⟨p,0,none⟩ 1 1 1 us Tryz.underlying27 hsz (by simp only[Nat.min_def];split <;> omega) (by rw[hul])
   (fun j v hj=>by rw[Addr.add_lit,hWc,Nat.zero_add];exact hOv _ v (hvs j v hj))
   (fun j hj=>by rw[hWc];exact hN (i*5+j) (by rw[hul]at hj;omega)) (fun j hj=>by rw[hWf];exact hNf _) h1u
 have hgN:g≠w.heap.size:=by omega
 have hcpB:∀ (W:World),(∀ x,W.cell? x=(W1.setCells w.heap.size (i*5) us).cell? x)→(∀ x,W.frozen? x=(W1.setCells w.heap.size (i*5) us).frozen? x)→∀ ty dc sc,(Builtin.copy_ #[27,27] ty #[.slice (some ⟨w.heap.size,(i+1)*5,none⟩) (n-i) dc,.slice (some ⟨g,i*5,none⟩) (n-i) sc]).run Tryz.prog W=.ok (goInt ((n-i:Nat):Int)) (W.setCells w.heap.size ((i+1)*5) (cs.drop (i*5))):=fun W hWc hWf ty dc sc =>
  run_copy_cellsK 5 W _ _ ty 43 w.heap.size ((i+1)*5) (n-i) dc ⟨g,i*5,none⟩ (n-i) sc (n-i) (cs.drop (i*5)) Tryz.underlying27 hsz (by simp only[Nat.min_def];split <;> omega) hdl
   (fun j v hj=>by rw[Addr.add_lit,hWc,World.cell?_setCells_out _ _ _ _ _ (fun h _=>absurd h hgN)];rw[List.getElem?_drop]at hj;exact hOb _ v (hcs _ v hj))
   (fun j hj=>by rw[hWc];exact some_setCells w.heap.size us (i*5) W1 (fun t ht=>hN (i*5+t) (by rw[hul]at ht;omega)) ((i+1)*5+j) (hN _ (by rw[hdl]at hj;omega)))
   (fun j hj=>by rw[hWf,World.frozen?_setCells];exact hNf _) (fun v hv=>h1c v (List.mem_of_mem_drop hv))
 have HUL:=Hi hul;subst hW1;have hE1:∀ x,((w.alloc (.cells ROW 43)).drew).cell? x=(w.drew.alloc (.cells ROW 43)).cell? x:=fun x=>rfl;have hE2:∀ x,((w.alloc (.cells ROW 43)).drew).frozen? x=(w.drew.alloc (.cells ROW 43)).frozen? x:=fun x=>rfl;have hF1:∀ x,(((w.alloc (.cells ROW 43)).drew.setCells w.heap.size (i*5) us).drew).cell? x=((w.drew.alloc (.cells ROW 43)).setCells w.heap.size (i*5) us).cell? x:=fun x=>rfl;have hF2:∀ x,(((w.alloc (.cells ROW 43)).drew.setCells w.heap.size (i*5) us).drew).frozen? x=((w.drew.alloc (.cells ROW 43)).setCells w.heap.size (i*5) us).frozen? x:=fun x=>rfl;have hz2:¬ ((i:Int)=(n:Int)):=by omega
 have hz3:(n:Int)<(n:Int)+1:=by omega
 have hw1:IntKind.i64.wrap ((i:Int)+1)=(i:Int)+1:=by rw[IntKind.wrap_i64];omega
 have hw2:IntKind.i64.wrap ((n:Int)+1)=(n:Int)+1:=by rw[IntKind.wrap_i64];omega
 have hw3:IntKind.i64.wrap ((n:Int)+1-(i:Int))=(n:Int)+1-(i:Int):=by rw[IntKind.wrap_i64];omega
 have hb1:(0:Int)≤(i:Int)+1:=by omega
 have hin:i≤n:=by omega
 have htn:((i:Int)+1).toNat=i+1:=by omega
 have hb3:(i:Int)≤(n:Int):=by omega
 have hGi:¬ (G=i):=by omega
 have hGim:¬ (G=i+1):=by omega
 have hci:¬ (n=i):=by omega
 have mixed:Tryz.prog.follows .mixedOrders=true:=by kernel_rfl
 clear hkk hik hold hROW hG hcs h1c h1u h hg hp hn hcse hus hvs hdl htl hpc hcl hx hul hRs hxe hblk hRc hN hNf hOb hOv hGm hGn;go_enter Tryz.func67,Tryz.ntmps67
 go_wp2_with (first
  | (at_builtin;refine Lib.wpList_append_run _ rfl _ _ _ _ rfl _ _ rfl rfl _ _ (hrz _) ?_)
  | (at_builtin;refine wpList_copy_runI _ rfl _ _ 27 27 rfl _ _ rfl rfl (hcpA _ hE1 hE2 _ _) ?_))
 go_region_law_o (refine step_copy_runI rfl _ _ 27 27 rfl (.slice (some ⟨w.heap.size,(i+1)*5,none⟩) (n-i) (G-(i+1))) (.slice (some ⟨g,i*5,none⟩) (n-i) (n-i)) (by simp[Act.eval,Act.put]) (by simp[Act.eval,Act.put]) (hcpB _ hF1 hF2 3 (G-(i+1)) (n-i)) ?_)
 go_wp2;go_ret;have hfin:=HFIN.out _ rfl;rw[show i*eAst.k+us.length=(i+1)*5 from by show i*5+us.length=_;rw[HUL.out];omega]at hfin;exact hfin
theorem insAst_any(base:Nat)(A:Option Addr)(c n i:Nat)(xs:List Ast)(x:Ast)(hn:xs.length=n)(p:Nat)(w:World)(h:RowX eAst 43 w base (.slice A n c) xs)(hbase:base≤w.heap.size)(hi:i≤n)(hbig:(n+1)*48≤140737488355328)
    (hp:w.heap[p]?=some (.cells (eAst.enc x).toArray 43 (0,0))) (hx:eAst.In w x) (hxo:∀ q,(Value.slice A n c).ownBlock=some q→eAst.Off q x∧p≠q) :
    Calls Tryz.prog 67 #[.slice A n c,.int .i64 i,.slice (some ⟨p,0,none⟩) 1 1] w (RetIns eAst w base (.slice A n c) xs x i):=by
 have hsl:Sl w 5 (some ⟨p,0,none⟩) [eAst.enc x]:=Or.inr ⟨p,0,rfl,blk_lt hp,fun j cs hj r v hr=>by
  cases j with
  | zero =>
   obtain rfl:eAst.enc x=cs:=by simpa using hj
   simp only[Nat.zero_mul,Nat.zero_add];rw[cell_of_row _ _ r _ _ _ hp];simpa using hr
  | succ j=>simp at hj⟩
 rcases Nat.lt_or_ge i n with hlt | hge
 · rcases h.own.2 with ⟨hv,-⟩ | ⟨g,cap,cur,hv,hb,hg,hnc,hm,hs,-⟩
   · injection hv with h1 h2 h3;have h4:=h.own.1;omega
   · injection hv with h1 h2 h3;subst h1 h3;have hcs:∀ j v,((xs.map eAst.enc).flatten)[j]?=some v→w.cell? ⟨g,j,none⟩=some v:=fun j v hj=>by have h5:=h.own.cells rfl j v hj;rwa [Addr.add_lit,Nat.zero_add]at h5
     by_cases hr:n+1≤c
     · exact insShiftAst base g c n i xs x hn p w cur h hb hg hs hm hcs hlt hr hbig _ rfl hp (hxo g rfl).2 hx (hxo g rfl).1
     · obtain rfl:c=n:=by omega
       exact insGrowAst base g c i xs x hn p w cur h hbase hg hcs hlt hbig _ rfl hp hx
 · obtain rfl:i=n:=by omega
   exact insEndAst base A c i xs x hn p w h hbase hbig hsl hx (fun q hq=>(hxo q hq).1)
theorem insEndEnt(base:Nat)(A:Option Addr)(c n:Nat)(xs:List EntL)(x:EntL)(hn:xs.length=n)(p:Nat)(w:World)(h:RowX eEntO 56 w base (.slice A n c) xs)(hbase:base≤w.heap.size)(hbig:(n+1)*136≤140737488355328)
    (hp:Sl w 7 (some ⟨p,0,none⟩) [eEntO.enc x]) (hx:eEntO.In w x) (hxo:∀ q,(Value.slice A n c).ownBlock=some q→eEntO.Off q x) :
    Calls Tryz.prog 72 #[.slice A n c,.int .i64 n,.slice (some ⟨p,0,none⟩) 1 1] w (RetIns eEntO w base (.slice A n c) xs x n):=by
 have H:=Hi h;have HN:=Hi hn;have hown0:w.ownsRow base 56 7 (.slice A n c) n (xs.map eEntO.enc).flatten:=by have h:=h.own;rw[hn]at h;exact h
 obtain⟨i0,hi0,hz0,hz1,hz2⟩:=info_parts infoEnt;obtain⟨v',w',hrun,hown',hgr,hat⟩:=run_append_sl (P:=Tryz.prog) w base 28 28 56 i0 (.agg #[.slice none 0 0,.int .i64 0,.int .i64 0,.slice none 0 0,.slice none 0 0,.slice none 0 0,.slice none 0 0]) 7 136 Tryz.underlying28 hi0 hz0 hz1 hz2 rfl (by decide) _ _ _ hown0 (some ⟨p,0,none⟩) 1 [eEntO.enc x] hp (fun c hc=>by obtain rfl:=List.mem_singleton.1 hc;exact eEntO.len x) (fun c hc=>by obtain rfl:=List.mem_singleton.1 hc;exact eEntO.one x) (by unfold maxLen;simp only[List.length_singleton];omega) hbig hbase;obtain⟨A',c',rfl⟩:=own_form hown';have e0:[eEntO.enc x].flatten=eEntO.enc x:=by simp
 rw[e0]at hown';have FIN:Hid (RetIns eEntO w base (.slice A n c) xs x n (.returned (.slice A' (n+1) c')) w'):=Hi (RetIns.end_ hn (h.app hx hxo (Ext.refl _) (by rw[hn];exact hown') hgr hat) hgr hat);have hsplit:(A=none∧n=0∧c=0)∨(∃ g,A=some ⟨g,0,none⟩):=by
  rcases H.out.own.2 with ⟨hv,-⟩ | ⟨g,cap,cur,hv,-⟩
  · injection hv with h1 h2 h3;rw[HN.out]at *;exact Or.inl ⟨h1,by omega,h3⟩
  · injection hv with h1 h2 h3;exact Or.inr ⟨g,h1⟩
 have hnc:n≤c:=by have:=H.out.slx;omega
 clear hown' hgr hat h hn hp hx hxo hown0 e0;have hrun2:(Builtin.append_ #[28,28] 28 #[.slice A n c,.slice (some ⟨p,0,none⟩) 1 1]).run Tryz.prog w=.ok (.slice A' (n+1) c') w':=hrun;clear hrun;rcases hsplit with ⟨rfl,rfl,rfl⟩ | ⟨g,rfl⟩
 · clear hnc;go_enter Tryz.func72,Tryz.ntmps72
   go_wp2_with (at_builtin;refine Lib.wpList_append_run _ rfl _ _ _ _ rfl _ _ rfl rfl _ _ hrun2 ?_)
   go_ret;exact FIN.out
 by_cases hcn:c=n
 · subst hcn;clear hnc;go_enter Tryz.func72,Tryz.ntmps72
   go_wp2_with (at_builtin;refine Lib.wpList_append_run _ rfl _ _ _ _ rfl _ _ rfl rfl _ _ hrun2 ?_)
   go_ret;exact FIN.out
 · go_enter Tryz.func72,Tryz.ntmps72
   go_wp2_with (at_builtin;refine Lib.wpList_append_run _ rfl _ _ _ _ rfl _ _ rfl rfl _ _ hrun2 ?_)
   go_ret;exact FIN.out
theorem insShiftEnt(base g cap n i:Nat)(xs:List EntL)(x:EntL)(hn:xs.length=n)(p:Nat)(w:World)(cur:Array Value)(h:RowX eEntO 56 w base (.slice (some ⟨g,0,none⟩) n cap) xs)(hb:base≤g)(hg:w.heap[g]?=some (.cells cur 56 (0,0)))(hs:cur.size=cap*7)(hm:cap≤maxLen)
    (hcs:∀ j v,((xs.map eEntO.enc).flatten)[j]?=some v→w.cell? ⟨g,j,none⟩=some v) (hi:i<n) (hroom:n+1≤cap) (hbig:(n+1)*136≤140737488355328) (PC:Array Value) (hpc:(eEntO.enc x).toArray=PC)
    (hp:w.heap[p]?=some (.cells PC 56 (0,0))) (hpg:p≠g) (hx:eEntO.In w x) (hxo:eEntO.Off g x) :
    Calls Tryz.prog 72 #[.slice (some ⟨g,0,none⟩) n cap,.int .i64 i,.slice (some ⟨p,0,none⟩) 1 1] w (RetIns eEntO w base (.slice (some ⟨g,0,none⟩) n cap) xs x i):=by
 obtain⟨cs,hcse⟩:∃ cs,(xs.map eEntO.enc).flatten=cs:=⟨_,rfl⟩;obtain⟨us,hus⟩:∃ us,eEntO.enc x=us:=⟨_,rfl⟩;have hul:us.length=7:=by rw[← hus];exact eEntO.len x
 have hcl:cs.length=n*7:=by rw[← hcse,flatten_len (map_len xs),List.length_map,hn];rfl
 have h1c:∀ v∈cs,v.oneCell'=true:=fun v hv=>by rw[← hcse]at hv;obtain⟨c,h1,h2⟩:=List.mem_flatten.1 hv;obtain⟨y,-,rfl⟩:=List.mem_map.1 h1;exact eEntO.one y v h2
 have h1u:∀ v∈us,v.oneCell'=true:=fun v hv=>by rw[← hus]at hv;exact eEntO.one x v hv
 have HFIN:=Hi (fun(w':World) hw=>RetIns.shift (x:=x) (i:=i) (w':=w') (hn ▸ h) hb hg (by omega) hm hs hcs (by omega) hx hxo hw);rw[hcse]at HFIN hcs;rw[hn]at HFIN;rw[hus]at HFIN hpc;have hps:PC.size=7:=by rw[← hpc];simpa using hul
 have hvs:∀ j v,us[j]?=some v→w.cell? ⟨p,j,none⟩=some v:=fun j v hj=>by rw[cell_of_row _ _ j _ _ _ hp,← hpc];simpa using hj
 have hsa:w.shape? p=some (56,7):=by unfold World.shape?;rw[hp];simp[hps]
 have hsb:w.shape? g=some (56,cap*7):=by unfold World.shape?;rw[hg];simp[hs]
 have hfa:=frozen_of_row _ _ 0 _ _ hp;have hfe:=frozen_of_row _ _ 7 _ _ hp;have hcap63:cap≤9223372036854775807:=by unfold maxLen at hm;omega
 have hov:∀ lb cb,(callFunc 107 #[.slice (some ⟨p,0,none⟩) 1 1,.slice (some ⟨g,(i+1)*7,none⟩) lb cb]).run Tryz.prog w=.ok (.value (.bool false)) w:=fun lb cb=>by
  rw[run_callFunc_extern Tryz.func107 (by kernel_rfl) (by kernel_rfl) (by kernel_rfl) (e:=Extern.SlicesOverlaps.overlaps #[28,28] #[4]) (by kernel_rfl),
   Lib.run_overlaps_apart w 28 4 56 Tryz.underlying28 7 (fun w=>by kernel_rfl) ⟨p,0,none⟩ ⟨g,(i+1)*7,none⟩ 1 1 lb cb hpg 56 56 7 (cap*7) hsa hsb (by omega) hfa hfe]
  rfl
 have hsz:(Tryz.prog.info? 56).map (·.size)=some 7:=by kernel_rfl
 have hdl:(cs.drop (i*7)).length=(n-i)*7:=by rw[List.length_drop,hcl,Nat.sub_mul]
 have hspn:∀ j,j<cap*7→(w.cell? ⟨g,j,none⟩).isSome=true:=fun j hj=>cells_some hg (by omega);have hfz:∀ j,w.frozen? ⟨g,j,none⟩=false:=fun j=>frozen_of_row _ _ j _ _ hg;have hcp1:∀ ty dc sc,(Builtin.copy_ #[28,28] ty #[.slice (some ⟨g,(i+1)*7,none⟩) (n-i) dc,.slice (some ⟨g,i*7,none⟩) (n+1-i) sc]).run Tryz.prog w.drew=.ok (goInt ((n-i:Nat):Int)) (w.drew.setCells g ((i+1)*7) (cs.drop (i*7))):=fun ty dc sc =>
  run_copy_cellsK 7 w.drew _ _ ty 56 g ((i+1)*7) (n-i) dc ⟨g,i*7,none⟩ (n+1-i) sc (n-i) (cs.drop (i*7)) Tryz.underlying28 hsz (by simp only[Nat.min_def];split <;> omega) hdl
   (fun j v hj=>by rw[Addr.add_lit];rw[List.getElem?_drop]at hj;exact hcs _ v hj)
   (fun j hj=>hspn _ (by rw[hdl]at hj;omega)) (fun j _=>hfz _) (fun v hv=>h1c v (List.mem_of_mem_drop hv))
 obtain⟨W1,hW1⟩:∃ W1,W1=w.drew.setCells g ((i+1)*7) (cs.drop (i*7)):=⟨_,rfl⟩;have hcp2:∀ (W:World),(∀ x,W.cell? x=W1.cell? x)→(∀ x,W.frozen? x=W1.frozen? x)→∀ ty dc,(Builtin.copy_ #[28,28] ty #[.slice (some ⟨g,i*7,none⟩) (n+1-i) dc,.slice (some ⟨p,0,none⟩) 1 1]).run Tryz.prog W=.ok (goInt 1) (W.setCells g (i*7) us):=fun W hWc hWf ty dc =>
  run_copy_cellsK 7 W _ _ ty 56 g (i*7) (n+1-i) dc ⟨p,0,none⟩ 1 1 1 us Tryz.underlying28 hsz (by simp only[Nat.min_def];split <;> omega) (by rw[hul])
   (fun j v hj=>by rw[Addr.add_lit,hWc,hW1,World.cell?_setCells_out g _ _ _ _ (fun h _=>absurd h hpg),Nat.zero_add];exact hvs j v hj)
   (fun j hj=>by rw[hWc,hW1];exact some_setCells g (cs.drop (i*7)) ((i+1)*7) w.drew (fun t ht=>hspn ((i+1)*7+t) (by rw[hdl]at ht;omega)) (i*7+j) (hspn (i*7+j) (by rw[hul]at hj;omega))) (fun j hj=>by rw[hWf,hW1,World.frozen?_setCells];exact hfz _) h1u
 rw[← hW1]at hcp1;have hz2:¬ ((i:Int)=(n:Int)):=by omega
 have hw1:IntKind.i64.wrap ((i:Int)+1)=(i:Int)+1:=by rw[IntKind.wrap_i64];omega
 have hw2:IntKind.i64.wrap ((n:Int)+1)=(n:Int)+1:=by rw[IntKind.wrap_i64];omega
 have hb1:(0:Int)≤(i:Int)+1:=by omega
 have hin:i≤n:=by omega
 have htn:((i:Int)+1).toNat=i+1:=by omega
 have hb2:¬ (cap=i+1):=by omega
 have hb3:(i:Int)≤(n:Int)+1:=by omega
 have hb4:¬ (cap=i):=by omega
 have mixed:Tryz.prog.follows .mixedOrders=true:=by kernel_rfl
 have HW1:=Hi hW1;have HUL:=Hi hul;clear hcs h1c h1u h hg hp hn hcse hus hvs hsa hsb hspn hfz hdl hpc hcl hx hxo hul;go_enter Tryz.func72,Tryz.ntmps72
 go_wp2_with (simp only[hov])
 go_region_law_o (refine step_copy_runI rfl _ _ 28 28 rfl _ _ (by simp[Act.eval,Act.put]) (by simp[Act.eval,Act.put]) (hcp1 _ _ _) ?_)
 go_wp2_with (at_builtin;refine wpList_copy_runI _ rfl _ _ 28 28 rfl _ _ rfl rfl (hcp2 _ (fun _=>rfl) (fun _=>rfl) _ _) ?_)
 go_ret;have hfin:=HFIN.out _ rfl;rw[show i*eEntO.k+us.length=(i+1)*7 from by show i*7+us.length=_;rw[HUL.out];omega]at hfin
 first | exact hfin | (rw[← HW1.out]at hfin;exact hfin)
theorem zcEnt:(.agg #[.slice none 0 0,.int .i64 0,.int .i64 0,.slice none 0 0,.slice none 0 0,.slice none 0 0,.slice none 0 0]:Value).cells.size=7:=rfl
theorem insGrowEnt(base g n i:Nat)(xs:List EntL)(x:EntL)(hn:xs.length=n)(p:Nat)(w:World)(cur:Array Value)(h:RowX eEntO 56 w base (.slice (some ⟨g,0,none⟩) n n) xs)(hbase:base≤w.heap.size)(hg:w.heap[g]?=some (.cells cur 56 (0,0)))
    (hcs:∀ j v,((xs.map eEntO.enc).flatten)[j]?=some v→w.cell? ⟨g,j,none⟩=some v) (hi:i<n) (hbig:(n+1)*136≤140737488355328) (PC:Array Value) (hpc:(eEntO.enc x).toArray=PC)
    (hp:w.heap[p]?=some (.cells PC 56 (0,0))) (hx:eEntO.In w x) :
    Calls Tryz.prog 72 #[.slice (some ⟨g,0,none⟩) n n,.int .i64 i,.slice (some ⟨p,0,none⟩) 1 1] w (RetIns eEntO w base (.slice (some ⟨g,0,none⟩) n n) xs x i):=by
 obtain⟨i0,hi0,hz0,hzs,hzb⟩:=info_parts infoEnt;obtain⟨cs,hcse⟩:∃ cs,(xs.map eEntO.enc).flatten=cs:=⟨_,rfl⟩;obtain⟨us,hus⟩:∃ us,eEntO.enc x=us:=⟨_,rfl⟩;have hul:us.length=7:=by rw[← hus];exact eEntO.len x
 have hcl:cs.length=n*7:=by rw[← hcse,flatten_len (map_len xs),List.length_map,hn];rfl
 have h1c:∀ v∈cs,v.oneCell'=true:=fun v hv=>by rw[← hcse]at hv;obtain⟨c,h1,h2⟩:=List.mem_flatten.1 hv;obtain⟨y,-,rfl⟩:=List.mem_map.1 h1;exact eEntO.one y v h2
 have h1u:∀ v∈us,v.oneCell'=true:=fun v hv=>by rw[← hus]at hv;exact eEntO.one x v hv
 have hgw:g<w.heap.size:=blk_lt hg;have hpw:p<w.heap.size:=blk_lt hp;have hsz:(Tryz.prog.info? 56).map (·.size)=some 7:=by kernel_rfl
 have hdl:(cs.drop (i*7)).length=(n-i)*7:=by rw[List.length_drop,hcl,Nat.sub_mul]
 have htl:(cs.take (i*7)).length=i*7:=by rw[List.length_take,hcl];omega
 have hvs:∀ j v,us[j]?=some v→w.cell? ⟨p,j,none⟩=some v:=fun j v hj=>by rw[cell_of_row _ _ j _ _ _ hp,← hpc,hus];simpa using hj
 obtain⟨G,hG⟩:∃ G,G=grownCap w (n+1) n 56:=⟨_,rfl⟩;obtain⟨ROW,hROW⟩:∃ ROW:Array Value,ROW=(cs.take (i*7)).toArray ++ Builtin.zeroCells (.agg #[.slice none 0 0,.int .i64 0,.int .i64 0,.slice none 0 0,.slice none 0 0,.slice none 0 0,.slice none 0 0]:Value).cells (n+1-i) ++ Builtin.zeroCells (.agg #[.slice none 0 0,.int .i64 0,.int .i64 0,.slice none 0 0,.slice none 0 0,.slice none 0 0,.slice none 0 0]:Value).cells (G-(n+1)):=⟨_,rfl⟩;have hGn:n+1≤G:=by rw[hG];exact grownCap_ge w _ _ _
 have hGm:G≤maxLen:=by rw[hG];exact grownCap_le_maxLen w (n+1) n 56 (by unfold maxLen;omega)
 have hG63:G≤9223372036854775807:=by unfold maxLen at hGm;omega
 have hRs:ROW.size=G*7:=by rw[hROW];simp only[Array.size_append,List.size_toArray,htl,Builtin.zeroCells,Array.size_map,Array.size_range,zcEnt];omega
 have hold:(Builtin.firstCells i0.size i (.slice (some ⟨g,0,none⟩) i n)).run Tryz.prog w.drew=.ok (cs.take (i*7)).toArray w.drew:=by
  rw[hzs];exact run_firstCells_some w.drew 7 i ⟨g,0,none⟩ i n (cs.take (i*7)) htl (fun j v hj=>by
   rw[Addr.add_lit,Nat.zero_add];rw[List.getElem?_take]at hj;split at hj
   · exact hcs j v (by rw[hcse];exact hj)
   · cases hj)
 have hkk:(n:Int)+1-(i:Int)=((n+1-i:Nat):Int):=by omega
 have hik:i+(n+1-i)=n+1:=by omega
 have hrz:∀ ty,(Builtin.append_ #[28,3] ty #[.slice (some ⟨g,0,none⟩) i n,.int .i64 ((n:Int)+1-(i:Int))]).run Tryz.prog w=.ok (.slice (some ⟨w.heap.size,0,none⟩) (n+1) G) (w.drew.alloc (.cells ROW 56)):=fun ty=>by have h:=Lib.run_append_grow_zeros w 28 3 ty 56 i0 _ .i64 .i64 Tryz.underlying28 Tryz.underlying3 hi0 hz0 (some ⟨g,0,none⟩) i n (cs.take (i*7)) hold (n+1-i) (by omega) (by omega) (by omega) (by omega) (by rw[hzb];omega) (by rw[hzb,hik];exact growslice_fits (by omega) hbig);rw[hik,← hG,← hROW]at h;rw[hkk];exact h
 obtain⟨W1,hW1⟩:∃ W1,W1=w.drew.alloc (.cells ROW 56):=⟨_,rfl⟩;have hxe:Ext w W1:=by rw[hW1];exact(Ext.refl w).drew.alloc _
 have hblk:W1.heap[w.heap.size]?=some (.cells ROW 56 (0,0)):=by rw[hW1];exact heap_alloc_new w.drew _
 have hRc:∀ j v,(cs.take (i*7))[j]?=some v→W1.cell? ⟨w.heap.size,j,none⟩=some v:=fun j v hj=>by
  rw[cell_of_row _ _ j _ _ _ hblk,hROW];have hj2:j<i*7:=by have:=(List.getElem?_eq_some_iff.1 hj).1;omega
  rw[Array.getElem?_append_left (by simp only[Array.size_append,List.size_toArray,htl];omega),Array.getElem?_append_left (by simp only[List.size_toArray,htl];omega)];simpa using hj
 have HFIN:=Hi (fun(w':World) hw=>RetIns.grow (E:=eEntO) (x:=x) (i:=i) (w':=w') (v:=.slice (some ⟨g,0,none⟩) n n) h.ins rfl hxe hbase hblk (by rw[hn];exact hGn) hGm hRs (by rw[hcse];exact hRc) (by omega) hx hw);rw[hcse,hn,hus]at HFIN;rw[hcse]at hcs;rw[← hW1]at hrz;have hN:∀ j,j<G*7→(W1.cell? ⟨w.heap.size,j,none⟩).isSome=true:=fun j hj=>cells_some hblk (by omega);have hNf:∀ j,W1.frozen? ⟨w.heap.size,j,none⟩=false:=fun j=>frozen_of_row _ _ j _ _ hblk;have hOb:∀ j v,w.cell? ⟨g,j,none⟩=some v→W1.cell? ⟨g,j,none⟩=some v:=fun j v h=>hxe.keep h;have hOv:∀ j v,w.cell? ⟨p,j,none⟩=some v→W1.cell? ⟨p,j,none⟩=some v:=fun j v h=>hxe.keep h;have hcpA:∀ (W:World),(∀ x,W.cell? x=W1.cell? x)→(∀ x,W.frozen? x=W1.frozen? x)→∀ ty dc,(Builtin.copy_ #[28,28] ty #[.slice (some ⟨w.heap.size,i*7,none⟩) (n+1-i) dc,.slice (some ⟨p,0,none⟩) 1 1]).run Tryz.prog W=.ok (goInt 1) (W.setCells w.heap.size (i*7) us):=fun W hWc hWf ty dc =>
  run_copy_cellsK 7 W _ _ ty 56 w.heap.size (i*7) (n+1-i) dc ⟨p,0,none⟩ 1 1 1 us Tryz.underlying28 hsz (by simp only[Nat.min_def];split <;> omega) (by rw[hul])
   (fun j v hj=>by rw[Addr.add_lit,hWc,Nat.zero_add];exact hOv _ v (hvs j v hj))
   (fun j hj=>by rw[hWc];exact hN (i*7+j) (by rw[hul]at hj;omega)) (fun j hj=>by rw[hWf];exact hNf _) h1u
 have hgN:g≠w.heap.size:=by omega
 have hcpB:∀ (W:World),(∀ x,W.cell? x=(W1.setCells w.heap.size (i*7) us).cell? x)→(∀ x,W.frozen? x=(W1.setCells w.heap.size (i*7) us).frozen? x)→∀ ty dc sc,(Builtin.copy_ #[28,28] ty #[.slice (some ⟨w.heap.size,(i+1)*7,none⟩) (n-i) dc,.slice (some ⟨g,i*7,none⟩) (n-i) sc]).run Tryz.prog W=.ok (goInt ((n-i:Nat):Int)) (W.setCells w.heap.size ((i+1)*7) (cs.drop (i*7))):=fun W hWc hWf ty dc sc =>
  run_copy_cellsK 7 W _ _ ty 56 w.heap.size ((i+1)*7) (n-i) dc ⟨g,i*7,none⟩ (n-i) sc (n-i) (cs.drop (i*7)) Tryz.underlying28 hsz (by simp only[Nat.min_def];split <;> omega) hdl
   (fun j v hj=>by rw[Addr.add_lit,hWc,World.cell?_setCells_out _ _ _ _ _ (fun h _=>absurd h hgN)];rw[List.getElem?_drop]at hj;exact hOb _ v (hcs _ v hj))
   (fun j hj=>by rw[hWc];exact some_setCells w.heap.size us (i*7) W1 (fun t ht=>hN (i*7+t) (by rw[hul]at ht;omega)) ((i+1)*7+j) (hN _ (by rw[hdl]at hj;omega)))
   (fun j hj=>by rw[hWf,World.frozen?_setCells];exact hNf _) (fun v hv=>h1c v (List.mem_of_mem_drop hv))
 have HUL:=Hi hul;subst hW1;have hE1:∀ x,((w.alloc (.cells ROW 56)).drew).cell? x=(w.drew.alloc (.cells ROW 56)).cell? x:=fun x=>rfl;have hE2:∀ x,((w.alloc (.cells ROW 56)).drew).frozen? x=(w.drew.alloc (.cells ROW 56)).frozen? x:=fun x=>rfl;have hF1:∀ x,(((w.alloc (.cells ROW 56)).drew.setCells w.heap.size (i*7) us).drew).cell? x=((w.drew.alloc (.cells ROW 56)).setCells w.heap.size (i*7) us).cell? x:=fun x=>rfl;have hF2:∀ x,(((w.alloc (.cells ROW 56)).drew.setCells w.heap.size (i*7) us).drew).frozen? x=((w.drew.alloc (.cells ROW 56)).setCells w.heap.size (i*7) us).frozen? x:=fun x=>rfl;have hz2:¬ ((i:Int)=(n:Int)):=by omega
 have hz3:(n:Int)<(n:Int)+1:=by omega
 have hw1:IntKind.i64.wrap ((i:Int)+1)=(i:Int)+1:=by rw[IntKind.wrap_i64];omega
 have hw2:IntKind.i64.wrap ((n:Int)+1)=(n:Int)+1:=by rw[IntKind.wrap_i64];omega
 have hw3:IntKind.i64.wrap ((n:Int)+1-(i:Int))=(n:Int)+1-(i:Int):=by rw[IntKind.wrap_i64];omega
 have hb1:(0:Int)≤(i:Int)+1:=by omega
 have hin:i≤n:=by omega
 have htn:((i:Int)+1).toNat=i+1:=by omega
 have hb3:(i:Int)≤(n:Int):=by omega
 have hGi:¬ (G=i):=by omega
 have hGim:¬ (G=i+1):=by omega
 have hci:¬ (n=i):=by omega
 have mixed:Tryz.prog.follows .mixedOrders=true:=by kernel_rfl
 clear hkk hik hold hROW hG hcs h1c h1u h hg hp hn hcse hus hvs hdl htl hpc hcl hx hul hRs hxe hblk hRc hN hNf hOb hOv hGm hGn;go_enter Tryz.func72,Tryz.ntmps72
 go_wp2_with (first
  | (at_builtin;refine Lib.wpList_append_run _ rfl _ _ _ _ rfl _ _ rfl rfl _ _ (hrz _) ?_)
  | (at_builtin;refine wpList_copy_runI _ rfl _ _ 28 28 rfl _ _ rfl rfl (hcpA _ hE1 hE2 _ _) ?_))
 go_region_law_o (refine step_copy_runI rfl _ _ 28 28 rfl (.slice (some ⟨w.heap.size,(i+1)*7,none⟩) (n-i) (G-(i+1))) (.slice (some ⟨g,i*7,none⟩) (n-i) (n-i)) (by simp[Act.eval,Act.put]) (by simp[Act.eval,Act.put]) (hcpB _ hF1 hF2 3 (G-(i+1)) (n-i)) ?_)
 go_wp2;go_ret;have hfin:=HFIN.out _ rfl;rw[show i*eEntO.k+us.length=(i+1)*7 from by show i*7+us.length=_;rw[HUL.out];omega]at hfin;exact hfin
theorem insEnt_any(base:Nat)(A:Option Addr)(c n i:Nat)(xs:List EntL)(x:EntL)(hn:xs.length=n)(p:Nat)(w:World)(h:RowX eEntO 56 w base (.slice A n c) xs)(hbase:base≤w.heap.size)(hi:i≤n)(hbig:(n+1)*136≤140737488355328)
    (hp:w.heap[p]?=some (.cells (eEntO.enc x).toArray 56 (0,0))) (hx:eEntO.In w x) (hxo:∀ q,(Value.slice A n c).ownBlock=some q→eEntO.Off q x∧p≠q) :
    Calls Tryz.prog 72 #[.slice A n c,.int .i64 i,.slice (some ⟨p,0,none⟩) 1 1] w (RetIns eEntO w base (.slice A n c) xs x i):=by
 have hsl:Sl w 7 (some ⟨p,0,none⟩) [eEntO.enc x]:=Or.inr ⟨p,0,rfl,blk_lt hp,fun j cs hj r v hr=>by
  cases j with
  | zero =>
   obtain rfl:eEntO.enc x=cs:=by simpa using hj
   simp only[Nat.zero_mul,Nat.zero_add];rw[cell_of_row _ _ r _ _ _ hp];simpa using hr
  | succ j=>simp at hj⟩
 rcases Nat.lt_or_ge i n with hlt | hge
 · rcases h.own.2 with ⟨hv,-⟩ | ⟨g,cap,cur,hv,hb,hg,hnc,hm,hs,-⟩
   · injection hv with h1 h2 h3;have h4:=h.own.1;omega
   · injection hv with h1 h2 h3;subst h1 h3;have hcs:∀ j v,((xs.map eEntO.enc).flatten)[j]?=some v→w.cell? ⟨g,j,none⟩=some v:=fun j v hj=>by have h5:=h.own.cells rfl j v hj;rwa [Addr.add_lit,Nat.zero_add]at h5
     by_cases hr:n+1≤c
     · exact insShiftEnt base g c n i xs x hn p w cur h hb hg hs hm hcs hlt hr hbig _ rfl hp (hxo g rfl).2 hx (hxo g rfl).1
     · obtain rfl:c=n:=by omega
       exact insGrowEnt base g c i xs x hn p w cur h hbase hg hcs hlt hbig _ rfl hp hx
 · obtain rfl:i=n:=by omega
   exact insEndEnt base A c i xs x hn p w h hbase hbig hsl hx (fun q hq=>(hxo q hq).1)
end Bk
end Go.Proofs.YtfnmgcblhebdbaaGreatDoor
namespace Go.Proofs.YtfnmgcblhebdbaaGreatDoor
open Go.RowKit
namespace Bk
theorem OwnBk.keep{N q:Nat}{b:BankL}{w w':World}{cur:Array Value}{T:TypeId}{fr:Nat×Nat}(h:OwnBk N b w)(hq:w.heap[q]?=some (.cells cur T fr))(h1:3≠T)(h2:41≠T)(h3:43≠T)(h4:56≠T)(h5:80≠T)(ho:∀ x∈b.ents,eEntO.Off q x)(hb:But q w w'):OwnBk N b w' :=
 ⟨h.now,h.p.keepT hq h1 (fun _ _=>trivial) hb,h.q.keepT hq h1 (fun _ _=>trivial) hb,h.o.keepT hq h2 (fun _ _=>trivial) hb,h.s.keepT hq h3 (fun _ _=>trivial) hb,h.e.keepT hq h4 ho hb,h.ef,h.pw,h.eo,h.es,h.n.keepT hq h5 (fun _ _=>trivial) hb⟩
structure Nm (N g:Nat)(CB:Array Value)(b:BankL)(w:World):Prop where
 row:w.heap[g]?=some (.cells CB 31 (0,0))
 own:OwnBk N b w
 off:∀ x∈b.ents,eEntO.Off g x
theorem Nm.ext{N g:Nat}{CB:Array Value}{b:BankL}{w w':World}(h:Nm N g CB b w)(he:Ext w w'):Nm N g CB b w':=⟨he.blockAt h.row,h.own.ext he,h.off⟩
theorem Nm.store{N g:Nat}{CB:Array Value}{b:BankL}{w:World}(h:Nm N g CB b w)(o:Nat)(v:Value):Nm N g (CB.setIfInBounds o v) b (w.setCell ⟨g,o,none⟩ v) :=
 ⟨heap_setCell_same _ _ _ _ _ _ h.row,h.own.keep h.row (by decide) (by decide) (by decide) (by decide) (by decide) h.off (But.setCell w ⟨g,o,none⟩ v),h.off⟩
def KeepB (T:TypeId)(w w':World):Prop:=∀ (n:Nat) (cs:Array Value) (U:TypeId) (fr:Nat×Nat),U≠T→w.heap[n]?=some (.cells cs U fr)→w'.heap[n]?=some (.cells cs U fr)
theorem KeepB.ext{T:TypeId}{w w':World}(he:Ext w w'):KeepB T w w':=fun _ _ _ _ _ h=>he.blockAt h
theorem KeepB.but{T:TypeId}{w w':World}{q:Nat}{cur:Array Value}{fr:Nat×Nat}(hq:w.heap[q]?=some (.cells cur T fr))(hb:But q w w'):KeepB T w w':=fun n cs U fr' hne h=>by
 rw[hb.2 n (blk_lt h) (fun e=>by rw[e,hq]at h;injection h with h;injection h with _ h;exact hne h.symm)]
 exact h
theorem OffR.ins{w:World}{v:Value}{xs:List EntL}{A:Option Addr}{n c:Nat}(h:OffR v xs)(hin:∀ x∈xs,eEntO.In w x)(hat:∀ a,A=some a→v.ownBlock=some a.block∨w.heap.size≤a.block):OffR (.slice A n c) xs:=fun y hy q hq=>by
 cases A with
 | none=>cases hq
 | some a =>
  injection hq with hq;subst hq;rcases hat a rfl with h1 | h1
  · exact h y hy _ h1
  · exact eEntO.off (hin y hy) h1
def BankL.setO (b:BankL)(A:Option Addr)(c:Nat)(o:List Tpc):BankL:={ b with oA:=A,oc:=c,outl:=o }
theorem setO_cells(b:BankL)(A:Option Addr)(c:Nat)(o:List Tpc):(b.setO A c o).cells.toArray=b.cells.toArray.setIfInBounds 3 (.slice A o.length c):=rfl
def BankL.setS (b:BankL)(A:Option Addr)(c:Nat)(o:List Ast):BankL:={ b with aA:=A,ac:=c,assets:=o }
theorem setS_cells(b:BankL)(A:Option Addr)(c:Nat)(o:List Ast):(b.setS A c o).cells.toArray=b.cells.toArray.setIfInBounds 4 (.slice A o.length c):=rfl
def BankL.setE (b:BankL)(A:Option Addr)(c:Nat)(o:List EntL):BankL:={ b with eA:=A,ec:=c,ents:=o }
theorem setE_cells(b:BankL)(A:Option Addr)(c:Nat)(o:List EntL):(b.setE A c o).cells.toArray=b.cells.toArray.setIfInBounds 5 (.slice A o.length c):=rfl
def BankL.setN (b:BankL)(A:Option Addr)(c:Nat)(o:List (Int×Int)):BankL:={ b with nA:=A,nc:=c,enem:=o }
theorem setN_cells(b:BankL)(A:Option Addr)(c:Nat)(o:List (Int×Int)):(b.setN A c o).cells.toArray=b.cells.toArray.setIfInBounds 6 (.slice A o.length c):=rfl
def BankL.setT (b:BankL)(t:Int):BankL:={ b with now:=t }
theorem setT_cells(b:BankL)(t:Int):(b.setT t).cells.toArray=b.cells.toArray.setIfInBounds 0 (.int .i64 t):=rfl
theorem Nm.insO{N g i:Nat}{CB:Array Value}{b:BankL}{w w':World}{x:Tpc}{e:Ending}(h:Nm N g CB b w)(hr:RetIns eTpc w N (.slice b.oA b.outl.length b.oc) b.outl x i e w')(hi:i≤b.outl.length) :
    ∃ A c,e=.returned (.slice A (b.outl.length+1) c)∧Nm N g CB (b.setO A c (b.outl.take i ++ x :: b.outl.drop i)) w'∧KeepB 41 w w':=by
 obtain⟨⟨A,c,rfl,hrow,hat⟩,hnil,hbut,-⟩:=hr;have heo:=h.own.eo.ins (n:=(b.outl.take i ++ x :: b.outl.drop i).length) (c:=c) h.own.e.ins hat;rw[← ins_len b.outl x hi]at hrow;refine⟨A,c,rfl,?_⟩;cases hv:(Value.slice b.oA b.outl.length b.oc).ownBlock with
 | none=>have he:=hnil hv;exact⟨⟨he.blockAt h.row,⟨h.own.now,h.own.p.ext he,h.own.q.ext he,hrow,h.own.s.ext he,h.own.e.ext he,h.own.ef,h.own.pw,heo,h.own.es,h.own.n.ext he⟩,h.off⟩,KeepB.ext he⟩
 | some q =>
  have hb:=hbut q hv;obtain⟨cur,hq⟩:=own_block h.own.o.own q hv;exact⟨⟨KeepB.but hq hb _ _ _ _ (by decide) h.row,⟨h.own.now,h.own.p.keepT hq (by decide) (fun _ _=>trivial) hb,h.own.q.keepT hq (by decide) (fun _ _=>trivial) hb,hrow,h.own.s.keepT hq (by decide) (fun _ _=>trivial) hb,
   h.own.e.keepT hq (by decide) (fun y hy=>h.own.eo y hy q hv) hb,h.own.ef,h.own.pw,heo,h.own.es,h.own.n.keepT hq (by decide) (fun _ _=>trivial) hb⟩,h.off⟩,KeepB.but hq hb⟩
theorem Nm.insS{N g i:Nat}{CB:Array Value}{b:BankL}{w w':World}{x:Ast}{e:Ending}(h:Nm N g CB b w)(hr:RetIns eAst w N (.slice b.aA b.assets.length b.ac) b.assets x i e w')(hi:i≤b.assets.length) :
    ∃ A c,e=.returned (.slice A (b.assets.length+1) c)∧Nm N g CB (b.setS A c (b.assets.take i ++ x :: b.assets.drop i)) w'∧KeepB 43 w w':=by
 obtain⟨⟨A,c,rfl,hrow,hat⟩,hnil,hbut,-⟩:=hr;have heo:=h.own.es.ins (n:=(b.assets.take i ++ x :: b.assets.drop i).length) (c:=c) h.own.e.ins hat;rw[← ins_len b.assets x hi]at hrow;refine⟨A,c,rfl,?_⟩;cases hv:(Value.slice b.aA b.assets.length b.ac).ownBlock with
 | none=>have he:=hnil hv;exact⟨⟨he.blockAt h.row,⟨h.own.now,h.own.p.ext he,h.own.q.ext he,h.own.o.ext he,hrow,h.own.e.ext he,h.own.ef,h.own.pw,h.own.eo,heo,h.own.n.ext he⟩,h.off⟩,KeepB.ext he⟩
 | some q =>
  have hb:=hbut q hv;obtain⟨cur,hq⟩:=own_block h.own.s.own q hv;exact⟨⟨KeepB.but hq hb _ _ _ _ (by decide) h.row,⟨h.own.now,h.own.p.keepT hq (by decide) (fun _ _=>trivial) hb,h.own.q.keepT hq (by decide) (fun _ _=>trivial) hb,h.own.o.keepT hq (by decide) (fun _ _=>trivial) hb,hrow,
   h.own.e.keepT hq (by decide) (fun y hy=>h.own.es y hy q hv) hb,h.own.ef,h.own.pw,h.own.eo,heo,h.own.n.keepT hq (by decide) (fun _ _=>trivial) hb⟩,h.off⟩,KeepB.but hq hb⟩
theorem Nm.insE{N g i:Nat}{CB:Array Value}{b:BankL}{w w':World}{x:EntL}{e:Ending}(h:Nm N g CB b w)(hr:RetIns eEntO w N (.slice b.eA b.ents.length b.ec) b.ents x i e w')(hi:i≤b.ents.length)(hf:eEntO.From N x)(hpw:∀ y∈b.ents,Apart y x)
    (heo:∀ q,(Value.slice b.oA b.outl.length b.oc).ownBlock=some q→eEntO.Off q x) (hes:∀ q,(Value.slice b.aA b.assets.length b.ac).ownBlock=some q→eEntO.Off q x) (hog:eEntO.Off g x) :
    ∃ A c,e=.returned (.slice A (b.ents.length+1) c)∧Nm N g CB (b.setE A c (b.ents.take i ++ x :: b.ents.drop i)) w'∧KeepB 56 w w':=by
 obtain⟨⟨A,c,rfl,hrow,hat⟩,hnil,hbut,-⟩:=hr;rw[← ins_len b.ents x hi]at hrow;have hef:∀ y∈b.ents.take i ++ x :: b.ents.drop i,eEntO.From N y:=fun y hy=>(mem_ins hy).elim (h.own.ef y) (fun e=>e ▸ hf);have heo2:OffR (.slice b.oA b.outl.length b.oc) (b.ents.take i ++ x :: b.ents.drop i):=fun y hy=>(mem_ins hy).elim (h.own.eo y) (fun e=>e ▸ heo);have hes2:OffR (.slice b.aA b.assets.length b.ac) (b.ents.take i ++ x :: b.ents.drop i):=fun y hy=>(mem_ins hy).elim (h.own.es y) (fun e=>e ▸ hes);have hof2:∀ y∈b.ents.take i ++ x :: b.ents.drop i,eEntO.Off g y:=fun y hy=>(mem_ins hy).elim (h.off y) (fun e=>e ▸ hog);have hp2:=h.own.pw.ins hpw i;refine⟨A,c,rfl,?_⟩;cases hv:(Value.slice b.eA b.ents.length b.ec).ownBlock with
 | none=>have he:=hnil hv;exact⟨⟨he.blockAt h.row,⟨h.own.now,h.own.p.ext he,h.own.q.ext he,h.own.o.ext he,h.own.s.ext he,hrow,hef,hp2,heo2,hes2,h.own.n.ext he⟩,hof2⟩,KeepB.ext he⟩
 | some q =>
  have hb:=hbut q hv;obtain⟨cur,hq⟩:=own_block h.own.e.own q hv;exact⟨⟨KeepB.but hq hb _ _ _ _ (by decide) h.row,⟨h.own.now,h.own.p.keepT hq (by decide) (fun _ _=>trivial) hb,h.own.q.keepT hq (by decide) (fun _ _=>trivial) hb,h.own.o.keepT hq (by decide) (fun _ _=>trivial) hb,h.own.s.keepT hq (by decide) (fun _ _=>trivial) hb,
   hrow,hef,hp2,heo2,hes2,h.own.n.keepT hq (by decide) (fun _ _=>trivial) hb⟩,hof2⟩,KeepB.but hq hb⟩
end Bk
namespace Bk
section
variable {P:Program}
theorem run_storeVar_at(w:World)(b o:Nat)(ty:TypeId)(cells:Array Value)(hi:(P.info? ty).map (·.size)=some cells.size)
    (hc:∀ j,j<cells.toList.length→(w.cell? ⟨b,o+j,none⟩).isSome=true) (hf:∀ j,j<cells.toList.length→w.frozen? ⟨b,o+j,none⟩=false) (h1:cells.all (·.oneCell')=true) :
    (storeVar ty ⟨b,o,none⟩ (.agg cells)).run P w=.ok () (w.setCells b o cells.toList):=by
 have:=run_storeCells_cells (P:=P) b o cells.toList 0 w (by simpa using hc) (by simpa using hf) (fun v hv=>(Array.all_eq_true_iff_forall_mem.1 h1) v (by simpa using hv));cases hq:P.info? ty with
 | none=>simp[hq]at hi
 | some i =>
  have hs:cells.size=i.size:=by simp[hq]at hi;omega
  simp[storeVar,sizeOf,typeInfo,hq,Value.cells,hs,this]
theorem exec_store_at{ev:Operand→Value}{o:Oper}{w:World}(ty:TypeId)(x y:Operand)(ho:o.op=.store ty x y)(b off:Nat)(cells:Array Value)(hx:ev x=.pointer (some ⟨b,off,none⟩))(hy:ev y=.agg cells)
    (hi:(P.info? ty).map (·.size)=some cells.size) (hc:∀ j,j<cells.toList.length→(w.cell? ⟨b,off+j,none⟩).isSome=true) (hf:∀ j,j<cells.toList.length→w.frozen? ⟨b,off+j,none⟩=false) (h1:cells.all (·.oneCell')=true) :
    (execOp ev o).run P w=.ok .skip (w.setCells b off cells.toList):=by
 unfold execOp;simp only[ho,hx,hy,Instr.storeAt,Instr.sureAddr,Sem.run_bind,Sem.run_pure,Result.andThen_ok,run_storeVar_at w b off ty cells hi hc hf h1]
theorem wpList_store_at{ops:Array Oper}{rest:List Oper}{o:Oper}{a:Act}{w:World}{Q:Exit→Act→World→Prop}(hgd:o.guard=none)(ty:TypeId)(x y:Operand)(ho:o.op=.store ty x y)
    (b off:Nat) (cells:Array Value) (hx:a.eval x=.pointer (some ⟨b,off,none⟩)) (hy:a.eval y=.agg cells)
    (hi:(P.info? ty).map (·.size)=some cells.size) (hc:∀ j,j<cells.toList.length→(w.cell? ⟨b,off+j,none⟩).isSome=true) (hf:∀ j,j<cells.toList.length→w.frozen? ⟨b,off+j,none⟩=false) (h1:cells.all (·.oneCell')=true)
    (h:wpList P ops Q rest (a.put o.dst undef) (w.setCells b off cells.toList)):wpList P ops Q (o :: rest) a w:=by
 refine wpList_plain hgd fun K hK=>?_;unfold Oper.wp;rw[exec_store_at (ev:=a.eval) ty x y ho b off cells hx hy hi hc hf h1];exact hK _ _ h
end
theorem set_map{X Y:Type}(f:X→Y)(xs:List X)(k:Nat)(x:X):(xs.set k x).map f=(xs.map f).set k (f x):=List.map_set
theorem RowX.put{X:Type}{E:Elt X}{T:TypeId}{w:World}{base q n c k o:Nat}{xs:List X}{e e':X}{vs:List Value}(h:RowX E T w base (.slice (some ⟨q,0,none⟩) n c) xs)(hk:xs[k]?=some e)(hin:E.In w e')(hoff:E.Off q e')(ho:o+vs.length≤E.k)
    (h1:∀ (r:Nat) (v:Value),o≤r→r<o+vs.length→(E.enc e')[r]?=some v→vs[r-o]?=some v) (h2:∀ (r:Nat) (v:Value),(r<o∨o+vs.length≤r)→(E.enc e')[r]?=some v→(E.enc e)[r]?=some v) :
    RowX E T (w.setCells q (k*E.k+o) vs) base (.slice (some ⟨q,0,none⟩) n c) (xs.set k e'):=by
 have hb:But q w (w.setCells q (k*E.k+o) vs):=But.setCells q _ _ w;have hkl:k<xs.length:=(List.getElem?_eq_some_iff.1 hk).1;have hkn:(k+1)*E.k≤xs.length*E.k:=Nat.mul_le_mul_right _ hkl;rw[Nat.succ_mul]at hkn;obtain⟨-,hn,hxc,-⟩:=h.slx;refine⟨?_,fun x hx=>?_,fun g hg x hx=>?_⟩
 · rcases h.own.2 with ⟨hv,-⟩ | ⟨g,cap,cur,hv,hbg,hg,hnc,hm,hs,-⟩
   · cases hv
   · injection hv with hv1 hv2 hv3;injection hv1 with hv1;injection hv1 with hv1;subst hv1 hv3;obtain⟨cur',hg',hs'⟩:=setCells_blk (g:=q) vs (k*E.k+o) w cur hg;have hcap:xs.length*E.k≤c*E.k:=Nat.mul_le_mul_right _ hxc;have hxs:(xs.set k e').length=xs.length:=List.length_set;rw[hxs];have hv2':n=xs.length:=hn.symm;rw[hv2'];refine own_of_cells _ hg' hbg hxc hm (by rw[hs',hs]) (by rw[flatten_len (map_len _),List.length_map,hxs]) (fun j v hj=>?_);have hold:∀ (i r:Nat) (x:X) (v:Value),xs[i]?=some x→(E.enc x)[r]?=some v→w.cell? ⟨q,i*E.k+r,none⟩=some v:=fun i r x v hx hr=>by have h5:=h.own.cells rfl (i*E.k+r) v (flatten_at (map_len xs) (by rw[List.getElem?_map,hx];rfl) hr);rwa [Addr.add_lit,Nat.zero_add]at h5
     obtain⟨i,r,cs,hi,hr,rfl⟩:=flatten_inv (map_len (xs.set k e')) hj;rw[List.getElem?_map]at hi;obtain⟨x,hx,rfl⟩:=Option.map_eq_some_iff.1 hi;have hrk:r<E.k:=(by rw[← E.len x];exact(List.getElem?_eq_some_iff.1 hr).1);by_cases hik:i=k
     · subst hik;rw[List.getElem?_set_self hkl]at hx;injection hx with hx;subst hx;by_cases hin2:o≤r∧r<o+vs.length
       · have hv:=h1 r v hin2.1 hin2.2 hr;obtain⟨hvl,hve⟩:=List.getElem?_eq_some_iff.1 hv;have h6:=World.cell?_setCells_in q vs (i*E.k+o) w (fun t ht=>cells_some hg (by omega)) (r-o) hvl;rw[show i*E.k+o+(r-o)=i*E.k+r by omega]at h6;rw[h6,hve]
       · rw[World.cell?_setCells_out q vs (i*E.k+o) w _ (fun _ _=>by show i*E.k+r<_∨_≤i*E.k+r;omega)];exact hold i r e v hk (h2 r v (by omega) hr)
     · rw[List.getElem?_set_ne (fun h=>hik h.symm)]at hx;rw[World.cell?_setCells_out q vs (k*E.k+o) w _ (fun _ _=>by
        show i*E.k+r<_∨_≤i*E.k+r;rcases Nat.lt_or_gt_of_ne hik with hlt | hlt
        · have:=Nat.mul_le_mul_right E.k (show i+1≤k by omega);rw[Nat.succ_mul]at this;omega
        · have:=Nat.mul_le_mul_right E.k (show k+1≤i by omega);rw[Nat.succ_mul]at this;omega)]
       exact hold i r x v hx hr
 · rcases List.mem_or_eq_of_mem_set hx with hx | rfl
   · exact E.but (h.ins x hx) (h.off q rfl x hx) hb
   · exact E.but hin hoff hb
 · injection hg with hg;subst hg;rcases List.mem_or_eq_of_mem_set hx with hx | rfl
   · exact h.off _ rfl x hx
   · exact hoff
theorem Pw.set{xs:List EntL}{k:Nat}{y:EntL}(h:Pw xs)(hy:∀ (j:Nat) (x:EntL),j≠k→xs[j]?=some x→Apart x y):Pw (xs.set k y):=by
 rw[Pw,List.pairwise_iff_getElem]at *;intro i j hi hj hij;rw[List.length_set]at hi hj;rw[List.getElem_set,List.getElem_set];split
 · split
   · omega
   · rename_i h1 h2
     exact(hy j _ (fun e=>h2 e.symm) (List.getElem?_eq_getElem hj)).symm
 · split
   · rename_i h1 h2
     exact hy i _ (fun e=>h1 e.symm) (List.getElem?_eq_getElem hi)
   · exact h i j hi hj hij
theorem Nm.putE{N g k q o:Nat}{CB:Array Value}{b:BankL}{w:World}{e e':EntL}{vs:List Value}(h:Nm N g CB b w)(hq:b.eA=some ⟨q,0,none⟩)(hk:b.ents[k]?=some e)(hin:eEntO.In w e')(hoff:eEntO.Off q e')(hf:eEntO.From N e')(hpw:∀ (j:Nat) (x:EntL),j≠k→b.ents[j]?=some x→Apart x e')
    (heo:∀ q,(Value.slice b.oA b.outl.length b.oc).ownBlock=some q→eEntO.Off q e') (hes:∀ q,(Value.slice b.aA b.assets.length b.ac).ownBlock=some q→eEntO.Off q e') (hog:eEntO.Off g e') (ho:o+vs.length≤7)
    (h1:∀ (r:Nat) (v:Value),o≤r→r<o+vs.length→(e'.cells)[r]?=some v→vs[r-o]?=some v) (h2:∀ (r:Nat) (v:Value),(r<o∨o+vs.length≤r)→(e'.cells)[r]?=some v→(e.cells)[r]?=some v) :
    Nm N g CB (b.setE b.eA b.ec (b.ents.set k e')) (w.setCells q (k*7+o) vs):=by
 have hrow:=h.own.e;rw[hq]at hrow;have hb:But q w (w.setCells q (k*7+o) vs):=But.setCells q _ _ w;obtain⟨cur,hqb⟩:=own_block hrow.own q rfl;have hlen:(b.ents.set k e').length=b.ents.length:=List.length_set;have hm:∀ {p:EntL→Prop},(∀ x∈b.ents,p x)→p e'→∀ x∈b.ents.set k e',p x:=fun ha hb x hx=>(List.mem_or_eq_of_mem_set hx).elim (ha x) (fun e=>e ▸ hb);refine⟨KeepB.but hqb hb _ _ _ _ (by decide) h.row,⟨h.own.now,h.own.p.keepT hqb (by decide) (fun _ _=>trivial) hb,h.own.q.keepT hqb (by decide) (fun _ _=>trivial) hb,h.own.o.keepT hqb (by decide) (fun _ _=>trivial) hb,h.own.s.keepT hqb (by decide) (fun _ _=>trivial) hb,?_,hm h.own.ef hf,h.own.pw.set hpw,hm h.own.eo heo,hm h.own.es hes,h.own.n.keepT hqb (by decide) (fun _ _=>trivial) hb⟩,hm h.off hog⟩;have h3:=hrow.put (E:=eEntO) hk hin hoff ho h1 h2;show RowX eEntO _ _ N (.slice b.eA (b.ents.set k e').length b.ec) (b.ents.set k e');rw[hq,hlen];exact h3
theorem putE_cells(b:BankL)(k:Nat)(e':EntL):(b.setE b.eA b.ec (b.ents.set k e')).cells.toArray=b.cells.toArray:=by unfold BankL.setE BankL.cells;rw[List.length_set]
end Bk
namespace Bk
theorem RowX.frm{X:Type}{E:Elt X}{T:TypeId}{w:World}{N n c:Nat}{A:Option Addr}{xs:List X}(h:RowX E T w N (.slice A n c) xs)(hi:∀ x∈xs,E.From N x):FromX E N A xs:=by obtain⟨A',c',e,-,-,hf,-⟩:=h.sl;injection e with e1 e2 e3;subst e1;exact⟨hf,hi⟩
theorem OwnBk.from_{N:Nat}{b:BankL}{w:World}(h:OwnBk N b w):b.From N :=
 ⟨h.p.frm.a,h.q.frm.a,h.o.frm (fun _ _=>trivial),h.s.frm (fun _ _=>trivial),⟨(h.e.frm h.ef).a,fun x hx=>(h.ef x hx).1⟩,h.n.frm⟩
end Bk
end Go.Proofs.YtfnmgcblhebdbaaGreatDoor
