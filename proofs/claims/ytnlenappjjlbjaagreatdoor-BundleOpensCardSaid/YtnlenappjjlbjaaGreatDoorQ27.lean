/- codec.Decode: a contract. Conditions: those of each theorem. -/
import Derived.Test.YtnlenappjjlbjaaGreatDoorQ25
import Derived.Defers
import Derived.Recover
import Derived.Laws.Pointers
import Derived.Test.YtnlenappjjlbjaaGreatDoorQ19
namespace Go.Proofs.YtnlenappjjlbjaaGreatDoor
open Go.ChangeShapes Go.WideShapes Go.ChangeAt Go.RowKit Go.Shelf
theorem node_all (W0:World) (g:Nat) (A:Option Addr) (bs:List Int) (hB:Bu.Byt bs) (n c:Nat) (hc:n≤c) (hn:n≤1048576) (en:Int):∀ f,f≤8→NodeAt W0 g A bs n c en f
 | 0,_=>node_zero W0 g A bs n c en
 | f+1,h=>node_succ W0 g A bs hB n c hc hn en f (by omega) (node_all W0 g A bs hB n c hc hn en f (by omega))
theorem wp_tmps {P:Program} {c:Code} {Q:Exit→Act→World→Prop} {d:List Deferred} {w:World} {t t':Array Value} (h:t=t') (hw:Code.wp P c Q ⟨t',d⟩ w):Code.wp P c Q ⟨t,d⟩ w:=by subst h;exact hw
theorem sizeA (w:World) (o:Obj):(w.alloc o).heap.size=w.heap.size+1:=by
 show (w.heap.push o).size=_
 simp
theorem results_cells3 {P : Program} {fn : Func} {p p1 p2 : Tmp} {ty ty1 ty2 : TypeId} (h : fn.results = #[.cell p ty, .cell p1 ty1, .cell p2 ty2]) (tmps : Array Value) (w : World) (g : Nat) (t : TypeId) (cs : Array Value) (fr : Nat × Nat) (d : TypeDesc)
    (hp:tmps.getD p undef=.pointer (some ⟨g,0,none⟩)) (hg:w.heap[g]?=some (.cells cs t fr))
    (hu:P.underlying ty=some d) (hd:(match d with | .struct _ | .array _ _=>true | _=>false)=true) (hi:(P.info? ty).map (·.size)=some cs.size)
    (a1:Addr) (v1:Value) (hp1:tmps.getD p1 undef=.pointer (some a1)) (hl1:(loadVar ty1 a1).run P w=.ok v1 w) (a2:Addr) (v2:Value) (hp2:tmps.getD p2 undef=.pointer (some a2)) (hl2:(loadVar ty2 a2).run P w=.ok v2 w) :
    (results fn tmps).run P w=.ok (.tuple #[.agg cs,v1,v2]) w:=by
 have hp':tmps[p]?.getD undef=.pointer (some ⟨g,0,none⟩):=by simpa using hp
 have hp1':tmps[p1]?.getD undef=.pointer (some a1):=by simpa using hp1
 have hp2':tmps[p2]?.getD undef=.pointer (some a2):=by simpa using hp2
 simp [results,h,hp',hp1',hp2',asAddr,run_loadVar_row w g t ty cs fr d hg hu hd hi,hl1,hl2]
set_option maxRecDepth 100000 in
set_option maxHeartbeats 25600000 in
theorem rec_panicking (p : Nat) (er a1 a2 : Int) (CA : Array Value) (hCA : CA.size = 5) (older : List PanicEntry) (w : World) (h0 : w.heap[p]? = some (.cells CA 52 (0, 0))) (h1 : w.heap[p + 1]? = some (.cells #[.int .i64 a1] 3 (0, 0))) (h2 : w.heap[p + 2]? = some (.cells #[.int .i64 a2] 25 (0, 0))) :
    CallsD Tryz.prog 106 #[.pointer (some ⟨p,0,none⟩),.pointer (some ⟨p+1,0,none⟩),.pointer (some ⟨p+2,0,none⟩)] (.panicking ({ v:=.iface 110 (.int .i64 er),recovered:=false } :: older)) w fun e u' w' =>
     e=.returned (.tuple #[])∧u'=.panicking ({ v:=.iface 110 (.int .i64 er),recovered:=true } :: older)∧w'=((w.setRow p #[.int .i64 0,.int .i64 0,.int .i64 0,.string ⟨#[]⟩,.slice none 0 0]).setCell ⟨p+1,0,none⟩ (.int .i64 0)).setCell ⟨p+2,0,none⟩ (.int .i64 er):=by
 refine callsD_of_wpS Tryz.func106 rfl fun c₀ cs hu=>?_
 apply wpS_seq
 apply wpS_region
 have hta:(Instr.typeAssert (.iface 110 (.int .i64 er)) 20 110 true).run Tryz.prog w=.ok (.tuple #[.int .i64 er,.bool true]) w:=by
  simp [Instr.typeAssert,go_sem]
 simp [wpOpsS,go_sem,recoverD,hu,Tryz.ntmps106,Exit.thenS,hta]
 refine wpS_of_wp ?_
 obtain ⟨w1,hw1⟩:∃ W,w.setRow p #[.int .i64 0,.int .i64 0,.int .i64 0,.string ⟨#[]⟩,.slice none 0 0]=W:=⟨_,rfl⟩
 have g1:w1.heap[p+1]?=some (.cells #[.int .i64 a1] 3 (0,0)):=by rw [← hw1,setRow_other _ _ (show p+1≠p by omega)];exact h1
 have g2:w1.heap[p+2]?=some (.cells #[.int .i64 a2] 25 (0,0)):=by rw [← hw1,setRow_other _ _ (show p+2≠p by omega)];exact h2
 have hc1:w1.cell? ⟨p+1,0,none⟩=some (.int .i64 a1):=by rw [cell_of_row _ _ 0 _ _ _ g1];rfl
 have hc2:w1.cell? ⟨p+2,0,none⟩=some (.int .i64 a2):=by rw [cell_of_row _ _ 0 _ _ _ g2];rfl
 have hf1:=frozen_row g1 0
 have hf2:=frozen_row g2 0
 rw [hw1]
 have HW:=Hi hw1
 clear g1 g2 h1 h2 hw1 hta hu
 refine wp_tmps (t':=#[.pointer (some ⟨p,0,none⟩),.pointer (some ⟨p+1,0,none⟩),.pointer (some ⟨p+2,0,none⟩),.int .i64 er,.bool true,.tuple #[.int .i64 er,.bool true],.iface 110 (.int .i64 er),.tuple #[.int .i64 er,.bool true],.int .i64 er,.bool true,undef,undef,undef]) (by kernel_rfl) ?_
 go_wp2_with (refine wpList_store_row rfl _ _ _ rfl p #[.int .i64 0,.int .i64 0,.int .i64 0,.string ⟨#[]⟩,.slice none 0 0] rfl rfl _ CA h0 (by kernel_rfl) hCA (by simp [Value.oneCell']) ?_;rw [HW.out])
 simp [bodyPostS,results,Tryz.results106]
set_option maxRecDepth 100000 in
set_option maxHeartbeats 25600000 in
theorem rec_idle (p : Nat) (w : World) :
    CallsD Tryz.prog 106 #[.pointer (some ⟨p,0,none⟩),.pointer (some ⟨p+1,0,none⟩),.pointer (some ⟨p+2,0,none⟩)] .returning w fun e u' w'=>e=.returned (.tuple #[])∧u'=.returning∧w'=w:=by
 refine callsD_of_wpS Tryz.func106 rfl fun c₀ cs hu=>?_
 apply wpS_seq
 apply wpS_region
 have hta:(Instr.typeAssert .nilIface 20 110 true).run Tryz.prog w=.ok (.tuple #[.int .i64 0,.bool false]) w:=by
  simp [Instr.typeAssert,go_sem]
 simp [wpOpsS,go_sem,recoverD,hu,Tryz.ntmps106,Exit.thenS,hta]
 refine wpS_of_wp ?_
 refine wp_tmps (t':=#[.pointer (some ⟨p,0,none⟩),.pointer (some ⟨p+1,0,none⟩),.pointer (some ⟨p+2,0,none⟩),.int .i64 0,.bool false,.tuple #[.int .i64 0,.bool false],.nilIface,.tuple #[.int .i64 0,.bool false],.int .i64 0,.bool false,undef,undef,undef]) (by kernel_rfl) ?_
 go_wp2
 cases c₀
 simp_all [bodyPostS,results,Tryz.results106]
def DecB (R:Except Int (Nd×List Int)) (n lo:Nat) (e:Ending) (w':World):Prop:=match R with
 | .error er=>e=.returned (.tuple #[.agg #[.int .i64 0,.int .i64 0,.int .i64 0,.string ⟨#[]⟩,.slice none 0 0],.int .i64 0,.int .i64 er])
 | .ok (x,l)=>l.length≤n∧∃ M,e=.returned (.tuple #[nda x M,.int .i64 ((n-l.length:Nat):Int),.int .i64 0])∧KidsP 1024 (fun b=>lo≤b) 8 w' M x.kids
set_option maxRecDepth 100000 in
set_option maxHeartbeats 25600000 in
theorem cdecode_any (A : Option Addr) (bs : List Int) (hB : Bu.Byt bs) (n c : Nat) (hnb : bs.length = n) (hc : n ≤ c) (hn : n ≤ 1048576) (w : World) (h : SlU w A bs) :
    Calls Tryz.prog 78 #[.slice A n c] w fun e w'=>DecB (Bu.dNd 4 8 bs) n w.heap.size e w'∧Ext w w':=by
 have hmf:∀ (fn:Fn) (first cap:Array Value) (w:World),(Instr.makeFunc fn first cap).run Tryz.prog w=.ok (.func fn first cap) w:=fun _ _ _ _=>rfl
 have hi2:¬ (1048576:Int)<(n:Int):=by omega
 go_enter_defers Tryz.func78,Tryz.ntmps78
 go_wp2_with fail
 obtain ⟨W4,hW4⟩:∃ W,((((w.alloc (Obj.cells #[.int .i64 0,.int .i64 0,.int .i64 0,.string ⟨#[]⟩,.slice none 0 0] 52)).alloc (Obj.cells #[.int .i64 0] 3)).alloc (Obj.cells #[.int .i64 0] 25)).alloc (Obj.cells #[.slice A n c,.int .i64 0,.int .i64 4] 113))=W:=⟨_,rfl⟩
 rw [hW4]
 have hE4:Ext w W4:=by rw [← hW4];exact ((((Ext.refl w).alloc _).alloc _).alloc _).alloc _
 obtain ⟨W1,hW1⟩:∃ W,w.alloc (Obj.cells #[.int .i64 0,.int .i64 0,.int .i64 0,.string ⟨#[]⟩,.slice none 0 0] 52)=W:=⟨_,rfl⟩
 have s1:W1.heap.size=w.heap.size+1:=by rw [← hW1];exact sizeA w _
 have p1:W1.heap[w.heap.size]?=some (.cells #[.int .i64 0,.int .i64 0,.int .i64 0,.string ⟨#[]⟩,.slice none 0 0] 52 (0,0)):=by rw [← hW1];exact heap_alloc_new w _
 rw [hW1] at hW4
 obtain ⟨W2,hW2⟩:∃ W,W1.alloc (Obj.cells #[.int .i64 0] 3)=W:=⟨_,rfl⟩
 have s2:W2.heap.size=w.heap.size+1+1:=by rw [← hW2,sizeA,s1]
 have p2:W2.heap[w.heap.size+1]?=some (.cells #[.int .i64 0] 3 (0,0)):=by rw [← hW2,← s1];exact heap_alloc_new W1 _
 have e2:Ext W1 W2:=by rw [← hW2];exact (Ext.refl W1).alloc _
 rw [hW2] at hW4
 obtain ⟨W3,hW3⟩:∃ W,W2.alloc (Obj.cells #[.int .i64 0] 25)=W:=⟨_,rfl⟩
 have s3:W3.heap.size=w.heap.size+1+1+1:=by rw [← hW3,sizeA,s2]
 have p3:W3.heap[w.heap.size+1+1]?=some (.cells #[.int .i64 0] 25 (0,0)):=by rw [← hW3,← s2];exact heap_alloc_new W2 _
 have e3:Ext W2 W3:=by rw [← hW3];exact (Ext.refl W2).alloc _
 rw [hW3] at hW4
 have hS4:W4.heap.size=w.heap.size+1+1+1+1:=by rw [← hW4,sizeA,s3]
 have e4:Ext W3 W4:=by rw [← hW4];exact (Ext.refl W3).alloc _
 have b0:=e4.blockAt (e3.blockAt (e2.blockAt p1))
 have b1:=e4.blockAt (e3.blockAt p2)
 have b2:=e4.blockAt p3
 have b3:W4.heap[w.heap.size+1+1+1]?=some (.cells #[.slice A n c,.int .i64 0,.int .i64 4] 113 (0,0)):=by rw [← hW4,← s3];exact heap_alloc_new W3 _
 have hRd:RdAt w W4 (w.heap.size+1+1+1) A n c 0 4:=⟨b3,hE4,by omega⟩
 have hRs:Rst w A bs n 0 bs:=⟨h,hnb,rfl,by omega⟩
 clear hW1 hW2 hW3 s1 s2 s3 p1 p2 p3 e2 e3 e4
 clear hW4
 have hN:Calls Tryz.prog 107 #[.pointer (some ⟨w.heap.size+1+1+1,0,none⟩),.int .i64 1] W4 _:=node_all w _ A bs hB n c hc hn 4 8 (Nat.le_refl 8) 0 bs W4 hRs hRd
 with_reducible refine hN.mono ?_
 clear hN
 rintro e w5 ⟨hE5,hF5,hR⟩
 have d0:=hF5.blk b0 (by omega)
 have d1:=hF5.blk b1 (by omega)
 have d2:=hF5.blk b2 (by omega)
 have d3:w5.heap.size ≥ W4.heap.size:=hF5.1
 rcases hD:Bu.dNd 4 8 bs with er | ⟨x,l⟩
 · rw [hD] at hR
   have hR:e=.panicked (failed er):=hR
   subst hR
   refine leaves_cons (f:=106) (args:=#[.pointer (some ⟨w.heap.size,0,none⟩),.pointer (some ⟨w.heap.size+1,0,none⟩),.pointer (some ⟨w.heap.size+1+1,0,none⟩)]) (by simp) (by simp [go_sem]) ?_
   refine (rec_panicking w.heap.size er 0 0 _ rfl [] w5 d0 d1 d2).mono ?_
   rintro e u w6 ⟨rfl,rfl,hw6⟩
   have r0:w6.heap[w.heap.size]?=some (.cells #[.int .i64 0,.int .i64 0,.int .i64 0,.string ⟨#[]⟩,.slice none 0 0] 52 (0,0)):=by
    rw [hw6,Below.heap_setCell _ _ _ _ (by simp),Below.heap_setCell _ _ _ _ (by simp),setRow_heap _ _ _ _ _ _ d0]
   have q1:((w5.setRow w.heap.size #[.int .i64 0,.int .i64 0,.int .i64 0,.string ⟨#[]⟩,.slice none 0 0]).setCell ⟨w.heap.size+1,0,none⟩ (.int .i64 0)).heap[w.heap.size+1]?=some (.cells #[.int .i64 0] 3 (0,0)):=by
    rw [heap_setCell_same _ _ 0 _ _ _ ((setRow_other _ _ (show w.heap.size+1≠w.heap.size by omega)).trans d1)];rfl
   have q2:((w5.setRow w.heap.size #[.int .i64 0,.int .i64 0,.int .i64 0,.string ⟨#[]⟩,.slice none 0 0]).setCell ⟨w.heap.size+1,0,none⟩ (.int .i64 0)).heap[w.heap.size+1+1]?=some (.cells #[.int .i64 0] 25 (0,0)):=by
    rw [Below.heap_setCell _ _ _ _ (show w.heap.size+1+1≠w.heap.size+1 by omega),setRow_other _ _ (show w.heap.size+1+1≠w.heap.size by omega)];exact d2
   have r1:w6.cell? ⟨w.heap.size+1,0,none⟩=some (.int .i64 0):=by
    rw [hw6,cell_of_row _ _ 0 _ _ _ ((Below.heap_setCell _ _ _ _ (show w.heap.size+1≠w.heap.size+1+1 by omega)).trans q1)];rfl
   have r2:w6.cell? ⟨w.heap.size+1+1,0,none⟩=some (.int .i64 er):=by
    rw [hw6,cell_of_row _ _ 0 _ _ _ (heap_setCell_same _ _ 0 _ _ _ q2)];rfl
   have hE6:Ext w w6:=by rw [hw6];exact ((hE5.setRow (Nat.le_refl _) _).setCell (by simp) _).setCell (by simp) _
   clear hw6
   refine ⟨.tuple #[.agg #[.int .i64 0,.int .i64 0,.int .i64 0,.string ⟨#[]⟩,.slice none 0 0],.int .i64 0,.int .i64 er],results_cells3 Tryz.results78 _ _ w.heap.size _ _ _ _ rfl r0 Tryz.underlying52 rfl (by kernel_rfl) ⟨w.heap.size+1,0,none⟩ _ rfl (by simp [go_sem,r1]) ⟨w.heap.size+1+1,0,none⟩ _ rfl (by simp [go_sem,r2]),?_,hE6⟩
   rw [hD]
   rfl
 · rw [hD] at hR
   obtain ⟨v,he,⟨M,hv,hK⟩,hl,hr⟩:=hR
   subst he
   have HD:=Hi hD
   have HK:=Hi hK
   have HV:Hid (v=nda x M):=Hi hv
   have HL:=Hi hl
   have HR:=Hi hr
   have HE5:=Hi hE5
   have HS:Hid (w5.heap.size ≥ w.heap.size+1+1+1+1):=Hi (by omega)
   have H0:=Hi d0
   have H1:=Hi d1
   have H2:=Hi d2
   obtain ⟨tg,kd,nn,ss,Ak,lk,ck,hCS⟩:∃ (tg kd nn:Int) (ss:ByteArray) (Ak:Option Addr) (lk ck:Nat),nda x M=.agg #[.int .i64 tg,.int .i64 kd,.int .i64 nn,.string ss,.slice Ak lk ck]:=⟨_,_,_,_,_,_,_,rfl⟩
   have HC:=Hi hCS
   rw [hCS] at hv
   subst hv
   have HW4:=Hi hS4
   clear hK hl hr hE5 d0 d1 d2 hCS hD b0 b1 b2 b3 hRd hRs hF5 d3 hS4 hE4
   go_wp2_with (refine wpList_store_row rfl _ _ _ rfl w.heap.size #[.int .i64 tg,.int .i64 kd,.int .i64 nn,.string ss,.slice Ak lk ck] rfl rfl _ #[.int .i64 0,.int .i64 0,.int .i64 0,.string ⟨#[]⟩,.slice none 0 0] H0.out (by kernel_rfl) rfl (by simp [Value.oneCell']) ?_)
   have HR1:=setRow_at (cs':=#[.int .i64 tg,.int .i64 kd,.int .i64 nn,.string ss,.slice Ak lk ck]) H0.out
   obtain ⟨W6,hW6⟩:∃ W,w5.setRow w.heap.size #[.int .i64 tg,.int .i64 kd,.int .i64 nn,.string ss,.slice Ak lk ck]=W:=⟨_,rfl⟩
   have HRD:=HR.out.rowO (show w.heap.size≠w.heap.size+1+1+1 by omega) (Nat.le_refl _) #[.int .i64 tg,.int .i64 kd,.int .i64 nn,.string ss,.slice Ak lk ck]
   have H1':=(setRow_other w5 #[.int .i64 tg,.int .i64 kd,.int .i64 nn,.string ss,.slice Ak lk ck] (show w.heap.size+1≠w.heap.size by omega)).trans H1.out
   rw [hW6] at HR1 HRD
   rw [hW6]
   have H2':=(setRow_other w5 #[.int .i64 tg,.int .i64 kd,.int .i64 nn,.string ss,.slice Ak lk ck] (show w.heap.size+1+1≠w.heap.size by omega)).trans H2.out
   rw [hW6] at H1' H2'
   have HS6:W6.heap.size=w5.heap.size:=by rw [← hW6];simp [World.setRow]
   have G6:∀ q,q≠w.heap.size→W6.heap[q]?=w5.heap[q]?:=fun q hq=>by rw [← hW6];exact setRow_other w5 _ hq
   clear hW6
   have hc1:W6.cell? ⟨w.heap.size+1,0,none⟩=some (.int .i64 0):=by rw [cell_of_row _ _ 0 _ _ _ H1'];rfl
   have hc2:W6.cell? ⟨w.heap.size+1+1,0,none⟩=some (.int .i64 0):=by rw [cell_of_row _ _ 0 _ _ _ H2'];rfl
   have hf00:=frozen_row HR1 0
   have hf01:=frozen_row HR1 1
   have hf02:=frozen_row HR1 2
   have hf03:=frozen_row HR1 3
   have hf04:=frozen_row HR1 4
   have hf1:=frozen_row H1' 0
   have hf2:=frozen_row H2' 0
   obtain ⟨-,hr1,-,-⟩:=HRD.cells
   have HRD:=Hi HRD
   have HR1:=Hi HR1
   have H1':=Hi H1'
   have H2':=Hi H2'
   have hk0:W6.cell? ⟨w.heap.size,0,none⟩=some (.int .i64 tg):=by rw [cell_of_row _ _ 0 _ _ _ HR1.out];rfl
   have hk1:W6.cell? ⟨w.heap.size,1,none⟩=some (.int .i64 kd):=by rw [cell_of_row _ _ 1 _ _ _ HR1.out];rfl
   have hk2:W6.cell? ⟨w.heap.size,2,none⟩=some (.int .i64 nn):=by rw [cell_of_row _ _ 2 _ _ _ HR1.out];rfl
   have hk3:W6.cell? ⟨w.heap.size,3,none⟩=some (.string ss):=by rw [cell_of_row _ _ 3 _ _ _ HR1.out];rfl
   have hk4:W6.cell? ⟨w.heap.size,4,none⟩=some (.slice Ak lk ck):=by rw [cell_of_row _ _ 4 _ _ _ HR1.out];rfl
   go_wp2_with fail
   dsimp only [Act.put]
   go_region
   go_wp2_with fail
   have k0:(W6.setCell ⟨w.heap.size,0,none⟩ (.int .i64 tg)).heap[w.heap.size]?=some (.cells #[.int .i64 tg,.int .i64 kd,.int .i64 nn,.string ss,.slice Ak lk ck] 52 (0,0)):=by rw [heap_setCell_same _ _ 0 _ _ _ HR1.out];rfl
   have k1:((W6.setCell ⟨w.heap.size,0,none⟩ (.int .i64 tg)).setCell ⟨w.heap.size,1,none⟩ (.int .i64 kd)).heap[w.heap.size]?=some (.cells #[.int .i64 tg,.int .i64 kd,.int .i64 nn,.string ss,.slice Ak lk ck] 52 (0,0)):=by rw [heap_setCell_same _ _ 1 _ _ _ k0];rfl
   have k2:(((W6.setCell ⟨w.heap.size,0,none⟩ (.int .i64 tg)).setCell ⟨w.heap.size,1,none⟩ (.int .i64 kd)).setCell ⟨w.heap.size,2,none⟩ (.int .i64 nn)).heap[w.heap.size]?=some (.cells #[.int .i64 tg,.int .i64 kd,.int .i64 nn,.string ss,.slice Ak lk ck] 52 (0,0)):=by rw [heap_setCell_same _ _ 2 _ _ _ k1];rfl
   have k3:((((W6.setCell ⟨w.heap.size,0,none⟩ (.int .i64 tg)).setCell ⟨w.heap.size,1,none⟩ (.int .i64 kd)).setCell ⟨w.heap.size,2,none⟩ (.int .i64 nn)).setCell ⟨w.heap.size,3,none⟩ (.string ss)).heap[w.heap.size]?=some (.cells #[.int .i64 tg,.int .i64 kd,.int .i64 nn,.string ss,.slice Ak lk ck] 52 (0,0)):=by rw [heap_setCell_same _ _ 3 _ _ _ k2];rfl
   have k4:(((((W6.setCell ⟨w.heap.size,0,none⟩ (.int .i64 tg)).setCell ⟨w.heap.size,1,none⟩ (.int .i64 kd)).setCell ⟨w.heap.size,2,none⟩ (.int .i64 nn)).setCell ⟨w.heap.size,3,none⟩ (.string ss)).setCell ⟨w.heap.size,4,none⟩ (.slice Ak lk ck)).heap[w.heap.size]?=some (.cells #[.int .i64 tg,.int .i64 kd,.int .i64 nn,.string ss,.slice Ak lk ck] 52 (0,0)):=by rw [heap_setCell_same _ _ 4 _ _ _ k3];rfl
   have g4:∀ q,q≠w.heap.size→(((((W6.setCell ⟨w.heap.size,0,none⟩ (.int .i64 tg)).setCell ⟨w.heap.size,1,none⟩ (.int .i64 kd)).setCell ⟨w.heap.size,2,none⟩ (.int .i64 nn)).setCell ⟨w.heap.size,3,none⟩ (.string ss)).setCell ⟨w.heap.size,4,none⟩ (.slice Ak lk ck)).heap[q]?=W6.heap[q]?:=fun q hq=>by
    rw [Below.heap_setCell _ _ _ _ hq,Below.heap_setCell _ _ _ _ hq,Below.heap_setCell _ _ _ _ hq,Below.heap_setCell _ _ _ _ hq,Below.heap_setCell _ _ _ _ hq]
   have E4:Ext w (((((W6.setCell ⟨w.heap.size,0,none⟩ (.int .i64 tg)).setCell ⟨w.heap.size,1,none⟩ (.int .i64 kd)).setCell ⟨w.heap.size,2,none⟩ (.int .i64 nn)).setCell ⟨w.heap.size,3,none⟩ (.string ss)).setCell ⟨w.heap.size,4,none⟩ (.slice Ak lk ck)) :=
    ((((HRD.out.ext.setCell (Nat.le_refl _) _).setCell (Nat.le_refl _) _).setCell (Nat.le_refl _) _).setCell (Nat.le_refl _) _).setCell (Nat.le_refl _) _
   have hz4:(((((W6.setCell ⟨w.heap.size,0,none⟩ (.int .i64 tg)).setCell ⟨w.heap.size,1,none⟩ (.int .i64 kd)).setCell ⟨w.heap.size,2,none⟩ (.int .i64 nn)).setCell ⟨w.heap.size,3,none⟩ (.string ss)).setCell ⟨w.heap.size,4,none⟩ (.slice Ak lk ck)).heap.size=w5.heap.size:=by rw [← HS6];simp [World.setCell]
   generalize (((((W6.setCell ⟨w.heap.size,0,none⟩ (.int .i64 tg)).setCell ⟨w.heap.size,1,none⟩ (.int .i64 kd)).setCell ⟨w.heap.size,2,none⟩ (.int .i64 nn)).setCell ⟨w.heap.size,3,none⟩ (.string ss)).setCell ⟨w.heap.size,4,none⟩ (.slice Ak lk ck))=W7 at *
   have j1:(W7.setCell ⟨w.heap.size+1,0,none⟩ (.int .i64 ((n-l.length:Nat):Int))).heap[w.heap.size+1]?=some (.cells #[.int .i64 ((n-l.length:Nat):Int)] 3 (0,0)):=by
    rw [heap_setCell_same _ _ 0 _ _ _ ((g4 (w.heap.size+1) (by omega)).trans H1'.out)];rfl
   have j2:(W7.setCell ⟨w.heap.size+1,0,none⟩ (.int .i64 ((n-l.length:Nat):Int))).heap[w.heap.size+1+1]?=some (.cells #[.int .i64 0] 25 (0,0)):=by
    rw [Below.heap_setCell _ _ _ _ (show w.heap.size+1+1≠w.heap.size+1 by omega),g4 _ (by omega)];exact H2'.out
   obtain ⟨W8,hW8⟩:∃ W,((W7.setCell ⟨w.heap.size+1,0,none⟩ (.int .i64 ((n-l.length:Nat):Int))).setCell ⟨w.heap.size+1+1,0,none⟩ (.int .i64 0)).drew=W:=⟨_,rfl⟩
   have r0:W8.heap[w.heap.size]?=some (.cells #[.int .i64 tg,.int .i64 kd,.int .i64 nn,.string ss,.slice Ak lk ck] 52 (0,0)):=by
    rw [← hW8]
    show ((W7.setCell ⟨w.heap.size+1,0,none⟩ (.int .i64 ((n-l.length:Nat):Int))).setCell ⟨w.heap.size+1+1,0,none⟩ (.int .i64 0)).heap[w.heap.size]?=_
    rw [Below.heap_setCell _ _ _ _ (show w.heap.size≠w.heap.size+1+1 by omega),Below.heap_setCell _ _ _ _ (show w.heap.size≠w.heap.size+1 by omega),k4]
   have r1:W8.cell? ⟨w.heap.size+1,0,none⟩=some (.int .i64 ((n-l.length:Nat):Int)):=by
    rw [← hW8]
    show ((W7.setCell ⟨w.heap.size+1,0,none⟩ (.int .i64 ((n-l.length:Nat):Int))).setCell ⟨w.heap.size+1+1,0,none⟩ (.int .i64 0)).cell? _=_
    rw [cell_of_row _ _ 0 _ _ _ ((Below.heap_setCell _ _ _ _ (show w.heap.size+1≠w.heap.size+1+1 by omega)).trans j1)];rfl
   have r2:W8.cell? ⟨w.heap.size+1+1,0,none⟩=some (.int .i64 0):=by
    rw [← hW8]
    show ((W7.setCell ⟨w.heap.size+1,0,none⟩ (.int .i64 ((n-l.length:Nat):Int))).setCell ⟨w.heap.size+1+1,0,none⟩ (.int .i64 0)).cell? _=_
    rw [cell_of_row _ _ 0 _ _ _ (heap_setCell_same _ _ 0 _ _ _ j2)];rfl
   have E8:Ext w W8:=by rw [← hW8];exact ((E4.setCell (show w.heap.size≤w.heap.size+1 by omega) _).setCell (show w.heap.size≤w.heap.size+1+1 by omega) _).drew
   have K8:KidsP 1024 (fun b=>W4.heap.size≤b) 8 W8 M x.kids:=HK.out.keep (by rw [← hW8];show w5.heap.size≤((W7.setCell ⟨w.heap.size+1,0,none⟩ (.int .i64 ((n-l.length:Nat):Int))).setCell ⟨w.heap.size+1+1,0,none⟩ (.int .i64 0)).heap.size;rw [← hz4];simp [World.setCell]) fun b hb _=>by
    have:=HW4.out
    have hb':W4.heap.size≤b:=hb
    rw [← hW8]
    show ((W7.setCell ⟨w.heap.size+1,0,none⟩ (.int .i64 ((n-l.length:Nat):Int))).setCell ⟨w.heap.size+1+1,0,none⟩ (.int .i64 0)).heap[b]?=_
    rw [Below.heap_setCell _ _ _ _ (show b≠w.heap.size+1+1 by omega),Below.heap_setCell _ _ _ _ (show b≠w.heap.size+1 by omega),g4 _ (by omega),G6 _ (by omega)]
   rw [hW8]
   refine leaves_cons (f:=106) (args:=#[.pointer (some ⟨w.heap.size,0,none⟩),.pointer (some ⟨w.heap.size+1,0,none⟩),.pointer (some ⟨w.heap.size+1+1,0,none⟩)]) (by simp) (by simp [go_sem]) ?_
   refine (rec_idle w.heap.size W8).mono ?_
   rintro e u w6 ⟨rfl,rfl,rfl⟩
   refine ⟨.tuple #[.agg #[.int .i64 tg,.int .i64 kd,.int .i64 nn,.string ss,.slice Ak lk ck],.int .i64 ((n-l.length:Nat):Int),.int .i64 0],results_cells3 Tryz.results78 _ _ w.heap.size _ _ _ _ rfl r0 Tryz.underlying52 rfl (by kernel_rfl) ⟨w.heap.size+1,0,none⟩ _ rfl (by simp [go_sem,r1]) ⟨w.heap.size+1+1,0,none⟩ _ rfl (by simp [go_sem,r2]),?_,E8⟩
   rw [HD.out]
   refine ⟨HL.out,M,?_,K8.mono fun b hb=>?_⟩
   · rw [HC.out]
   · have:=HW4.out
     have hb':W4.heap.size≤b:=hb
     omega
set_option maxRecDepth 100000 in
set_option maxHeartbeats 25600000 in
theorem need_any (A : Option Addr) (n c i k : Nat) (hn : n ≤ 1048576) (hi : i ≤ n) (w : World) :
    Calls Tryz.prog 113 #[.slice A n c,.int .i64 (i:Int),.int .i64 (k:Int)] w fun e w'=>e=.returned (.int .i64 (if k≤n-i then 0 else 4))∧w=w':=by
 have hi2:¬ (1048576:Int)<(n:Int):=by omega
 go_enter Tryz.func113,Tryz.ntmps113
 by_cases h:k≤n-i
 · rw [if_pos h]
   have t1:(k:Int)≤(n:Int)-(i:Int):=by omega
   go_wp2
   go_ret
   exact ⟨rfl,rfl⟩
 · rw [if_neg h]
   have t1:¬ (k:Int)≤(n:Int)-(i:Int):=by omega
   go_wp2
   go_ret
   exact ⟨rfl,rfl⟩
namespace Bu
theorem vr_err {en:Int}:∀ (f i acc:Nat) (l:List Int) (e:Int),vrA en f i acc l=.error e→e=2∨e=en
 | 0,i,acc,l,e,h=>by
  rw [vrA] at h
  exact Or.inl (by injection h with h;exact h.symm)
 | f+1,i,acc,[],e,h=>by
  rw [vrA] at h
  exact Or.inr (by injection h with h;exact h.symm)
 | f+1,i,acc,x :: l,e,h=>by
  rw [vrA] at h
  split at h
  · exact Or.inl (by injection h with h;exact h.symm)
  · split at h
    · cases h
    · exact vr_err f _ _ l e h
theorem vr_sum {acc j : Nat} {y : Int} (ha : acc < 128 ^ j) (hj : j ≤ 9) (h0 : 0 ≤ y) (h1 : y < 256) (h9 : j = 9 → y ≤ 1) :
    IntKind.u64.wrap ((acc:Int)+IntKind.u64.wrap (y % 128*2 ^ (7*j)))=((acc+y.toNat % 128*128 ^ j:Nat):Int):=by
 rw [IntKind.wrap_u64,IntKind.wrap_u64]
 obtain ⟨y,rfl⟩:=Int.eq_ofNat_of_zero_le h0
 rw [Int.toNat_natCast]
 obtain ⟨m,hm⟩:∃ m,y % 128=m:=⟨_,rfl⟩
 have hm1:((y:Int) % 128)=(m:Int):=by omega
 have hp:(2:Int) ^ (7*j)=((128 ^ j:Nat):Int):=by
  rw [Int.natCast_pow,Int.pow_mul]
  rfl
 have hlt:acc+m*128 ^ j<18446744073709551616:=by
  rcases Nat.lt_or_ge j 9 with h | h
  · have h2:128 ^ j≤128 ^ 8:=Nat.pow_le_pow_right (by decide) (by omega)
    have h3:m*128 ^ j≤127*128 ^ 8:=Nat.mul_le_mul (by omega) h2
    have:(128:Nat) ^ 8=72057594037927936:=by decide
    omega
  · obtain rfl:j=9:=by omega
    have:=h9 rfl
    have h3:m*128 ^ 9≤1*128 ^ 9:=Nat.mul_le_mul_right _ (by omega)
    have:(128:Nat) ^ 9=9223372036854775808:=by decide
    omega
 rw [hm1,hp,hm,← Int.natCast_mul]
 generalize m*128 ^ j=q at *
 omega
theorem vr_sum9 {acc j : Nat} {y : Int} (ha : acc < 128 ^ j) (hj : j = 9) (h0 : 0 ≤ y) (h1 : y < 256) (h9 : y ≤ 1) :
    IntKind.u64.wrap ((acc:Int)+y % 128*9223372036854775808)=((acc+y.toNat % 128*128 ^ j:Nat):Int):=by
 have h:=vr_sum ha (by omega) h0 h1 (fun _=>h9)
 rw [← h,hj]
 have e:(2:Int) ^ (7*9)=9223372036854775808:=by decide
 rw [e,IntKind.wrap_u64,IntKind.wrap_u64,IntKind.wrap_u64]
 omega
end Bu
def NumB (n:Nat) (R:Except Int (Nat×List Int)) (e:Ending):Prop:=match R with
 | .error er=>e=.returned (.tuple #[.int .u64 0,.int .i64 0,.int .i64 er])
 | .ok (x,l)=>e=.returned (.tuple #[.int .u64 (x:Int),.int .i64 ((n-l.length:Nat):Int),.int .i64 0])
set_option maxRecDepth 100000 in
set_option maxHeartbeats 25600000 in
theorem refnum_any (A : Option Addr) (bs : List Int) (hB : Bu.Byt bs) (n c i : Nat) (r : List Int) (hn : n ≤ 1048576) (w : World) (hr : Rst w A bs n i r) :
    Calls Tryz.prog 112 #[.slice A n c,.int .i64 (i:Int)] w fun e w'=>NumB n (Bu.vr 4 r) e∧w=w':=by
 have HN:=Hi (fun at_ (h:at_≤n)=>(show Calls Tryz.prog 113 #[.slice A n c,.int .i64 (at_:Int),.int .i64 1] w _ from need_any A n c at_ 1 hn h w))
 have HR:=Hi hr
 have HBY:=Hi hB
 clear hr hB
 go_enter Tryz.func112,Tryz.ntmps112
 go_wp2
 go_loop [1,7,8] (fun p x q=>∃ (j acc at_:Nat) (l:List Int),j≤10∧p=.int .i64 (at_:Int)∧q=.int .i64 (j:Int)∧x=.int .u64 (acc:Int)∧(j≤9→acc<128 ^ j)∧Hid (Bu.vrA 4 (10-j) j acc l=Bu.vr 4 r)∧Hid (Rst w A bs n at_ l)) (fun _ _ q=>11-(intOf q).toNat)
 case atStart=>exact ⟨0,0,i,r,by omega,rfl,rfl,rfl,fun _=>by decide,Hi rfl,HR⟩
 case round =>
  obtain ⟨j,acc,at_,l,hj10,rfl,rfl,rfl,hac,HV,HRS⟩:=hrel
  by_cases hj9:j=10
  · have t0:¬ (j:Int)<10:=by omega
    have HRE:Hid (Bu.vr 4 r=.error 2):=Hi (by rw [← HV.out,show 10-j=0 by omega,Bu.vrA])
    go_wp2
    go_ret3
    exact ⟨by rw [HRE.out];rfl,rfl⟩
  · have hj:j≤9:=by omega
    have hacc:=hac hj
    have t0:(j:Int)<10:=by omega
    have hf:10-j=(9-j)+1:=by omega
    have HK:=HN.out at_ HRS.out.le
    have hrl:=HRS.out.rlen
    have hle:=HRS.out.le
    cases l with
    | nil =>
     have HRE:Hid (Bu.vr 4 r=.error 4):=Hi (by rw [← HV.out,hf,Bu.vrA])
     simp only [List.length_nil] at hrl
     rw [if_neg (show ¬ 1≤n-at_ by omega)] at HK
     have HK2:=Hi HK
     clear HK hf
     go_wp2_with fail
     with_reducible refine HK2.out.mono ?_
     rintro e _ ⟨rfl,rfl⟩
     go_wp2
     go_ret3
     exact ⟨by rw [HRE.out];rfl,rfl⟩
    | cons y l' =>
     simp only [List.length_cons] at hrl
     rw [if_pos (show 1≤n-at_ by omega)] at HK
     have HK2:=Hi HK
     have HRS2:=Hi (HRS.out.step (k:=1) (by simp))
     have hy:0≤y∧y<256:=HBY.out y (by
      have:=HRS.out.drop
      exact List.mem_of_mem_drop (by rw [this];exact List.mem_cons_self ..))
     obtain ⟨hy0,hy1⟩:=hy
     have hal:at_<bs.length:=by rw [HRS.out.len];omega
     obtain ⟨b2,o2,hA,hb2,hcell⟩:=HRS.out.sl.at_ (i:=at_) hal
     have hyy:bs[at_]'hal=y:=by
      have:=HRS.out.drop
      rw [List.drop_eq_getElem_cons hal] at this
      injection this
     rw [hyy] at hcell
     subst hA
     have hix:(at_:Int)<(n:Int):=by omega
     have HL:Hid (((n-l'.length:Nat):Int)=(at_:Int)+1):=Hi (by omega)
     clear HK hyy hrl
     go_wp2_with fail
     with_reducible refine HK2.out.mono ?_
     rintro e _ ⟨rfl,rfl⟩
     have jj0:(0:Int)≤(j:Int):=by omega
     by_cases h9:j=9
     · have t1:((j:Int) == 9)=true:=by rw [h9];rfl
       by_cases h1:1<y
       · have t2:decide (1<y)=true:=decide_eq_true h1
         have hbad:(j=9∧1<y)∨(0<j∧y=0):=Or.inl ⟨h9,h1⟩
         have HRE:Hid (Bu.vr 4 r=.error 2):=Hi (by rw [← HV.out,hf,Bu.vrA,if_pos hbad])
         clear hf hbad
         go_wp2
         go_ret3
         exact ⟨by rw [HRE.out];rfl,rfl⟩
       · have t2:decide (1<y)=false:=decide_eq_false h1
         have t3:decide (0<(j:Int))=true:=decide_eq_true (by omega)
         by_cases h0:y=0
         · have t4:(y == 0)=true:=by rw [h0];rfl
           have hbad:(j=9∧1<y)∨(0<j∧y=0):=Or.inr ⟨by omega,h0⟩
           have HRE:Hid (Bu.vr 4 r=.error 2):=Hi (by rw [← HV.out,hf,Bu.vrA,if_pos hbad])
           clear hf hbad
           go_wp2
           go_ret3
           exact ⟨by rw [HRE.out];rfl,rfl⟩
         · have t4:(y == 0)=false:=by rw [beq_eq_false_iff_ne];exact h0
           have hok:¬ ((j=9∧1<y)∨(0<j∧y=0)):=by omega
           have HBI:=Hi (Bu.vr_sum9 hacc h9 hy0 hy1 (by omega))
           by_cases hlast:y<128
           · have t9:decide (y<128)=true:=decide_eq_true hlast
             have HRE:Hid (Bu.vr 4 r=.ok (acc+y.toNat % 128*128 ^ j,l')):=Hi (by rw [← HV.out,hf,Bu.vrA,if_neg hok,if_pos hlast])
             clear hf hok
             go_wp2
             go_ret3
             refine ⟨?_,rfl⟩
             rw [HRE.out]
             show Ending.returned (.tuple #[.int .u64 (IntKind.u64.wrap ((acc:Int)+y % 128*9223372036854775808)),.int .i64 ((at_:Int)+1),.int .i64 0])=.returned (.tuple #[.int .u64 ((acc+y.toNat % 128*128 ^ j:Nat):Int),.int .i64 ((n-l'.length:Nat):Int),.int .i64 0])
             rw [HBI.out,HL.out]
           · exact absurd hlast (by omega)
     · have t1:((j:Int) == 9)=false:=by rw [beq_eq_false_iff_ne];omega
       have hj8:j≤8:=by omega
       by_cases hj0:0<j
       · have t3:decide (0<(j:Int))=true:=decide_eq_true (by omega)
         by_cases h0:y=0
         · have t4:(y == 0)=true:=by rw [h0];rfl
           have hbad:(j=9∧1<y)∨(0<j∧y=0):=Or.inr ⟨hj0,h0⟩
           have HRE:Hid (Bu.vr 4 r=.error 2):=Hi (by rw [← HV.out,hf,Bu.vrA,if_pos hbad])
           clear hf hbad
           go_wp2
           go_ret3
           exact ⟨by rw [HRE.out];rfl,rfl⟩
         · have t4:(y == 0)=false:=by rw [beq_eq_false_iff_ne];exact h0
           have hok:¬ ((j=9∧1<y)∨(0<j∧y=0)):=by omega
           have HBI:=Hi (Bu.vr_sum hacc hj hy0 hy1 (fun hh=>absurd hh h9))
           by_cases hlast:y<128
           · have t9:decide (y<128)=true:=decide_eq_true hlast
             have HRE:Hid (Bu.vr 4 r=.ok (acc+y.toNat % 128*128 ^ j,l')):=Hi (by rw [← HV.out,hf,Bu.vrA,if_neg hok,if_pos hlast])
             clear hf hok
             go_wp2
             go_ret3
             refine ⟨?_,rfl⟩
             rw [HRE.out]
             show Ending.returned (.tuple #[.int .u64 (IntKind.u64.wrap ((acc:Int)+IntKind.u64.wrap (y % 128*2 ^ (7*j)))),.int .i64 ((at_:Int)+1),.int .i64 0])=.returned (.tuple #[.int .u64 ((acc+y.toNat % 128*128 ^ j:Nat):Int),.int .i64 ((n-l'.length:Nat):Int),.int .i64 0])
             rw [HBI.out,HL.out]
           · have t9:decide (y<128)=false:=decide_eq_false hlast
             have HRE:Hid (Bu.vrA 4 (10-(j+1)) (j+1) (acc+y.toNat % 128*128 ^ j) l'=Bu.vr 4 r):=Hi (by rw [← HV.out,hf,Bu.vrA,if_neg hok,if_neg hlast,show 10-(j+1)=9-j by omega])
             clear hf hok
             go_wp2
             go_round
             case rel=>exact ⟨j+1,acc+y.toNat % 128*128 ^ j,at_+1,l',by omega,by go_num,by go_num,by rw [← HBI.out],fun _=>Bu.vr_acc hacc,HRE,HRS2⟩
             case measure=>simp [intOf] <;> omega
       · have t3:decide (0<(j:Int))=false:=decide_eq_false (by omega)
         have hok:¬ ((j=9∧1<y)∨(0<j∧y=0)):=by omega
         have HBI:=Hi (Bu.vr_sum hacc hj hy0 hy1 (fun hh=>absurd hh h9))
         by_cases hlast:y<128
         · have t9:decide (y<128)=true:=decide_eq_true hlast
           have HRE:Hid (Bu.vr 4 r=.ok (acc+y.toNat % 128*128 ^ j,l')):=Hi (by rw [← HV.out,hf,Bu.vrA,if_neg hok,if_pos hlast])
           clear hf hok
           go_wp2
           go_ret3
           refine ⟨?_,rfl⟩
           rw [HRE.out]
           show Ending.returned (.tuple #[.int .u64 (IntKind.u64.wrap ((acc:Int)+IntKind.u64.wrap (y % 128*2 ^ (7*j)))),.int .i64 ((at_:Int)+1),.int .i64 0])=.returned (.tuple #[.int .u64 ((acc+y.toNat % 128*128 ^ j:Nat):Int),.int .i64 ((n-l'.length:Nat):Int),.int .i64 0])
           rw [HBI.out,HL.out]
         · have t9:decide (y<128)=false:=decide_eq_false hlast
           have HRE:Hid (Bu.vrA 4 (10-(j+1)) (j+1) (acc+y.toNat % 128*128 ^ j) l'=Bu.vr 4 r):=Hi (by rw [← HV.out,hf,Bu.vrA,if_neg hok,if_neg hlast,show 10-(j+1)=9-j by omega])
           clear hf hok
           go_wp2
           go_round
           case rel=>exact ⟨j+1,acc+y.toNat % 128*128 ^ j,at_+1,l',by omega,by go_num,by go_num,by rw [← HBI.out],fun _=>Bu.vr_acc hacc,HRE,HRS2⟩
           case measure=>simp [intOf] <;> omega
theorem results_cell_tmp2 {P : Program} {fn : Func} {p k1 k2 : Tmp} {ty : TypeId} (h : fn.results = #[.cell p ty, .tmp k1, .tmp k2]) (tmps : Array Value) (w : World) (g : Nat) (t : TypeId) (cs : Array Value) (fr : Nat × Nat) (d : TypeDesc) {v1 v2 : Value}
    (hp:tmps.getD p undef=.pointer (some ⟨g,0,none⟩)) (hg:w.heap[g]?=some (.cells cs t fr))
    (hu:P.underlying ty=some d) (hd:(match d with | .struct _ | .array _ _=>true | _=>false)=true) (hi:(P.info? ty).map (·.size)=some cs.size) (hk1:tmps.getD k1 undef=v1) (hk2:tmps.getD k2 undef=v2) :
    (results fn tmps).run P w=.ok (.tuple #[.agg cs,v1,v2]) w:=by
 subst hk1 hk2
 have hp':tmps[p]?.getD undef=.pointer (some ⟨g,0,none⟩):=by simpa using hp
 simp [results,h,hp',asAddr,run_loadVar_row w g t ty cs fr d hg hu hd hi]
theorem Rst.later {W0 W1:World} {A:Option Addr} {bs:List Int} {n i:Nat} {r:List Int} (h:Rst W0 A bs n i r) (he:Ext W0 W1):Rst W1 A bs n i r:=⟨h.sl.ext he,h.len,h.drop,h.le⟩
def RefB (f n lo:Nat) (R:Except Int (Nd×List Int)) (e:Ending) (w':World):Prop:=match R with
 | .error er=>e=.returned (.tuple #[.agg #[.int .i64 0,.int .i64 0,.int .i64 0,.string ⟨#[]⟩,.slice none 0 0],.int .i64 0,.int .i64 er])
 | .ok (x,l)=>l.length≤n∧∃ M,e=.returned (.tuple #[nda x M,.int .i64 ((n-l.length:Nat):Int),.int .i64 0])∧KidsP 1024 (fun b=>lo≤b) f w' M x.kids
set_option maxRecDepth 100000 in
set_option maxHeartbeats 25600000 in
theorem reftext_any (A : Option Addr) (bs : List Int) (n c i f : Nat) (r : List Int) (hc : n ≤ c) (hn : n ≤ 1048576) (t m : Nat) (hm : m < 18446744073709551616) (w : World) (hr : Rst w A bs n i r) :
    Calls Tryz.prog 114 #[.slice A n c,.int .i64 (i:Int),.int .u64 (m:Int),.agg #[.int .i64 (t:Int),.int .i64 2,.int .i64 0,.string ⟨#[]⟩,.slice none 0 0]] w fun e w'=>RefB f n w.heap.size (Bu.dSt 4 t m r) e w'∧Ext w w':=by
 have HN:=Hi (fun w k=>need_any A n c i k hn hr.le w)
 have HRS:=Hi hr
 have hrl:=hr.rlen
 have hle:=hr.le
 obtain ⟨W1,hW1⟩:∃ W,(w.alloc (.cells #[.int .i64 (t:Int),.int .i64 2,.int .i64 0,.string ⟨#[]⟩,.slice none 0 0] 52)).alloc (.cells #[.int .i64 0,.int .i64 0,.int .i64 0,.string ⟨#[]⟩,.slice none 0 0] 52)=W:=⟨_,rfl⟩
 have X1:Hid (Ext w W1):=Hi (by rw [← hW1];exact ((Ext.refl _).alloc _).alloc _)
 have HBQ:Hid (W1.heap[w.heap.size]?=some (.cells #[.int .i64 (t:Int),.int .i64 2,.int .i64 0,.string ⟨#[]⟩,.slice none 0 0] 52 (0,0))):=Hi (by rw [← hW1];exact ((Ext.refl _).alloc _).blockAt (heap_alloc_new _ _))
 have HBR:Hid (W1.heap[w.heap.size+1]?=some (.cells #[.int .i64 0,.int .i64 0,.int .i64 0,.string ⟨#[]⟩,.slice none 0 0] 52 (0,0))):=Hi (by rw [← hW1,← sizeA w (.cells #[.int .i64 (t:Int),.int .i64 2,.int .i64 0,.string ⟨#[]⟩,.slice none 0 0] 52)];exact heap_alloc_new _ _)
 have HE1:=Hi hW1
 clear hr hW1
 go_enter Tryz.func114,Tryz.ntmps114
 by_cases hbig:2000<m
 · have HR:Hid (Bu.dSt 4 t m r=.error 5):=Hi (by unfold Bu.dSt;rw [if_pos hbig])
   have hb:(2000:Int)<(m:Int):=by omega
   go_wp2_with (first
    | (rw [HE1.out])
    | refine wpList_store_row rfl _ _ _ rfl (w.heap.size+1) #[.int .i64 0,.int .i64 0,.int .i64 0,.string ⟨#[]⟩,.slice none 0 0] rfl rfl _ #[.int .i64 0,.int .i64 0,.int .i64 0,.string ⟨#[]⟩,.slice none 0 0] HBR.out (by kernel_rfl) rfl (by simp [Value.oneCell']) ?_)
   refine bodyPost_ret (v:=.tuple #[.agg #[.int .i64 0,.int .i64 0,.int .i64 0,.string ⟨#[]⟩,.slice none 0 0],.int .i64 0,.int .i64 5]) (results_cell_tmp2 Tryz.results114 _ _ (w.heap.size+1) _ _ _ _ rfl (setRow_at (cs':=#[.int .i64 0,.int .i64 0,.int .i64 0,.string ⟨#[]⟩,.slice none 0 0]) HBR.out) Tryz.underlying52 rfl (by kernel_rfl) rfl rfl) rfl ?_
   exact ⟨by rw [HR.out];rfl,X1.out.setRow (by omega) _⟩
 · have hbi:¬ (2000:Int)<(m:Int):=by omega
   have K:=HN.out W1 m
   have hmi:(m:Int)≤9223372036854775807:=by omega
   by_cases hlt:r.length<m
   · have HR:Hid (Bu.dSt 4 t m r=.error 4):=Hi (by unfold Bu.dSt;rw [if_neg hbig,if_pos hlt])
     rw [if_neg (show ¬ m≤n-i by omega)] at K
     have HK:=Hi K
     clear K
     go_wp2_with (rw [HE1.out])
     with_reducible refine HK.out.mono ?_
     rintro e _ ⟨rfl,rfl⟩
     go_wp2_with (refine wpList_store_row rfl _ _ _ rfl (w.heap.size+1) #[.int .i64 0,.int .i64 0,.int .i64 0,.string ⟨#[]⟩,.slice none 0 0] rfl rfl _ #[.int .i64 0,.int .i64 0,.int .i64 0,.string ⟨#[]⟩,.slice none 0 0] HBR.out (by kernel_rfl) rfl (by simp [Value.oneCell']) ?_)
     refine bodyPost_ret (v:=.tuple #[.agg #[.int .i64 0,.int .i64 0,.int .i64 0,.string ⟨#[]⟩,.slice none 0 0],.int .i64 0,.int .i64 4]) (results_cell_tmp2 Tryz.results114 _ _ (w.heap.size+1) _ _ _ _ rfl (setRow_at (cs':=#[.int .i64 0,.int .i64 0,.int .i64 0,.string ⟨#[]⟩,.slice none 0 0]) HBR.out) Tryz.underlying52 rfl (by kernel_rfl) rfl rfl) rfl ?_
     exact ⟨by rw [HR.out];rfl,X1.out.setRow (by omega) _⟩
   · have HR:Hid (Bu.dSt 4 t m r=.ok (.mk t 2 0 (Bu.toB (r.take m)) [],r.drop m)):=Hi (by unfold Bu.dSt;rw [if_neg hbig,if_neg hlt])
     rw [if_pos (show m≤n-i by omega)] at K
     have HK:=Hi K
     have hi0:(0:Int)≤(i:Int):=by omega
     have him:(i:Int)+(m:Int)≤(c:Int):=by omega
     have hml:(r.take m).length=m:=by rw [List.length_take];omega
     have hdl:n-(r.drop m).length=i+m∧(r.drop m).length≤n:=by rw [List.length_drop];omega
     have HDL:=Hi hdl
     have hsl:=(SlU.mid HRS.out.len (HRS.out.sl.ext X1.out) hc i (i+m))
     have hrt:(bs.take (i+m)).drop i=r.take m:=by rw [List.drop_take,HRS.out.drop];congr 1;omega
     rw [hrt] at hsl
     unfold moved at hsl
     rw [Nat.mul_one] at hsl
     have HCV:=Hi (fun A' hs=>conv_any W1 A' m (c-i) (r.take m) hml hs)
     have HTS:Hid (Bu.toB (r.take m)=Bu.toB (r.take m)):=Hi rfl
     clear K hml hdl hrt
     generalize Bu.toB (r.take m)=str at *
     have HC5:Hid (W1.cell? ⟨w.heap.size,3,none⟩=some (.string ⟨#[]⟩)):=Hi (by rw [cell_of_row _ _ 3 _ _ _ HBQ.out];rfl)
     have hf5:=frozen_row HBQ.out 3
     obtain ⟨w6,hw6⟩:∃ W,W1.setCell ⟨w.heap.size,3,none⟩ (.string str)=W:=⟨_,rfl⟩
     have HBQ6:Hid (w6.heap[w.heap.size]?=some (.cells #[.int .i64 (t:Int),.int .i64 2,.int .i64 0,.string str,.slice none 0 0] 52 (0,0))):=Hi (by rw [← hw6];exact heap_set HBQ.out 3 _)
     have HBR6:Hid (w6.heap[w.heap.size+1]?=some (.cells #[.int .i64 0,.int .i64 0,.int .i64 0,.string ⟨#[]⟩,.slice none 0 0] 52 (0,0))):=Hi (by rw [← hw6,Below.heap_setCell _ _ _ _ (show w.heap.size+1≠w.heap.size by omega)];exact HBR.out)
     have X6:Hid (Ext w w6):=Hi (by rw [← hw6];exact X1.out.setCell (Nat.le_refl _) _)
     have HE6:=Hi hw6
     have hc5:=HC5.out
     clear hw6
     by_cases hci:c=i
     · rw [if_pos hci] at hsl
       have hconv:=HCV.out A hsl
       clear hsl
       subst hci
       rw [Nat.sub_self,show m=0 by omega] at hconv
       go_wp2_with (rw [HE1.out])
       with_reducible refine HK.out.mono ?_
       rintro e _ ⟨rfl,rfl⟩
       go_wp2_with (first
        | (rw [HE6.out])
        | refine wpList_load_row rfl _ _ rfl w.heap.size rfl _ #[.int .i64 (t:Int),.int .i64 2,.int .i64 0,.string str,.slice none 0 0] _ _ HBQ6.out Tryz.underlying52 rfl (by kernel_rfl) ?_
        | refine wpList_store_row rfl _ _ _ rfl (w.heap.size+1) #[.int .i64 (t:Int),.int .i64 2,.int .i64 0,.string str,.slice none 0 0] rfl rfl _ #[.int .i64 0,.int .i64 0,.int .i64 0,.string ⟨#[]⟩,.slice none 0 0] HBR6.out (by kernel_rfl) rfl (by simp [Value.oneCell']) ?_)
       refine bodyPost_ret (v:=.tuple #[.agg #[.int .i64 (t:Int),.int .i64 2,.int .i64 0,.string str,.slice none 0 0],.int .i64 ((c:Int)+(m:Int)),.int .i64 0]) (results_cell_tmp2 Tryz.results114 _ _ (w.heap.size+1) _ _ _ _ rfl (setRow_at (cs':=#[.int .i64 (t:Int),.int .i64 2,.int .i64 0,.string str,.slice none 0 0]) HBR6.out) Tryz.underlying52 rfl (by kernel_rfl) rfl rfl) rfl ?_
       refine ⟨?_,X6.out.setRow (by omega) _⟩
       rw [HR.out]
       refine ⟨HDL.out.2,(none,0),?_,KidsP.nil _ _ _ _ _⟩
       rw [HDL.out.1]
       rfl
     · rw [if_neg hci] at hsl
       have hconv:=HCV.out _ hsl
       clear hsl
       go_wp2_with (rw [HE1.out])
       with_reducible refine HK.out.mono ?_
       rintro e _ ⟨rfl,rfl⟩
       go_wp2_with (first
        | (rw [HE6.out])
        | refine wpList_load_row rfl _ _ rfl w.heap.size rfl _ #[.int .i64 (t:Int),.int .i64 2,.int .i64 0,.string str,.slice none 0 0] _ _ HBQ6.out Tryz.underlying52 rfl (by kernel_rfl) ?_
        | refine wpList_store_row rfl _ _ _ rfl (w.heap.size+1) #[.int .i64 (t:Int),.int .i64 2,.int .i64 0,.string str,.slice none 0 0] rfl rfl _ #[.int .i64 0,.int .i64 0,.int .i64 0,.string ⟨#[]⟩,.slice none 0 0] HBR6.out (by kernel_rfl) rfl (by simp [Value.oneCell']) ?_)
       refine bodyPost_ret (v:=.tuple #[.agg #[.int .i64 (t:Int),.int .i64 2,.int .i64 0,.string str,.slice none 0 0],.int .i64 ((i:Int)+(m:Int)),.int .i64 0]) (results_cell_tmp2 Tryz.results114 _ _ (w.heap.size+1) _ _ _ _ rfl (setRow_at (cs':=#[.int .i64 (t:Int),.int .i64 2,.int .i64 0,.string str,.slice none 0 0]) HBR6.out) Tryz.underlying52 rfl (by kernel_rfl) rfl rfl) rfl ?_
       refine ⟨?_,X6.out.setRow (by omega) _⟩
       rw [HR.out]
       refine ⟨HDL.out.2,(none,0),?_,KidsP.nil _ _ _ _ _⟩
       rw [HDL.out.1]
       rfl
namespace Bu
theorem dKs_err {p:List Int→Except Int (Nd×List Int)} (hp:∀ r er,p r=.error er→0<er):∀ (n:Nat) (r:List Int) (er:Int),dKs p n r=.error er→0<er
 | 0,_,_,h=>by cases h
 | n+1,r,er,h=>by
  rw [dKs] at h
  cases h1:dKs p n r with
  | error e =>
   rw [h1] at h
   injection h with h
   subst h
   exact dKs_err hp n r _ h1
  | ok q =>
   obtain ⟨ys,l1⟩:=q
   rw [h1] at h
   simp only at h
   cases h2:p l1 with
   | error e =>
    rw [h2] at h
    injection h with h
    subst h
    exact hp _ _ h2
   | ok z =>
    obtain ⟨y,l2⟩:=z
    rw [h2] at h
    cases h
theorem dNd_err {en:Int} (hen:0<en):∀ (f:Nat) (r:List Int) (er:Int),dNd en f r=.error er→0<er
 | 0,_,_,h=>by injection h with h;omega
 | f+1,r,er,h=>by
  rw [dNd] at h
  cases hv:vr en r with
  | error e =>
   rw [hv] at h
   injection h with h
   subst h
   rcases vr_err _ _ _ _ _ hv with h | h <;> omega
  | ok p =>
   obtain ⟨t,l1⟩:=p
   rw [hv] at h
   simp only at h
   unfold dTg at h
   split at h
   · injection h with h;omega
   · cases l1 with
     | nil=>injection h with h;omega
     | cons k l2 =>
      simp only at h
      unfold dBd at h
      split at h
      · injection h with h;omega
      · cases hv2:vr en l2 with
        | error e =>
         rw [hv2] at h
         injection h with h
         subst h
         rcases vr_err _ _ _ _ _ hv2 with h | h <;> omega
        | ok p2 =>
         obtain ⟨m,l3⟩:=p2
         rw [hv2] at h
         simp only at h
         split at h
         · cases h
         · split at h
           · unfold dSt at h
             split at h
             · injection h with h;omega
             · split at h
               · injection h with h;omega
               · cases h
           · unfold dLs at h
             split at h
             · injection h with h;omega
             · cases hk:dKs (dNd en f) m l3 with
               | error e =>
                rw [hk] at h
                injection h with h
                subst h
                exact dKs_err (dNd_err hen f) m l3 _ hk
               | ok q =>
                obtain ⟨xs,l4⟩:=q
                rw [hk] at h
                cases h
end Bu
theorem wpList_append_k {P : Program} {w : World} {ops : Array Oper} {rest : List Oper} {o : Oper} {a : Act} {Q : Exit → Act → World → Prop} (hgd : o.guard = none) (s x : Operand) (t : TypeId)
    (ho:o.op=.call { callee:=.builtin .append,args:=#[s,x],argTypes:=#[t,t] })
    (base:Nat) (e:TypeId) (i:TypeInfo) (z:Value) (size bytes:Nat) (ht:P.underlying t=some (.slice e)) (hi:P.info? e=some i) (hz:i.zero=some z)
    (hsize:i.size=size) (hby:i.bytes=bytes) (hzs:z.cells.size=size) (hsz:0<size)
    (v:Value) (n:Nat) (xs:List Value) (hs:a.eval s=v) (hown:w.ownsRow base e size v n xs)
    (A:Option Addr) (c m:Nat) (xss:List (List Value)) (hm:xss.length=m) (hx:a.eval x=.slice A m c) (hr:Sl w size A xss) (hk:∀ c∈xss,c.length=size) (h1:∀ c∈xss,∀ u∈c,u.oneCell'=true)
    (h63:n+m≤maxLen) (hbytes:(n+m)*bytes≤140737488355328) (hbase:base≤w.heap.size)
    (h:∀ A' c' w',w'.ownsRow base e size (.slice A' (n+m) c') (n+m) (xs ++ xss.flatten)→w.grownBy w' v.ownBlock→((Value.slice A' (n+m) c').ownBlock=v.ownBlock∨(Value.slice A' (n+m) c').ownBlock=some w.heap.size)→wpList P ops Q rest (a.put o.dst (.slice A' (n+m) c')) w'):wpList P ops Q (o :: rest) a w:=by
 subst hm
 obtain ⟨v',w',hrun,hown',hgr,hat⟩:=run_append_sl w base t o.type e i z size bytes ht hi hz hsize hby hzs hsz v n xs hown A c xss hr hk h1 h63 hbytes hbase
 obtain ⟨A',c',rfl⟩:=own_form hown'
 refine wpList_plain hgd fun K hK=>?_
 unfold Oper.wp
 rw [exec_append ho hs hx hrun]
 exact hK _ _ (h A' c' w' hown' hgr hat)
theorem Rst.head {W:World} {A:Option Addr} {bs:List Int} {n i:Nat} {y:Int} {l:List Int} (h:Rst W A bs n i (y :: l)):(∃ b o,A=some ⟨b,o,none⟩∧W.cell? ⟨b,o+i,none⟩=some (.int .u8 y))∧i<n∧y∈bs:=by
 have hl:=h.rlen
 simp only [List.length_cons] at hl
 have hle:=h.le
 have hal:i<bs.length:=by rw [h.len];omega
 obtain ⟨b2,o2,hA,hb2,hcell⟩:=h.sl.at_ (i:=i) hal
 have hd:=h.drop
 have hyy:bs[i]'hal=y:=by
  rw [List.drop_eq_getElem_cons hal] at hd
  injection hd
 rw [hyy] at hcell
 exact ⟨⟨b2,o2,hA,hcell⟩,by omega,hyy ▸ List.getElem_mem hal⟩
theorem RefB.shape {f n lo:Nat} {R:Except Int (Nd×List Int)} {e:Ending} {w':World} (h:RefB f n lo R e w'):∃ (tg kk nn:Int) (ss:ByteArray) (Ak:Option Addr) (lk ck:Nat) (p er:Int),e=.returned (.tuple #[.agg #[.int .i64 tg,.int .i64 kk,.int .i64 nn,.string ss,.slice Ak lk ck],.int .i64 p,.int .i64 er]):=by
 cases R with
 | error er=>exact ⟨_,_,_,_,_,_,_,_,_,h⟩
 | ok q =>
  obtain ⟨x,l⟩:=q
  obtain ⟨-,M,h,-⟩:=h
  exact ⟨_,_,_,_,_,_,_,_,_,h⟩
theorem RefB.keep {f n lo lo':Nat} {R:Except Int (Nd×List Int)} {e:Ending} {w w':World} (h:RefB f n lo R e w) (hs:w.heap.size≤w'.heap.size) (hk:∀ b,lo≤b→b<w.heap.size→w'.heap[b]?=w.heap[b]?) (hl:lo' ≤ lo):RefB f n lo' R e w':=by
 cases R with
 | error er=>exact h
 | ok q =>
  obtain ⟨x,l⟩:=q
  obtain ⟨h1,M,h2,h3⟩:=h
  exact ⟨h1,M,h2,(h3.keep hs hk).mono fun b hb=>Nat.le_trans hl hb⟩
def RNodeAt (A : Option Addr) (bs : List Int) (n c f : Nat) : Prop := ∀ (i : Nat) (r : List Int) (w : World), Rst w A bs n i r →
    Calls Tryz.prog 81 #[.slice A n c,.int .i64 (i:Int),.int .i64 (9-(f:Int))] w fun e w'=>RefB f n w.heap.size (Bu.dNd 4 f r) e w'∧Ext w w'
set_option maxRecDepth 100000 in
set_option maxHeartbeats 25600000 in
theorem refnode_zero (A:Option Addr) (bs:List Int) (n c:Nat):RNodeAt A bs n c 0:=by
 intro i r w hr
 clear hr
 obtain ⟨W1,hW1⟩:∃ W,w.alloc (.cells #[.int .i64 0,.int .i64 0,.int .i64 0,.string ⟨#[]⟩,.slice none 0 0] 52)=W:=⟨_,rfl⟩
 have X1:Hid (Ext w W1):=Hi (by rw [← hW1];exact (Ext.refl _).alloc _)
 have HBR:Hid (W1.heap[w.heap.size]?=some (.cells #[.int .i64 0,.int .i64 0,.int .i64 0,.string ⟨#[]⟩,.slice none 0 0] 52 (0,0))):=Hi (by rw [← hW1];exact heap_alloc_new _ _)
 have HR:Hid (Bu.dNd 4 0 r=.error 5):=Hi rfl
 have HE1:=Hi hW1
 clear hW1
 go_enter Tryz.func81,Tryz.ntmps81
 go_wp2_with (first
  | (rw [HE1.out])
  | refine wpList_store_row rfl _ _ _ rfl w.heap.size #[.int .i64 0,.int .i64 0,.int .i64 0,.string ⟨#[]⟩,.slice none 0 0] rfl rfl _ #[.int .i64 0,.int .i64 0,.int .i64 0,.string ⟨#[]⟩,.slice none 0 0] HBR.out (by kernel_rfl) rfl (by simp [Value.oneCell']) ?_)
 refine bodyPost_ret (v:=.tuple #[.agg #[.int .i64 0,.int .i64 0,.int .i64 0,.string ⟨#[]⟩,.slice none 0 0],.int .i64 0,.int .i64 5]) (results_cell_tmp2 Tryz.results81 _ _ w.heap.size _ _ _ _ rfl (setRow_at (cs':=#[.int .i64 0,.int .i64 0,.int .i64 0,.string ⟨#[]⟩,.slice none 0 0]) HBR.out) Tryz.underlying52 rfl (by kernel_rfl) rfl rfl) rfl ?_
 exact ⟨by rw [HR.out];rfl,X1.out.setRow (Nat.le_refl _) _⟩
set_option maxRecDepth 100000 in
set_option maxHeartbeats 25600000 in
theorem refnode_succ (A:Option Addr) (bs:List Int) (hB:Bu.Byt bs) (n c:Nat) (hc:n≤c) (hn:n≤1048576) (f:Nat) (hf8:f≤7) (IH:RNodeAt A bs n c f):RNodeAt A bs n c (f+1):=by
 intro i r w hr
 have HNU:=Hi (fun i r w hr=>refnum_any A bs hB n c i r hn w hr)
 have HND:=Hi (fun (i:Nat) (hi:i≤n) (w:World)=>(show Calls Tryz.prog 113 #[.slice A n c,.int .i64 (i:Int),.int .i64 1] w _ from need_any A n c i 1 hn hi w))
 have HTX:=Hi (fun i r t m hm w hr=>reftext_any A bs n c i (f+1) r hc hn t m hm w hr)
 have HIH:=Hi IH
 have HBY:=Hi hB
 obtain ⟨W1,hW1⟩:∃ W,w.alloc (.cells #[.int .i64 0,.int .i64 0,.int .i64 0,.string ⟨#[]⟩,.slice none 0 0] 52)=W:=⟨_,rfl⟩
 have X1:Hid (Ext w W1):=Hi (by rw [← hW1];exact (Ext.refl _).alloc _)
 have HBR:Hid (W1.heap[w.heap.size]?=some (.cells #[.int .i64 0,.int .i64 0,.int .i64 0,.string ⟨#[]⟩,.slice none 0 0] 52 (0,0))):=Hi (by rw [← hW1];exact heap_alloc_new _ _)
 have hs1:w.heap.size+1≤W1.heap.size:=by rw [← hW1,sizeA];exact Nat.le_refl _
 have HRS0:=Hi (hr.later X1.out)
 have HE1:=Hi hW1
 have HRW:=Hi hr
 clear hr IH hB hW1
 have hlv:decide ((8:Int)<9-((f+1:Nat):Int))=false:=decide_eq_false (by omega)
 obtain ⟨lv,hlvv⟩:∃ lv:Int,9-((f+1:Nat):Int)=lv:=⟨_,rfl⟩
 rw [hlvv] at hlv ⊢
 have hlv8:lv≤8:=by omega
 have hlv0:0≤lv:=by omega
 have HLV:Hid (lv+1=9-(f:Int)):=Hi (by omega)
 clear hlvv
 cases hv:Bu.vr 4 r with
 | error er =>
  have HR:Hid (Bu.dNd 4 (f+1) r=.error er):=Hi (by rw [Bu.dNd,hv])
  have her:(er == 0)=false:=by rw [beq_eq_false_iff_ne];rcases Bu.vr_err _ _ _ _ _ hv with h | h <;> omega
  have K:=HNU.out i r W1 HRS0.out
  rw [hv] at K
  have HK:=Hi K
  clear hv K
  go_enter Tryz.func81,Tryz.ntmps81
  go_wp2_with (rw [HE1.out])
  with_reducible refine HK.out.mono ?_
  rintro e _ ⟨he,rfl⟩
  have he:e=.returned (.tuple #[.int .u64 0,.int .i64 0,.int .i64 er]):=he
  subst he
  go_wp2_with (first
   | refine wpList_store_row rfl _ _ _ rfl w.heap.size #[.int .i64 0,.int .i64 0,.int .i64 0,.string ⟨#[]⟩,.slice none 0 0] rfl rfl _ #[.int .i64 0,.int .i64 0,.int .i64 0,.string ⟨#[]⟩,.slice none 0 0] HBR.out (by kernel_rfl) rfl (by simp [Value.oneCell']) ?_)
  refine bodyPost_ret (v:=.tuple #[.agg #[.int .i64 0,.int .i64 0,.int .i64 0,.string ⟨#[]⟩,.slice none 0 0],.int .i64 0,.int .i64 er]) (results_cell_tmp2 Tryz.results81 _ _ w.heap.size _ _ _ _ rfl (setRow_at (cs':=#[.int .i64 0,.int .i64 0,.int .i64 0,.string ⟨#[]⟩,.slice none 0 0]) HBR.out) Tryz.underlying52 rfl (by kernel_rfl) rfl rfl) rfl ?_
  exact ⟨by rw [HR.out];rfl,X1.out.setRow (Nat.le_refl _) _⟩
 | ok p =>
  obtain ⟨t,l1⟩:=p
  have ht:=Bu.vr_u64 hv
  obtain ⟨k1,hk1,hk2⟩:=Bu.vr_rest 10 0 0 r t l1 hv
  obtain ⟨at1,hat1⟩:∃ q,n-l1.length=q:=⟨_,rfl⟩
  have HRS1:Hid (Rst W1 A bs n at1 l1):=Hi (by rw [← hat1];exact HRS0.out.of hk1 hk2)
  have HR0:Hid (Bu.dNd 4 (f+1) r=Bu.dTg 4 (Bu.dNd 4 f) t l1):=Hi (by rw [Bu.dNd,hv])
  have K:=HNU.out i r W1 HRS0.out
  rw [hv] at K
  have HK:=Hi K
  have HA1:=Hi hat1
  clear hv K hk1 hk2 hat1
  go_enter Tryz.func81,Tryz.ntmps81
  go_wp2_with (rw [HE1.out])
  with_reducible refine HK.out.mono ?_
  rintro e _ ⟨he,rfl⟩
  have he:e=.returned (.tuple #[.int .u64 (t:Int),.int .i64 ((n-l1.length:Nat):Int),.int .i64 0]):=he
  rw [HA1.out] at he
  subst he
  clear HK
  by_cases h9:9999999<t
  · have HR:Hid (Bu.dNd 4 (f+1) r=.error 3):=Hi (by rw [HR0.out];unfold Bu.dTg;rw [if_pos h9])
    have h9i:(9999999:Int)<(t:Int):=by omega
    go_wp2_with (first
     | refine wpList_store_row rfl _ _ _ rfl w.heap.size #[.int .i64 0,.int .i64 0,.int .i64 0,.string ⟨#[]⟩,.slice none 0 0] rfl rfl _ #[.int .i64 0,.int .i64 0,.int .i64 0,.string ⟨#[]⟩,.slice none 0 0] HBR.out (by kernel_rfl) rfl (by simp [Value.oneCell']) ?_)
    refine bodyPost_ret (v:=.tuple #[.agg #[.int .i64 0,.int .i64 0,.int .i64 0,.string ⟨#[]⟩,.slice none 0 0],.int .i64 0,.int .i64 3]) (results_cell_tmp2 Tryz.results81 _ _ w.heap.size _ _ _ _ rfl (setRow_at (cs':=#[.int .i64 0,.int .i64 0,.int .i64 0,.string ⟨#[]⟩,.slice none 0 0]) HBR.out) Tryz.underlying52 rfl (by kernel_rfl) rfl rfl) rfl ?_
    exact ⟨by rw [HR.out];rfl,X1.out.setRow (Nat.le_refl _) _⟩
  · have h9i:(t:Int)≤9999999:=by omega
    have h9n:¬ (9999999:Int)<(t:Int):=by omega
    have K:=HND.out at1 HRS1.out.le W1
    cases l1 with
    | nil =>
     have HR:Hid (Bu.dNd 4 (f+1) r=.error 4):=Hi (by rw [HR0.out];unfold Bu.dTg;rw [if_neg h9])
     rw [if_neg (show ¬ 1≤n-at1 by have:=HRS1.out.rlen;simp only [List.length_nil] at this;omega)] at K
     have HK:=Hi K
     clear K
     go_wp2_with fail
     with_reducible refine HK.out.mono ?_
     rintro e _ ⟨rfl,rfl⟩
     go_wp2_with (first
      | refine wpList_store_row rfl _ _ _ rfl w.heap.size #[.int .i64 0,.int .i64 0,.int .i64 0,.string ⟨#[]⟩,.slice none 0 0] rfl rfl _ #[.int .i64 0,.int .i64 0,.int .i64 0,.string ⟨#[]⟩,.slice none 0 0] HBR.out (by kernel_rfl) rfl (by simp [Value.oneCell']) ?_)
     refine bodyPost_ret (v:=.tuple #[.agg #[.int .i64 0,.int .i64 0,.int .i64 0,.string ⟨#[]⟩,.slice none 0 0],.int .i64 0,.int .i64 4]) (results_cell_tmp2 Tryz.results81 _ _ w.heap.size _ _ _ _ rfl (setRow_at (cs':=#[.int .i64 0,.int .i64 0,.int .i64 0,.string ⟨#[]⟩,.slice none 0 0]) HBR.out) Tryz.underlying52 rfl (by kernel_rfl) rfl rfl) rfl ?_
     exact ⟨by rw [HR.out];rfl,X1.out.setRow (Nat.le_refl _) _⟩
    | cons kd l2 =>
     have HR1:Hid (Bu.dNd 4 (f+1) r=Bu.dBd 4 (Bu.dNd 4 f) t kd l2):=Hi (by rw [HR0.out];unfold Bu.dTg;rw [if_neg h9])
     obtain ⟨⟨b3,o3,rfl,hcell⟩,hlt1,hmem⟩:=HRS1.out.head
     rw [if_pos (show 1≤n-at1 by omega)] at K
     have HK:=Hi K
     have HRS2:Hid (Rst W1 (some ⟨b3,o3,none⟩) bs n (at1+1) l2):=Hi (HRS1.out.step (k:=1) (by simp))
     obtain ⟨hkd0,hkd1⟩:0≤kd∧kd<256:=HBY.out kd hmem
     have hix:(at1:Int)<(n:Int):=by omega
     clear K h9 hmem
     go_wp2_with fail
     with_reducible refine HK.out.mono ?_
     rintro e _ ⟨rfl,rfl⟩
     obtain ⟨W4,hW4⟩:∃ W,W1.alloc (.cells #[.int .i64 (t:Int),.int .i64 kd,.int .i64 0,.string ⟨#[]⟩,.slice none 0 0] 52)=W:=⟨_,rfl⟩
     have X4':Hid (Ext W1 W4):=Hi (by rw [← hW4];exact (Ext.refl _).alloc _)
     have HBQ:Hid (W4.heap[W1.heap.size]?=some (.cells #[.int .i64 (t:Int),.int .i64 kd,.int .i64 0,.string ⟨#[]⟩,.slice none 0 0] 52 (0,0))):=Hi (by rw [← hW4];exact heap_alloc_new _ _)
     have HE4:=Hi hW4
     have X4:Hid (Ext w W4):=Hi (X1.out.trans X4'.out)
     have HBR4:=Hi (X4'.out.blockAt HBR.out)
     have hs4:W4.heap.size=W1.heap.size+1:=by rw [← hW4,sizeA]
     have hcq:W4.cell? ⟨W1.heap.size,1,none⟩=some (.int .i64 kd):=by rw [cell_of_row _ _ 1 _ _ _ HBQ.out];rfl
     have HRS4:=Hi (HRS2.out.later X4'.out)
     clear hW4 HK HRS0 HRS2 X4'
     by_cases hk1:kd=1
     · subst hk1
       have e1:¬ ((1:Int)<1∨(3:Int)<1):=by decide
       have K:Calls Tryz.prog 112 #[.slice (some ⟨b3,o3,none⟩) n c,.int .i64 ((at1:Int)+1)] W4 _:=HNU.out (at1+1) l2 W4 HRS4.out
       cases hv2:Bu.vr 4 l2 with
       | error er =>
        have HR:Hid (Bu.dNd 4 (f+1) r=.error er):=Hi (by rw [HR1.out];unfold Bu.dBd;rw [if_neg e1,hv2])
        have her:(er == 0)=false:=by rw [beq_eq_false_iff_ne];rcases Bu.vr_err _ _ _ _ _ hv2 with h | h <;> omega
        rw [hv2] at K
        have HK:=Hi K
        clear hv2 K e1
        go_wp2_with (rw [HE4.out])
        with_reducible refine HK.out.mono ?_
        rintro e _ ⟨he,rfl⟩
        have he:e=.returned (.tuple #[.int .u64 0,.int .i64 0,.int .i64 er]):=he
        subst he
        go_wp2_with (first
         | refine wpList_store_row rfl _ _ _ rfl w.heap.size #[.int .i64 0,.int .i64 0,.int .i64 0,.string ⟨#[]⟩,.slice none 0 0] rfl rfl _ #[.int .i64 0,.int .i64 0,.int .i64 0,.string ⟨#[]⟩,.slice none 0 0] HBR4.out (by kernel_rfl) rfl (by simp [Value.oneCell']) ?_)
        refine bodyPost_ret (v:=.tuple #[.agg #[.int .i64 0,.int .i64 0,.int .i64 0,.string ⟨#[]⟩,.slice none 0 0],.int .i64 0,.int .i64 er]) (results_cell_tmp2 Tryz.results81 _ _ w.heap.size _ _ _ _ rfl (setRow_at (cs':=#[.int .i64 0,.int .i64 0,.int .i64 0,.string ⟨#[]⟩,.slice none 0 0]) HBR4.out) Tryz.underlying52 rfl (by kernel_rfl) rfl rfl) rfl ?_
        exact ⟨by rw [HR.out];rfl,X4.out.setRow (Nat.le_refl _) _⟩
       | ok p2 =>
        obtain ⟨x,l3⟩:=p2
        have hx:=Bu.vr_u64 hv2
        have HR:Hid (Bu.dNd 4 (f+1) r=.ok (.mk t 1 (Bu.unf x) ⟨#[]⟩ [],l3)):=Hi (by rw [HR1.out];unfold Bu.dBd;rw [if_neg e1,hv2];simp only [if_true])
        rw [hv2] at K
        have HK:=Hi K
        have HL3:Hid (l3.length≤n):=Hi (by
         obtain ⟨k3,h1,h2⟩:=Bu.vr_rest 10 0 0 l2 x l3 hv2
         have h3:=HRS4.out.rlen
         rw [h1,List.length_drop]
         omega)
        obtain ⟨at3,hat3⟩:∃ q,n-l3.length=q:=⟨_,rfl⟩
        have HA3:=Hi hat3
        have HC5:Hid (W4.cell? ⟨W1.heap.size,2,none⟩=some (.int .i64 0)):=Hi (by rw [cell_of_row _ _ 2 _ _ _ HBQ.out];rfl)
        have hc5:=HC5.out
        have hf5:=frozen_row HBQ.out 2
        have hh3:(x:Int) / 2≤9223372036854775807:=by omega
        have hh4:0≤(x:Int) / 2:=by omega
        obtain ⟨w5,hw5⟩:∃ W,W4.setCell ⟨W1.heap.size,2,none⟩ (.int .i64 ((x:Int) / 2))=W:=⟨_,rfl⟩
        have HBQ5:Hid (w5.heap[W1.heap.size]?=some (.cells #[.int .i64 (t:Int),.int .i64 1,.int .i64 ((x:Int) / 2),.string ⟨#[]⟩,.slice none 0 0] 52 (0,0))):=Hi (by rw [← hw5];exact heap_set HBQ.out 2 _)
        have HBR5:Hid (w5.heap[w.heap.size]?=some (.cells #[.int .i64 0,.int .i64 0,.int .i64 0,.string ⟨#[]⟩,.slice none 0 0] 52 (0,0))):=Hi (by rw [← hw5,Below.heap_setCell _ _ _ _ (show w.heap.size≠W1.heap.size by omega)];exact HBR4.out)
        have X5:Hid (Ext w w5):=Hi (by rw [← hw5];exact X4.out.setCell (show w.heap.size≤W1.heap.size by omega) _)
        have HE5:=Hi hw5
        clear hw5 HC5
        clear hv2 K e1 hat3
        rcases Nat.mod_two_eq_zero_or_one x with hp | hp
        · have t5:((x:Int) % 2 == 1)=false:=by rw [beq_eq_false_iff_ne];omega
          have HU:Hid (Bu.unf x=(x:Int) / 2):=Hi (by unfold Bu.unf;rw [if_pos hp];omega)
          have HBR6:=HBR5
          have X6:=X5
          have hcq5:w5.cell? ⟨W1.heap.size,1,none⟩=some (.int .i64 1):=by rw [cell_of_row _ _ 1 _ _ _ HBQ5.out];rfl
          go_wp2_with (rw [HE4.out])
          with_reducible refine HK.out.mono ?_
          rintro e _ ⟨he,rfl⟩
          have he:e=.returned (.tuple #[.int .u64 (x:Int),.int .i64 ((n-l3.length:Nat):Int),.int .i64 0]):=he
          rw [HA3.out] at he
          subst he
          go_wp2_with (first
           | (rw [HE5.out])
           | refine wpList_load_row rfl _ _ rfl W1.heap.size rfl _ #[.int .i64 (t:Int),.int .i64 1,.int .i64 ((x:Int) / 2),.string ⟨#[]⟩,.slice none 0 0] _ _ HBQ5.out Tryz.underlying52 rfl (by kernel_rfl) ?_
           | refine wpList_store_row rfl _ _ _ rfl w.heap.size #[.int .i64 (t:Int),.int .i64 1,.int .i64 ((x:Int) / 2),.string ⟨#[]⟩,.slice none 0 0] rfl rfl _ #[.int .i64 0,.int .i64 0,.int .i64 0,.string ⟨#[]⟩,.slice none 0 0] HBR6.out (by kernel_rfl) rfl (by simp [Value.oneCell']) ?_)
          refine bodyPost_ret (v:=.tuple #[.agg #[.int .i64 (t:Int),.int .i64 1,.int .i64 ((x:Int) / 2),.string ⟨#[]⟩,.slice none 0 0],.int .i64 (at3),.int .i64 0]) (results_cell_tmp2 Tryz.results81 _ _ w.heap.size _ _ _ _ rfl (setRow_at (cs':=#[.int .i64 (t:Int),.int .i64 1,.int .i64 ((x:Int) / 2),.string ⟨#[]⟩,.slice none 0 0]) HBR6.out) Tryz.underlying52 rfl (by kernel_rfl) rfl rfl) rfl ?_
          refine ⟨?_,X6.out.setRow (Nat.le_refl _) _⟩
          rw [HR.out]
          exact ⟨HL3.out,(none,0),by rw [HA3.out,HU.out];rfl,KidsP.nil _ _ _ _ _⟩
        · have t5:((x:Int) % 2 == 1)=true:=by rw [beq_iff_eq];omega
          have HU:Hid (Bu.unf x=-((x:Int) / 2)-1):=Hi (by unfold Bu.unf;rw [if_neg (by omega)];omega)
          have hcq5:w5.cell? ⟨W1.heap.size,1,none⟩=some (.int .i64 1):=by rw [cell_of_row _ _ 1 _ _ _ HBQ5.out];rfl
          have hc52:w5.cell? ⟨W1.heap.size,2,none⟩=some (.int .i64 ((x:Int) / 2)):=by rw [cell_of_row _ _ 2 _ _ _ HBQ5.out];rfl
          have hf52:=frozen_row HBQ5.out 2
          obtain ⟨w6,hw6⟩:∃ W,w5.setCell ⟨W1.heap.size,2,none⟩ (.int .i64 (-((x:Int) / 2)-1))=W:=⟨_,rfl⟩
          have HBQ6:Hid (w6.heap[W1.heap.size]?=some (.cells #[.int .i64 (t:Int),.int .i64 1,.int .i64 (-((x:Int) / 2)-1),.string ⟨#[]⟩,.slice none 0 0] 52 (0,0))):=Hi (by rw [← hw6];exact heap_set HBQ5.out 2 _)
          have HBR6:Hid (w6.heap[w.heap.size]?=some (.cells #[.int .i64 0,.int .i64 0,.int .i64 0,.string ⟨#[]⟩,.slice none 0 0] 52 (0,0))):=Hi (by rw [← hw6,Below.heap_setCell _ _ _ _ (show w.heap.size≠W1.heap.size by omega)];exact HBR5.out)
          have X6:Hid (Ext w w6):=Hi (by rw [← hw6];exact X5.out.setCell (show w.heap.size≤W1.heap.size by omega) _)
          have HE6:=Hi hw6
          clear hw6
          go_wp2_with (rw [HE4.out])
          with_reducible refine HK.out.mono ?_
          rintro e _ ⟨he,rfl⟩
          have he:e=.returned (.tuple #[.int .u64 (x:Int),.int .i64 ((n-l3.length:Nat):Int),.int .i64 0]):=he
          rw [HA3.out] at he
          subst he
          go_wp2_with (first
           | (rw [HE5.out])
           | (rw [HE6.out])
           | refine wpList_load_row rfl _ _ rfl W1.heap.size rfl _ #[.int .i64 (t:Int),.int .i64 1,.int .i64 (-((x:Int) / 2)-1),.string ⟨#[]⟩,.slice none 0 0] _ _ HBQ6.out Tryz.underlying52 rfl (by kernel_rfl) ?_
           | refine wpList_store_row rfl _ _ _ rfl w.heap.size #[.int .i64 (t:Int),.int .i64 1,.int .i64 (-((x:Int) / 2)-1),.string ⟨#[]⟩,.slice none 0 0] rfl rfl _ #[.int .i64 0,.int .i64 0,.int .i64 0,.string ⟨#[]⟩,.slice none 0 0] HBR6.out (by kernel_rfl) rfl (by simp [Value.oneCell']) ?_)
          refine bodyPost_ret (v:=.tuple #[.agg #[.int .i64 (t:Int),.int .i64 1,.int .i64 (-((x:Int) / 2)-1),.string ⟨#[]⟩,.slice none 0 0],.int .i64 (at3),.int .i64 0]) (results_cell_tmp2 Tryz.results81 _ _ w.heap.size _ _ _ _ rfl (setRow_at (cs':=#[.int .i64 (t:Int),.int .i64 1,.int .i64 (-((x:Int) / 2)-1),.string ⟨#[]⟩,.slice none 0 0]) HBR6.out) Tryz.underlying52 rfl (by kernel_rfl) rfl rfl) rfl ?_
          refine ⟨?_,X6.out.setRow (Nat.le_refl _) _⟩
          rw [HR.out]
          exact ⟨HL3.out,(none,0),by rw [HA3.out,HU.out];rfl,KidsP.nil _ _ _ _ _⟩
     · have t1:(kd == 1)=false:=by rw [beq_eq_false_iff_ne];exact hk1
       by_cases hk2:kd=2
       · subst hk2
         clear t1 hk1
         have e1:¬ ((2:Int)<1∨(3:Int)<2):=by decide
         have K:Calls Tryz.prog 112 #[.slice (some ⟨b3,o3,none⟩) n c,.int .i64 ((at1:Int)+1)] W4 _:=HNU.out (at1+1) l2 W4 HRS4.out
         cases hv2:Bu.vr 4 l2 with
         | error er =>
          have HR:Hid (Bu.dNd 4 (f+1) r=.error er):=Hi (by rw [HR1.out];unfold Bu.dBd;rw [if_neg e1,hv2])
          have her:(er == 0)=false:=by rw [beq_eq_false_iff_ne];rcases Bu.vr_err _ _ _ _ _ hv2 with h | h <;> omega
          rw [hv2] at K
          have HK:=Hi K
          clear hv2 K e1
          go_wp2_with (rw [HE4.out])
          with_reducible refine HK.out.mono ?_
          rintro e _ ⟨he,rfl⟩
          have he:e=.returned (.tuple #[.int .u64 0,.int .i64 0,.int .i64 er]):=he
          subst he
          go_wp2_with (first
           | refine wpList_store_row rfl _ _ _ rfl w.heap.size #[.int .i64 0,.int .i64 0,.int .i64 0,.string ⟨#[]⟩,.slice none 0 0] rfl rfl _ #[.int .i64 0,.int .i64 0,.int .i64 0,.string ⟨#[]⟩,.slice none 0 0] HBR4.out (by kernel_rfl) rfl (by simp [Value.oneCell']) ?_)
          refine bodyPost_ret (v:=.tuple #[.agg #[.int .i64 0,.int .i64 0,.int .i64 0,.string ⟨#[]⟩,.slice none 0 0],.int .i64 0,.int .i64 er]) (results_cell_tmp2 Tryz.results81 _ _ w.heap.size _ _ _ _ rfl (setRow_at (cs':=#[.int .i64 0,.int .i64 0,.int .i64 0,.string ⟨#[]⟩,.slice none 0 0]) HBR4.out) Tryz.underlying52 rfl (by kernel_rfl) rfl rfl) rfl ?_
          exact ⟨by rw [HR.out];rfl,X4.out.setRow (Nat.le_refl _) _⟩
         | ok p2 =>
          obtain ⟨x,l3⟩:=p2
          have hx:=Bu.vr_u64 hv2
          have HR:Hid (Bu.dNd 4 (f+1) r=Bu.dSt 4 t x l3):=Hi (by rw [HR1.out];unfold Bu.dBd;rw [if_neg e1,hv2];simp only [if_neg (show ¬ (2:Int)=1 by decide),if_true])
          rw [hv2] at K
          have HK:=Hi K
          obtain ⟨k3,hk31,hk32⟩:=Bu.vr_rest 10 0 0 l2 x l3 hv2
          obtain ⟨at3,hat3⟩:∃ q,n-l3.length=q:=⟨_,rfl⟩
          have HRS5:Hid (Rst W4 (some ⟨b3,o3,none⟩) bs n at3 l3):=Hi (by rw [← hat3];exact HRS4.out.of hk31 hk32)
          have HA3:=Hi hat3
          clear hv2 K e1 hat3 hk31 hk32
          have K:=HTX.out at3 l3 t x hx W4 HRS5.out
          have HT:=Hi K
          clear K
          go_wp2_with (first
           | (rw [HE4.out])
           | refine wpList_load_row rfl _ _ rfl W1.heap.size rfl _ #[.int .i64 (t:Int),.int .i64 2,.int .i64 0,.string ⟨#[]⟩,.slice none 0 0] _ _ HBQ.out Tryz.underlying52 rfl (by kernel_rfl) ?_)
          with_reducible refine HK.out.mono ?_
          rintro e _ ⟨he,rfl⟩
          have he:e=.returned (.tuple #[.int .u64 (x:Int),.int .i64 ((n-l3.length:Nat):Int),.int .i64 0]):=he
          rw [HA3.out] at he
          subst he
          go_wp2_with (refine wpList_load_row rfl _ _ rfl W1.heap.size rfl _ #[.int .i64 (t:Int),.int .i64 2,.int .i64 0,.string ⟨#[]⟩,.slice none 0 0] _ _ HBQ.out Tryz.underlying52 rfl (by kernel_rfl) ?_)
          with_reducible refine HT.out.mono ?_
          rintro e w5 ⟨hB5,hX5⟩
          obtain ⟨tg,kk,nn,ss,Ak,lk,ck,pp,er,rfl⟩:=hB5.shape
          have HB5:=Hi hB5
          have HBR6:=Hi (hX5.blockAt HBR4.out)
          have X6:=Hi (X4.out.trans hX5)
          clear hB5 hX5 HT HK
          go_wp2_with (first
           | refine wpList_store_row rfl _ _ _ rfl w.heap.size #[.int .i64 tg,.int .i64 kk,.int .i64 nn,.string ss,.slice Ak lk ck] rfl rfl _ #[.int .i64 0,.int .i64 0,.int .i64 0,.string ⟨#[]⟩,.slice none 0 0] HBR6.out (by kernel_rfl) rfl (by simp [Value.oneCell']) ?_)
          refine bodyPost_ret (v:=.tuple #[.agg #[.int .i64 tg,.int .i64 kk,.int .i64 nn,.string ss,.slice Ak lk ck],.int .i64 pp,.int .i64 er]) (results_cell_tmp2 Tryz.results81 _ _ w.heap.size _ _ _ _ rfl (setRow_at (cs':=#[.int .i64 tg,.int .i64 kk,.int .i64 nn,.string ss,.slice Ak lk ck]) HBR6.out) Tryz.underlying52 rfl (by kernel_rfl) rfl rfl) rfl ?_
          refine ⟨?_,X6.out.setRow (Nat.le_refl _) _⟩
          rw [HR.out]
          exact HB5.out.keep (by simp [World.setRow]) (fun b hb _=>setRow_other _ _ (show b≠w.heap.size by omega)) (by omega)
       · have t2:(kd == 2)=false:=by rw [beq_eq_false_iff_ne];exact hk2
         by_cases hk3:kd=3
         · subst hk3
           clear t1 t2 hk1 hk2
           have e1:¬ ((3:Int)<1∨(3:Int)<3):=by decide
           have K:Calls Tryz.prog 112 #[.slice (some ⟨b3,o3,none⟩) n c,.int .i64 ((at1:Int)+1)] W4 _:=HNU.out (at1+1) l2 W4 HRS4.out
           cases hv2:Bu.vr 4 l2 with
           | error er =>
            have HR:Hid (Bu.dNd 4 (f+1) r=.error er):=Hi (by rw [HR1.out];unfold Bu.dBd;rw [if_neg e1,hv2])
            have her:(er == 0)=false:=by rw [beq_eq_false_iff_ne];rcases Bu.vr_err _ _ _ _ _ hv2 with h | h <;> omega
            rw [hv2] at K
            have HK:=Hi K
            clear hv2 K e1
            go_wp2_with (rw [HE4.out])
            with_reducible refine HK.out.mono ?_
            rintro e _ ⟨he,rfl⟩
            have he:e=.returned (.tuple #[.int .u64 0,.int .i64 0,.int .i64 er]):=he
            subst he
            go_wp2_with (first
             | refine wpList_store_row rfl _ _ _ rfl w.heap.size #[.int .i64 0,.int .i64 0,.int .i64 0,.string ⟨#[]⟩,.slice none 0 0] rfl rfl _ #[.int .i64 0,.int .i64 0,.int .i64 0,.string ⟨#[]⟩,.slice none 0 0] HBR4.out (by kernel_rfl) rfl (by simp [Value.oneCell']) ?_)
            refine bodyPost_ret (v:=.tuple #[.agg #[.int .i64 0,.int .i64 0,.int .i64 0,.string ⟨#[]⟩,.slice none 0 0],.int .i64 0,.int .i64 er]) (results_cell_tmp2 Tryz.results81 _ _ w.heap.size _ _ _ _ rfl (setRow_at (cs':=#[.int .i64 0,.int .i64 0,.int .i64 0,.string ⟨#[]⟩,.slice none 0 0]) HBR4.out) Tryz.underlying52 rfl (by kernel_rfl) rfl rfl) rfl ?_
            exact ⟨by rw [HR.out];rfl,X4.out.setRow (Nat.le_refl _) _⟩
           | ok p2 =>
            obtain ⟨x,l3⟩:=p2
            have hx:=Bu.vr_u64 hv2
            have HR:Hid (Bu.dNd 4 (f+1) r=Bu.dLs (Bu.dNd 4 f) t x l3):=Hi (by rw [HR1.out];unfold Bu.dBd;rw [if_neg e1,hv2];simp only [if_neg (show ¬ (3:Int)=1 by decide),if_neg (show ¬ (3:Int)=2 by decide)])
            rw [hv2] at K
            have HK:=Hi K
            obtain ⟨k3,hk31,hk32⟩:=Bu.vr_rest 10 0 0 l2 x l3 hv2
            obtain ⟨at3,hat3⟩:∃ q,n-l3.length=q:=⟨_,rfl⟩
            have HRS5:Hid (Rst W4 (some ⟨b3,o3,none⟩) bs n at3 l3):=Hi (by rw [← hat3];exact HRS4.out.of hk31 hk32)
            have HA3:=Hi hat3
            clear hv2 K e1 hat3 hk31 hk32
            have HR2:=HR
            clear HR HTX HND HR1
            by_cases hbig:1024<x
            · have HR:Hid (Bu.dNd 4 (f+1) r=.error 5):=Hi (by rw [HR2.out];unfold Bu.dLs;rw [if_pos hbig])
              have hb:(1024:Int)<(x:Int):=by omega
              go_wp2_with (rw [HE4.out])
              with_reducible refine HK.out.mono ?_
              rintro e _ ⟨he,rfl⟩
              have he:e=.returned (.tuple #[.int .u64 (x:Int),.int .i64 ((n-l3.length:Nat):Int),.int .i64 0]):=he
              rw [HA3.out] at he
              subst he
              go_wp2_with (first
               | refine wpList_store_row rfl _ _ _ rfl w.heap.size #[.int .i64 0,.int .i64 0,.int .i64 0,.string ⟨#[]⟩,.slice none 0 0] rfl rfl _ #[.int .i64 0,.int .i64 0,.int .i64 0,.string ⟨#[]⟩,.slice none 0 0] HBR4.out (by kernel_rfl) rfl (by simp [Value.oneCell']) ?_)
              refine bodyPost_ret (v:=.tuple #[.agg #[.int .i64 0,.int .i64 0,.int .i64 0,.string ⟨#[]⟩,.slice none 0 0],.int .i64 0,.int .i64 5]) (results_cell_tmp2 Tryz.results81 _ _ w.heap.size _ _ _ _ rfl (setRow_at (cs':=#[.int .i64 0,.int .i64 0,.int .i64 0,.string ⟨#[]⟩,.slice none 0 0]) HBR4.out) Tryz.underlying52 rfl (by kernel_rfl) rfl rfl) rfl ?_
              exact ⟨by rw [HR.out];rfl,X4.out.setRow (Nat.le_refl _) _⟩
            · have HBG:=Hi hbig
              have hb:¬ (1024:Int)<(x:Int):=by omega
              have hxi:(x:Int)≤9223372036854775807:=by omega
              obtain ⟨i0,hi0,hz0,hz1,hz2⟩:=info_parts Tryz.infoNd5
              have HJ0:Hid (W4.heap[W1.heap.size]?=some (.cells #[.int .i64 (t:Int),.int .i64 3,.int .i64 0,.string ⟨#[]⟩,.slice none 0 0] 52 (0,0))∧RowK 1024 f (W1.heap.size+1) W4 (.slice none 0 0) []∧Ext w W4∧W4.heap[w.heap.size]?=some (.cells #[.int .i64 0,.int .i64 0,.int .i64 0,.string ⟨#[]⟩,.slice none 0 0] 52 (0,0))) :=
               Hi ⟨HBQ.out,RowK.nil _ _ _ _,X4.out,HBR4.out⟩
              have HRW5:Hid (Rst w (some ⟨b3,o3,none⟩) bs n at3 l3∧at3=n-l3.length∧l3.length≤n):=Hi ⟨⟨HRW.out.sl,HRS5.out.len,HRS5.out.drop,HRS5.out.le⟩,HA3.out.symm,by have:=HRS5.out.rlen;omega⟩
              clear hbig HNU
              go_wp2_with (rw [HE4.out])
              with_reducible refine HK.out.mono ?_
              rintro e _ ⟨he,rfl⟩
              have he:e=.returned (.tuple #[.int .u64 (x:Int),.int .i64 ((n-l3.length:Nat):Int),.int .i64 0]):=he
              rw [HA3.out] at he
              subst he
              clear HK
              go_wp2_with fail
              go_loopw [1,13] (fun p q wr=>∃ (j at_:Nat) (v:Value) (xs:List NdM) (lj:List Int),j≤x∧p=.int .i64 (at_:Int)∧q=.int .i64 (j:Int)∧Hid (xs.length=j)∧Hid (Bu.dKs (Bu.dNd 4 f) j l3=.ok (nds xs,lj))∧Hid (Rst w (some ⟨b3,o3,none⟩) bs n at_ lj∧at_=n-lj.length∧lj.length≤n)∧Hid (wr.heap[W1.heap.size]?=some (.cells #[.int .i64 (t:Int),.int .i64 3,.int .i64 0,.string ⟨#[]⟩,v] 52 (0,0))∧RowK 1024 f (W1.heap.size+1) wr v xs∧Ext w wr∧wr.heap[w.heap.size]?=some (.cells #[.int .i64 0,.int .i64 0,.int .i64 0,.string ⟨#[]⟩,.slice none 0 0] 52 (0,0)))) (fun _ q _=>x-(intOf q).toNat)
              case atStart=>exact ⟨0,at3,.slice none 0 0,[],l3,Nat.zero_le _,rfl,rfl,Hi rfl,Hi rfl,HRW5,HJ0⟩
              case round =>
               obtain ⟨j,at_,v,xs,lj,hj,rfl,rfl,HXL,HKS,HRJ,HJ⟩:=hrel
               clear HJ0 hcq
               by_cases hlt:j<x
               · have hlti:(j:Int)<(x:Int):=by omega
                 have K:=HIH.out at_ lj wr (HRJ.out.1.later HJ.out.2.2.1)
                 rw [← HLV.out] at K
                 cases hd':Bu.dNd 4 f lj with
                 | error er =>
                  have HR:Hid (Bu.dNd 4 (f+1) r=.error er):=Hi (by
                   have h1:Bu.dKs (Bu.dNd 4 f) (j+1) l3=.error er:=by rw [Bu.dKs,HKS.out];simp only [hd']
                   have h2:=Bu.dKs_stuck h1 (x-(j+1))
                   rw [show j+1+(x-(j+1))=x by omega] at h2
                   rw [HR2.out]
                   unfold Bu.dLs
                   rw [if_neg HBG.out,h2])
                  have her:(er == 0)=false:=by
                   rw [beq_eq_false_iff_ne]
                   have:=Bu.dNd_err (show (0:Int)<4 by decide) f lj er hd'
                   omega
                  rw [hd'] at K
                  have HK:=Hi K
                  clear K hd'
                  go_wp2_with fail
                  with_reducible refine HK.out.mono ?_
                  rintro e w5 ⟨he,hx5⟩
                  have he:e=.returned (.tuple #[.agg #[.int .i64 0,.int .i64 0,.int .i64 0,.string ⟨#[]⟩,.slice none 0 0],.int .i64 0,.int .i64 er]):=he
                  subst he
                  obtain ⟨W6,hW6⟩:∃ W,w5.alloc (.cells #[.int .i64 0,.int .i64 0,.int .i64 0,.string ⟨#[]⟩,.slice none 0 0] 52)=W:=⟨_,rfl⟩
                  have hx6:Ext wr W6:=by rw [← hW6];exact hx5.alloc _
                  have HBR6:=Hi (hx6.blockAt HJ.out.2.2.2)
                  have X6:=Hi (HJ.out.2.2.1.trans hx6)
                  have HE6:=Hi hW6
                  have HP6:Hid (W6.heap[w5.heap.size]?=some (.cells #[.int .i64 0,.int .i64 0,.int .i64 0,.string ⟨#[]⟩,.slice none 0 0] 52 (0,0))):=Hi (by rw [← hW6];exact heap_alloc_new _ _)
                  clear hx6 hW6 hx5
                  go_wp2_with (first
                   | (rw [HE6.out])
                   | (refine wpList_store_row rfl _ _ _ rfl w5.heap.size #[.int .i64 0,.int .i64 0,.int .i64 0,.string ⟨#[]⟩,.slice none 0 0] rfl rfl _ #[.int .i64 0,.int .i64 0,.int .i64 0,.string ⟨#[]⟩,.slice none 0 0] HP6.out (by kernel_rfl) rfl (by simp [Value.oneCell']) ?_;rw [setRow_self _ _ _ _ _ HP6.out])
                   | refine wpList_store_row rfl _ _ _ rfl w.heap.size #[.int .i64 0,.int .i64 0,.int .i64 0,.string ⟨#[]⟩,.slice none 0 0] rfl rfl _ #[.int .i64 0,.int .i64 0,.int .i64 0,.string ⟨#[]⟩,.slice none 0 0] HBR6.out (by kernel_rfl) rfl (by simp [Value.oneCell']) ?_)
                  refine bodyPost_ret (v:=.tuple #[.agg #[.int .i64 0,.int .i64 0,.int .i64 0,.string ⟨#[]⟩,.slice none 0 0],.int .i64 0,.int .i64 er]) (results_cell_tmp2 Tryz.results81 _ _ w.heap.size _ _ _ _ rfl (setRow_at (cs':=#[.int .i64 0,.int .i64 0,.int .i64 0,.string ⟨#[]⟩,.slice none 0 0]) HBR6.out) Tryz.underlying52 rfl (by kernel_rfl) rfl rfl) rfl ?_
                  exact ⟨by rw [HR.out];rfl,X6.out.setRow (Nat.le_refl _) _⟩
                 | ok q =>
                  obtain ⟨y,lr⟩:=q
                  have HK1:Hid (Bu.dKs (Bu.dNd 4 f) (j+1) l3=.ok (nds xs ++ [y],lr)):=Hi (by rw [Bu.dKs,HKS.out];simp only [hd'])
                  obtain ⟨k5,hk51,hk52⟩:=Bu.dNd_rest 4 f lj y lr hd'
                  have HRJ5:Hid (Rst w (some ⟨b3,o3,none⟩) bs n (n-lr.length) lr∧lr.length≤n):=Hi ⟨HRJ.out.1.of hk51 hk52,by have:=HRJ.out.2.2;rw [hk51,List.length_drop];omega⟩
                  rw [hd'] at K
                  have HK:=Hi K
                  clear K hd' hk51 hk52
                  go_wp2_with fail
                  with_reducible refine HK.out.mono ?_
                  rintro e w5 ⟨⟨hl5,M,he,hK5⟩,hx5⟩
                  obtain ⟨tg,kk,nn,ss,Ak,lk,ck,hCS,hCN⟩:∃ (tg kk nn:Int) (ss:ByteArray) (Ak:Option Addr) (lk ck:Nat),nda y M=.agg #[.int .i64 tg,.int .i64 kk,.int .i64 nn,.string ss,.slice Ak lk ck]∧ncl (y,M)=[.int .i64 tg,.int .i64 kk,.int .i64 nn,.string ss,.slice Ak lk ck]:=⟨_,_,_,_,_,_,_,rfl,rfl⟩
                  rw [hCS] at he
                  obtain ⟨at5,hat5⟩:∃ q,n-lr.length=q:=⟨_,rfl⟩
                  rw [hat5] at he HRJ5
                  have HRJ6:Hid (Rst w (some ⟨b3,o3,none⟩) bs n at5 lr∧at5=n-lr.length∧lr.length≤n):=Hi ⟨HRJ5.out.1,hat5.symm,HRJ5.out.2⟩
                  subst he
                  obtain ⟨hbq,hrow,hxw,hbr⟩:=HJ.out
                  obtain ⟨Av,cv,rfl⟩:=own_form hrow.own
                  have hwr:=lt_size hbq
                  have HKD:Hid (KidsP 1024 (fun b=>W1.heap.size+1≤b∧some b≠(Value.slice Av xs.length cv).ownBlock) f w5 M y.kids):=Hi (hK5.mono fun b hb=>⟨Nat.le_trans hwr hb,fun e=>by
                   have:=own_lt hrow.own b e.symm
                   have hb':wr.heap.size≤b:=hb
                   omega⟩)
                  obtain ⟨W6,hW6⟩:∃ W,w5.alloc (.cells #[.int .i64 tg,.int .i64 kk,.int .i64 nn,.string ss,.slice Ak lk ck] 52)=W:=⟨_,rfl⟩
                  have hx56:Ext w5 W6:=by rw [← hW6];exact (Ext.refl _).alloc _
                  have HP6:Hid (W6.heap[w5.heap.size]?=some (.cells #[.int .i64 tg,.int .i64 kk,.int .i64 nn,.string ss,.slice Ak lk ck] 52 (0,0))):=Hi (by rw [← hW6];exact heap_alloc_new _ _)
                  obtain ⟨W7,hW7⟩:∃ W,W6.alloc (.cells #[.int .i64 tg,.int .i64 kk,.int .i64 nn,.string ss,.slice Ak lk ck] 52)=W:=⟨_,rfl⟩
                  have hx67:Ext W6 W7:=by rw [← hW7];exact (Ext.refl _).alloc _
                  have hx7:Ext wr W7:=(hx5.trans hx56).trans hx67
                  have HSL:Hid (Sl W7 5 (some ⟨W6.heap.size,0,none⟩) [[.int .i64 tg,.int .i64 kk,.int .i64 nn,.string ss,.slice Ak lk ck]]):=Hi (by
                   have:=sl_oneN W6 (y,M) 52
                   rw [List.map_cons,List.map_nil,hCN] at this
                   rw [← hW7]
                   exact this)
                  have hcv:W6.cell? ⟨W1.heap.size,4,none⟩=some (.slice Av j cv):=by
                   rw [cell_of_row _ _ 4 _ _ _ ((hx5.trans hx56).blockAt hbq),HXL.out];rfl
                  have HROW7:=Hi (hrow.ext hx7)
                  have HOWN7:Hid (W7.ownsRow (W1.heap.size+1) 52 5 (.slice Av j cv) j (xs.map ncl).flatten):=Hi (by
                   have:=HROW7.out.own
                   rw [HXL.out] at this
                   exact this)
                  have HKD7:=Hi (HKD.out.ext (hx56.trans hx67))
                  have HQ7:=Hi (hx7.blockAt hbq)
                  have HR7:=Hi (hx7.blockAt hbr)
                  have X7:=Hi (hxw.trans hx7)
                  have HCN:=Hi hCN
                  have HE6:=Hi hW6
                  have HE7:=Hi hW7
                  have HB7:Hid (W1.heap.size+1≤W7.heap.size):=Hi (Nat.le_trans hwr hx7.size)
                  have hjb:j≤1024:=by omega
                  clear hCS hCN hbq hrow hxw hbr hK5 hx5 hW6 hx56 hW7 hx67 hx7 HJ HK HKD hl5 hat5 hwr
                  go_wp2_with (first
                   | (rw [HE6.out])
                   | (rw [HE7.out])
                   | refine wpList_load_row rfl _ _ rfl w5.heap.size rfl _ #[.int .i64 tg,.int .i64 kk,.int .i64 nn,.string ss,.slice Ak lk ck] _ _ HP6.out Tryz.underlying52 rfl (by kernel_rfl) ?_
                   | (at_builtin; refine wpList_append_k rfl _ _ 50 rfl (W1.heap.size + 1) 52 i0 (.agg #[.int .i64 0, .int .i64 0, .int .i64 0, .string ⟨#[]⟩, .slice none 0 0]) 5 64 Tryz.underlying50 hi0 hz0 hz1 hz2 rfl (by decide) (.slice Av j cv) j _ rfl HOWN7.out (some ⟨W6.heap.size, 0, none⟩) 1 1 [[.int .i64 tg, .int .i64 kk, .int .i64 nn, .string ss, .slice Ak lk ck]] rfl rfl HSL.out (by simp) (by simp [Value.oneCell']) (by unfold maxLen; omega) (by omega) HB7.out ?_; intro A' c' w8 hown8 hgr8 hat8
                      have hge:∀ b,b<W1.heap.size+1→some b≠(Value.slice Av j cv).ownBlock:=fun b hb e=>by
                       have:=own_ge HOWN7.out b e.symm
                       omega
                      have HQ8:=Hi ((hgr8.block _ (by have:=HB7.out;omega) (hge _ (by omega))).trans HQ7.out)
                      have hc8:w8.cell? ⟨W1.heap.size,4,none⟩=some (.slice Av xs.length cv):=by rw [cell_of_row _ _ 4 _ _ _ HQ8.out];rfl
                      have hf8:=frozen_row HQ8.out 4
                      have HG8:=Hi hgr8
                      have HO8:=Hi hown8
                      have HA8:=Hi hat8
                      have HGE:=Hi hge
                      clear hown8 hgr8 hat8 hge))
                  have hb7:=HB7.out
                  refine ⟨⟨j+1,at5,.slice A' (j+1) c',xs ++ [(y,M)],lr,by omega,rfl,by go_num,Hi (by rw [List.length_append,HXL.out];rfl),Hi (by rw [HK1.out];unfold nds;rw [List.map_append];rfl),HRJ6,Hi ⟨?_,?_,?_,?_⟩⟩,?_⟩
                  · rw [heap_setCell_same _ _ 4 _ _ _ HQ8.out];rfl
                  · refine RowK.set ?_ (Nat.lt_succ_self _) 4 _
                    have hg:=HG8.out
                    have hat:=HA8.out
                    have hown:=HO8.out
                    have hk:=HKD7.out
                    have hr7:=HROW7.out
                    have hnn:xs.length+1=j+1:=by rw [HXL.out]
                    rw [← hnn] at hat hown ⊢
                    rw [← HXL.out] at hg hat
                    refine hr7.push (y,M) hg hat ?_ hk
                    rw [List.map_append,List.flatten_append,List.map_cons,List.map_nil,HCN.out]
                    exact hown
                  · exact (X7.out.grown HG8.out (fun q hq=>by have:=own_ge HOWN7.out q hq;omega)).setCell (show w.heap.size≤W1.heap.size by omega) _
                  · rw [Below.heap_setCell _ _ _ _ (show w.heap.size≠W1.heap.size by omega),HG8.out.block _ (by omega) (HGE.out _ (by omega))]
                    exact HR7.out
                  · simp [intOf]
                    omega
               · obtain rfl:j=x:=by omega
                 have HR:Hid (Bu.dNd 4 (f+1) r=.ok (.mk t 3 0 ⟨#[]⟩ (nds xs),lj)):=Hi (by rw [HR2.out];unfold Bu.dLs;rw [if_neg HBG.out,HKS.out])
                 obtain ⟨hb5,hrow5,X6,hbr5⟩:=HJ.out
                 obtain ⟨Av,cv,rfl⟩:=own_form hrow5.own
                 have HKD:=Hi (RowK.done hrow5 rfl (by have:=HXL.out;omega))
                 have HNL:Hid ((nds xs).length=xs.length):=Hi (List.length_map _)
                 have HBQ6:=Hi hb5
                 have HBR6:=Hi hbr5
                 have X6:=Hi X6
                 generalize xs.length=xl at *
                 clear hb5 hrow5 hbr5 HJ HR2
                 go_wp2_with (first
                  | refine wpList_load_row rfl _ _ rfl W1.heap.size rfl _ #[.int .i64 (t:Int),.int .i64 3,.int .i64 0,.string ⟨#[]⟩,.slice Av xl cv] _ _ HBQ6.out Tryz.underlying52 rfl (by kernel_rfl) ?_
                  | refine wpList_store_row rfl _ _ _ rfl w.heap.size #[.int .i64 (t:Int),.int .i64 3,.int .i64 0,.string ⟨#[]⟩,.slice Av xl cv] rfl rfl _ #[.int .i64 0,.int .i64 0,.int .i64 0,.string ⟨#[]⟩,.slice none 0 0] HBR6.out (by kernel_rfl) rfl (by simp [Value.oneCell']) ?_)
                 refine bodyPost_ret (v:=.tuple #[.agg #[.int .i64 (t:Int),.int .i64 3,.int .i64 0,.string ⟨#[]⟩,.slice Av xl cv],.int .i64 (at_),.int .i64 0]) (results_cell_tmp2 Tryz.results81 _ _ w.heap.size _ _ _ _ rfl (setRow_at (cs':=#[.int .i64 (t:Int),.int .i64 3,.int .i64 0,.string ⟨#[]⟩,.slice Av xl cv]) HBR6.out) Tryz.underlying52 rfl (by kernel_rfl) rfl rfl) rfl ?_
                 refine ⟨?_,X6.out.setRow (Nat.le_refl _) _⟩
                 rw [HR.out]
                 refine ⟨HRJ.out.2.2,(Av,cv),?_,?_⟩
                 · rw [← HRJ.out.2.1]
                   show Ending.returned (.tuple #[.agg #[.int .i64 (t:Int),.int .i64 3,.int .i64 0,.string ⟨#[]⟩,.slice Av xl cv],.int .i64 (at_:Int),.int .i64 0])=.returned (.tuple #[.agg #[.int .i64 (t:Int),.int .i64 3,.int .i64 0,.string ⟨#[]⟩,.slice Av (nds xs).length cv],.int .i64 (at_:Int),.int .i64 0])
                   rw [HNL.out]
                 · refine (HKD.out.keep (by simp [World.setRow]) fun b hb _=>setRow_other _ _ (show b≠w.heap.size by omega)).mono fun b hb=>?_
                   show w.heap.size≤b
                   omega
         · have t3:(kd == 3)=false:=by rw [beq_eq_false_iff_ne];exact hk3
           have HR:Hid (Bu.dNd 4 (f+1) r=.error 2):=Hi (by rw [HR1.out];unfold Bu.dBd;rw [if_pos (by omega)])
           by_cases h0:kd<1
           · have t5:decide (kd<1)=true:=decide_eq_true h0
             go_wp2_with (first
              | (rw [HE4.out])
              | refine wpList_store_row rfl _ _ _ rfl w.heap.size #[.int .i64 0,.int .i64 0,.int .i64 0,.string ⟨#[]⟩,.slice none 0 0] rfl rfl _ #[.int .i64 0,.int .i64 0,.int .i64 0,.string ⟨#[]⟩,.slice none 0 0] HBR4.out (by kernel_rfl) rfl (by simp [Value.oneCell']) ?_)
             refine bodyPost_ret (v:=.tuple #[.agg #[.int .i64 0,.int .i64 0,.int .i64 0,.string ⟨#[]⟩,.slice none 0 0],.int .i64 0,.int .i64 2]) (results_cell_tmp2 Tryz.results81 _ _ w.heap.size _ _ _ _ rfl (setRow_at (cs':=#[.int .i64 0,.int .i64 0,.int .i64 0,.string ⟨#[]⟩,.slice none 0 0]) HBR4.out) Tryz.underlying52 rfl (by kernel_rfl) rfl rfl) rfl ?_
             exact ⟨by rw [HR.out];rfl,X4.out.setRow (Nat.le_refl _) _⟩
           · have t5:decide (kd<1)=false:=decide_eq_false h0
             have t6:decide (3<kd)=true:=decide_eq_true (by omega)
             have h3:3<kd:=by omega
             go_wp2_with (first
              | (rw [HE4.out])
              | refine wpList_store_row rfl _ _ _ rfl w.heap.size #[.int .i64 0,.int .i64 0,.int .i64 0,.string ⟨#[]⟩,.slice none 0 0] rfl rfl _ #[.int .i64 0,.int .i64 0,.int .i64 0,.string ⟨#[]⟩,.slice none 0 0] HBR4.out (by kernel_rfl) rfl (by simp [Value.oneCell']) ?_)
             refine bodyPost_ret (v:=.tuple #[.agg #[.int .i64 0,.int .i64 0,.int .i64 0,.string ⟨#[]⟩,.slice none 0 0],.int .i64 0,.int .i64 2]) (results_cell_tmp2 Tryz.results81 _ _ w.heap.size _ _ _ _ rfl (setRow_at (cs':=#[.int .i64 0,.int .i64 0,.int .i64 0,.string ⟨#[]⟩,.slice none 0 0]) HBR4.out) Tryz.underlying52 rfl (by kernel_rfl) rfl rfl) rfl ?_
             exact ⟨by rw [HR.out];rfl,X4.out.setRow (Nat.le_refl _) _⟩
theorem refnode_all (A:Option Addr) (bs:List Int) (hB:Bu.Byt bs) (n c:Nat) (hc:n≤c) (hn:n≤1048576):∀ f,f≤8→RNodeAt A bs n c f
 | 0,_=>refnode_zero A bs n c
 | f+1,h=>refnode_succ A bs hB n c hc hn f (by omega) (refnode_all A bs hB n c hc hn f (by omega))
set_option maxRecDepth 100000 in
set_option maxHeartbeats 25600000 in
theorem refdecode_any (A : Option Addr) (bs : List Int) (hB : Bu.Byt bs) (n c : Nat) (hnb : bs.length = n) (hc : n ≤ c) (hn : n ≤ 1048576) (w : World) (h : SlU w A bs) :
    Calls Tryz.prog 45 #[.slice A n c] w fun e w'=>RefB 8 n w.heap.size (Bu.dNd 4 8 bs) e w'∧Ext w w':=by
 obtain ⟨W1,hW1⟩:∃ W,w.alloc (.cells #[.int .i64 0,.int .i64 0,.int .i64 0,.string ⟨#[]⟩,.slice none 0 0] 52)=W:=⟨_,rfl⟩
 have X1:Hid (Ext w W1):=Hi (by rw [← hW1];exact (Ext.refl _).alloc _)
 have HBR:Hid (W1.heap[w.heap.size]?=some (.cells #[.int .i64 0,.int .i64 0,.int .i64 0,.string ⟨#[]⟩,.slice none 0 0] 52 (0,0))):=Hi (by rw [← hW1];exact heap_alloc_new _ _)
 have hs1:W1.heap.size=w.heap.size+1:=by rw [← hW1,sizeA]
 have K:Calls Tryz.prog 81 #[.slice A n c,.int .i64 0,.int .i64 1] W1 _:=refnode_all A bs hB n c hc hn 8 (Nat.le_refl 8) 0 bs W1 ⟨h.ext X1.out,hnb,rfl,Nat.zero_le _⟩
 have HK:=Hi K
 have HE1:=Hi hW1
 clear h hW1 K hB
 go_enter Tryz.func45,Tryz.ntmps45
 go_wp2_with (rw [HE1.out])
 with_reducible refine HK.out.mono ?_
 rintro e w5 ⟨hB5,hX5⟩
 obtain ⟨tg,kk,nn,ss,Ak,lk,ck,pp,er,rfl⟩:=hB5.shape
 have HB5:=Hi hB5
 have HBR6:=Hi (hX5.blockAt HBR.out)
 have X6:=Hi (X1.out.trans hX5)
 clear hB5 hX5 HK
 go_wp2_with (first
  | refine wpList_store_row rfl _ _ _ rfl w.heap.size #[.int .i64 tg,.int .i64 kk,.int .i64 nn,.string ss,.slice Ak lk ck] rfl rfl _ #[.int .i64 0,.int .i64 0,.int .i64 0,.string ⟨#[]⟩,.slice none 0 0] HBR6.out (by kernel_rfl) rfl (by simp [Value.oneCell']) ?_)
 refine bodyPost_ret (v:=.tuple #[.agg #[.int .i64 tg,.int .i64 kk,.int .i64 nn,.string ss,.slice Ak lk ck],.int .i64 pp,.int .i64 er]) (results_cell_tmp2 Tryz.results45 _ _ w.heap.size _ _ _ _ rfl (setRow_at (cs':=#[.int .i64 tg,.int .i64 kk,.int .i64 nn,.string ss,.slice Ak lk ck]) HBR6.out) Tryz.underlying52 rfl (by kernel_rfl) rfl rfl) rfl ?_
 exact ⟨HB5.out.keep (by simp [World.setRow]) (fun b hb _=>setRow_other _ _ (show b≠w.heap.size by omega)) (by omega),X6.out.setRow (Nat.le_refl _) _⟩
end Go.Proofs.YtnlenappjjlbjaaGreatDoor
namespace Go.Proofs.YtnlenappjjlbjaaGreatDoor
namespace Bu
def SmT (x:Nd):Prop:=∀ d,SzOk d x∧N64 d x
theorem smT_mk {t k n:Int} {s:ByteArray} {ks:List Nd} (hn:In64 n) (hs:s.size≤2000) (hl:ks.length≤1024) (hk:∀ k∈ks,SmT k):SmT (.mk t k n s ks):=fun d=>by
 have h1:(Nd.mk t k n s ks).s.size≤140737488351232∧(Nd.mk t k n s ks).kids.length≤140737488351232:=⟨show s.size≤_ by omega,show ks.length≤_ by omega⟩
 cases d with
 | zero=>exact ⟨h1,hn⟩
 | succ d=>exact ⟨⟨h1,fun y hy=>(hk y hy d).1⟩,⟨hn,fun y hy=>(hk y hy d).2⟩⟩
theorem dKs_sm {p:List Int→Except Int (Nd×List Int)} (hp:∀ r x l,p r=.ok (x,l)→SmT x):∀ (n:Nat) (r:List Int) (xs:List Nd) (l:List Int),dKs p n r=.ok (xs,l)→xs.length=n∧∀ x∈xs,SmT x
 | 0,r,xs,l,h=>by
  cases h
  exact ⟨rfl,fun x hx=>by cases hx⟩
 | n+1,r,xs,l,h=>by
  rw [dKs] at h
  cases h1:dKs p n r with
  | error e=>rw [h1] at h;cases h
  | ok y =>
   obtain ⟨ys,l1⟩:=y
   rw [h1] at h
   simp only at h
   cases h2:p l1 with
   | error e=>rw [h2] at h;cases h
   | ok z =>
    obtain ⟨z,l2⟩:=z
    rw [h2] at h
    cases h
    obtain ⟨a,b⟩:=dKs_sm hp n r ys l1 h1
    refine ⟨by rw [List.length_append,a];rfl,fun x hx=>?_⟩
    rcases List.mem_append.1 hx with g | g
    · exact b x g
    · rw [List.mem_singleton] at g
      subst g
      exact hp _ _ _ h2
theorem in64_0:In64 0:=by unfold In64;omega
theorem dNd_sm (en:Int):∀ (f:Nat) (r:List Int) (x:Nd) (l:List Int),dNd en f r=.ok (x,l)→SmT x
 | 0,_,_,_,h=>by cases h
 | f+1,r,x,l,h=>by
  rw [dNd] at h
  cases h1:vr en r with
  | error e=>rw [h1] at h;cases h
  | ok y =>
   obtain ⟨t,l1⟩:=y
   rw [h1] at h
   simp only [dTg] at h
   split at h
   · cases h
   · cases l1 with
     | nil=>cases h
     | cons k l2 =>
      simp only [dBd] at h
      split at h
      · cases h
      · cases h2:vr en l2 with
        | error e=>rw [h2] at h;cases h
        | ok z =>
         obtain ⟨n,l3⟩:=z
         rw [h2] at h
         simp only at h
         split at h
         · cases h
           exact smT_mk (unf_64 (vr_u64 h2)) (by decide) (Nat.zero_le _) (fun y hy=>by cases hy)
         · split at h
           · unfold dSt at h
             split at h
             · cases h
             · split at h
               · cases h
               · cases h
                 refine smT_mk in64_0 ?_ (Nat.zero_le _) (fun y hy=>by cases hy)
                 rw [toB_size,List.length_take]
                 omega
           · unfold dLs at h
             split at h
             · cases h
             · cases h4:dKs (dNd en f) n l3 with
               | error e=>rw [h4] at h;cases h
               | ok q =>
                obtain ⟨xs,l4⟩:=q
                rw [h4] at h
                cases h
                obtain ⟨a,b⟩:=dKs_sm (dNd_sm en f) _ _ _ _ h4
                exact smT_mk in64_0 (by decide) (by omega) b
def decI (cnt:Int) (p:List Int):Int×List It.Item:=match dNd 4 8 p with
 | .error e=>(e,[])
 | .ok (x,l)=>if treeE cnt x l≠0 then (treeE cnt x l,[]) else (0,kidsI x.kids)
theorem contE_dec (cnt root:Int) (p:List Int):contE cnt root p=if (decI cnt p).1≠0 then ((decI cnt p).1,[]) else if restE root (decI cnt p).2≠0 then (restE root (decI cnt p).2,[]) else (0,(decI cnt p).2):=by
 unfold contE decI
 cases h:dNd 4 8 p with
 | error e =>
  have:=dNd_err (en:=4) (by decide) 8 p e h
  simp only
  rw [if_pos (by omega)]
 | ok y =>
  obtain ⟨x,l⟩:=y
  simp only
  by_cases ht:treeE cnt x l≠0
  · rw [if_pos ht,if_pos ht]
    simp only
    rw [if_pos ht]
  · rw [if_neg ht,if_neg ht]
    simp only [ne_eq,not_true_eq_false,if_false]
def opnS (key:Int) (b:List Int):Int:=if (opnR key b).1=0 then headS b else 0
end Bu
theorem KidsAt.few2 {B lo d:Nat} {w:World} {M:Option Addr×Nat} {x:Nd} (h:KidsAt B lo (d+1) w M x.kids):∀ y∈x.kids,y.kids.length≤B:=fun y hy=>by
 obtain ⟨i,hi,rfl⟩:=List.mem_iff_getElem.1 hy
 obtain ⟨_,_,_,_,_,_,_,_,_,_,hk⟩:=h.at_ (List.getElem?_eq_getElem hi)
 exact hk.few
end Go.Proofs.YtnlenappjjlbjaaGreatDoor
namespace Go.Proofs.YtnlenappjjlbjaaGreatDoor
open Go.ChangeShapes Go.WideShapes Go.ChangeAt Go.RowKit Go.Shelf
theorem KidsAt.toP {B lo:Nat}:∀ {d:Nat} {w:World} {L:Option Addr×Nat} {ks:List Nd},KidsAt B lo d w L ks→KidsP B (fun b=>lo≤b) d w L ks
 | 0,_,_,_,h=>h
 | d+1,w,L,ks,⟨h1,h2,h3,h⟩=>by
  refine ⟨h1,h2,h3,?_⟩
  rcases h with h | ⟨b,off,Ls,e,hl,hb,hL,hc⟩
  · exact Or.inl h
  · exact Or.inr ⟨b,off,Ls,e,hl,hb,hL,fun i x M hx hM=>⟨(hc i x M hx hM).1,(hc i x M hx hM).2.toP⟩⟩
end Go.Proofs.YtnlenappjjlbjaaGreatDoor
