/- The law's choice, slice literals of whole structs; the example in plain words. Conditions: those of each theorem. -/
import Derived.Test.YtnlenappjjlbjaaGreatDoorQ32
import Derived.Test.YtnlenappjjlbjaaGreatDoorQ35
import Derived.Test.YtnlenappjjlbjaaGreatDoorQ31
import Derived.Great.Walk
namespace Go.Proofs.YtnlenappjjlbjaaGreatDoor
open Go.ChangeShapes Go.WideShapes Go.ChangeAt Go.RowKit
theorem rowSet_at {w:World} {g:Nat} {cs cs':Array Value} {t:TypeId} (h:w.heap[g]?=some (.cells cs t (0,0))):(w.setRow g cs').heap[g]?=some (.cells cs' t (0,0)):=by
 simp [World.setRow,Array.getElem?_modify,h]
namespace Bu
def ch (i:Int):It.Item:=⟨i,1,1,⟨#[49,43,49]⟩,[⟨#[49]⟩,⟨#[50]⟩],[1],0,0,[],1,⟨#[65]⟩,0,0,0,30,[],0⟩
theorem ch_ok {i:Int} (hi:In64 i):It.Ok (ch i):=by
 refine ⟨?_,?_,?_,?_,?_,?_,?_,?_,?_,?_,?_,?_,?_,?_,?_,?_,?_,?_,?_,?_,?_⟩
 · exact hi
 all_goals first
  | (simp only [ch,In64];omega)
  | (simp only [ch];decide)
  | exact (by omega:(2:Nat)≤140737488351232)
  | exact (by omega:(1:Nat)≤140737488351232)
  | exact (by omega:(0:Nat)≤140737488351232)
  | (intro x hx;simp only [ch,List.not_mem_nil] at hx;done)
  | (intro x hx;simp only [ch,List.mem_cons,List.not_mem_nil,or_false] at hx;first | (exact hx.elim) | (subst hx;simp only [In64];omega) | (rcases hx with rfl | rfl <;> decide))
def itms:List It.Item:=[ch 3,ch 7]
theorem itms_ok:∀ it∈itms,It.Ok it:=by
 intro it hi
 simp only [itms,List.mem_cons,List.not_mem_nil,or_false] at hi
 rcases hi with rfl | rfl
 · exact ch_ok (by unfold In64;omega)
 · exact ch_ok (by unfold In64;omega)
set_option maxRecDepth 100000 in
theorem itms_chk:Rs.chkI itms=0:=by decide +kernel
set_option maxRecDepth 100000 in
theorem one_chk:Rs.chkI [ch 3]=0:=by decide +kernel
theorem itms_bld:buildE 12 itms=0:=by unfold buildE;rw [if_neg (by omega),itms_chk]
theorem nil_bld:buildE 12 []=0:=by unfold buildE;rw [if_neg (by omega)];decide +kernel
theorem nil_bad:buildE 0 []=3:=by unfold buildE;rw [if_pos (by omega)]
def bA:List Int:=bundB 5 9 12 itms
def bN:List Int:=bundB 5 9 12 []
theorem bA_of:buildB 5 9 12 itms=bA:=by unfold buildB bA;rw [itms_bld,if_pos rfl]
theorem bN_of:buildB 5 9 12 []=bN:=by unfold buildB bN;rw [nil_bld,if_pos rfl]
theorem bZ_of:buildB 5 9 0 []=[]:=by unfold buildB;rw [nil_bad,if_neg (by decide)]
theorem bN_len:bN.length=39:=by
 unfold bN
 rw [bund_len]
 have:plainB []=varB 48 ++ ([3] ++ (varB 0 ++ [])):=encT_3
 rw [this,varB_small (by omega),varB_small (by omega)]
 rfl
theorem plain_len (its:List It.Item):3≤(plainB its).length:=by
 have h:plainB its=varB 48 ++ ([3] ++ (varB (its.map tree).length ++ ((its.map tree).map (encT 3)).flatten)):=encT_3
 have h1:1≤(varB (its.map tree).length).length:=by
  by_cases hs:(its.map tree).length<128
  · rw [varB_small hs];exact Nat.le_refl 1
  · rw [varB_big hs];simp
 rw [h,varB_small (by omega)]
 simp only [List.length_append,List.length_cons,List.length_nil]
 omega
theorem bA_len:39≤bA.length:=by
 have:=plain_len itms
 unfold bA
 rw [bund_len]
 omega
theorem bA_le:bA.length≤1048612:=by
 have:=(fits_treeB itms_ok itms_chk).2
 unfold bA
 rw [bund_len]
 omega
theorem bA_byt:Byt bA:=bund_byt itms_bld itms_ok
theorem bN_byt:Byt bN:=bund_byt nil_bld (fun it hi=>by cases hi)
theorem sub_at {b:List Int} {i j k:Nat} (h:i+k<j):b[i+k]?=(sub b i j)[k]?:=by
 unfold sub
 rw [List.getElem?_drop,List.getElem?_take_of_lt h]
theorem bN_7:bN[7]?=some 12:=by
 have:=sub_at (b:=bN) (i:=4) (j:=8) (k:=3) (by omega)
 rw [this]
 unfold bN
 rw [bund_S]
 decide +kernel
theorem bN_11:bN[11]?=some 0:=by
 have:=sub_at (b:=bN) (i:=8) (j:=12) (k:=3) (by omega)
 rw [this]
 unfold bN
 rw [bund_N]
 decide +kernel
theorem bA_11:bA[11]?=some 2:=by
 have:=sub_at (b:=bA) (i:=8) (j:=12) (k:=3) (by omega)
 rw [this]
 unfold bA
 rw [bund_N]
 decide +kernel
theorem bN_magic:bN.take 4=magic:=bund_M _ _ _ _
theorem u64_9:U64 9:=by unfold U64;omega
theorem bA_open:opnR 5 bA=(0,itms):=open_bund itms_bld itms_ok u64_9
theorem bA_headS:headS bA=12:=bund_headS itms_bld
theorem bA_headN:headN bA=2:=bund_headN itms_bld
theorem bA_headR:headR bA=rootV itms:=bund_headR
theorem bA_headE:headE bA=0:=bund_headE itms_bld
theorem bA_opnS:opnS 5 bA=12:=by unfold opnS;rw [bA_open,if_pos rfl,bA_headS]
theorem bA_chk:chkR bA itms=0:=chk_bund itms_bld
theorem bA_chk1:chkR bA [ch 3]=1:=by
 unfold chkR
 rw [bA_headE,if_neg (by simp),one_chk,if_neg (by simp),bA_headN,if_pos (by decide)]
theorem bA_cut:(opnR 5 (bA.take (bA.length-1))).1≠0∧(opnR 5 (bA.take (bA.length-1))).2=[]:=by
 have h:=bA_len
 obtain ⟨h1,h2⟩:=cut_open (k:=5) (n:=9) itms_bld itms_ok u64_9 (m:=bA.length-1) (show bA.length-1<bA.length by omega)
 refine ⟨?_,h1⟩
 intro e
 have h2:(opnR 5 (bA.take (bA.length-1))).1=4∨(opnR 5 (bA.take (bA.length-1))).1=12:=h2
 omega
theorem two_head:headE [1,2]=4:=by unfold headE;rw [if_pos (by decide)]
end Bu
open Bu (ch_ok)

theorem wpList_buildS {P : Program} {ops : Array Oper} {rest : List Oper} {o : Oper} {a : Act} {w : World} {Q : Exit → Act → World → Prop} (hw : Region.wanted o (yielded ops a.tmps) = true) (t e : TypeId) (len : Nat) (parts : Array (Nat × Operand)) (ho : o.op = .buildSlice t len parts)
    (N:Nat) (hN:w.heap.size=N) (dst:Option Tmp) (hdst:o.dst=dst) (hu:P.underlying t=some (.slice e)) (cells:Array Value)
    (hf:P.builtSlice e len (parts.map fun (i,x)=>(i,a.eval x)).toList=some cells) (W:World) (hW:w.alloc (.cells cells e)=W)
    (h:wpList P ops Q rest (a.put dst (.slice (some ⟨N,0,none⟩) len len)) W):wpList P ops Q (o :: rest) a w:=by
 subst hN hdst hW
 unfold Program.builtSlice at hf
 cases hie:P.info? e with
 | none=>simp [hie] at hf
 | some ie =>
  simp only [hie] at hf
  cases hz:ie.zero with
  | none=>simp [hz] at hf
  | some z =>
   simp only [hz] at hf
   by_cases hc:len*ie.size > 2 ^ 24∨len*ie.size=0
   · simp [hc] at hf
   · rw [if_neg hc] at hf
     exact Go.BigFrame.wpList_want hw fun _ hK=>wp_buildSlice t e len parts ho cells ie z hu hie hz (fun h'=>hc (Or.inl h')) (fun h'=>hc (Or.inr h')) hf (hK _ _ h)
theorem Sl.newk2 {k:Nat} {c d:List Value} (hc:c.length=k) (w:World) (t:TypeId):Sl (w.alloc (.cells (c ++ d).toArray t)) k (some ⟨w.heap.size,0,none⟩) [c,d]:=by
 refine Or.inr ⟨w.heap.size,0,rfl,by simp,fun i cs hi j v hv=>?_⟩
 rw [World.cell?_alloc_new]
 match i,hi with
 | 0,hi =>
  simp at hi
  subst hi
  have:=(List.getElem?_eq_some_iff.1 hv).1
  simp only [List.getElem?_toArray,Nat.zero_mul,Nat.zero_add]
  rw [List.getElem?_append_left this]
  exact hv
 | 1,hi =>
  simp at hi
  subst hi
  simp only [List.getElem?_toArray,Nat.zero_add,Nat.one_mul]
  rw [List.getElem?_append_right (by omega),hc,Nat.add_sub_cancel_left]
  exact hv
set_option maxRecDepth 100000 in
set_option maxHeartbeats 6400000 in
theorem choice48_any (i:Int) (hi:In64 i) (w:World):Calls Tryz.prog 39 #[.int .i64 i] w fun e w'=>(∃ L,e=.returned (It.agg (Bu.ch i) L)∧It.In w' (Bu.ch i) L)∧Ext w w':=by
 go_enter Tryz.func39,Tryz.ntmps39
 have h0:(((w.alloc (.cells #[.int .i64 0,.int .i64 0,.int .i64 0,.string ⟨#[]⟩,.slice none 0 0,.slice none 0 0,.int .i64 0,.int .i64 0,.slice none 0 0,.int .i64 0,.string ⟨#[]⟩,.int .i64 0,.int .i64 0,.int .i64 0,.int .i64 0,.slice none 0 0,.int .i64 0] 45)).alloc (.cells #[.string ⟨#[49]⟩,.string ⟨#[50]⟩] 9)).alloc (.cells #[.int .i64 1] 3)).heap[w.heap.size]?=some (.cells #[.int .i64 0,.int .i64 0,.int .i64 0,.string ⟨#[]⟩,.slice none 0 0,.slice none 0 0,.int .i64 0,.int .i64 0,.slice none 0 0,.int .i64 0,.string ⟨#[]⟩,.int .i64 0,.int .i64 0,.int .i64 0,.int .i64 0,.slice none 0 0,.int .i64 0] 45 (0,0)) :=
  (((Ext.refl _).alloc _).alloc _).blockAt (heap_alloc_new w _)
 have H0:=Hi h0
 clear h0
 go_wp2_with (refine wpList_store_row rfl _ _ _ rfl w.heap.size #[.int .i64 i,.int .i64 1,.int .i64 1,.string ⟨#[49,43,49]⟩,.slice (some ⟨w.heap.size+1,0,none⟩) 2 2,.slice (some ⟨w.heap.size+1+1,0,none⟩) 1 1,.int .i64 0,.int .i64 0,.slice none 0 0,.int .i64 1,.string ⟨#[65]⟩,.int .i64 0,.int .i64 0,.int .i64 0,.int .i64 30,.slice none 0 0,.int .i64 0] rfl rfl _ #[.int .i64 0,.int .i64 0,.int .i64 0,.string ⟨#[]⟩,.slice none 0 0,.slice none 0 0,.int .i64 0,.int .i64 0,.slice none 0 0,.int .i64 0,.string ⟨#[]⟩,.int .i64 0,.int .i64 0,.int .i64 0,.int .i64 0,.slice none 0 0,.int .i64 0] H0.out (by kernel_rfl) rfl (by simp [Value.oneCell']) ?_)
 have HRS:=rowSet_at (cs':=#[.int .i64 i,.int .i64 1,.int .i64 1,.string ⟨#[49,43,49]⟩,.slice (some ⟨w.heap.size+1,0,none⟩) 2 2,.slice (some ⟨w.heap.size+1+1,0,none⟩) 1 1,.int .i64 0,.int .i64 0,.slice none 0 0,.int .i64 1,.string ⟨#[65]⟩,.int .i64 0,.int .i64 0,.int .i64 0,.int .i64 30,.slice none 0 0,.int .i64 0]) H0.out
 refine bodyPost_ret (v:=.agg #[.int .i64 i,.int .i64 1,.int .i64 1,.string ⟨#[49,43,49]⟩,.slice (some ⟨w.heap.size+1,0,none⟩) 2 2,.slice (some ⟨w.heap.size+1+1,0,none⟩) 1 1,.int .i64 0,.int .i64 0,.slice none 0 0,.int .i64 1,.string ⟨#[65]⟩,.int .i64 0,.int .i64 0,.int .i64 0,.int .i64 30,.slice none 0 0,.int .i64 0]) (results_cell_row Tryz.results39 _ _ w.heap.size _ _ _ _ rfl HRS Tryz.underlying45 rfl (by kernel_rfl)) rfl ?_
 refine ⟨⟨⟨some ⟨w.heap.size+1,0,none⟩,2,some ⟨w.heap.size+1+1,0,none⟩,1,none,0,none,0⟩,rfl,ch_ok hi,?_,?_,SlS.nil _ _,SlI.nil _ _,⟨Nat.le_refl 2,(by decide:2≤maxLen)⟩,⟨Nat.le_refl 1,(by decide:1≤maxLen)⟩,⟨Nat.le_refl 0,(by decide:0≤maxLen)⟩,⟨Nat.le_refl 0,(by decide:0≤maxLen)⟩⟩,?_⟩
 · refine Sl.rowSet (Sl.ext (w:=(w.alloc (.cells #[.int .i64 0,.int .i64 0,.int .i64 0,.string ⟨#[]⟩,.slice none 0 0,.slice none 0 0,.int .i64 0,.int .i64 0,.slice none 0 0,.int .i64 0,.string ⟨#[]⟩,.int .i64 0,.int .i64 0,.int .i64 0,.int .i64 0,.slice none 0 0,.int .i64 0] 45)).alloc (.cells #[.string ⟨#[49]⟩,.string ⟨#[50]⟩] 9)) ?_ ((Ext.refl _).alloc _)) (by rintro a ha;cases ha;simp) _
   exact Sl.new_at (w.alloc (.cells #[.int .i64 0,.int .i64 0,.int .i64 0,.string ⟨#[]⟩,.slice none 0 0,.slice none 0 0,.int .i64 0,.int .i64 0,.slice none 0 0,.int .i64 0,.string ⟨#[]⟩,.int .i64 0,.int .i64 0,.int .i64 0,.int .i64 0,.slice none 0 0,.int .i64 0] 45)) [.string ⟨#[49]⟩,.string ⟨#[50]⟩] 9 _ (by simp)
 · refine Sl.rowSet ?_ (by rintro a ha;cases ha;simp;omega) _
   exact Sl.new_at ((w.alloc (.cells #[.int .i64 0,.int .i64 0,.int .i64 0,.string ⟨#[]⟩,.slice none 0 0,.slice none 0 0,.int .i64 0,.int .i64 0,.slice none 0 0,.int .i64 0,.string ⟨#[]⟩,.int .i64 0,.int .i64 0,.int .i64 0,.int .i64 0,.slice none 0 0,.int .i64 0] 45)).alloc (.cells #[.string ⟨#[49]⟩,.string ⟨#[50]⟩] 9)) [.int .i64 1] 3 _ (by simp)
 · exact ((((Ext.refl _).alloc _).alloc _).alloc _).rowSet (Nat.le_refl _) _
end Go.Proofs.YtnlenappjjlbjaaGreatDoor
namespace Go.Proofs.YtnlenappjjlbjaaGreatDoor
open Go.ChangeShapes Go.WideShapes Go.ChangeAt Go.RowKit Go.Shelf
theorem BldP.use {key nonce ses : Int} {its : List It.Item} {e : Ending} {w' : World} (h : BldP key nonce ses its e w') {B : List Int} {er : Int} {n : Nat} (hB : Bu.buildB key nonce ses its = B) (hE : Bu.buildE ses its = er) (hn : B.length = n) :
    ∃ A c,e=.returned (.tuple #[.slice A n c,.int .i64 er])∧SlU w' A B∧n≤c:=by
 obtain ⟨A,c,he,hs,hc⟩:=h
 rw [hB,hE,hn] at he
 rw [hB] at hs
 rw [hB,hn] at hc
 exact ⟨A,c,he,hs,hc⟩
theorem RetO.use {r : Int × List It.Item} {ses : Int} {e : Ending} {w' : World} (h : RetO r ses e w') {er : Int} {l : List It.Item} {s2 : Int} {n : Nat} (hr : r = (er, l)) (hs : ses = s2) (hn : l.length = n) :
    ∃ A c ys,e=.returned (.tuple #[.int .i64 s2,.slice A n c,.int .i64 er])∧Rt.its ys=l∧Rt.SlIt w' A ys:=by
 obtain ⟨A,c,ys,he,hy,hi⟩:=h
 subst hr hs
 rw [hn] at he
 exact ⟨A,c,ys,he,hy,hi⟩
theorem slIt_take {w:World} {A:Option Addr} {xs:List Rt.ItL} (h:Rt.SlIt w A xs) (n:Nat):Rt.SlIt w A (xs.take n):=by
 refine ⟨?_,fun x hx=>h.2 x (List.mem_of_mem_take hx)⟩
 rcases h.1 with h1 | ⟨b,off,hA,hb,hc⟩
 · refine Or.inl ?_
   rw [List.map_take,h1,List.take_nil]
 · refine Or.inr ⟨b,off,hA,hb,fun i cs hi j v hv=>?_⟩
   rw [List.map_take] at hi
   have hlt:i<n:=by
    rcases Nat.lt_or_ge i n with g | g
    · exact g
    · rw [List.getElem?_eq_none (by rw [List.length_take];omega)] at hi;cases hi
   rw [List.getElem?_take_of_lt hlt] at hi
   exact hc i cs hi j v hv
set_option maxRecDepth 100000 in
set_option maxHeartbeats 128000000 in
theorem awake_any (w:World) (hg:∀ w',Ext w w'→Gm w'):Calls Tryz.prog 13 #[] w fun e w'=>e=.returned (.bool true)∧Ext w w':=by
 have HG:=Hi hg
 clear hg
 go_enter Tryz.func13,Tryz.ntmps13
 have X_0:=Hi (Ext.refl w)
 go_wp2_with fail
 with_reducible refine (choice48_any 3 (by unfold In64;omega) _).mono ?_
 rintro e w1 ⟨⟨L1,rfl,hI⟩,hb⟩
 have X_1:=Hi (X_0.out.trans hb)
 clear X_0
 have I1_1:=Hi (hI)
 clear hb hI
 go_wp2_with fail
 with_reducible refine (choice48_any 7 (by unfold In64;omega) _).mono ?_
 rintro e w2 ⟨⟨L2,rfl,hI⟩,hb⟩
 have I1_2:=Hi (I1_1.out.ext hb)
 clear I1_1
 have X_2:=Hi (X_1.out.trans hb)
 clear X_1
 have I2_2:=Hi (hI)
 clear hb hI
 obtain ⟨w3,hw3⟩:∃ W,w2.alloc (.cells (It.cells (Bu.ch 3) L1 ++ It.cells (Bu.ch 7) L2).toArray 45)=W:=⟨_,rfl⟩
 have E3:Ext w2 w3:=by rw [← hw3];exact (Ext.refl _).alloc _
 have I1_3:=Hi (I1_2.out.ext E3)
 have I2_3:=Hi (I2_2.out.ext E3)
 clear I1_2 I2_2
 have X_3:=Hi (X_2.out.trans E3)
 clear X_2
 have S1_3:=Hi (show Rt.SlIt w3 (some ⟨w2.heap.size,0,none⟩) [(Bu.ch 3,L1),(Bu.ch 7,L2)] from ⟨by rw [← hw3];exact Sl.newk2 rfl _ _,fun x hx=>by
  simp only [List.mem_cons,List.not_mem_nil,or_false] at hx
  rcases hx with rfl | rfl
  · exact I1_3.out
  · exact I2_3.out⟩)
 clear I1_3 I2_3
 have HW3:=Hi hw3
 clear hw3 E3
 have U5:Bu.U64 5:=by unfold Bu.U64;omega
 obtain ⟨la,hla⟩:∃ q,Bu.bA.length=q+1:=⟨Bu.bA.length-1,by have:=Bu.bA_len;omega⟩
 have hla39:38≤la:=by have:=Bu.bA_len;omega
 have HLA:=Hi hla
 clear hla
 have K1:=Hi ((bbuild_any 5 9 12 U5 Bu.u64_9 (some ⟨w2.heap.size,0,none⟩) 2 [(Bu.ch 3,L1),(Bu.ch 7,L2)] (n:=2) rfl w3 S1_3.out (by decide) (fun w' hx=>HG.out w' (X_3.out.trans hx))).mono fun e w' h=>And.intro (BldP.use h.1 (B:=Bu.bA) Bu.bA_of Bu.itms_bld HLA.out) h.2)
 go_wp2_with (with_reducible refine wpList_buildS (by kernel_rfl) 23 45 2 _ rfl w2.heap.size rfl _ rfl Tryz.underlying23 (It.cells (Bu.ch 3) L1 ++ It.cells (Bu.ch 7) L2).toArray (by kernel_rfl) w3 HW3.out ?_)
 with_reducible refine (K1.out).mono ?_
 rintro e w4 ⟨⟨A4,c4,rfl,hs4,hc4⟩,hb⟩
 have S1_4:=Hi (S1_3.out.ext hb)
 clear S1_3
 have X_4:=Hi (X_3.out.trans hb)
 clear X_3
 have SA_4:=Hi (hs4)
 clear hb hs4
 clear K1
 have K2:=Hi ((bbuild_any 5 9 12 U5 Bu.u64_9 none 0 [] (n:=0) rfl w4 (slIt_nil _ _) (by decide) (fun w' hx=>HG.out w' (X_4.out.trans hx))).mono fun e w' h=>And.intro (BldP.use h.1 (B:=Bu.bN) Bu.bN_of Bu.nil_bld Bu.bN_len) h.2)
 go_wp2_with fail
 with_reducible refine (K2.out).mono ?_
 rintro e w5 ⟨⟨A5,c5,rfl,hs5,hc5⟩,hb⟩
 have S1_5:=Hi (S1_4.out.ext hb)
 have SA_5:=Hi (SA_4.out.ext hb)
 clear S1_4 SA_4
 have X_5:=Hi (X_4.out.trans hb)
 clear X_4
 have SN_5:=Hi (hs5)
 clear hb hs5
 clear K2
 obtain ⟨b4,o4,rfl,-,x4⟩:=(SA_5.out).at_ (i:=11) (by rw [HLA.out];omega)
 obtain ⟨b5,o5,rfl,-,x5⟩:=(SN_5.out).at_ (i:=7) (by rw [Bu.bN_len];omega)
 obtain ⟨b6,o6,e6,-,x6⟩:=(SN_5.out).at_ (i:=11) (by rw [Bu.bN_len];omega)
 cases e6
 have y4:Bu.bA[11]'(by rw [HLA.out];omega)=2:=(List.getElem?_eq_some_iff.1 Bu.bA_11).2
 have y5:Bu.bN[7]'(by rw [Bu.bN_len];omega)=12:=(List.getElem?_eq_some_iff.1 Bu.bN_7).2
 have y6:Bu.bN[11]'(by rw [Bu.bN_len];omega)=0:=(List.getElem?_eq_some_iff.1 Bu.bN_11).2
 rw [y4] at x4
 rw [y5] at x5
 rw [y6] at x6
 have hconv:=conv_u8 w5 b5 o5 4 c5 (Bu.bN.take 4) (by rw [List.length_take,Bu.bN_len];rfl) (SlU.take1 SN_5.out 4)
 have hmag:((Bu.toB (Bu.bN.take 4)).toList == [69,88,66,49])=true:=by rw [Bu.magic_eq (Bu.bN_byt.take 4)];exact decide_eq_true Bu.bN_magic
 have hc5':(4:Int)≤(c5:Int):=by omega
 have hla1:(11:Int)<(la:Int)+1:=by omega
 have hla2:decide ((la:Int)+1<39)=false:=decide_eq_false (by omega)
 have hla3:(la:Int)≤(c4:Int):=by omega
 have hwl:wrap64 (la:Int)=(la:Int):=by
  have h1:=Bu.bA_le
  have h2:=HLA.out
  unfold wrap64
  omega
 have K3:=Hi (fun W (hx:Ext w5 W)=>(bopen_any 5 U5 (some ⟨b4,o4,none⟩) c4 Bu.bA HLA.out hc4 Bu.bA_byt (by have:=Bu.bA_le;have:=HLA.out;omega) W (SlU.ext SA_5.out hx) (fun w' hx'=>HG.out w' (X_5.out.trans (hx.trans hx')))).mono fun e w' h=>And.intro (RetO.use h.1 Bu.bA_open Bu.bA_opnS (show Bu.itms.length=2 from rfl)) h.2)
 go_wp2_with fail
 with_reducible refine (K3.out w5 (Ext.refl _)).mono ?_
 rintro e w6 ⟨⟨A6,c6,ys,rfl,hys,hs6⟩,hb⟩
 have S1_6:=Hi (S1_5.out.ext hb)
 have SA_6:=Hi (SA_5.out.ext hb)
 have SN_6:=Hi (SN_5.out.ext hb)
 clear S1_5 SA_5 SN_5
 have X_6:=Hi (X_5.out.trans hb)
 clear X_5
 have S6_6:=Hi (hs6)
 clear hb hs6
 have HYS:=Hi hys
 clear hys hc5 x4 x5 x6 y4 y5 y6 hconv hmag hc5' hla2
 clear SN_6
 have K4:=head_any (some ⟨b4,o4,none⟩) c4 Bu.bA HLA.out hc4 Bu.bA_byt (by have:=Bu.bA_le;have:=HLA.out;omega) w6 SA_6.out
 unfold Bu.hdS Bu.hdN Bu.hdR at K4
 rw [Bu.bA_headE,if_pos rfl,if_pos rfl,if_pos rfl,Bu.bA_headS,Bu.bA_headN,Bu.bA_headR] at K4
 have HK4:=Hi K4
 clear K4 K3
 go_wp2_with fail
 with_reducible refine (HK4.out).mono ?_
 rintro e w7 ⟨rfl,hb⟩
 have S1_7:=Hi (S1_6.out.ext hb)
 have SA_7:=Hi (SA_6.out.ext hb)
 have S6_7:=Hi (S6_6.out.ext hb)
 clear S1_6 SA_6 S6_6
 have X_7:=Hi (X_6.out.trans hb)
 clear X_6
 clear hb
 have K5:=broot_any (some ⟨w2.heap.size,0,none⟩) 2 [(Bu.ch 3,L1),(Bu.ch 7,L2)] (n:=2) rfl w7 S1_7.out (by decide) (fun w' hx=>HG.out w' (X_7.out.trans hx))
 rw [show Rt.its [(Bu.ch 3,L1),(Bu.ch 7,L2)]=Bu.itms from rfl,Bu.itms_chk,if_pos rfl] at K5
 have HK5:=Hi K5
 clear K5 HK4
 generalize Bu.rootV Bu.itms=rv at *
 go_wp2_with fail
 with_reducible refine (HK5.out).mono ?_
 rintro e w8 ⟨rfl,hb⟩
 have S1_8:=Hi (S1_7.out.ext hb)
 have SA_8:=Hi (SA_7.out.ext hb)
 have S6_8:=Hi (S6_7.out.ext hb)
 clear S1_7 SA_7 S6_7
 have X_8:=Hi (X_7.out.trans hb)
 clear X_7
 clear hb
 have trv:(rv != rv)=false:=by simp
 have HK6:=Hi (sameItems_eq A6 (some ⟨w2.heap.size,0,none⟩) c6 2 ys [(Bu.ch 3,L1),(Bu.ch 7,L2)] (n:=2) (by rw [← Rt.its_len,HYS.out];rfl) (by rw [HYS.out];rfl) w8 S6_8.out S1_8.out (by decide))
 clear HK5
 go_wp2_with fail
 with_reducible refine (HK6.out).mono ?_
 rintro e w9 ⟨rfl,hb⟩
 have S1_9:=Hi (S1_8.out.ext hb)
 have SA_9:=Hi (SA_8.out.ext hb)
 have S6_9:=Hi (S6_8.out.ext hb)
 clear S1_8 SA_8 S6_8
 have X_9:=Hi (X_8.out.trans hb)
 clear X_8
 clear hb
 clear HK6
 clear S6_9
 have hlc:Bu.bA.length-1=la:=by have:=HLA.out;omega
 have hcut:=Bu.bA_cut
 rw [hlc] at hcut
 obtain ⟨er9,her9⟩:∃ q,(Bu.opnR 5 (Bu.bA.take la)).1=q:=⟨_,rfl⟩
 obtain ⟨se9,hse9⟩:∃ q,Bu.opnS 5 (Bu.bA.take la)=q:=⟨_,rfl⟩
 have her0:er9≠0:=by rw [← her9];exact hcut.1
 have her:Bu.opnR 5 (Bu.bA.take la)=(er9,[]):=by rw [← her9,← hcut.2]
 have te9:(er9 != 0)=true:=by rw [bne_iff_ne];exact her0
 have K7:=Hi ((bopen_any 5 U5 (some ⟨b4,o4,none⟩) c4 (Bu.bA.take la) (n:=la) (by rw [List.length_take,HLA.out];omega) (by omega) (Bu.bA_byt.take la) (by have:=Bu.bA_le;have:=HLA.out;omega) w9 (SlU.take1 SA_9.out la) (fun w' hx=>HG.out w' (X_9.out.trans hx))).mono fun e w' h=>And.intro (RetO.use h.1 her hse9 (show ([]:List It.Item).length=0 from rfl)) h.2)
 clear hlc hcut her9 hse9 her0 her
 go_wp2_with fail
 with_reducible refine (K7.out).mono ?_
 rintro e w10 ⟨⟨A8,c8,ys8,rfl,-,-⟩,hb⟩
 have S1_10:=Hi (S1_9.out.ext hb)
 have SA_10:=Hi (SA_9.out.ext hb)
 clear S1_9 SA_9
 have X_10:=Hi (X_9.out.trans hb)
 clear X_9
 clear hb
 clear K7
 obtain ⟨w13,hw13⟩:∃ W,w10.alloc (.cells #[.int .u8 1,.int .u8 2] 5)=W:=⟨_,rfl⟩
 have E13:Ext w10 w13:=by rw [← hw13];exact (Ext.refl _).alloc _
 have HT:=Hi (show SlU w13 (some ⟨w10.heap.size,0,none⟩) [1,2] by rw [← hw13];exact slU_mark w10 [1,2] (0,0))
 have HW13:=Hi hw13
 clear hw13
 have S1_11:=Hi (S1_10.out.ext E13)
 have SA_11:=Hi (SA_10.out.ext E13)
 clear S1_10 SA_10
 have X_11:=Hi (X_10.out.trans E13)
 clear X_10
 clear E13
 have K8:=head_any (some ⟨w10.heap.size,0,none⟩) 2 [1,2] (n:=2) rfl (by decide) (by intro x hx;simp only [List.mem_cons,List.not_mem_nil,or_false] at hx;omega) (by decide) w13 HT.out
 unfold Bu.hdS Bu.hdN Bu.hdR at K8
 rw [Bu.two_head,if_neg (by decide),if_neg (by decide),if_neg (by decide)] at K8
 have HK8:=Hi K8
 clear K8
 go_wp2_with (rw [HW13.out])
 with_reducible refine (HK8.out).mono ?_
 rintro e w14 ⟨rfl,hb⟩
 have S1_12:=Hi (S1_11.out.ext hb)
 have SA_12:=Hi (SA_11.out.ext hb)
 clear S1_11 SA_11
 have X_12:=Hi (X_11.out.trans hb)
 clear X_11
 clear hb
 clear HK8 HT HW13
 have K9:=Hi ((bbuild_any 5 9 0 U5 Bu.u64_9 none 0 [] (n:=0) rfl w14 (slIt_nil _ _) (by decide) (fun w' hx=>HG.out w' (X_12.out.trans hx))).mono fun e w' h=>And.intro (BldP.use h.1 (B:=[]) Bu.bZ_of Bu.nil_bad rfl) h.2)
 go_wp2_with fail
 with_reducible refine (K9.out).mono ?_
 rintro e w15 ⟨⟨A9,c9,rfl,-,-⟩,hb⟩
 have S1_13:=Hi (S1_12.out.ext hb)
 have SA_13:=Hi (SA_12.out.ext hb)
 clear S1_12 SA_12
 have X_13:=Hi (X_12.out.trans hb)
 clear X_12
 clear hb
 clear K9
 have K10:=Hi (bcheck2_any (some ⟨b4,o4,none⟩) c4 Bu.bA HLA.out hc4 Bu.bA_byt (by have:=Bu.bA_le;have:=HLA.out;omega) (some ⟨w2.heap.size,0,none⟩) 2 [(Bu.ch 3,L1),(Bu.ch 7,L2)] (k:=2) rfl (by decide) (v:=0) Bu.bA_chk w15 SA_13.out S1_13.out (fun w' hx=>HG.out w' (X_13.out.trans hx)))
 go_wp2_with fail
 with_reducible refine (K10.out).mono ?_
 rintro e w16 ⟨rfl,hb⟩
 have S1_14:=Hi (S1_13.out.ext hb)
 have SA_14:=Hi (SA_13.out.ext hb)
 clear S1_13 SA_13
 have X_14:=Hi (X_13.out.trans hb)
 clear X_13
 clear hb
 clear K10
 have K11:=Hi (bcheck2_any (some ⟨b4,o4,none⟩) c4 Bu.bA HLA.out hc4 Bu.bA_byt (by have:=Bu.bA_le;have:=HLA.out;omega) (some ⟨w2.heap.size,0,none⟩) 2 [(Bu.ch 3,L1)] (k:=1) rfl (by decide) (v:=1) Bu.bA_chk1 w16 SA_14.out (slIt_take S1_14.out 1) (fun w' hx=>HG.out w' (X_14.out.trans hx)))
 go_wp2_with fail
 with_reducible refine (K11.out).mono ?_
 rintro e w17 ⟨rfl,hb⟩
 have S1_15:=Hi (S1_14.out.ext hb)
 have SA_15:=Hi (SA_14.out.ext hb)
 clear S1_14 SA_14
 have X_15:=Hi (X_14.out.trans hb)
 clear X_14
 clear hb
 clear K11
 go_wp2
 go_ret
 exact ⟨rfl,X_15.out⟩
end Go.Proofs.YtnlenappjjlbjaaGreatDoor
