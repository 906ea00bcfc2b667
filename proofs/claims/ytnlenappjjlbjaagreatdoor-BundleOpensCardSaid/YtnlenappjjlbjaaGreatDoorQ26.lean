/- examboardref10.Equal of equal trees: a contract. Conditions: those of each theorem. examboardref14's number, text, numbers, strings: contracts. Conditions: those of each theorem. -/
import Derived.Test.YtnlenappjjlbjaaGreatDoorQ15
import Derived.Test.YtnlenappjjlbjaaGreatDoorQ17
import Derived.Deep.MidRow
import Derived.Test.YtnlenappjjlbjaaGreatDoorQ20
import Derived.Test.YtnlenappjjlbjaaGreatDoorQ14
namespace Go.Proofs.YtnlenappjjlbjaaGreatDoor
open Go.RowKit Go.Shelf

end Go.Proofs.YtnlenappjjlbjaaGreatDoor
namespace Go.Proofs.YtnlenappjjlbjaaGreatDoor
open Go.RowKit Go.Shelf

set_option maxRecDepth 100000 in
set_option maxHeartbeats 1600000 in
theorem rnumber_any (tag:Int) (n:Int) (w:World):Calls Tryz.prog 63 #[.int .i64 tag,.int .i64 n] w fun e w'=>e=.returned (.agg #[.int .i64 tag,.int .i64 1,.int .i64 n,.string ⟨#[]⟩,.slice none 0 0])∧Ext w w':=by
 go_enter Tryz.func63,Tryz.ntmps63
 go_wp2_with (refine wpList_store_row rfl _ _ _ rfl w.heap.size #[.int .i64 tag,.int .i64 1,.int .i64 n,.string ⟨#[]⟩,.slice none 0 0] rfl rfl _ #[.int .i64 0,.int .i64 0,.int .i64 0,.string ⟨#[]⟩,.slice none 0 0] (heap_alloc_new _ _) (by kernel_rfl) rfl (by simp [Value.oneCell']) ?_)
 have HRS:=setRow_at (cs':=#[.int .i64 tag,.int .i64 1,.int .i64 n,.string ⟨#[]⟩,.slice none 0 0]) (heap_alloc_new w (.cells #[.int .i64 0,.int .i64 0,.int .i64 0,.string ⟨#[]⟩,.slice none 0 0] 52))
 exact bodyPost_ret (v:=.agg #[.int .i64 tag,.int .i64 1,.int .i64 n,.string ⟨#[]⟩,.slice none 0 0]) (results_cell_row Tryz.results63 _ _ w.heap.size _ _ _ _ rfl HRS Tryz.underlying52 rfl (by kernel_rfl)) rfl ⟨rfl,((Ext.refl _).alloc _).setRow (Nat.le_refl _) _⟩
set_option maxRecDepth 100000 in
set_option maxHeartbeats 1600000 in
theorem rtext_any (tag:Int) (s:ByteArray) (w:World):Calls Tryz.prog 64 #[.int .i64 tag,.string s] w fun e w'=>e=.returned (.agg #[.int .i64 tag,.int .i64 2,.int .i64 0,.string s,.slice none 0 0])∧Ext w w':=by
 go_enter Tryz.func64,Tryz.ntmps64
 go_wp2_with (refine wpList_store_row rfl _ _ _ rfl w.heap.size #[.int .i64 tag,.int .i64 2,.int .i64 0,.string s,.slice none 0 0] rfl rfl _ #[.int .i64 0,.int .i64 0,.int .i64 0,.string ⟨#[]⟩,.slice none 0 0] (heap_alloc_new _ _) (by kernel_rfl) rfl (by simp [Value.oneCell']) ?_)
 have HRS:=setRow_at (cs':=#[.int .i64 tag,.int .i64 2,.int .i64 0,.string s,.slice none 0 0]) (heap_alloc_new w (.cells #[.int .i64 0,.int .i64 0,.int .i64 0,.string ⟨#[]⟩,.slice none 0 0] 52))
 exact bodyPost_ret (v:=.agg #[.int .i64 tag,.int .i64 2,.int .i64 0,.string s,.slice none 0 0]) (results_cell_row Tryz.results64 _ _ w.heap.size _ _ _ _ rfl HRS Tryz.underlying52 rfl (by kernel_rfl)) rfl ⟨rfl,((Ext.refl _).alloc _).setRow (Nat.le_refl _) _⟩
def leafC (x:Nd):List Value:=ndc x (none,0)
theorem leafC_len (l:List Nd):(∀ c∈l.map leafC,c.length=5)∧∀ c∈l.map leafC,∀ u∈c,u.oneCell'=true:=by
 refine ⟨fun c hc=>?_,fun c hc u hu=>?_⟩
 · obtain ⟨x,_,rfl⟩:=List.mem_map.1 hc;rfl
 · obtain ⟨x,_,rfl⟩:=List.mem_map.1 hc
   simp only [leafC,ndc,List.mem_cons,List.not_mem_nil,or_false] at hu
   rcases hu with rfl | rfl | rfl | rfl | rfl <;> rfl
theorem kids_own {B lo base n:Nat} {w:World} {v:Value} {ks:List Nd} (h:w.ownsRow base 52 5 v n (ks.map leafC).flatten) (hn:ks.length=n) (hlf:∀ x∈ks,x.kids=[]) (hB:n≤B) (hlo:lo≤base):∃ A c,v=.slice A n c∧KidsAt B lo 1 w (A,c) ks:=by
 obtain ⟨hl,h2⟩:=h
 rcases h2 with ⟨rfl,h0⟩ | ⟨g,cap,cur,rfl,hg,hh,h1,h2,h3,h4⟩
 · have:ks=[]:=List.eq_nil_of_length_eq_zero (by omega)
   subst this
   exact ⟨none,0,by rw [h0],KidsAt.nil _ _ _ _ _⟩
 · have hlt:g<w.heap.size:=by
     rcases Nat.lt_or_ge g w.heap.size with e | e
     · exact e
     · rw [Array.getElem?_eq_none e] at hh;cases hh
   refine ⟨some ⟨g,0,none⟩,cap,rfl,by omega,by simp only;omega,h2,Or.inr ⟨g,0,List.replicate ks.length ((none,0):Option Addr×Nat),rfl,by omega,hlt,by simp,fun i x M hx hM=>?_⟩⟩
   have hM':M=(none,0):=by
    rw [List.getElem?_replicate] at hM
    split at hM
    · exact (Option.some.inj hM).symm
    · cases hM
   subst hM'
   refine ⟨fun j u hu=>?_,?_⟩
   · have hi:(ks.map leafC)[i]?=some (leafC x):=by rw [List.getElem?_map,hx];rfl
     have h5:=flatten_at (leafC_len ks).1 hi hu
     rw [← h4] at h5
     rw [Nat.zero_add,cell_of_row w g (i*5+j) cur _ _ hh]
     have hlt2:i*5+j<n*5:=by
      rcases Nat.lt_or_ge (i*5+j) (n*5) with e | e
      · exact e
      · rw [List.getElem?_eq_none (by rw [List.length_take];omega)] at h5;cases h5
     rw [List.getElem?_take_of_lt hlt2] at h5
     simpa using h5
   · rw [hlf x (List.mem_of_getElem? hx)];exact KidsAt.nil _ _ _ _ _
theorem Tryz.infoNd5:(Tryz.prog.info? 52).map (fun i=>(i.zero,i.size,i.bytes))=some (some (.agg #[.int .i64 0,.int .i64 0,.int .i64 0,.string ⟨#[]⟩,.slice none 0 0]),5,64):=by kernel_rfl
theorem sl_one5 (w:World) (x:Nd) (t:TypeId):Sl (w.alloc (.cells (leafC x).toArray t)) 5 (some ⟨w.heap.size,0,none⟩) ([x].map leafC):=by
 refine Or.inr ⟨w.heap.size,0,rfl,by simp,fun i cs hi j v hv=>?_⟩
 match i,hi with
 | 0,hi =>
  simp at hi
  subst hi
  rw [World.cell?_alloc_new]
  simpa using hv
def nuR (g base:Nat) (tag:Int) (v:Value) (k:Nat) (ks:List Nd) (y:Nd) (xv:Value) (j:Nat) (u:Option Value) (w:World):Prop :=
 match j with
 | 0=>u=some (.pointer (some ⟨g,4,none⟩))
 | 1=>u=some v
 | 2=>u=some xv
 | 3=>u=some (.agg (leafC y).toArray)
 | 4=>∃ q,u=some (.slice (some ⟨q,0,none⟩) 1 1)∧Sl w 5 (some ⟨q,0,none⟩) ([y].map leafC)
 | 5=>∃ v',u=some v'∧w.ownsRow base 52 5 v' (k+1) ((ks ++ [y]).map leafC).flatten
 | 6=>u=some (.pointer (some ⟨g,4,none⟩))
 | 7=>∃ v',w.heap[g]?=some (.cells #[.int .i64 tag,.int .i64 3,.int .i64 0,.string ⟨#[]⟩,v'] 52 (0,0))∧w.ownsRow base 52 5 v' (k+1) ((ks ++ [y]).map leafC).flatten
 | 8=>w.heap[g]?=some (.cells #[.int .i64 tag,.int .i64 3,.int .i64 0,.string ⟨#[]⟩,v] 52 (0,0))
 | _=>w.ownsRow base 52 5 v k (ks.map leafC).flatten
def nuC:Nat→Option Nat
 | 4=>some 5
 | 5=>some 7
 | 8=>some 7
 | 9=>some 5
 | _=>none
def nuD:List Nat:=[16,17,18,19,20,21,22,1000,1001,1002]
def nuE (g:Nat) (xv:Value) (t:Array Value):Prop:=t.getD 5 undef=.pointer (some ⟨g,0,none⟩)∧t.getD 7 undef=xv∧t.size=25
theorem nuR_ext (g base:Nat) (tag:Int) (v:Value) (k:Nat) (ks:List Nd) (y:Nd) (xv:Value) (j:Nat) (u:Option Value) (w w':World) (he:Ext w w') (h:nuR g base tag v k ks y xv j u w):nuR g base tag v k ks y xv j u w':=by
 match j,h with
 | 0,h=>exact h
 | 1,h=>exact h
 | 2,h=>exact h
 | 3,h=>exact h
 | 4,⟨q,h1,h2⟩=>exact ⟨q,h1,h2.ext he⟩
 | 5,⟨v',h1,h2⟩=>exact ⟨v',h1,own_ext h2 he⟩
 | 6,h=>exact h
 | 7,⟨v',h1,h2⟩=>exact ⟨v',he.blockAt h1,own_ext h2 he⟩
 | 8,h=>exact he.blockAt h
 | j+9,h=>exact own_ext h he
theorem KidsAt.setRow {B lo:Nat}:∀ {d:Nat} {w:World} {L:Option Addr×Nat} {ks:List Nd} {g:Nat},KidsAt B lo d w L ks→g<lo→∀ cs,KidsAt B lo d (w.setRow g cs) L ks
 | 0,_,_,_,_,h,_,_=>h
 | d+1,w,L,ks,g,⟨h1,h2,h3,h⟩,hg,cs=>by
  refine ⟨h1,h2,h3,?_⟩
  rcases h with h | ⟨b,off,Ls,e,hl,hb,hL,hc⟩
  · exact Or.inl h
  · refine Or.inr ⟨b,off,Ls,e,hl,by simpa [World.setRow] using hb,hL,fun i x M hx hM=>⟨fun j u hu=>?_,(hc i x M hx hM).2.setRow hg cs⟩⟩
    rw [World.cell?_of_block (w:=w) (w':=w.setRow g cs) (setRow_other _ _ (by show b≠g;omega))]
    exact (hc i x M hx hM).1 j u hu
theorem own_set {w:World} {base:Nat} {e:TypeId} {size:Nat} {v:Value} {n:Nat} {xs:List Value} (h:w.ownsRow base e size v n xs) {g:Nat} (hg:g<base) (i:Nat) (u:Value):(w.setCell ⟨g,i,none⟩ u).ownsRow base e size v n xs:=by
 obtain ⟨h1,h2⟩:=h
 refine ⟨h1,?_⟩
 rcases h2 with h2 | ⟨q,cap,cur,rfl,hq,hh,r⟩
 · exact Or.inl h2
 · exact Or.inr ⟨q,cap,cur,rfl,hq,by rw [Below.heap_setCell _ _ _ _ (show q≠g by omega)];exact hh,r⟩
theorem leaf_flat (ks:List Nd) (y:Nd):(ks.map leafC).flatten ++ ([y].map leafC).flatten=((ks ++ [y]).map leafC).flatten:=by rw [List.map_append,List.flatten_append]
set_option maxRecDepth 100000 in
set_option maxHeartbeats 12800000 in
theorem rnumbers_any (tag : Int) (A : Option Addr) (c : Nat) (l : List Int) (w : World) (h : SlI w A l) (hl : l.length ≤ 1000) :
    Calls Tryz.prog 66 #[.int .i64 tag,.slice A l.length c] w fun e w'=>RetNd 1000 w.heap.size 1 (.mk tag 3 0 ⟨#[]⟩ (l.map leafI)) e w'∧Ext w w':=by
 have H:=Hi h
 clear h
 obtain ⟨n,hn⟩:∃ n,l.length=n:=⟨_,rfl⟩
 rw [hn] at hl ⊢
 have HN:=Hi hn
 clear hn
 obtain ⟨i0,hi0,hz0,hz1,hz2⟩:=info_parts Tryz.infoNd5
 have EN:=Hi (enters_of Tryz.func63 (by kernel_rfl) rfl)
 obtain ⟨B2,hB2⟩:∃ W,(((w.alloc (.cells #[.int .i64 0,.int .i64 0,.int .i64 0,.string ⟨#[]⟩,.slice none 0 0] 52)).alloc (.cells #[.int .i64 0,.int .i64 0,.int .i64 0,.string ⟨#[]⟩,.slice none 0 0] 52)).setRow (w.heap.size+1) #[.int .i64 tag,.int .i64 3,.int .i64 0,.string ⟨#[]⟩,.slice none 0 0])=W:=⟨_,rfl⟩
 obtain ⟨W1,hW1⟩:∃ W,w.alloc (.cells #[.int .i64 0,.int .i64 0,.int .i64 0,.string ⟨#[]⟩,.slice none 0 0] 52)=W:=⟨_,rfl⟩
 have HS1:Hid (W1.heap.size=w.heap.size+1):=Hi (by rw [← hW1];simp)
 have HBK:Hid (B2.heap[w.heap.size+1]?=some (.cells #[.int .i64 tag,.int .i64 3,.int .i64 0,.string ⟨#[]⟩,.slice none 0 0] 52 (0,0))):=Hi (by rw [← hB2];exact setRow_at (heap_two_snd _ _ _))
 have HBR:Hid (W1.heap[w.heap.size]?=some (.cells #[.int .i64 0,.int .i64 0,.int .i64 0,.string ⟨#[]⟩,.slice none 0 0] 52 (0,0))):=Hi (by rw [← hW1];exact heap_alloc_new _ _)
 have X1:Hid (Ext w W1):=Hi (by rw [← hW1];exact (Ext.refl _).alloc _)
 have X2:Hid (Ext W1 B2):=Hi (by rw [← hB2,hW1];exact ((Ext.refl _).alloc _).setRow (by rw [HS1.out];exact Nat.le_refl _) _)
 have HE2:=Hi hB2
 clear hB2 hW1
 go_enter Tryz.func66,Tryz.ntmps66
 go_wp2_with (refine wpList_store_row rfl _ _ _ rfl (w.heap.size+1) #[.int .i64 tag,.int .i64 3,.int .i64 0,.string ⟨#[]⟩,.slice none 0 0] rfl rfl _ #[.int .i64 0,.int .i64 0,.int .i64 0,.string ⟨#[]⟩,.slice none 0 0] (heap_two_snd _ _ _) (by kernel_rfl) rfl (by simp [Value.oneCell']) ?_;rw [HE2.out])
 go_loopw [12] (fun i wr=>∃ (k:Nat) (v:Value),k≤n∧i=.int .i64 k∧Hid (wr.heap[w.heap.size+1]?=some (.cells #[.int .i64 tag,.int .i64 3,.int .i64 0,.string ⟨#[]⟩,v] 52 (0,0))∧wr.ownsRow (w.heap.size+2) 52 5 v k (((l.take k).map leafI).map leafC).flatten∧Ext W1 wr)) (fun i _=>n-(intOf i).toNat)
 case atStart=>exact ⟨0,.slice none 0 0,by omega,rfl,Hi ⟨HBK.out,own_nil _ _ _ _,X2.out⟩⟩
 case round =>
  obtain ⟨k,v,hk,rfl,HI⟩:=hrel
  by_cases hlt:k<n
  · have hlt':k<l.length:=by rw [HN.out];exact hlt
    obtain ⟨gb,go,x,rfl,hgb,hx,x0⟩:=(H.out.ext (X1.out.trans HI.out.2.2)).at_ hlt'
    have HX:=Hi hx
    have ki0:(0:Int)≤(k:Int):=by omega
    have ki1:(k:Int)<(n:Int):=by omega
    clear hx hlt'
    go_wp2_with fail
    refine region_tb (by kernel_rfl) (by decide +kernel) (nuE (w.heap.size+1) (.int .i64 x)) ⟨rfl,rfl,rfl⟩ 10 nuD nuC (nuR (w.heap.size+1) (w.heap.size+2) tag v k ((l.take k).map leafI) (leafI x) (.int .i64 x)) W1 HI.out.2.2 (fun i h1 h2=>by
     have h1':8≤i:=h1
     rcases (show i=8∨i=9 by omega) with rfl | rfl
     · exact HI.out.1
     · exact own_ext HI.out.2.1 ((Ext.refl _).drew)) ?_ ?_
    · intro T dd l' U wz i o hE ho hl hd hT
      obtain ⟨t5,t7,tz⟩:=hE
      match i,ho,hl,hd with
      | 0,ho,hl,hd =>
       obtain rfl:=Option.some.inj ho
       have v0:=eval_old (d:=dd) (hT.out 5 (by decide)) (by omega) t5
       refine tb_pure (v:=.pointer (some ⟨w.heap.size+1,4,none⟩)) hT ho hd rfl rfl (by decide) (by decide) ?_ rfl
       generalize Act.eval ⟨over T U,dd⟩=ev at *
       simp [execOp,go_sem,v0]
      | 1,ho,hl,hd =>
       obtain rfl:=Option.some.inj ho
       have f0:U 16=some (.pointer (some ⟨w.heap.size+1,4,none⟩)):=hT.facts 0 (by decide) (dep hd 0 (by kernel_rfl)) (fun c e=>by cases e)
       have v0:Act.eval ⟨over T U,dd⟩ (.tmp 16)=_:=eval_new (t:=T) (d:=dd) f0 (by show 16<T.size;omega)
       have l7:l' 7=false:=by
        cases h7:l' 7 with
        | false=>rfl
        | true =>
         have h5:=dep (hT.shut 7 _ rfl h7) 5 (by kernel_rfl)
         have h1:=dep (hT.shut 5 _ rfl h5) 1 (by kernel_rfl)
         rw [hl] at h1;cases h1
       have hblk:wz.heap[w.heap.size+1]?=some (.cells #[.int .i64 tag,.int .i64 3,.int .i64 0,.string ⟨#[]⟩,v] 52 (0,0)):=hT.facts 8 (by decide) (hT.past 8 (Nat.le_refl 8)) (fun c e=>by injection e with e;subst e;exact l7)
       have hc:wz.cell? ⟨w.heap.size+1,4,none⟩=some v:=by rw [cell_of_row _ _ 4 _ _ _ hblk];rfl
       refine tb_pure (v:=v) hT ho hd rfl rfl (by decide) (by decide) ?_ rfl
       generalize Act.eval ⟨over T U,dd⟩=ev at *
       simp [execOp,go_sem,v0,hc]
      | 2,ho,hl,hd =>
       obtain rfl:=Option.some.inj ho
       have v0:=eval_old (d:=dd) (hT.out 7 (by decide)) (by omega) t7
       refine tb_pure (v:=.int .i64 x) hT ho hd rfl rfl (by decide) (by decide) ?_ rfl
       generalize Act.eval ⟨over T U,dd⟩=ev at *
       simp [execOp,go_sem,v0]
      | 3,ho,hl,hd =>
       obtain rfl:=Option.some.inj ho
       have f0:U 18=some (.int .i64 x):=hT.facts 2 (by decide) (dep hd 2 (by kernel_rfl)) (fun c e=>by cases e)
       have v0:Act.eval ⟨over T U,dd⟩ (.tmp 18)=_:=eval_new (t:=T) (d:=dd) f0 (by show 18<T.size;omega)
       have vc:Act.eval ⟨over T U,dd⟩ (.const (.int .i64 0))=.int .i64 0:=rfl
       refine tb_call (f:=63) (args:=#[.int .i64 0,.int .i64 x]) (nuR_ext (w.heap.size+1) (w.heap.size+2) tag v k ((l.take k).map leafI) (leafI x) (.int .i64 x)) hT ho hd rfl rfl (by decide) (by decide) (exec_call2 rfl rfl vc v0 EN.out) ?_
       refine (rnumber_any 0 x wz).mono ?_
       rintro e w' ⟨rfl,hb⟩
       exact ⟨_,rfl,hb,rfl⟩
      | 4,ho,hl,hd =>
       obtain rfl:=Option.some.inj ho
       have f0:U 19=some (.agg (leafC (leafI x)).toArray):=hT.facts 3 (by decide) (dep hd 3 (by kernel_rfl)) (fun c e=>by cases e)
       have v0:Act.eval ⟨over T U,dd⟩ (.tmp 19)=_:=eval_new (t:=T) (d:=dd) f0 (by show 19<T.size;omega)
       refine tb_ext (v:=.slice (some ⟨wz.heap.size,0,none⟩) 1 1) (w':=wz.alloc (.cells (leafC (leafI x)).toArray 52)) (nuR_ext (w.heap.size+1) (w.heap.size+2) tag v k ((l.take k).map leafI) (leafI x) (.int .i64 x)) hT ho hd rfl rfl (by decide) (by decide) ?_ ((Ext.refl _).alloc _) ⟨wz.heap.size,rfl,sl_one5 _ _ _⟩
       have v0':Act.eval ⟨over T U,dd⟩ (.tmp 19)=.agg #[.int .i64 0,.int .i64 1,.int .i64 x,.string ⟨#[]⟩,.slice none 0 0]:=v0
       generalize Act.eval ⟨over T U,dd⟩=ev at *
       simp [execOp,v0',go_sem,leafC,ndc,leafI,Nd.tag,Nd.kind,Nd.n,Nd.s,Nd.kids]
      | 5,ho,hl,hd =>
       obtain rfl:=Option.some.inj ho
       have f1:U 17=some (v):=hT.facts 1 (by decide) (dep hd 1 (by kernel_rfl)) (fun c e=>by cases e)
       have v1:Act.eval ⟨over T U,dd⟩ (.tmp 17)=_:=eval_new (t:=T) (d:=dd) f1 (by show 17<T.size;omega)
       obtain ⟨q,f2,hs2⟩:∃ q,U 20=some (.slice (some ⟨q,0,none⟩) 1 1)∧Sl wz 5 (some ⟨q,0,none⟩) ([leafI x].map leafC):=hT.facts 4 (by decide) (dep hd 4 (by kernel_rfl)) (fun c e=>by injection e with e;subst e;exact hl)
       have v2:Act.eval ⟨over T U,dd⟩ (.tmp 20)=_:=eval_new (t:=T) (d:=dd) f2 (by show 20<T.size;omega)
       have f9:wz.ownsRow (w.heap.size+2) 52 5 v k (((l.take k).map leafI).map leafC).flatten:=hT.facts 9 (by decide) (hT.past 9 (by decide)) (fun c e=>by injection e with e;subst e;exact hl)
       have l7:l' 7=false:=by
        cases h7:l' 7 with
        | false=>rfl
        | true =>
         have h5:=dep (hT.shut 7 _ rfl h7) 5 (by kernel_rfl)
         rw [hl] at h5;cases h5
       have hblk:wz.heap[w.heap.size+1]?=some (.cells #[.int .i64 tag,.int .i64 3,.int .i64 0,.string ⟨#[]⟩,v] 52 (0,0)):=hT.facts 8 (by decide) (hT.past 8 (Nat.le_refl 8)) (fun c e=>by injection e with e;subst e;exact l7)
       have hlt0:w.heap.size+1<wz.heap.size:=by
        rcases Nat.lt_or_ge (w.heap.size+1) wz.heap.size with g | g
        · exact g
        · rw [Array.getElem?_eq_none g] at hblk;cases hblk
       obtain ⟨v',w',hrun,hown,hgr,-⟩:=run_append_sl (P:=Tryz.prog) wz (w.heap.size+2) 50 50 52 i0 (.agg #[.int .i64 0,.int .i64 0,.int .i64 0,.string ⟨#[]⟩,.slice none 0 0]) 5 64 Tryz.underlying50 hi0 hz0 hz1 hz2 rfl (by decide) v k _ f9 (some ⟨q,0,none⟩) 1 ([leafI x].map leafC) hs2 (leafC_len _).1 (leafC_len _).2 (by show k+1≤maxLen;unfold maxLen;omega) (by show (k+1)*64≤_;omega) (by omega)
       rw [leaf_flat] at hown
       refine tb_yield (v:=v') (w':=w') hT ho hd rfl rfl (by decide) (by decide) (exec_append rfl v1 v2 hrun) (hT.ext.grown hgr (fun q hq=>Nat.le_trans (by rw [HS1.out];omega) (own_ge f9 q hq))) ⟨v',rfl,hown⟩ ?_
       intro j hj hji hlj hcj hR
       match j,hj,hR with
       | 0,_,hR=>exact hR
       | 1,_,hR=>exact hR
       | 2,_,hR=>exact hR
       | 3,_,hR=>exact hR
       | 4,_,_=>exact absurd rfl (hcj 5 rfl).1
       | 5,_,_=>exact absurd rfl hji
       | 6,_,hR=>exact hR
       | 7,_,_=>exact absurd (dep (hT.shut 7 _ rfl hlj) 5 (by kernel_rfl)) (by rw [hl];decide)
       | 8,_,hR =>
        exact (hgr.block _ hlt0 (own_ne f9 (Nat.lt_succ_self _))).trans hR
       | 9,_,_=>exact absurd rfl (hcj 5 rfl).1
       | j+10,hj,_=>exact absurd hj (by omega)
      | 6,ho,hl,hd =>
       obtain rfl:=Option.some.inj ho
       have v0:=eval_old (d:=dd) (hT.out 5 (by decide)) (by omega) t5
       refine tb_pure (v:=.pointer (some ⟨w.heap.size+1,4,none⟩)) hT ho hd rfl rfl (by decide) (by decide) ?_ rfl
       generalize Act.eval ⟨over T U,dd⟩=ev at *
       simp [execOp,go_sem,v0]
      | 7,ho,hl,hd =>
       obtain rfl:=Option.some.inj ho
       obtain ⟨v',f1,hown⟩:∃ v',U 21=some v'∧wz.ownsRow (w.heap.size+2) 52 5 v' (k+1) (((l.take k).map leafI ++ [leafI x]).map leafC).flatten:=hT.facts 5 (by decide) (dep hd 5 (by kernel_rfl)) (fun c e=>by injection e with e;subst e;exact hl)
       have v1:Act.eval ⟨over T U,dd⟩ (.tmp 21)=_:=eval_new (t:=T) (d:=dd) f1 (by show 21<T.size;omega)
       have f0:U 22=some (.pointer (some ⟨w.heap.size+1,4,none⟩)):=hT.facts 6 (by decide) (dep hd 6 (by kernel_rfl)) (fun c e=>by cases e)
       have v0:Act.eval ⟨over T U,dd⟩ (.tmp 22)=_:=eval_new (t:=T) (d:=dd) f0 (by show 22<T.size;omega)
       have hblk:wz.heap[w.heap.size+1]?=some (.cells #[.int .i64 tag,.int .i64 3,.int .i64 0,.string ⟨#[]⟩,v] 52 (0,0)):=hT.facts 8 (by decide) (hT.past 8 (Nat.le_refl 8)) (fun c e=>by injection e with e;subst e;exact hl)
       have hc:wz.cell? ⟨w.heap.size+1,4,none⟩=some v:=by rw [cell_of_row _ _ 4 _ _ _ hblk];rfl
       have hfz:=frozen_row hblk 4
       obtain ⟨A',c',rfl⟩:=own_form hown
       refine tb_store (w':=wz.setCell ⟨w.heap.size+1,4,none⟩ (.slice A' (k+1) c')) hT ho hd rfl rfl ?_ (hT.ext.setCell (by rw [HS1.out];exact Nat.le_refl _) _) ⟨_,heap_set hblk 4 _,own_set hown (Nat.lt_succ_self _) _ _⟩ (fun j hj hji hlj hcj hR=>?_)
       · generalize Act.eval ⟨over T U,dd⟩=ev at *
         simp [execOp,v0,v1,go_sem,hc,hfz]
       · match j,hj,hR with
         | 0,_,hR=>exact hR
         | 1,_,hR=>exact hR
         | 2,_,hR=>exact hR
         | 3,_,hR=>exact hR
         | 4,_,_=>exact absurd (dep hd 5 (by kernel_rfl)) (by rw [(hcj 5 rfl).2];decide)
         | 5,_,_=>exact absurd rfl (hcj 7 rfl).1
         | 6,_,hR=>exact hR
         | 7,_,_=>exact absurd rfl hji
         | 8,_,_=>exact absurd rfl (hcj 7 rfl).1
         | 9,_,_=>exact absurd (dep hd 5 (by kernel_rfl)) (by rw [(hcj 5 rfl).2];decide)
         | j+10,hj,_=>exact absurd hj (by omega)
      | i+8,ho,_,_=>exact absurd ho (by simp)
    · intro U wx hex hout hfin
      obtain ⟨v',hb,ho⟩:∃ v',wx.heap[w.heap.size+1]?=some (.cells #[.int .i64 tag,.int .i64 3,.int .i64 0,.string ⟨#[]⟩,v'] 52 (0,0))∧wx.ownsRow (w.heap.size+2) 52 5 v' (k+1) (((l.take k).map leafI ++ [leafI x]).map leafC).flatten:=hfin 7 (by decide) rfl
      have hnx:(l.take (k+1)).map leafI=(l.take k).map leafI ++ [leafI x]:=by rw [List.take_add_one,HX.out,List.map_append];rfl
      have HI2:Hid (wx.heap[w.heap.size+1]?=some (.cells #[.int .i64 tag,.int .i64 3,.int .i64 0,.string ⟨#[]⟩,v'] 52 (0,0))∧wx.ownsRow (w.heap.size+2) 52 5 v' (k+1) (((l.take (k+1)).map leafI).map leafC).flatten∧Ext W1 wx):=Hi ⟨hb,by rw [hnx];exact ho,hex⟩
      clear hb ho hex hfin hnx
      rw [over_list]
      simp (disch:=decide) only [overL,Nat.reduceAdd,hout,Option.getD_none]
      clear hout
      go_wp2
      go_roundw
      case rel=>exact ⟨k+1,v',by omega,by go_num,HI2⟩
      case measure=>simp [intOf];omega
  · obtain rfl:k=n:=by omega
    have hlt3:(l.map leafI)=((l.take k).map leafI):=by rw [← HN.out,List.take_length]
    obtain ⟨h1,h2,h3⟩:=HI.out
    obtain ⟨A',c',rfl,hk⟩:=kids_own (B:=1000) (lo:=w.heap.size+1) h2 (by rw [List.length_map,List.length_take,HN.out];omega) (fun x hx=>by obtain ⟨y,_,rfl⟩:=List.mem_map.1 hx;rfl) (by omega) (by omega)
    rw [← hlt3] at hk
    have H1:=Hi h1
    have HK:=Hi hk
    have HX3:=Hi h3
    have HBR3:Hid (wr.heap[w.heap.size]?=some (.cells #[.int .i64 0,.int .i64 0,.int .i64 0,.string ⟨#[]⟩,.slice none 0 0] 52 (0,0))):=Hi (h3.blockAt HBR.out)
    have HLN:Hid ((l.map leafI).length=k):=Hi (by rw [List.length_map];exact HN.out)
    clear h1 h2 h3 hk hlt3 HI
    go_wp2_with (first
     | refine wpList_load_row rfl _ _ rfl (w.heap.size+1) rfl _ #[.int .i64 tag,.int .i64 3,.int .i64 0,.string ⟨#[]⟩,.slice A' k c'] _ _ H1.out Tryz.underlying52 rfl (by kernel_rfl) ?_
     | refine wpList_store_row rfl _ _ _ rfl w.heap.size #[.int .i64 tag,.int .i64 3,.int .i64 0,.string ⟨#[]⟩,.slice A' k c'] rfl rfl _ #[.int .i64 0,.int .i64 0,.int .i64 0,.string ⟨#[]⟩,.slice none 0 0] HBR3.out (by kernel_rfl) rfl (by simp [Value.oneCell']) ?_)
    have HRS:=setRow_at (cs':=#[.int .i64 tag,.int .i64 3,.int .i64 0,.string ⟨#[]⟩,.slice A' k c']) HBR3.out
    refine bodyPost_ret (v:=.agg #[.int .i64 tag,.int .i64 3,.int .i64 0,.string ⟨#[]⟩,.slice A' k c']) (results_cell_row Tryz.results66 _ _ w.heap.size _ _ _ _ rfl HRS Tryz.underlying52 rfl (by kernel_rfl)) rfl ?_
    refine ⟨⟨(A',c'),?_,?_⟩,(X1.out.trans HX3.out).setRow (Nat.le_refl _) _⟩
    · show _=Ending.returned (.agg #[.int .i64 tag,.int .i64 3,.int .i64 0,.string ⟨#[]⟩,.slice A' (l.map leafI).length c'])
      rw [HLN.out]
    · exact (HK.out.setRow (Nat.lt_succ_self _) _).lower (Nat.le_succ _)
set_option maxRecDepth 100000 in
set_option maxHeartbeats 12800000 in
theorem rstrings_any (tag : Int) (A : Option Addr) (c : Nat) (l : List ByteArray) (w : World) (h : SlS w A l) (hl : l.length ≤ 1000) :
    Calls Tryz.prog 65 #[.int .i64 tag,.slice A l.length c] w fun e w'=>RetNd 1000 w.heap.size 1 (.mk tag 3 0 ⟨#[]⟩ (l.map leafS)) e w'∧Ext w w':=by
 have H:=Hi h
 clear h
 obtain ⟨n,hn⟩:∃ n,l.length=n:=⟨_,rfl⟩
 rw [hn] at hl ⊢
 have HN:=Hi hn
 clear hn
 obtain ⟨i0,hi0,hz0,hz1,hz2⟩:=info_parts Tryz.infoNd5
 have EN:=Hi (enters_of Tryz.func64 (by kernel_rfl) rfl)
 obtain ⟨B2,hB2⟩:∃ W,(((w.alloc (.cells #[.int .i64 0,.int .i64 0,.int .i64 0,.string ⟨#[]⟩,.slice none 0 0] 52)).alloc (.cells #[.int .i64 0,.int .i64 0,.int .i64 0,.string ⟨#[]⟩,.slice none 0 0] 52)).setRow (w.heap.size+1) #[.int .i64 tag,.int .i64 3,.int .i64 0,.string ⟨#[]⟩,.slice none 0 0])=W:=⟨_,rfl⟩
 obtain ⟨W1,hW1⟩:∃ W,w.alloc (.cells #[.int .i64 0,.int .i64 0,.int .i64 0,.string ⟨#[]⟩,.slice none 0 0] 52)=W:=⟨_,rfl⟩
 have HS1:Hid (W1.heap.size=w.heap.size+1):=Hi (by rw [← hW1];simp)
 have HBK:Hid (B2.heap[w.heap.size+1]?=some (.cells #[.int .i64 tag,.int .i64 3,.int .i64 0,.string ⟨#[]⟩,.slice none 0 0] 52 (0,0))):=Hi (by rw [← hB2];exact setRow_at (heap_two_snd _ _ _))
 have HBR:Hid (W1.heap[w.heap.size]?=some (.cells #[.int .i64 0,.int .i64 0,.int .i64 0,.string ⟨#[]⟩,.slice none 0 0] 52 (0,0))):=Hi (by rw [← hW1];exact heap_alloc_new _ _)
 have X1:Hid (Ext w W1):=Hi (by rw [← hW1];exact (Ext.refl _).alloc _)
 have X2:Hid (Ext W1 B2):=Hi (by rw [← hB2,hW1];exact ((Ext.refl _).alloc _).setRow (by rw [HS1.out];exact Nat.le_refl _) _)
 have HE2:=Hi hB2
 clear hB2 hW1
 go_enter Tryz.func65,Tryz.ntmps65
 go_wp2_with (refine wpList_store_row rfl _ _ _ rfl (w.heap.size+1) #[.int .i64 tag,.int .i64 3,.int .i64 0,.string ⟨#[]⟩,.slice none 0 0] rfl rfl _ #[.int .i64 0,.int .i64 0,.int .i64 0,.string ⟨#[]⟩,.slice none 0 0] (heap_two_snd _ _ _) (by kernel_rfl) rfl (by simp [Value.oneCell']) ?_;rw [HE2.out])
 go_loopw [12] (fun i wr=>∃ (k:Nat) (v:Value),k≤n∧i=.int .i64 k∧Hid (wr.heap[w.heap.size+1]?=some (.cells #[.int .i64 tag,.int .i64 3,.int .i64 0,.string ⟨#[]⟩,v] 52 (0,0))∧wr.ownsRow (w.heap.size+2) 52 5 v k (((l.take k).map leafS).map leafC).flatten∧Ext W1 wr)) (fun i _=>n-(intOf i).toNat)
 case atStart=>exact ⟨0,.slice none 0 0,by omega,rfl,Hi ⟨HBK.out,own_nil _ _ _ _,X2.out⟩⟩
 case round =>
  obtain ⟨k,v,hk,rfl,HI⟩:=hrel
  by_cases hlt:k<n
  · have hlt':k<l.length:=by rw [HN.out];exact hlt
    obtain ⟨gb,go,rfl,hgb,x0⟩:=(H.out.ext (X1.out.trans HI.out.2.2)).at_ hlt'
    obtain ⟨x,hx'⟩:∃ x,l[k]=x:=⟨_,rfl⟩
    have hx:l[k]?=some x:=by rw [List.getElem?_eq_getElem hlt',hx']
    rw [hx'] at x0
    clear hx'
    have HX:=Hi hx
    have ki0:(0:Int)≤(k:Int):=by omega
    have ki1:(k:Int)<(n:Int):=by omega
    clear hx hlt'
    go_wp2_with fail
    refine region_tb (by kernel_rfl) (by decide +kernel) (nuE (w.heap.size+1) (.string x)) ⟨rfl,rfl,rfl⟩ 10 nuD nuC (nuR (w.heap.size+1) (w.heap.size+2) tag v k ((l.take k).map leafS) (leafS x) (.string x)) W1 HI.out.2.2 (fun i h1 h2=>by
     have h1':8≤i:=h1
     rcases (show i=8∨i=9 by omega) with rfl | rfl
     · exact HI.out.1
     · exact own_ext HI.out.2.1 ((Ext.refl _).drew)) ?_ ?_
    · intro T dd l' U wz i o hE ho hl hd hT
      obtain ⟨t5,t7,tz⟩:=hE
      match i,ho,hl,hd with
      | 0,ho,hl,hd =>
       obtain rfl:=Option.some.inj ho
       have v0:=eval_old (d:=dd) (hT.out 5 (by decide)) (by omega) t5
       refine tb_pure (v:=.pointer (some ⟨w.heap.size+1,4,none⟩)) hT ho hd rfl rfl (by decide) (by decide) ?_ rfl
       generalize Act.eval ⟨over T U,dd⟩=ev at *
       simp [execOp,go_sem,v0]
      | 1,ho,hl,hd =>
       obtain rfl:=Option.some.inj ho
       have f0:U 16=some (.pointer (some ⟨w.heap.size+1,4,none⟩)):=hT.facts 0 (by decide) (dep hd 0 (by kernel_rfl)) (fun c e=>by cases e)
       have v0:Act.eval ⟨over T U,dd⟩ (.tmp 16)=_:=eval_new (t:=T) (d:=dd) f0 (by show 16<T.size;omega)
       have l7:l' 7=false:=by
        cases h7:l' 7 with
        | false=>rfl
        | true =>
         have h5:=dep (hT.shut 7 _ rfl h7) 5 (by kernel_rfl)
         have h1:=dep (hT.shut 5 _ rfl h5) 1 (by kernel_rfl)
         rw [hl] at h1;cases h1
       have hblk:wz.heap[w.heap.size+1]?=some (.cells #[.int .i64 tag,.int .i64 3,.int .i64 0,.string ⟨#[]⟩,v] 52 (0,0)):=hT.facts 8 (by decide) (hT.past 8 (Nat.le_refl 8)) (fun c e=>by injection e with e;subst e;exact l7)
       have hc:wz.cell? ⟨w.heap.size+1,4,none⟩=some v:=by rw [cell_of_row _ _ 4 _ _ _ hblk];rfl
       refine tb_pure (v:=v) hT ho hd rfl rfl (by decide) (by decide) ?_ rfl
       generalize Act.eval ⟨over T U,dd⟩=ev at *
       simp [execOp,go_sem,v0,hc]
      | 2,ho,hl,hd =>
       obtain rfl:=Option.some.inj ho
       have v0:=eval_old (d:=dd) (hT.out 7 (by decide)) (by omega) t7
       refine tb_pure (v:=.string x) hT ho hd rfl rfl (by decide) (by decide) ?_ rfl
       generalize Act.eval ⟨over T U,dd⟩=ev at *
       simp [execOp,go_sem,v0]
      | 3,ho,hl,hd =>
       obtain rfl:=Option.some.inj ho
       have f0:U 18=some (.string x):=hT.facts 2 (by decide) (dep hd 2 (by kernel_rfl)) (fun c e=>by cases e)
       have v0:Act.eval ⟨over T U,dd⟩ (.tmp 18)=_:=eval_new (t:=T) (d:=dd) f0 (by show 18<T.size;omega)
       have vc:Act.eval ⟨over T U,dd⟩ (.const (.int .i64 0))=.int .i64 0:=rfl
       refine tb_call (f:=64) (args:=#[.int .i64 0,.string x]) (nuR_ext (w.heap.size+1) (w.heap.size+2) tag v k ((l.take k).map leafS) (leafS x) (.string x)) hT ho hd rfl rfl (by decide) (by decide) (exec_call2 rfl rfl vc v0 EN.out) ?_
       refine (rtext_any 0 x wz).mono ?_
       rintro e w' ⟨rfl,hb⟩
       exact ⟨_,rfl,hb,rfl⟩
      | 4,ho,hl,hd =>
       obtain rfl:=Option.some.inj ho
       have f0:U 19=some (.agg (leafC (leafS x)).toArray):=hT.facts 3 (by decide) (dep hd 3 (by kernel_rfl)) (fun c e=>by cases e)
       have v0:Act.eval ⟨over T U,dd⟩ (.tmp 19)=_:=eval_new (t:=T) (d:=dd) f0 (by show 19<T.size;omega)
       refine tb_ext (v:=.slice (some ⟨wz.heap.size,0,none⟩) 1 1) (w':=wz.alloc (.cells (leafC (leafS x)).toArray 52)) (nuR_ext (w.heap.size+1) (w.heap.size+2) tag v k ((l.take k).map leafS) (leafS x) (.string x)) hT ho hd rfl rfl (by decide) (by decide) ?_ ((Ext.refl _).alloc _) ⟨wz.heap.size,rfl,sl_one5 _ _ _⟩
       have v0':Act.eval ⟨over T U,dd⟩ (.tmp 19)=.agg #[.int .i64 0,.int .i64 2,.int .i64 0,.string x,.slice none 0 0]:=v0
       generalize Act.eval ⟨over T U,dd⟩=ev at *
       simp [execOp,v0',go_sem,leafC,ndc,leafS,Nd.tag,Nd.kind,Nd.n,Nd.s,Nd.kids]
      | 5,ho,hl,hd =>
       obtain rfl:=Option.some.inj ho
       have f1:U 17=some (v):=hT.facts 1 (by decide) (dep hd 1 (by kernel_rfl)) (fun c e=>by cases e)
       have v1:Act.eval ⟨over T U,dd⟩ (.tmp 17)=_:=eval_new (t:=T) (d:=dd) f1 (by show 17<T.size;omega)
       obtain ⟨q,f2,hs2⟩:∃ q,U 20=some (.slice (some ⟨q,0,none⟩) 1 1)∧Sl wz 5 (some ⟨q,0,none⟩) ([leafS x].map leafC):=hT.facts 4 (by decide) (dep hd 4 (by kernel_rfl)) (fun c e=>by injection e with e;subst e;exact hl)
       have v2:Act.eval ⟨over T U,dd⟩ (.tmp 20)=_:=eval_new (t:=T) (d:=dd) f2 (by show 20<T.size;omega)
       have f9:wz.ownsRow (w.heap.size+2) 52 5 v k (((l.take k).map leafS).map leafC).flatten:=hT.facts 9 (by decide) (hT.past 9 (by decide)) (fun c e=>by injection e with e;subst e;exact hl)
       have l7:l' 7=false:=by
        cases h7:l' 7 with
        | false=>rfl
        | true =>
         have h5:=dep (hT.shut 7 _ rfl h7) 5 (by kernel_rfl)
         rw [hl] at h5;cases h5
       have hblk:wz.heap[w.heap.size+1]?=some (.cells #[.int .i64 tag,.int .i64 3,.int .i64 0,.string ⟨#[]⟩,v] 52 (0,0)):=hT.facts 8 (by decide) (hT.past 8 (Nat.le_refl 8)) (fun c e=>by injection e with e;subst e;exact l7)
       have hlt0:w.heap.size+1<wz.heap.size:=by
        rcases Nat.lt_or_ge (w.heap.size+1) wz.heap.size with g | g
        · exact g
        · rw [Array.getElem?_eq_none g] at hblk;cases hblk
       obtain ⟨v',w',hrun,hown,hgr,-⟩:=run_append_sl (P:=Tryz.prog) wz (w.heap.size+2) 50 50 52 i0 (.agg #[.int .i64 0,.int .i64 0,.int .i64 0,.string ⟨#[]⟩,.slice none 0 0]) 5 64 Tryz.underlying50 hi0 hz0 hz1 hz2 rfl (by decide) v k _ f9 (some ⟨q,0,none⟩) 1 ([leafS x].map leafC) hs2 (leafC_len _).1 (leafC_len _).2 (by show k+1≤maxLen;unfold maxLen;omega) (by show (k+1)*64≤_;omega) (by omega)
       rw [leaf_flat] at hown
       refine tb_yield (v:=v') (w':=w') hT ho hd rfl rfl (by decide) (by decide) (exec_append rfl v1 v2 hrun) (hT.ext.grown hgr (fun q hq=>Nat.le_trans (by rw [HS1.out];omega) (own_ge f9 q hq))) ⟨v',rfl,hown⟩ ?_
       intro j hj hji hlj hcj hR
       match j,hj,hR with
       | 0,_,hR=>exact hR
       | 1,_,hR=>exact hR
       | 2,_,hR=>exact hR
       | 3,_,hR=>exact hR
       | 4,_,_=>exact absurd rfl (hcj 5 rfl).1
       | 5,_,_=>exact absurd rfl hji
       | 6,_,hR=>exact hR
       | 7,_,_=>exact absurd (dep (hT.shut 7 _ rfl hlj) 5 (by kernel_rfl)) (by rw [hl];decide)
       | 8,_,hR =>
        exact (hgr.block _ hlt0 (own_ne f9 (Nat.lt_succ_self _))).trans hR
       | 9,_,_=>exact absurd rfl (hcj 5 rfl).1
       | j+10,hj,_=>exact absurd hj (by omega)
      | 6,ho,hl,hd =>
       obtain rfl:=Option.some.inj ho
       have v0:=eval_old (d:=dd) (hT.out 5 (by decide)) (by omega) t5
       refine tb_pure (v:=.pointer (some ⟨w.heap.size+1,4,none⟩)) hT ho hd rfl rfl (by decide) (by decide) ?_ rfl
       generalize Act.eval ⟨over T U,dd⟩=ev at *
       simp [execOp,go_sem,v0]
      | 7,ho,hl,hd =>
       obtain rfl:=Option.some.inj ho
       obtain ⟨v',f1,hown⟩:∃ v',U 21=some v'∧wz.ownsRow (w.heap.size+2) 52 5 v' (k+1) (((l.take k).map leafS ++ [leafS x]).map leafC).flatten:=hT.facts 5 (by decide) (dep hd 5 (by kernel_rfl)) (fun c e=>by injection e with e;subst e;exact hl)
       have v1:Act.eval ⟨over T U,dd⟩ (.tmp 21)=_:=eval_new (t:=T) (d:=dd) f1 (by show 21<T.size;omega)
       have f0:U 22=some (.pointer (some ⟨w.heap.size+1,4,none⟩)):=hT.facts 6 (by decide) (dep hd 6 (by kernel_rfl)) (fun c e=>by cases e)
       have v0:Act.eval ⟨over T U,dd⟩ (.tmp 22)=_:=eval_new (t:=T) (d:=dd) f0 (by show 22<T.size;omega)
       have hblk:wz.heap[w.heap.size+1]?=some (.cells #[.int .i64 tag,.int .i64 3,.int .i64 0,.string ⟨#[]⟩,v] 52 (0,0)):=hT.facts 8 (by decide) (hT.past 8 (Nat.le_refl 8)) (fun c e=>by injection e with e;subst e;exact hl)
       have hc:wz.cell? ⟨w.heap.size+1,4,none⟩=some v:=by rw [cell_of_row _ _ 4 _ _ _ hblk];rfl
       have hfz:=frozen_row hblk 4
       obtain ⟨A',c',rfl⟩:=own_form hown
       refine tb_store (w':=wz.setCell ⟨w.heap.size+1,4,none⟩ (.slice A' (k+1) c')) hT ho hd rfl rfl ?_ (hT.ext.setCell (by rw [HS1.out];exact Nat.le_refl _) _) ⟨_,heap_set hblk 4 _,own_set hown (Nat.lt_succ_self _) _ _⟩ (fun j hj hji hlj hcj hR=>?_)
       · generalize Act.eval ⟨over T U,dd⟩=ev at *
         simp [execOp,v0,v1,go_sem,hc,hfz]
       · match j,hj,hR with
         | 0,_,hR=>exact hR
         | 1,_,hR=>exact hR
         | 2,_,hR=>exact hR
         | 3,_,hR=>exact hR
         | 4,_,_=>exact absurd (dep hd 5 (by kernel_rfl)) (by rw [(hcj 5 rfl).2];decide)
         | 5,_,_=>exact absurd rfl (hcj 7 rfl).1
         | 6,_,hR=>exact hR
         | 7,_,_=>exact absurd rfl hji
         | 8,_,_=>exact absurd rfl (hcj 7 rfl).1
         | 9,_,_=>exact absurd (dep hd 5 (by kernel_rfl)) (by rw [(hcj 5 rfl).2];decide)
         | j+10,hj,_=>exact absurd hj (by omega)
      | i+8,ho,_,_=>exact absurd ho (by simp)
    · intro U wx hex hout hfin
      obtain ⟨v',hb,ho⟩:∃ v',wx.heap[w.heap.size+1]?=some (.cells #[.int .i64 tag,.int .i64 3,.int .i64 0,.string ⟨#[]⟩,v'] 52 (0,0))∧wx.ownsRow (w.heap.size+2) 52 5 v' (k+1) (((l.take k).map leafS ++ [leafS x]).map leafC).flatten:=hfin 7 (by decide) rfl
      have hnx:(l.take (k+1)).map leafS=(l.take k).map leafS ++ [leafS x]:=by rw [List.take_add_one,HX.out,List.map_append];rfl
      have HI2:Hid (wx.heap[w.heap.size+1]?=some (.cells #[.int .i64 tag,.int .i64 3,.int .i64 0,.string ⟨#[]⟩,v'] 52 (0,0))∧wx.ownsRow (w.heap.size+2) 52 5 v' (k+1) (((l.take (k+1)).map leafS).map leafC).flatten∧Ext W1 wx):=Hi ⟨hb,by rw [hnx];exact ho,hex⟩
      clear hb ho hex hfin hnx
      rw [over_list]
      simp (disch:=decide) only [overL,Nat.reduceAdd,hout,Option.getD_none]
      clear hout
      go_wp2
      go_roundw
      case rel=>exact ⟨k+1,v',by omega,by go_num,HI2⟩
      case measure=>simp [intOf];omega
  · obtain rfl:k=n:=by omega
    have hlt3:(l.map leafS)=((l.take k).map leafS):=by rw [← HN.out,List.take_length]
    obtain ⟨h1,h2,h3⟩:=HI.out
    obtain ⟨A',c',rfl,hk⟩:=kids_own (B:=1000) (lo:=w.heap.size+1) h2 (by rw [List.length_map,List.length_take,HN.out];omega) (fun x hx=>by obtain ⟨y,_,rfl⟩:=List.mem_map.1 hx;rfl) (by omega) (by omega)
    rw [← hlt3] at hk
    have H1:=Hi h1
    have HK:=Hi hk
    have HX3:=Hi h3
    have HBR3:Hid (wr.heap[w.heap.size]?=some (.cells #[.int .i64 0,.int .i64 0,.int .i64 0,.string ⟨#[]⟩,.slice none 0 0] 52 (0,0))):=Hi (h3.blockAt HBR.out)
    have HLN:Hid ((l.map leafS).length=k):=Hi (by rw [List.length_map];exact HN.out)
    clear h1 h2 h3 hk hlt3 HI
    go_wp2_with (first
     | refine wpList_load_row rfl _ _ rfl (w.heap.size+1) rfl _ #[.int .i64 tag,.int .i64 3,.int .i64 0,.string ⟨#[]⟩,.slice A' k c'] _ _ H1.out Tryz.underlying52 rfl (by kernel_rfl) ?_
     | refine wpList_store_row rfl _ _ _ rfl w.heap.size #[.int .i64 tag,.int .i64 3,.int .i64 0,.string ⟨#[]⟩,.slice A' k c'] rfl rfl _ #[.int .i64 0,.int .i64 0,.int .i64 0,.string ⟨#[]⟩,.slice none 0 0] HBR3.out (by kernel_rfl) rfl (by simp [Value.oneCell']) ?_)
    have HRS:=setRow_at (cs':=#[.int .i64 tag,.int .i64 3,.int .i64 0,.string ⟨#[]⟩,.slice A' k c']) HBR3.out
    refine bodyPost_ret (v:=.agg #[.int .i64 tag,.int .i64 3,.int .i64 0,.string ⟨#[]⟩,.slice A' k c']) (results_cell_row Tryz.results65 _ _ w.heap.size _ _ _ _ rfl HRS Tryz.underlying52 rfl (by kernel_rfl)) rfl ?_
    refine ⟨⟨(A',c'),?_,?_⟩,(X1.out.trans HX3.out).setRow (Nat.le_refl _) _⟩
    · show _=Ending.returned (.agg #[.int .i64 tag,.int .i64 3,.int .i64 0,.string ⟨#[]⟩,.slice A' (l.map leafS).length c'])
      rw [HLN.out]
    · exact (HK.out.setRow (Nat.lt_succ_self _) _).lower (Nat.le_succ _)

set_option maxRecDepth 100000 in
set_option maxHeartbeats 32000000 in
theorem rencode_ok (it : It.Item) (L : It.Loc) (w : World) (h : It.In w it L) (hval : ∀ w', Ext w w' → It.In w' it L → Calls Tryz.prog 62 #[It.agg it L] w' fun e w2 => e = .returned (.int .i64 0) ∧ Ext w' w2) (ho0 : it.opts.length ≤ 1000) (hc0 : it.chs.length ≤ 1000) (ht0 : it.texts.length ≤ 1000) (hs0 : it.assets.length ≤ 1000) :
    Calls Tryz.prog 29 #[It.agg it L] w fun e w'=>(∃ M:Option Addr×Nat,e=.returned (.tuple #[nda (tree it) M,.int .i64 0])∧KidsAt 1000 w.heap.size 2 w' M (flds it))∧Ext w w':=by
 have H:=Hi h
 have HVAL:=Hi hval
 clear h hval
 have e33:=enters_of Tryz.func63 (by kernel_rfl) rfl
 have e34:=enters_of Tryz.func64 (by kernel_rfl) rfl
 have e35:=enters_of Tryz.func65 (by kernel_rfl) rfl
 have e36:=enters_of Tryz.func66 (by kernel_rfl) rfl
 have EI:=Hi e33
 have ES:=Hi e34
 have ET:=Hi e35
 have EN:=Hi e36
 clear e33 e34 e35 e36
 unfold It.agg
 go_enter Tryz.func29,Tryz.ntmps29
 go_wp2_with fail
 refine (HVAL.out _ (((Ext.refl _).alloc _).alloc _) (H.out.ext (((Ext.refl _).alloc _).alloc _))).mono ?_
 rintro e w1 ⟨rfl,hb1⟩
 have hbx:BoxI it L w.heap.size w1:=BoxI.ext (w:=(w.alloc (.cells #[.int .i64 it.id,.int .i64 it.ver,.int .i64 it.kind,.string it.stem,.slice L.oA it.opts.length L.oc,.slice L.cA it.chs.length L.cc,.int .i64 it.value,.int .i64 it.tol,.slice L.tA it.texts.length L.tc,.int .i64 it.pts,.string it.cont,.int .i64 it.fam,.int .i64 it.set_,.int .i64 it.wrd,.int .i64 it.sec,.slice L.sA it.assets.length L.sc,.int .i64 it.rub] 45)).alloc (.cells #[.int .i64 0,.int .i64 0,.int .i64 0,.string ⟨#[]⟩,.slice none 0 0] 52)) ⟨by simp;omega,fun i v hv=>by
  refine ((Ext.refl _).alloc _).keep ?_
  rw [World.cell?_alloc_new,← hv]
  simp [It.cells]⟩ hb1
 have hrs:ResB (w.heap.size+1) w1:=ResB.ext (w:=(w.alloc (.cells #[.int .i64 it.id,.int .i64 it.ver,.int .i64 it.kind,.string it.stem,.slice L.oA it.opts.length L.oc,.slice L.cA it.chs.length L.cc,.int .i64 it.value,.int .i64 it.tol,.slice L.tA it.texts.length L.tc,.int .i64 it.pts,.string it.cont,.int .i64 it.fam,.int .i64 it.set_,.int .i64 it.wrd,.int .i64 it.sec,.slice L.sA it.assets.length L.sc,.int .i64 it.rub] 45)).alloc (.cells #[.int .i64 0,.int .i64 0,.int .i64 0,.string ⟨#[]⟩,.slice none 0 0] 52)) ⟨_,heap_new_at _ _ _ (by simp),rfl⟩ hb1
 have HBX:=Hi hbx
 have HRS:=Hi hrs
 have X1:Hid (Ext w w1):=Hi ((((Ext.refl w).alloc _).alloc _).trans hb1)
 have hz1:Hid (w.heap.size+2≤w1.heap.size):=Hi (by have:=hb1.size;simp at this;omega)
 clear hbx hrs hb1
 go_wp2_with fail
 refine region_tb (by kernel_rfl) (by decide +kernel) (encE w.heap.size) ⟨rfl,rfl,rfl⟩ 56 encD (fun _=>none) (encR it L w.heap.size) w X1.out (fun i h1 h2=>by
  have h1':55≤i:=h1
  obtain rfl:i=55:=by omega
  exact ⟨HBX.out.ext ((Ext.refl _).drew),HRS.out.ext ((Ext.refl _).drew)⟩) ?_ ?_
 · intro T dd l U wz i o hE ho hl hd hT
   obtain ⟨t1,t2,tz⟩:=hE
   obtain ⟨⟨hbl,hbox⟩,hres⟩:BoxI it L w.heap.size wz∧ResB (w.heap.size+1) wz:=hT.facts 55 (by decide) (hT.past 55 (Nat.le_refl 55)) (fun c e=>by cases e)
   have HBOX:=Hi hbox
   have hg2:w.heap.size+2≤wz.heap.size:=hres.lt
   have hx:=hT.ext
   clear hbox
   match i,ho,hl,hd with
   | 0,ho,hl,hd =>
    obtain rfl:=Option.some.inj ho
    have v1:=eval_old (d:=dd) (hT.out 1 (by decide)) (by omega) t1
    refine tb_pure (v:=.pointer (some ⟨w.heap.size,0,none⟩)) hT ho hd rfl rfl (by decide) (by decide) ?_ rfl
    generalize Act.eval ⟨over T U,dd⟩=ev at *
    simp [execOp,v1,go_sem]
   | 1,ho,hl,hd =>
    obtain rfl:=Option.some.inj ho
    have f0:U 11=some (.pointer (some ⟨w.heap.size,0,none⟩)):=hT.facts 0 (by decide) (dep hd 0 (by kernel_rfl)) (fun c e=>by cases e)
    have v0:Act.eval ⟨over T U,dd⟩ (.tmp 11)=_:=eval_new (t:=T) (d:=dd) f0 (by show 11<T.size;omega)
    have hc:wz.cell? ⟨w.heap.size,0,none⟩=some (.int .i64 it.id):=HBOX.out 0 _ rfl
    refine tb_pure (v:=.int .i64 it.id) hT ho hd rfl rfl (by decide) (by decide) ?_ rfl
    generalize Act.eval ⟨over T U,dd⟩=ev at *
    simp [execOp,v0,go_sem,hc]
   | 2,ho,hl,hd =>
    obtain rfl:=Option.some.inj ho
    have f0:U 12=some (.int .i64 it.id):=hT.facts 1 (by decide) (dep hd 1 (by kernel_rfl)) (fun c e=>by cases e)
    have v0:Act.eval ⟨over T U,dd⟩ (.tmp 12)=_:=eval_new (t:=T) (d:=dd) f0 (by show 12<T.size;omega)
    refine tb_call (f:=63) (args:=#[.int .i64 1,.int .i64 it.id]) (encR_ext it L w.heap.size) hT ho hd rfl rfl (by decide) (by decide) ?_ ?_
    · exact exec_call2 rfl rfl rfl v0 EI.out
    · refine (rnumber_any 1 it.id wz).mono ?_
      rintro e w' ⟨rfl,hb⟩
      exact ⟨_,rfl,hb,(none,0),rfl,KidsAt.nil _ _ _ _ _⟩
   | 3,ho,hl,hd =>
    obtain rfl:=Option.some.inj ho
    have v1:=eval_old (d:=dd) (hT.out 1 (by decide)) (by omega) t1
    refine tb_pure (v:=.pointer (some ⟨w.heap.size,1,none⟩)) hT ho hd rfl rfl (by decide) (by decide) ?_ rfl
    generalize Act.eval ⟨over T U,dd⟩=ev at *
    simp [execOp,v1,go_sem]
   | 4,ho,hl,hd =>
    obtain rfl:=Option.some.inj ho
    have f0:U 14=some (.pointer (some ⟨w.heap.size,1,none⟩)):=hT.facts 3 (by decide) (dep hd 3 (by kernel_rfl)) (fun c e=>by cases e)
    have v0:Act.eval ⟨over T U,dd⟩ (.tmp 14)=_:=eval_new (t:=T) (d:=dd) f0 (by show 14<T.size;omega)
    have hc:wz.cell? ⟨w.heap.size,1,none⟩=some (.int .i64 it.ver):=HBOX.out 1 _ rfl
    refine tb_pure (v:=.int .i64 it.ver) hT ho hd rfl rfl (by decide) (by decide) ?_ rfl
    generalize Act.eval ⟨over T U,dd⟩=ev at *
    simp [execOp,v0,go_sem,hc]
   | 5,ho,hl,hd =>
    obtain rfl:=Option.some.inj ho
    have f0:U 15=some (.int .i64 it.ver):=hT.facts 4 (by decide) (dep hd 4 (by kernel_rfl)) (fun c e=>by cases e)
    have v0:Act.eval ⟨over T U,dd⟩ (.tmp 15)=_:=eval_new (t:=T) (d:=dd) f0 (by show 15<T.size;omega)
    refine tb_call (f:=63) (args:=#[.int .i64 2,.int .i64 it.ver]) (encR_ext it L w.heap.size) hT ho hd rfl rfl (by decide) (by decide) ?_ ?_
    · exact exec_call2 rfl rfl rfl v0 EI.out
    · refine (rnumber_any 2 it.ver wz).mono ?_
      rintro e w' ⟨rfl,hb⟩
      exact ⟨_,rfl,hb,(none,0),rfl,KidsAt.nil _ _ _ _ _⟩
   | 6,ho,hl,hd =>
    obtain rfl:=Option.some.inj ho
    have v1:=eval_old (d:=dd) (hT.out 1 (by decide)) (by omega) t1
    refine tb_pure (v:=.pointer (some ⟨w.heap.size,2,none⟩)) hT ho hd rfl rfl (by decide) (by decide) ?_ rfl
    generalize Act.eval ⟨over T U,dd⟩=ev at *
    simp [execOp,v1,go_sem]
   | 7,ho,hl,hd =>
    obtain rfl:=Option.some.inj ho
    have f0:U 17=some (.pointer (some ⟨w.heap.size,2,none⟩)):=hT.facts 6 (by decide) (dep hd 6 (by kernel_rfl)) (fun c e=>by cases e)
    have v0:Act.eval ⟨over T U,dd⟩ (.tmp 17)=_:=eval_new (t:=T) (d:=dd) f0 (by show 17<T.size;omega)
    have hc:wz.cell? ⟨w.heap.size,2,none⟩=some (.int .i64 it.kind):=HBOX.out 2 _ rfl
    refine tb_pure (v:=.int .i64 it.kind) hT ho hd rfl rfl (by decide) (by decide) ?_ rfl
    generalize Act.eval ⟨over T U,dd⟩=ev at *
    simp [execOp,v0,go_sem,hc]
   | 8,ho,hl,hd =>
    obtain rfl:=Option.some.inj ho
    have f0:U 18=some (.int .i64 it.kind):=hT.facts 7 (by decide) (dep hd 7 (by kernel_rfl)) (fun c e=>by cases e)
    have v0:Act.eval ⟨over T U,dd⟩ (.tmp 18)=_:=eval_new (t:=T) (d:=dd) f0 (by show 18<T.size;omega)
    refine tb_call (f:=63) (args:=#[.int .i64 3,.int .i64 it.kind]) (encR_ext it L w.heap.size) hT ho hd rfl rfl (by decide) (by decide) ?_ ?_
    · exact exec_call2 rfl rfl rfl v0 EI.out
    · refine (rnumber_any 3 it.kind wz).mono ?_
      rintro e w' ⟨rfl,hb⟩
      exact ⟨_,rfl,hb,(none,0),rfl,KidsAt.nil _ _ _ _ _⟩
   | 9,ho,hl,hd =>
    obtain rfl:=Option.some.inj ho
    have v1:=eval_old (d:=dd) (hT.out 1 (by decide)) (by omega) t1
    refine tb_pure (v:=.pointer (some ⟨w.heap.size,3,none⟩)) hT ho hd rfl rfl (by decide) (by decide) ?_ rfl
    generalize Act.eval ⟨over T U,dd⟩=ev at *
    simp [execOp,v1,go_sem]
   | 10,ho,hl,hd =>
    obtain rfl:=Option.some.inj ho
    have f0:U 20=some (.pointer (some ⟨w.heap.size,3,none⟩)):=hT.facts 9 (by decide) (dep hd 9 (by kernel_rfl)) (fun c e=>by cases e)
    have v0:Act.eval ⟨over T U,dd⟩ (.tmp 20)=_:=eval_new (t:=T) (d:=dd) f0 (by show 20<T.size;omega)
    have hc:wz.cell? ⟨w.heap.size,3,none⟩=some (.string it.stem):=HBOX.out 3 _ rfl
    refine tb_pure (v:=.string it.stem) hT ho hd rfl rfl (by decide) (by decide) ?_ rfl
    generalize Act.eval ⟨over T U,dd⟩=ev at *
    simp [execOp,v0,go_sem,hc]
   | 11,ho,hl,hd =>
    obtain rfl:=Option.some.inj ho
    have f0:U 21=some (.string it.stem):=hT.facts 10 (by decide) (dep hd 10 (by kernel_rfl)) (fun c e=>by cases e)
    have v0:Act.eval ⟨over T U,dd⟩ (.tmp 21)=_:=eval_new (t:=T) (d:=dd) f0 (by show 21<T.size;omega)
    refine tb_call (f:=64) (args:=#[.int .i64 4,.string it.stem]) (encR_ext it L w.heap.size) hT ho hd rfl rfl (by decide) (by decide) ?_ ?_
    · exact exec_call2 rfl rfl rfl v0 ES.out
    · refine (rtext_any 4 it.stem wz).mono ?_
      rintro e w' ⟨rfl,hb⟩
      exact ⟨_,rfl,hb,(none,0),rfl,KidsAt.nil _ _ _ _ _⟩
   | 12,ho,hl,hd =>
    obtain rfl:=Option.some.inj ho
    have v1:=eval_old (d:=dd) (hT.out 1 (by decide)) (by omega) t1
    refine tb_pure (v:=.pointer (some ⟨w.heap.size,4,none⟩)) hT ho hd rfl rfl (by decide) (by decide) ?_ rfl
    generalize Act.eval ⟨over T U,dd⟩=ev at *
    simp [execOp,v1,go_sem]
   | 13,ho,hl,hd =>
    obtain rfl:=Option.some.inj ho
    have f0:U 23=some (.pointer (some ⟨w.heap.size,4,none⟩)):=hT.facts 12 (by decide) (dep hd 12 (by kernel_rfl)) (fun c e=>by cases e)
    have v0:Act.eval ⟨over T U,dd⟩ (.tmp 23)=_:=eval_new (t:=T) (d:=dd) f0 (by show 23<T.size;omega)
    have hc:wz.cell? ⟨w.heap.size,4,none⟩=some (.slice L.oA it.opts.length L.oc):=HBOX.out 4 _ rfl
    refine tb_pure (v:=.slice L.oA it.opts.length L.oc) hT ho hd rfl rfl (by decide) (by decide) ?_ rfl
    generalize Act.eval ⟨over T U,dd⟩=ev at *
    simp [execOp,v0,go_sem,hc]
   | 14,ho,hl,hd =>
    obtain rfl:=Option.some.inj ho
    have f0:U 24=some (.slice L.oA it.opts.length L.oc):=hT.facts 13 (by decide) (dep hd 13 (by kernel_rfl)) (fun c e=>by cases e)
    have v0:Act.eval ⟨over T U,dd⟩ (.tmp 24)=_:=eval_new (t:=T) (d:=dd) f0 (by show 24<T.size;omega)
    refine tb_call (f:=65) (args:=#[.int .i64 5,.slice L.oA it.opts.length L.oc]) (encR_ext it L w.heap.size) hT ho hd rfl rfl (by decide) (by decide) ?_ ?_
    · exact exec_call2 rfl rfl rfl v0 ET.out
    · refine (rstrings_any 5 L.oA L.oc it.opts wz (H.out.ext hx).o ho0).mono ?_
      rintro e w' ⟨⟨M,rfl,hM⟩,hb⟩
      exact ⟨_,rfl,hb,M,rfl,hM.lower hg2⟩
   | 15,ho,hl,hd =>
    obtain rfl:=Option.some.inj ho
    have v1:=eval_old (d:=dd) (hT.out 1 (by decide)) (by omega) t1
    refine tb_pure (v:=.pointer (some ⟨w.heap.size,5,none⟩)) hT ho hd rfl rfl (by decide) (by decide) ?_ rfl
    generalize Act.eval ⟨over T U,dd⟩=ev at *
    simp [execOp,v1,go_sem]
   | 16,ho,hl,hd =>
    obtain rfl:=Option.some.inj ho
    have f0:U 26=some (.pointer (some ⟨w.heap.size,5,none⟩)):=hT.facts 15 (by decide) (dep hd 15 (by kernel_rfl)) (fun c e=>by cases e)
    have v0:Act.eval ⟨over T U,dd⟩ (.tmp 26)=_:=eval_new (t:=T) (d:=dd) f0 (by show 26<T.size;omega)
    have hc:wz.cell? ⟨w.heap.size,5,none⟩=some (.slice L.cA it.chs.length L.cc):=HBOX.out 5 _ rfl
    refine tb_pure (v:=.slice L.cA it.chs.length L.cc) hT ho hd rfl rfl (by decide) (by decide) ?_ rfl
    generalize Act.eval ⟨over T U,dd⟩=ev at *
    simp [execOp,v0,go_sem,hc]
   | 17,ho,hl,hd =>
    obtain rfl:=Option.some.inj ho
    have f0:U 27=some (.slice L.cA it.chs.length L.cc):=hT.facts 16 (by decide) (dep hd 16 (by kernel_rfl)) (fun c e=>by cases e)
    have v0:Act.eval ⟨over T U,dd⟩ (.tmp 27)=_:=eval_new (t:=T) (d:=dd) f0 (by show 27<T.size;omega)
    refine tb_call (f:=66) (args:=#[.int .i64 6,.slice L.cA it.chs.length L.cc]) (encR_ext it L w.heap.size) hT ho hd rfl rfl (by decide) (by decide) ?_ ?_
    · exact exec_call2 rfl rfl rfl v0 EN.out
    · refine (rnumbers_any 6 L.cA L.cc it.chs wz (H.out.ext hx).c hc0).mono ?_
      rintro e w' ⟨⟨M,rfl,hM⟩,hb⟩
      exact ⟨_,rfl,hb,M,rfl,hM.lower hg2⟩
   | 18,ho,hl,hd =>
    obtain rfl:=Option.some.inj ho
    have v1:=eval_old (d:=dd) (hT.out 1 (by decide)) (by omega) t1
    refine tb_pure (v:=.pointer (some ⟨w.heap.size,6,none⟩)) hT ho hd rfl rfl (by decide) (by decide) ?_ rfl
    generalize Act.eval ⟨over T U,dd⟩=ev at *
    simp [execOp,v1,go_sem]
   | 19,ho,hl,hd =>
    obtain rfl:=Option.some.inj ho
    have f0:U 29=some (.pointer (some ⟨w.heap.size,6,none⟩)):=hT.facts 18 (by decide) (dep hd 18 (by kernel_rfl)) (fun c e=>by cases e)
    have v0:Act.eval ⟨over T U,dd⟩ (.tmp 29)=_:=eval_new (t:=T) (d:=dd) f0 (by show 29<T.size;omega)
    have hc:wz.cell? ⟨w.heap.size,6,none⟩=some (.int .i64 it.value):=HBOX.out 6 _ rfl
    refine tb_pure (v:=.int .i64 it.value) hT ho hd rfl rfl (by decide) (by decide) ?_ rfl
    generalize Act.eval ⟨over T U,dd⟩=ev at *
    simp [execOp,v0,go_sem,hc]
   | 20,ho,hl,hd =>
    obtain rfl:=Option.some.inj ho
    have f0:U 30=some (.int .i64 it.value):=hT.facts 19 (by decide) (dep hd 19 (by kernel_rfl)) (fun c e=>by cases e)
    have v0:Act.eval ⟨over T U,dd⟩ (.tmp 30)=_:=eval_new (t:=T) (d:=dd) f0 (by show 30<T.size;omega)
    refine tb_call (f:=63) (args:=#[.int .i64 7,.int .i64 it.value]) (encR_ext it L w.heap.size) hT ho hd rfl rfl (by decide) (by decide) ?_ ?_
    · exact exec_call2 rfl rfl rfl v0 EI.out
    · refine (rnumber_any 7 it.value wz).mono ?_
      rintro e w' ⟨rfl,hb⟩
      exact ⟨_,rfl,hb,(none,0),rfl,KidsAt.nil _ _ _ _ _⟩
   | 21,ho,hl,hd =>
    obtain rfl:=Option.some.inj ho
    have v1:=eval_old (d:=dd) (hT.out 1 (by decide)) (by omega) t1
    refine tb_pure (v:=.pointer (some ⟨w.heap.size,7,none⟩)) hT ho hd rfl rfl (by decide) (by decide) ?_ rfl
    generalize Act.eval ⟨over T U,dd⟩=ev at *
    simp [execOp,v1,go_sem]
   | 22,ho,hl,hd =>
    obtain rfl:=Option.some.inj ho
    have f0:U 32=some (.pointer (some ⟨w.heap.size,7,none⟩)):=hT.facts 21 (by decide) (dep hd 21 (by kernel_rfl)) (fun c e=>by cases e)
    have v0:Act.eval ⟨over T U,dd⟩ (.tmp 32)=_:=eval_new (t:=T) (d:=dd) f0 (by show 32<T.size;omega)
    have hc:wz.cell? ⟨w.heap.size,7,none⟩=some (.int .i64 it.tol):=HBOX.out 7 _ rfl
    refine tb_pure (v:=.int .i64 it.tol) hT ho hd rfl rfl (by decide) (by decide) ?_ rfl
    generalize Act.eval ⟨over T U,dd⟩=ev at *
    simp [execOp,v0,go_sem,hc]
   | 23,ho,hl,hd =>
    obtain rfl:=Option.some.inj ho
    have f0:U 33=some (.int .i64 it.tol):=hT.facts 22 (by decide) (dep hd 22 (by kernel_rfl)) (fun c e=>by cases e)
    have v0:Act.eval ⟨over T U,dd⟩ (.tmp 33)=_:=eval_new (t:=T) (d:=dd) f0 (by show 33<T.size;omega)
    refine tb_call (f:=63) (args:=#[.int .i64 8,.int .i64 it.tol]) (encR_ext it L w.heap.size) hT ho hd rfl rfl (by decide) (by decide) ?_ ?_
    · exact exec_call2 rfl rfl rfl v0 EI.out
    · refine (rnumber_any 8 it.tol wz).mono ?_
      rintro e w' ⟨rfl,hb⟩
      exact ⟨_,rfl,hb,(none,0),rfl,KidsAt.nil _ _ _ _ _⟩
   | 24,ho,hl,hd =>
    obtain rfl:=Option.some.inj ho
    have v1:=eval_old (d:=dd) (hT.out 1 (by decide)) (by omega) t1
    refine tb_pure (v:=.pointer (some ⟨w.heap.size,8,none⟩)) hT ho hd rfl rfl (by decide) (by decide) ?_ rfl
    generalize Act.eval ⟨over T U,dd⟩=ev at *
    simp [execOp,v1,go_sem]
   | 25,ho,hl,hd =>
    obtain rfl:=Option.some.inj ho
    have f0:U 35=some (.pointer (some ⟨w.heap.size,8,none⟩)):=hT.facts 24 (by decide) (dep hd 24 (by kernel_rfl)) (fun c e=>by cases e)
    have v0:Act.eval ⟨over T U,dd⟩ (.tmp 35)=_:=eval_new (t:=T) (d:=dd) f0 (by show 35<T.size;omega)
    have hc:wz.cell? ⟨w.heap.size,8,none⟩=some (.slice L.tA it.texts.length L.tc):=HBOX.out 8 _ rfl
    refine tb_pure (v:=.slice L.tA it.texts.length L.tc) hT ho hd rfl rfl (by decide) (by decide) ?_ rfl
    generalize Act.eval ⟨over T U,dd⟩=ev at *
    simp [execOp,v0,go_sem,hc]
   | 26,ho,hl,hd =>
    obtain rfl:=Option.some.inj ho
    have f0:U 36=some (.slice L.tA it.texts.length L.tc):=hT.facts 25 (by decide) (dep hd 25 (by kernel_rfl)) (fun c e=>by cases e)
    have v0:Act.eval ⟨over T U,dd⟩ (.tmp 36)=_:=eval_new (t:=T) (d:=dd) f0 (by show 36<T.size;omega)
    refine tb_call (f:=65) (args:=#[.int .i64 9,.slice L.tA it.texts.length L.tc]) (encR_ext it L w.heap.size) hT ho hd rfl rfl (by decide) (by decide) ?_ ?_
    · exact exec_call2 rfl rfl rfl v0 ET.out
    · refine (rstrings_any 9 L.tA L.tc it.texts wz (H.out.ext hx).t ht0).mono ?_
      rintro e w' ⟨⟨M,rfl,hM⟩,hb⟩
      exact ⟨_,rfl,hb,M,rfl,hM.lower hg2⟩
   | 27,ho,hl,hd =>
    obtain rfl:=Option.some.inj ho
    have v1:=eval_old (d:=dd) (hT.out 1 (by decide)) (by omega) t1
    refine tb_pure (v:=.pointer (some ⟨w.heap.size,9,none⟩)) hT ho hd rfl rfl (by decide) (by decide) ?_ rfl
    generalize Act.eval ⟨over T U,dd⟩=ev at *
    simp [execOp,v1,go_sem]
   | 28,ho,hl,hd =>
    obtain rfl:=Option.some.inj ho
    have f0:U 38=some (.pointer (some ⟨w.heap.size,9,none⟩)):=hT.facts 27 (by decide) (dep hd 27 (by kernel_rfl)) (fun c e=>by cases e)
    have v0:Act.eval ⟨over T U,dd⟩ (.tmp 38)=_:=eval_new (t:=T) (d:=dd) f0 (by show 38<T.size;omega)
    have hc:wz.cell? ⟨w.heap.size,9,none⟩=some (.int .i64 it.pts):=HBOX.out 9 _ rfl
    refine tb_pure (v:=.int .i64 it.pts) hT ho hd rfl rfl (by decide) (by decide) ?_ rfl
    generalize Act.eval ⟨over T U,dd⟩=ev at *
    simp [execOp,v0,go_sem,hc]
   | 29,ho,hl,hd =>
    obtain rfl:=Option.some.inj ho
    have f0:U 39=some (.int .i64 it.pts):=hT.facts 28 (by decide) (dep hd 28 (by kernel_rfl)) (fun c e=>by cases e)
    have v0:Act.eval ⟨over T U,dd⟩ (.tmp 39)=_:=eval_new (t:=T) (d:=dd) f0 (by show 39<T.size;omega)
    refine tb_call (f:=63) (args:=#[.int .i64 10,.int .i64 it.pts]) (encR_ext it L w.heap.size) hT ho hd rfl rfl (by decide) (by decide) ?_ ?_
    · exact exec_call2 rfl rfl rfl v0 EI.out
    · refine (rnumber_any 10 it.pts wz).mono ?_
      rintro e w' ⟨rfl,hb⟩
      exact ⟨_,rfl,hb,(none,0),rfl,KidsAt.nil _ _ _ _ _⟩
   | 30,ho,hl,hd =>
    obtain rfl:=Option.some.inj ho
    have v1:=eval_old (d:=dd) (hT.out 1 (by decide)) (by omega) t1
    refine tb_pure (v:=.pointer (some ⟨w.heap.size,10,none⟩)) hT ho hd rfl rfl (by decide) (by decide) ?_ rfl
    generalize Act.eval ⟨over T U,dd⟩=ev at *
    simp [execOp,v1,go_sem]
   | 31,ho,hl,hd =>
    obtain rfl:=Option.some.inj ho
    have f0:U 41=some (.pointer (some ⟨w.heap.size,10,none⟩)):=hT.facts 30 (by decide) (dep hd 30 (by kernel_rfl)) (fun c e=>by cases e)
    have v0:Act.eval ⟨over T U,dd⟩ (.tmp 41)=_:=eval_new (t:=T) (d:=dd) f0 (by show 41<T.size;omega)
    have hc:wz.cell? ⟨w.heap.size,10,none⟩=some (.string it.cont):=HBOX.out 10 _ rfl
    refine tb_pure (v:=.string it.cont) hT ho hd rfl rfl (by decide) (by decide) ?_ rfl
    generalize Act.eval ⟨over T U,dd⟩=ev at *
    simp [execOp,v0,go_sem,hc]
   | 32,ho,hl,hd =>
    obtain rfl:=Option.some.inj ho
    have f0:U 42=some (.string it.cont):=hT.facts 31 (by decide) (dep hd 31 (by kernel_rfl)) (fun c e=>by cases e)
    have v0:Act.eval ⟨over T U,dd⟩ (.tmp 42)=_:=eval_new (t:=T) (d:=dd) f0 (by show 42<T.size;omega)
    refine tb_call (f:=64) (args:=#[.int .i64 11,.string it.cont]) (encR_ext it L w.heap.size) hT ho hd rfl rfl (by decide) (by decide) ?_ ?_
    · exact exec_call2 rfl rfl rfl v0 ES.out
    · refine (rtext_any 11 it.cont wz).mono ?_
      rintro e w' ⟨rfl,hb⟩
      exact ⟨_,rfl,hb,(none,0),rfl,KidsAt.nil _ _ _ _ _⟩
   | 33,ho,hl,hd =>
    obtain rfl:=Option.some.inj ho
    have v1:=eval_old (d:=dd) (hT.out 1 (by decide)) (by omega) t1
    refine tb_pure (v:=.pointer (some ⟨w.heap.size,11,none⟩)) hT ho hd rfl rfl (by decide) (by decide) ?_ rfl
    generalize Act.eval ⟨over T U,dd⟩=ev at *
    simp [execOp,v1,go_sem]
   | 34,ho,hl,hd =>
    obtain rfl:=Option.some.inj ho
    have f0:U 44=some (.pointer (some ⟨w.heap.size,11,none⟩)):=hT.facts 33 (by decide) (dep hd 33 (by kernel_rfl)) (fun c e=>by cases e)
    have v0:Act.eval ⟨over T U,dd⟩ (.tmp 44)=_:=eval_new (t:=T) (d:=dd) f0 (by show 44<T.size;omega)
    have hc:wz.cell? ⟨w.heap.size,11,none⟩=some (.int .i64 it.fam):=HBOX.out 11 _ rfl
    refine tb_pure (v:=.int .i64 it.fam) hT ho hd rfl rfl (by decide) (by decide) ?_ rfl
    generalize Act.eval ⟨over T U,dd⟩=ev at *
    simp [execOp,v0,go_sem,hc]
   | 35,ho,hl,hd =>
    obtain rfl:=Option.some.inj ho
    have f0:U 45=some (.int .i64 it.fam):=hT.facts 34 (by decide) (dep hd 34 (by kernel_rfl)) (fun c e=>by cases e)
    have v0:Act.eval ⟨over T U,dd⟩ (.tmp 45)=_:=eval_new (t:=T) (d:=dd) f0 (by show 45<T.size;omega)
    refine tb_call (f:=63) (args:=#[.int .i64 12,.int .i64 it.fam]) (encR_ext it L w.heap.size) hT ho hd rfl rfl (by decide) (by decide) ?_ ?_
    · exact exec_call2 rfl rfl rfl v0 EI.out
    · refine (rnumber_any 12 it.fam wz).mono ?_
      rintro e w' ⟨rfl,hb⟩
      exact ⟨_,rfl,hb,(none,0),rfl,KidsAt.nil _ _ _ _ _⟩
   | 36,ho,hl,hd =>
    obtain rfl:=Option.some.inj ho
    have v1:=eval_old (d:=dd) (hT.out 1 (by decide)) (by omega) t1
    refine tb_pure (v:=.pointer (some ⟨w.heap.size,12,none⟩)) hT ho hd rfl rfl (by decide) (by decide) ?_ rfl
    generalize Act.eval ⟨over T U,dd⟩=ev at *
    simp [execOp,v1,go_sem]
   | 37,ho,hl,hd =>
    obtain rfl:=Option.some.inj ho
    have f0:U 47=some (.pointer (some ⟨w.heap.size,12,none⟩)):=hT.facts 36 (by decide) (dep hd 36 (by kernel_rfl)) (fun c e=>by cases e)
    have v0:Act.eval ⟨over T U,dd⟩ (.tmp 47)=_:=eval_new (t:=T) (d:=dd) f0 (by show 47<T.size;omega)
    have hc:wz.cell? ⟨w.heap.size,12,none⟩=some (.int .i64 it.set_):=HBOX.out 12 _ rfl
    refine tb_pure (v:=.int .i64 it.set_) hT ho hd rfl rfl (by decide) (by decide) ?_ rfl
    generalize Act.eval ⟨over T U,dd⟩=ev at *
    simp [execOp,v0,go_sem,hc]
   | 38,ho,hl,hd =>
    obtain rfl:=Option.some.inj ho
    have f0:U 48=some (.int .i64 it.set_):=hT.facts 37 (by decide) (dep hd 37 (by kernel_rfl)) (fun c e=>by cases e)
    have v0:Act.eval ⟨over T U,dd⟩ (.tmp 48)=_:=eval_new (t:=T) (d:=dd) f0 (by show 48<T.size;omega)
    refine tb_call (f:=63) (args:=#[.int .i64 13,.int .i64 it.set_]) (encR_ext it L w.heap.size) hT ho hd rfl rfl (by decide) (by decide) ?_ ?_
    · exact exec_call2 rfl rfl rfl v0 EI.out
    · refine (rnumber_any 13 it.set_ wz).mono ?_
      rintro e w' ⟨rfl,hb⟩
      exact ⟨_,rfl,hb,(none,0),rfl,KidsAt.nil _ _ _ _ _⟩
   | 39,ho,hl,hd =>
    obtain rfl:=Option.some.inj ho
    have v1:=eval_old (d:=dd) (hT.out 1 (by decide)) (by omega) t1
    refine tb_pure (v:=.pointer (some ⟨w.heap.size,13,none⟩)) hT ho hd rfl rfl (by decide) (by decide) ?_ rfl
    generalize Act.eval ⟨over T U,dd⟩=ev at *
    simp [execOp,v1,go_sem]
   | 40,ho,hl,hd =>
    obtain rfl:=Option.some.inj ho
    have f0:U 50=some (.pointer (some ⟨w.heap.size,13,none⟩)):=hT.facts 39 (by decide) (dep hd 39 (by kernel_rfl)) (fun c e=>by cases e)
    have v0:Act.eval ⟨over T U,dd⟩ (.tmp 50)=_:=eval_new (t:=T) (d:=dd) f0 (by show 50<T.size;omega)
    have hc:wz.cell? ⟨w.heap.size,13,none⟩=some (.int .i64 it.wrd):=HBOX.out 13 _ rfl
    refine tb_pure (v:=.int .i64 it.wrd) hT ho hd rfl rfl (by decide) (by decide) ?_ rfl
    generalize Act.eval ⟨over T U,dd⟩=ev at *
    simp [execOp,v0,go_sem,hc]
   | 41,ho,hl,hd =>
    obtain rfl:=Option.some.inj ho
    have f0:U 51=some (.int .i64 it.wrd):=hT.facts 40 (by decide) (dep hd 40 (by kernel_rfl)) (fun c e=>by cases e)
    have v0:Act.eval ⟨over T U,dd⟩ (.tmp 51)=_:=eval_new (t:=T) (d:=dd) f0 (by show 51<T.size;omega)
    refine tb_call (f:=63) (args:=#[.int .i64 14,.int .i64 it.wrd]) (encR_ext it L w.heap.size) hT ho hd rfl rfl (by decide) (by decide) ?_ ?_
    · exact exec_call2 rfl rfl rfl v0 EI.out
    · refine (rnumber_any 14 it.wrd wz).mono ?_
      rintro e w' ⟨rfl,hb⟩
      exact ⟨_,rfl,hb,(none,0),rfl,KidsAt.nil _ _ _ _ _⟩
   | 42,ho,hl,hd =>
    obtain rfl:=Option.some.inj ho
    have v1:=eval_old (d:=dd) (hT.out 1 (by decide)) (by omega) t1
    refine tb_pure (v:=.pointer (some ⟨w.heap.size,14,none⟩)) hT ho hd rfl rfl (by decide) (by decide) ?_ rfl
    generalize Act.eval ⟨over T U,dd⟩=ev at *
    simp [execOp,v1,go_sem]
   | 43,ho,hl,hd =>
    obtain rfl:=Option.some.inj ho
    have f0:U 53=some (.pointer (some ⟨w.heap.size,14,none⟩)):=hT.facts 42 (by decide) (dep hd 42 (by kernel_rfl)) (fun c e=>by cases e)
    have v0:Act.eval ⟨over T U,dd⟩ (.tmp 53)=_:=eval_new (t:=T) (d:=dd) f0 (by show 53<T.size;omega)
    have hc:wz.cell? ⟨w.heap.size,14,none⟩=some (.int .i64 it.sec):=HBOX.out 14 _ rfl
    refine tb_pure (v:=.int .i64 it.sec) hT ho hd rfl rfl (by decide) (by decide) ?_ rfl
    generalize Act.eval ⟨over T U,dd⟩=ev at *
    simp [execOp,v0,go_sem,hc]
   | 44,ho,hl,hd =>
    obtain rfl:=Option.some.inj ho
    have f0:U 54=some (.int .i64 it.sec):=hT.facts 43 (by decide) (dep hd 43 (by kernel_rfl)) (fun c e=>by cases e)
    have v0:Act.eval ⟨over T U,dd⟩ (.tmp 54)=_:=eval_new (t:=T) (d:=dd) f0 (by show 54<T.size;omega)
    refine tb_call (f:=63) (args:=#[.int .i64 15,.int .i64 it.sec]) (encR_ext it L w.heap.size) hT ho hd rfl rfl (by decide) (by decide) ?_ ?_
    · exact exec_call2 rfl rfl rfl v0 EI.out
    · refine (rnumber_any 15 it.sec wz).mono ?_
      rintro e w' ⟨rfl,hb⟩
      exact ⟨_,rfl,hb,(none,0),rfl,KidsAt.nil _ _ _ _ _⟩
   | 45,ho,hl,hd =>
    obtain rfl:=Option.some.inj ho
    have v1:=eval_old (d:=dd) (hT.out 1 (by decide)) (by omega) t1
    refine tb_pure (v:=.pointer (some ⟨w.heap.size,15,none⟩)) hT ho hd rfl rfl (by decide) (by decide) ?_ rfl
    generalize Act.eval ⟨over T U,dd⟩=ev at *
    simp [execOp,v1,go_sem]
   | 46,ho,hl,hd =>
    obtain rfl:=Option.some.inj ho
    have f0:U 56=some (.pointer (some ⟨w.heap.size,15,none⟩)):=hT.facts 45 (by decide) (dep hd 45 (by kernel_rfl)) (fun c e=>by cases e)
    have v0:Act.eval ⟨over T U,dd⟩ (.tmp 56)=_:=eval_new (t:=T) (d:=dd) f0 (by show 56<T.size;omega)
    have hc:wz.cell? ⟨w.heap.size,15,none⟩=some (.slice L.sA it.assets.length L.sc):=HBOX.out 15 _ rfl
    refine tb_pure (v:=.slice L.sA it.assets.length L.sc) hT ho hd rfl rfl (by decide) (by decide) ?_ rfl
    generalize Act.eval ⟨over T U,dd⟩=ev at *
    simp [execOp,v0,go_sem,hc]
   | 47,ho,hl,hd =>
    obtain rfl:=Option.some.inj ho
    have f0:U 57=some (.slice L.sA it.assets.length L.sc):=hT.facts 46 (by decide) (dep hd 46 (by kernel_rfl)) (fun c e=>by cases e)
    have v0:Act.eval ⟨over T U,dd⟩ (.tmp 57)=_:=eval_new (t:=T) (d:=dd) f0 (by show 57<T.size;omega)
    refine tb_call (f:=66) (args:=#[.int .i64 16,.slice L.sA it.assets.length L.sc]) (encR_ext it L w.heap.size) hT ho hd rfl rfl (by decide) (by decide) ?_ ?_
    · exact exec_call2 rfl rfl rfl v0 EN.out
    · refine (rnumbers_any 16 L.sA L.sc it.assets wz (H.out.ext hx).s hs0).mono ?_
      rintro e w' ⟨⟨M,rfl,hM⟩,hb⟩
      exact ⟨_,rfl,hb,M,rfl,hM.lower hg2⟩
   | 48,ho,hl,hd =>
    obtain rfl:=Option.some.inj ho
    have v1:=eval_old (d:=dd) (hT.out 1 (by decide)) (by omega) t1
    refine tb_pure (v:=.pointer (some ⟨w.heap.size,16,none⟩)) hT ho hd rfl rfl (by decide) (by decide) ?_ rfl
    generalize Act.eval ⟨over T U,dd⟩=ev at *
    simp [execOp,v1,go_sem]
   | 49,ho,hl,hd =>
    obtain rfl:=Option.some.inj ho
    have f0:U 59=some (.pointer (some ⟨w.heap.size,16,none⟩)):=hT.facts 48 (by decide) (dep hd 48 (by kernel_rfl)) (fun c e=>by cases e)
    have v0:Act.eval ⟨over T U,dd⟩ (.tmp 59)=_:=eval_new (t:=T) (d:=dd) f0 (by show 59<T.size;omega)
    have hc:wz.cell? ⟨w.heap.size,16,none⟩=some (.int .i64 it.rub):=HBOX.out 16 _ rfl
    refine tb_pure (v:=.int .i64 it.rub) hT ho hd rfl rfl (by decide) (by decide) ?_ rfl
    generalize Act.eval ⟨over T U,dd⟩=ev at *
    simp [execOp,v0,go_sem,hc]
   | 50,ho,hl,hd =>
    obtain rfl:=Option.some.inj ho
    have f0:U 60=some (.int .i64 it.rub):=hT.facts 49 (by decide) (dep hd 49 (by kernel_rfl)) (fun c e=>by cases e)
    have v0:Act.eval ⟨over T U,dd⟩ (.tmp 60)=_:=eval_new (t:=T) (d:=dd) f0 (by show 60<T.size;omega)
    refine tb_call (f:=63) (args:=#[.int .i64 17,.int .i64 it.rub]) (encR_ext it L w.heap.size) hT ho hd rfl rfl (by decide) (by decide) ?_ ?_
    · exact exec_call2 rfl rfl rfl v0 EI.out
    · refine (rnumber_any 17 it.rub wz).mono ?_
      rintro e w' ⟨rfl,hb⟩
      exact ⟨_,rfl,hb,(none,0),rfl,KidsAt.nil _ _ _ _ _⟩
   | 51,ho,hl,hd =>
    obtain rfl:=Option.some.inj ho
    obtain ⟨M0,f0,k0⟩:∃ M:Option Addr×Nat,U 13=some (nda (.mk 1 1 it.id ⟨#[]⟩ []) M)∧KidsAt 1000 (w.heap.size+2) 1 wz M (Nd.kids (.mk 1 1 it.id ⟨#[]⟩ [])):=hT.facts 2 (by decide) (dep hd 2 (by kernel_rfl)) (fun c e=>by cases e)
    have v0:Act.eval ⟨over T U,dd⟩ (.tmp 13)=.agg #[.int .i64 1,.int .i64 1,.int .i64 it.id,.string ⟨#[]⟩,.slice M0.1 0 M0.2]:=eval_new (t:=T) (d:=dd) f0 (by show 13<T.size;omega)
    obtain ⟨M1,f1,k1⟩:∃ M:Option Addr×Nat,U 16=some (nda (.mk 2 1 it.ver ⟨#[]⟩ []) M)∧KidsAt 1000 (w.heap.size+2) 1 wz M (Nd.kids (.mk 2 1 it.ver ⟨#[]⟩ [])):=hT.facts 5 (by decide) (dep hd 5 (by kernel_rfl)) (fun c e=>by cases e)
    have v1:Act.eval ⟨over T U,dd⟩ (.tmp 16)=.agg #[.int .i64 2,.int .i64 1,.int .i64 it.ver,.string ⟨#[]⟩,.slice M1.1 0 M1.2]:=eval_new (t:=T) (d:=dd) f1 (by show 16<T.size;omega)
    obtain ⟨M2,f2,k2⟩:∃ M:Option Addr×Nat,U 19=some (nda (.mk 3 1 it.kind ⟨#[]⟩ []) M)∧KidsAt 1000 (w.heap.size+2) 1 wz M (Nd.kids (.mk 3 1 it.kind ⟨#[]⟩ [])):=hT.facts 8 (by decide) (dep hd 8 (by kernel_rfl)) (fun c e=>by cases e)
    have v2:Act.eval ⟨over T U,dd⟩ (.tmp 19)=.agg #[.int .i64 3,.int .i64 1,.int .i64 it.kind,.string ⟨#[]⟩,.slice M2.1 0 M2.2]:=eval_new (t:=T) (d:=dd) f2 (by show 19<T.size;omega)
    obtain ⟨M3,f3,k3⟩:∃ M:Option Addr×Nat,U 22=some (nda (.mk 4 2 0 it.stem []) M)∧KidsAt 1000 (w.heap.size+2) 1 wz M (Nd.kids (.mk 4 2 0 it.stem [])):=hT.facts 11 (by decide) (dep hd 11 (by kernel_rfl)) (fun c e=>by cases e)
    have v3:Act.eval ⟨over T U,dd⟩ (.tmp 22)=.agg #[.int .i64 4,.int .i64 2,.int .i64 0,.string it.stem,.slice M3.1 0 M3.2]:=eval_new (t:=T) (d:=dd) f3 (by show 22<T.size;omega)
    obtain ⟨M4,f4,k4⟩:∃ M:Option Addr×Nat,U 25=some (nda (.mk 5 3 0 ⟨#[]⟩ (it.opts.map leafS)) M)∧KidsAt 1000 (w.heap.size+2) 1 wz M (Nd.kids (.mk 5 3 0 ⟨#[]⟩ (it.opts.map leafS))):=hT.facts 14 (by decide) (dep hd 14 (by kernel_rfl)) (fun c e=>by cases e)
    have v4:Act.eval ⟨over T U,dd⟩ (.tmp 25)=.agg #[.int .i64 5,.int .i64 3,.int .i64 0,.string ⟨#[]⟩,.slice M4.1 (it.opts.map leafS).length M4.2]:=eval_new (t:=T) (d:=dd) f4 (by show 25<T.size;omega)
    obtain ⟨M5,f5,k5⟩:∃ M:Option Addr×Nat,U 28=some (nda (.mk 6 3 0 ⟨#[]⟩ (it.chs.map leafI)) M)∧KidsAt 1000 (w.heap.size+2) 1 wz M (Nd.kids (.mk 6 3 0 ⟨#[]⟩ (it.chs.map leafI))):=hT.facts 17 (by decide) (dep hd 17 (by kernel_rfl)) (fun c e=>by cases e)
    have v5:Act.eval ⟨over T U,dd⟩ (.tmp 28)=.agg #[.int .i64 6,.int .i64 3,.int .i64 0,.string ⟨#[]⟩,.slice M5.1 (it.chs.map leafI).length M5.2]:=eval_new (t:=T) (d:=dd) f5 (by show 28<T.size;omega)
    obtain ⟨M6,f6,k6⟩:∃ M:Option Addr×Nat,U 31=some (nda (.mk 7 1 it.value ⟨#[]⟩ []) M)∧KidsAt 1000 (w.heap.size+2) 1 wz M (Nd.kids (.mk 7 1 it.value ⟨#[]⟩ [])):=hT.facts 20 (by decide) (dep hd 20 (by kernel_rfl)) (fun c e=>by cases e)
    have v6:Act.eval ⟨over T U,dd⟩ (.tmp 31)=.agg #[.int .i64 7,.int .i64 1,.int .i64 it.value,.string ⟨#[]⟩,.slice M6.1 0 M6.2]:=eval_new (t:=T) (d:=dd) f6 (by show 31<T.size;omega)
    obtain ⟨M7,f7,k7⟩:∃ M:Option Addr×Nat,U 34=some (nda (.mk 8 1 it.tol ⟨#[]⟩ []) M)∧KidsAt 1000 (w.heap.size+2) 1 wz M (Nd.kids (.mk 8 1 it.tol ⟨#[]⟩ [])):=hT.facts 23 (by decide) (dep hd 23 (by kernel_rfl)) (fun c e=>by cases e)
    have v7:Act.eval ⟨over T U,dd⟩ (.tmp 34)=.agg #[.int .i64 8,.int .i64 1,.int .i64 it.tol,.string ⟨#[]⟩,.slice M7.1 0 M7.2]:=eval_new (t:=T) (d:=dd) f7 (by show 34<T.size;omega)
    obtain ⟨M8,f8,k8⟩:∃ M:Option Addr×Nat,U 37=some (nda (.mk 9 3 0 ⟨#[]⟩ (it.texts.map leafS)) M)∧KidsAt 1000 (w.heap.size+2) 1 wz M (Nd.kids (.mk 9 3 0 ⟨#[]⟩ (it.texts.map leafS))):=hT.facts 26 (by decide) (dep hd 26 (by kernel_rfl)) (fun c e=>by cases e)
    have v8:Act.eval ⟨over T U,dd⟩ (.tmp 37)=.agg #[.int .i64 9,.int .i64 3,.int .i64 0,.string ⟨#[]⟩,.slice M8.1 (it.texts.map leafS).length M8.2]:=eval_new (t:=T) (d:=dd) f8 (by show 37<T.size;omega)
    obtain ⟨M9,f9,k9⟩:∃ M:Option Addr×Nat,U 40=some (nda (.mk 10 1 it.pts ⟨#[]⟩ []) M)∧KidsAt 1000 (w.heap.size+2) 1 wz M (Nd.kids (.mk 10 1 it.pts ⟨#[]⟩ [])):=hT.facts 29 (by decide) (dep hd 29 (by kernel_rfl)) (fun c e=>by cases e)
    have v9:Act.eval ⟨over T U,dd⟩ (.tmp 40)=.agg #[.int .i64 10,.int .i64 1,.int .i64 it.pts,.string ⟨#[]⟩,.slice M9.1 0 M9.2]:=eval_new (t:=T) (d:=dd) f9 (by show 40<T.size;omega)
    obtain ⟨M10,f10,k10⟩:∃ M:Option Addr×Nat,U 43=some (nda (.mk 11 2 0 it.cont []) M)∧KidsAt 1000 (w.heap.size+2) 1 wz M (Nd.kids (.mk 11 2 0 it.cont [])):=hT.facts 32 (by decide) (dep hd 32 (by kernel_rfl)) (fun c e=>by cases e)
    have v10:Act.eval ⟨over T U,dd⟩ (.tmp 43)=.agg #[.int .i64 11,.int .i64 2,.int .i64 0,.string it.cont,.slice M10.1 0 M10.2]:=eval_new (t:=T) (d:=dd) f10 (by show 43<T.size;omega)
    obtain ⟨M11,f11,k11⟩:∃ M:Option Addr×Nat,U 46=some (nda (.mk 12 1 it.fam ⟨#[]⟩ []) M)∧KidsAt 1000 (w.heap.size+2) 1 wz M (Nd.kids (.mk 12 1 it.fam ⟨#[]⟩ [])):=hT.facts 35 (by decide) (dep hd 35 (by kernel_rfl)) (fun c e=>by cases e)
    have v11:Act.eval ⟨over T U,dd⟩ (.tmp 46)=.agg #[.int .i64 12,.int .i64 1,.int .i64 it.fam,.string ⟨#[]⟩,.slice M11.1 0 M11.2]:=eval_new (t:=T) (d:=dd) f11 (by show 46<T.size;omega)
    obtain ⟨M12,f12,k12⟩:∃ M:Option Addr×Nat,U 49=some (nda (.mk 13 1 it.set_ ⟨#[]⟩ []) M)∧KidsAt 1000 (w.heap.size+2) 1 wz M (Nd.kids (.mk 13 1 it.set_ ⟨#[]⟩ [])):=hT.facts 38 (by decide) (dep hd 38 (by kernel_rfl)) (fun c e=>by cases e)
    have v12:Act.eval ⟨over T U,dd⟩ (.tmp 49)=.agg #[.int .i64 13,.int .i64 1,.int .i64 it.set_,.string ⟨#[]⟩,.slice M12.1 0 M12.2]:=eval_new (t:=T) (d:=dd) f12 (by show 49<T.size;omega)
    obtain ⟨M13,f13,k13⟩:∃ M:Option Addr×Nat,U 52=some (nda (.mk 14 1 it.wrd ⟨#[]⟩ []) M)∧KidsAt 1000 (w.heap.size+2) 1 wz M (Nd.kids (.mk 14 1 it.wrd ⟨#[]⟩ [])):=hT.facts 41 (by decide) (dep hd 41 (by kernel_rfl)) (fun c e=>by cases e)
    have v13:Act.eval ⟨over T U,dd⟩ (.tmp 52)=.agg #[.int .i64 14,.int .i64 1,.int .i64 it.wrd,.string ⟨#[]⟩,.slice M13.1 0 M13.2]:=eval_new (t:=T) (d:=dd) f13 (by show 52<T.size;omega)
    obtain ⟨M14,f14,k14⟩:∃ M:Option Addr×Nat,U 55=some (nda (.mk 15 1 it.sec ⟨#[]⟩ []) M)∧KidsAt 1000 (w.heap.size+2) 1 wz M (Nd.kids (.mk 15 1 it.sec ⟨#[]⟩ [])):=hT.facts 44 (by decide) (dep hd 44 (by kernel_rfl)) (fun c e=>by cases e)
    have v14:Act.eval ⟨over T U,dd⟩ (.tmp 55)=.agg #[.int .i64 15,.int .i64 1,.int .i64 it.sec,.string ⟨#[]⟩,.slice M14.1 0 M14.2]:=eval_new (t:=T) (d:=dd) f14 (by show 55<T.size;omega)
    obtain ⟨M15,f15,k15⟩:∃ M:Option Addr×Nat,U 58=some (nda (.mk 16 3 0 ⟨#[]⟩ (it.assets.map leafI)) M)∧KidsAt 1000 (w.heap.size+2) 1 wz M (Nd.kids (.mk 16 3 0 ⟨#[]⟩ (it.assets.map leafI))):=hT.facts 47 (by decide) (dep hd 47 (by kernel_rfl)) (fun c e=>by cases e)
    have v15:Act.eval ⟨over T U,dd⟩ (.tmp 58)=.agg #[.int .i64 16,.int .i64 3,.int .i64 0,.string ⟨#[]⟩,.slice M15.1 (it.assets.map leafI).length M15.2]:=eval_new (t:=T) (d:=dd) f15 (by show 58<T.size;omega)
    obtain ⟨M16,f16,k16⟩:∃ M:Option Addr×Nat,U 61=some (nda (.mk 17 1 it.rub ⟨#[]⟩ []) M)∧KidsAt 1000 (w.heap.size+2) 1 wz M (Nd.kids (.mk 17 1 it.rub ⟨#[]⟩ [])):=hT.facts 50 (by decide) (dep hd 50 (by kernel_rfl)) (fun c e=>by cases e)
    have v16:Act.eval ⟨over T U,dd⟩ (.tmp 61)=.agg #[.int .i64 17,.int .i64 1,.int .i64 it.rub,.string ⟨#[]⟩,.slice M16.1 0 M16.2]:=eval_new (t:=T) (d:=dd) f16 (by show 61<T.size;omega)
    have hK:KidsAt 1000 (w.heap.size+2) 2 (wz.alloc (.cells #[.int .i64 1,.int .i64 1,.int .i64 it.id,.string ⟨#[]⟩,.slice M0.1 0 M0.2,.int .i64 2,.int .i64 1,.int .i64 it.ver,.string ⟨#[]⟩,.slice M1.1 0 M1.2,.int .i64 3,.int .i64 1,.int .i64 it.kind,.string ⟨#[]⟩,.slice M2.1 0 M2.2,.int .i64 4,.int .i64 2,.int .i64 0,.string it.stem,.slice M3.1 0 M3.2,.int .i64 5,.int .i64 3,.int .i64 0,.string ⟨#[]⟩,.slice M4.1 (it.opts.map leafS).length M4.2,.int .i64 6,.int .i64 3,.int .i64 0,.string ⟨#[]⟩,.slice M5.1 (it.chs.map leafI).length M5.2,.int .i64 7,.int .i64 1,.int .i64 it.value,.string ⟨#[]⟩,.slice M6.1 0 M6.2,.int .i64 8,.int .i64 1,.int .i64 it.tol,.string ⟨#[]⟩,.slice M7.1 0 M7.2,.int .i64 9,.int .i64 3,.int .i64 0,.string ⟨#[]⟩,.slice M8.1 (it.texts.map leafS).length M8.2,.int .i64 10,.int .i64 1,.int .i64 it.pts,.string ⟨#[]⟩,.slice M9.1 0 M9.2,.int .i64 11,.int .i64 2,.int .i64 0,.string it.cont,.slice M10.1 0 M10.2,.int .i64 12,.int .i64 1,.int .i64 it.fam,.string ⟨#[]⟩,.slice M11.1 0 M11.2,.int .i64 13,.int .i64 1,.int .i64 it.set_,.string ⟨#[]⟩,.slice M12.1 0 M12.2,.int .i64 14,.int .i64 1,.int .i64 it.wrd,.string ⟨#[]⟩,.slice M13.1 0 M13.2,.int .i64 15,.int .i64 1,.int .i64 it.sec,.string ⟨#[]⟩,.slice M14.1 0 M14.2,.int .i64 16,.int .i64 3,.int .i64 0,.string ⟨#[]⟩,.slice M15.1 (it.assets.map leafI).length M15.2,.int .i64 17,.int .i64 1,.int .i64 it.rub,.string ⟨#[]⟩,.slice M16.1 0 M16.2] 52)) (some ⟨wz.heap.size,0,none⟩,17) (flds it):=kids_block (ks:=flds it) (Ms:=[M0,M1,M2,M3,M4,M5,M6,M7,M8,M9,M10,M11,M12,M13,M14,M15,M16]) 52 rfl (kids_all17 it _ _ k0 k1 k2 k3 k4 k5 k6 k7 k8 k9 k10 k11 k12 k13 k14 k15 k16) (by show 17≤1000;omega) (by show 17≤maxLen;unfold maxLen;omega) hg2
    refine tb_ext (v:=.slice (some ⟨wz.heap.size,0,none⟩) 17 17) (w':=wz.alloc (.cells #[.int .i64 1,.int .i64 1,.int .i64 it.id,.string ⟨#[]⟩,.slice M0.1 0 M0.2,.int .i64 2,.int .i64 1,.int .i64 it.ver,.string ⟨#[]⟩,.slice M1.1 0 M1.2,.int .i64 3,.int .i64 1,.int .i64 it.kind,.string ⟨#[]⟩,.slice M2.1 0 M2.2,.int .i64 4,.int .i64 2,.int .i64 0,.string it.stem,.slice M3.1 0 M3.2,.int .i64 5,.int .i64 3,.int .i64 0,.string ⟨#[]⟩,.slice M4.1 (it.opts.map leafS).length M4.2,.int .i64 6,.int .i64 3,.int .i64 0,.string ⟨#[]⟩,.slice M5.1 (it.chs.map leafI).length M5.2,.int .i64 7,.int .i64 1,.int .i64 it.value,.string ⟨#[]⟩,.slice M6.1 0 M6.2,.int .i64 8,.int .i64 1,.int .i64 it.tol,.string ⟨#[]⟩,.slice M7.1 0 M7.2,.int .i64 9,.int .i64 3,.int .i64 0,.string ⟨#[]⟩,.slice M8.1 (it.texts.map leafS).length M8.2,.int .i64 10,.int .i64 1,.int .i64 it.pts,.string ⟨#[]⟩,.slice M9.1 0 M9.2,.int .i64 11,.int .i64 2,.int .i64 0,.string it.cont,.slice M10.1 0 M10.2,.int .i64 12,.int .i64 1,.int .i64 it.fam,.string ⟨#[]⟩,.slice M11.1 0 M11.2,.int .i64 13,.int .i64 1,.int .i64 it.set_,.string ⟨#[]⟩,.slice M12.1 0 M12.2,.int .i64 14,.int .i64 1,.int .i64 it.wrd,.string ⟨#[]⟩,.slice M13.1 0 M13.2,.int .i64 15,.int .i64 1,.int .i64 it.sec,.string ⟨#[]⟩,.slice M14.1 0 M14.2,.int .i64 16,.int .i64 3,.int .i64 0,.string ⟨#[]⟩,.slice M15.1 (it.assets.map leafI).length M15.2,.int .i64 17,.int .i64 1,.int .i64 it.rub,.string ⟨#[]⟩,.slice M16.1 0 M16.2] 52)) (encR_ext it L w.heap.size) hT ho hd rfl rfl (by decide) (by decide) ?_ ((Ext.refl _).alloc _) ⟨wz.heap.size,rfl,hK⟩
    clear hK f0 f1 f2 f3 f4 f5 f6 f7 f8 f9 f10 f11 f12 f13 f14 f15 f16 k0 k1 k2 k3 k4 k5 k6 k7 k8 k9 k10 k11 k12 k13 k14 k15 k16
    generalize Act.eval ⟨over T U,dd⟩=ev at *
    simp [execOp,v0,v1,v2,v3,v4,v5,v6,v7,v8,v9,v10,v11,v12,v13,v14,v15,v16,go_sem]
   | 52,ho,hl,hd =>
    obtain rfl:=Option.some.inj ho
    obtain ⟨q,f0,hK⟩:∃ q:Nat,U 62=some (.slice (some ⟨q,0,none⟩) 17 17)∧KidsAt 1000 (w.heap.size+2) 2 wz (some ⟨q,0,none⟩,17) (flds it):=hT.facts 51 (by decide) (dep hd 51 (by kernel_rfl)) (fun c e=>by cases e)
    have v0:Act.eval ⟨over T U,dd⟩ (.tmp 62)=_:=eval_new (t:=T) (d:=dd) f0 (by show 62<T.size;omega)
    have va:Act.eval ⟨over T U,dd⟩ (.const (.int .i64 14))=.int .i64 14:=rfl
    have vb:Act.eval ⟨over T U,dd⟩ (.const (.int .i64 3))=.int .i64 3:=rfl
    refine tb_pure (v:=.agg #[.int .i64 14,.int .i64 3,.int .i64 0,.string ⟨#[]⟩,.slice (some ⟨q,0,none⟩) 17 17]) hT ho hd rfl rfl (by decide) (by decide) ?_ ⟨(some ⟨q,0,none⟩,17),rfl,hK⟩
    generalize Act.eval ⟨over T U,dd⟩=ev at *
    simp [execOp,va,vb,v0,go_sem]
   | 53,ho,hl,hd =>
    obtain rfl:=Option.some.inj ho
    obtain ⟨M,f0,hK⟩:∃ M:Option Addr×Nat,U 63=some (nda (tree it) M)∧KidsAt 1000 (w.heap.size+2) 2 wz M (tree it).kids:=hT.facts 52 (by decide) (dep hd 52 (by kernel_rfl)) (fun c e=>by cases e)
    have v0:Act.eval ⟨over T U,dd⟩ (.tmp 63)=.agg #[.int .i64 14,.int .i64 3,.int .i64 0,.string ⟨#[]⟩,.slice M.1 17 M.2]:=eval_new (t:=T) (d:=dd) f0 (by show 63<T.size;omega)
    have v2:=eval_old (d:=dd) (hT.out 2 (by decide)) (by omega) t2
    obtain ⟨c0,hc0'⟩:=hres.cell (i:=0) (by omega)
    obtain ⟨c1,hc1'⟩:=hres.cell (i:=1) (by omega)
    obtain ⟨c2,hc2'⟩:=hres.cell (i:=2) (by omega)
    obtain ⟨c3,hc3'⟩:=hres.cell (i:=3) (by omega)
    obtain ⟨c4,hc4'⟩:=hres.cell (i:=4) (by omega)
    have hf0:=hres.free 0
    have hf1:=hres.free 1
    have hf2:=hres.free 2
    have hf3:=hres.free 3
    have hf4:=hres.free 4
    have hgl:w.heap.size≤w.heap.size+1:=Nat.le_succ _
    refine tb_store (w':=((((wz.setCell ⟨w.heap.size+1,0,none⟩ (.int .i64 14)).setCell ⟨w.heap.size+1,1,none⟩ (.int .i64 3)).setCell ⟨w.heap.size+1,2,none⟩ (.int .i64 0)).setCell ⟨w.heap.size+1,3,none⟩ (.string ⟨#[]⟩)).setCell ⟨w.heap.size+1,4,none⟩ (.slice M.1 17 M.2)) hT ho hd rfl rfl ?_ (ext_cells5 hx 0 1 2 3 4 _ _ _ _ _ (w.heap.size+1) hgl) ⟨M,block_set5 hres _ _ _ _ _,kids_cells5 (g:=w.heap.size+1) hK 0 1 2 3 4 _ _ _ _ _ (Nat.lt_succ_self _)⟩ ?_
    · generalize Act.eval ⟨over T U,dd⟩=ev at *
      simp [execOp,v0,v2,go_sem,hc0',hc1',hc2',hc3',hc4',hf0,hf1,hf2,hf3,hf4]
    · intro j hj hji hlj hcj hR
      exact encR_set it L w.heap.size j hji _ _ _ _ (encR_set it L w.heap.size j hji _ _ _ _ (encR_set it L w.heap.size j hji _ _ _ _ (encR_set it L w.heap.size j hji _ _ _ _ (encR_set it L w.heap.size j hji _ _ _ _ hR))))
   | 54,ho,hl,hd =>
    obtain rfl:=Option.some.inj ho
    refine tb_pure (v:=.int .i64 0) hT ho hd rfl rfl (by decide) (by decide) ?_ rfl
    have vc:Act.eval ⟨over T U,dd⟩ (.const (.int .i64 0))=.int .i64 0:=rfl
    generalize Act.eval ⟨over T U,dd⟩=ev at *
    simp [execOp,go_sem,vc]
   | i+55,ho,_,_=>exact absurd ho (by simp)
 · intro U wz hex hout hfin
   obtain ⟨M,hb,hK⟩:EncDone it w.heap.size wz:=hfin 53 (by decide) rfl
   have f3:U 3=some (.int .i64 0):=hfin 54 (by decide) rfl
   have k0:=cell_of_row wz (w.heap.size+1) 0 _ _ _ hb
   have k1:=cell_of_row wz (w.heap.size+1) 1 _ _ _ hb
   have k2:=cell_of_row wz (w.heap.size+1) 2 _ _ _ hb
   have k3:=cell_of_row wz (w.heap.size+1) 3 _ _ _ hb
   have k4:=cell_of_row wz (w.heap.size+1) 4 _ _ _ hb
   have k0':wz.cell? ⟨w.heap.size+1,0,none⟩=some (.int .i64 14):=k0
   have k1':wz.cell? ⟨w.heap.size+1,1,none⟩=some (.int .i64 3):=k1
   have k2':wz.cell? ⟨w.heap.size+1,2,none⟩=some (.int .i64 0):=k2
   have k3':wz.cell? ⟨w.heap.size+1,3,none⟩=some (.string ⟨#[]⟩):=k3
   have k4':wz.cell? ⟨w.heap.size+1,4,none⟩=some (.slice M.1 17 M.2):=k4
   have HK:=Hi hK
   have HEX:=Hi hex
   clear k0 k1 k2 k3 k4 hK hb hex hfin
   rw [over_list]
   simp (disch:=decide) only [overL,Nat.reduceAdd,hout,Option.getD_none]
   rw [f3]
   simp only [Option.getD_some]
   clear hout f3
   go_wp2_with fail
   refine bodyPost_ret (v:=.tuple #[.agg #[.int .i64 14,.int .i64 3,.int .i64 0,.string ⟨#[]⟩,.slice M.1 17 M.2],.int .i64 0]) (by simp [results,Tryz.results29,go_sem,k0',k1',k2',k3',k4']) rfl ⟨⟨M,rfl,HK.out.lower (Nat.le_add_right _ _)⟩,HEX.out⟩

set_option maxRecDepth 100000 in
set_option maxHeartbeats 6400000 in
theorem rencode_bad (it : It.Item) (L : It.Loc) (w : World) (h : It.In w it L) (hv : It.vld it ≠ 0) :
    Calls Tryz.prog 29 #[It.agg it L] w fun e w'=>e=.returned (.tuple #[.agg #[.int .i64 0,.int .i64 0,.int .i64 0,.string ⟨#[]⟩,.slice none 0 0],.int .i64 (It.vld it)])∧Ext w w':=by
 obtain ⟨CA,hca,hna,-,-⟩:=It.packed it L
 have HV:=Hi (rvalid_any it L)
 rw [hca] at HV ⊢
 have IA:=Hi (infoItem hna)
 have H:=Hi h
 obtain ⟨er,her⟩:∃ er,It.vld it=er:=⟨_,rfl⟩
 rw [her] at HV hv ⊢
 have t0:(er != 0)=true:=by rw [bne_iff_ne];exact hv
 clear hca hna h her hv
 go_enter Tryz.func29,Tryz.ntmps29
 go_wp2_with (refine wpList_load_row rfl _ _ rfl w.heap.size rfl _ CA _ _ (heap_two_fst _ _ _) Tryz.underlying45 rfl IA.out ?_)
 have X0:=((Ext.refl w).alloc (.cells CA 45)).alloc (.cells #[.int .i64 0,.int .i64 0,.int .i64 0,.string ⟨#[]⟩,.slice none 0 0] 52)
 with_reducible refine (HV.out _ (H.out.ext X0)).mono ?_
 rintro e w1 ⟨rfl,hb1⟩
 have HB1:=Hi (hb1.blockAt (heap_two_snd w (.cells CA 45) (.cells #[.int .i64 0,.int .i64 0,.int .i64 0,.string ⟨#[]⟩,.slice none 0 0] 52)))
 have X1:=Hi (X0.trans hb1)
 clear hb1 X0
 go_wp2_with (refine wpList_store_row rfl _ _ _ rfl (w.heap.size+1) #[.int .i64 0,.int .i64 0,.int .i64 0,.string ⟨#[]⟩,.slice none 0 0] rfl rfl _ _ HB1.out (by kernel_rfl) rfl (by simp [Value.oneCell']) ?_)
 have HRS:=setRow_at (cs':=#[.int .i64 0,.int .i64 0,.int .i64 0,.string ⟨#[]⟩,.slice none 0 0]) HB1.out
 refine bodyPost_ret (v:=.tuple #[.agg #[.int .i64 0,.int .i64 0,.int .i64 0,.string ⟨#[]⟩,.slice none 0 0],.int .i64 er]) (results_cell_tmp Tryz.results29 _ _ (w.heap.size+1) _ _ _ _ rfl HRS Tryz.underlying52 rfl (by kernel_rfl) rfl) rfl ?_
 exact ⟨rfl,X1.out.setRow (Nat.le_succ _) _⟩
theorem rencode_any (it : It.Item) (L : It.Loc) (w : World) (h : It.In w it L) :
    Calls Tryz.prog 29 #[It.agg it L] w fun e w'=>EncPost it (It.vld it) w.heap.size e w'∧Ext w w':=by
 by_cases hv:It.vld it=0
 · obtain ⟨h1,h2,h3,h4⟩:=It.vld_small hv
   refine (rencode_ok it L w h (fun w' _ hI=>?_) (by omega) (by omega) (by omega) (by omega)).mono ?_
   · have:=rvalid_any it L w' hI
     rwa [hv] at this
   · rintro e w' ⟨he,hb⟩
     exact ⟨⟨fun _=>he,fun hn=>absurd hv hn⟩,hb⟩
 · refine (rencode_bad it L w h hv).mono ?_
   rintro e w' ⟨rfl,hb⟩
   exact ⟨⟨fun h0=>absurd h0 hv,fun _=>rfl⟩,hb⟩
end Go.Proofs.YtnlenappjjlbjaaGreatDoor
