/- slices.SortFunc at pairs in Norm's order: a contract. Conditions: those of each theorem. -/
import Derived.Test.YtfnmgcblhebdbaaGreatDoorZ27
import Derived.Test.YtfnmgcblhebdbaaGreatDoorZShEn
import Derived.Lib.SliceRun
import Derived.Lib.SmallJoins
import Derived.Shelf.SlSortFuncK.ComposeK
namespace Go.Proofs.YtfnmgcblhebdbaaGreatDoor
open Go.RowKit Go.Sort
namespace Bk
namespace En
def lt (p q:Int×Int):Bool:=decide (cf p q<0)
def srt (ps:List (Int×Int)):List (Int×Int):=ps.mergeSort fun x y=>!lt y x
theorem lt_iff(p q:Int×Int):lt p q=decide (p.1<q.1∨(p.1=q.1∧p.2<q.2)):=by
 unfold lt En.cf En.cmpI;rw[Bool.eq_iff_iff,decide_eq_true_iff,decide_eq_true_iff];constructor
 · intro h;by_cases h1:p.1<q.1
   · exact Or.inl h1
   · rw[if_neg h1]at h;by_cases h2:q.1<p.1
     · rw[if_pos h2]at h;simp at h
     · rw[if_neg h2]at h;simp only[ne_eq,not_true_eq_false,if_false]at h;by_cases h3:p.2<q.2
       · exact Or.inr ⟨by omega,h3⟩
       · rw[if_neg h3]at h;split at h <;> omega
 · rintro(h | ⟨h1,h2⟩)
   · rw[if_pos h];simp
   · simp[show ¬ p.1<q.1 by omega,show ¬ q.1<p.1 by omega,h2]
theorem swo:SWO lt where
 irrefl x:=by rw[lt_iff];simp
 trans x y z h1 h2:=by rw[lt_iff,decide_eq_true_iff]at *;omega
 ntrans x y z h1 h2:=by rw[lt_iff,decide_eq_false_iff_not]at *;omega
theorem lt_total(x y:Int×Int)(h1:lt x y=false)(h2:lt y x=false):x=y:=by rw[lt_iff,decide_eq_false_iff_not]at *;exact Prod.ext (by omega) (by omega)
theorem srt_len(ps:List (Int×Int)):(srt ps).length=ps.length:=List.length_mergeSort _
theorem srt_mem{ps:List (Int×Int)}{p:Int×Int}:p∈srt ps↔p∈ps:=List.mem_mergeSort
theorem flat_at{ps:List (Int×Int)}{i r:Nat}{p:Int×Int}(hi:ps[i]?=some p)(hr:r<2):((ps.map pcl).flatten)[i*2+r]?=some ((pcl p)[r]!):=by
 refine flatten_at (k:=2) (fun c hc=>by obtain⟨p,-,rfl⟩:=List.mem_map.1 hc;rfl) (i:=i) (cs:=pcl p) (by simp[hi]) ?_
 match r,hr with
 | 0,_=>rfl
 | 1,_=>rfl
theorem flatK_at{ps:List (Int×Int)}{i r:Nat}{p:Int×Int}(hi:ps[i]?=some p)(hr:r<2):(flatK pcl 2 ps.toArray)[i*2+r]! = (pcl p)[r]! := by
 have hl:i<ps.length:=by
  rcases Nat.lt_or_ge i ps.length with g | g
  · exact g
  · rw[List.getElem?_eq_none g]at hi;cases hi
 rw[get_flatK _ _ _ _ (by simp;omega),show(i*2+r) / 2=i by omega,show(i*2+r) % 2=r by omega];have:ps.toArray[i]! = p:=by rw[getElem!_pos _ i (by simpa using hl)];rw[List.getElem?_eq_getElem hl]at hi;injection hi with hi
 rw[this]
theorem sortWorld_ext{W w:World}(hW:Ext W w)(g off m:Nat)(d:Array (Int×Int))(os:Array Obj)(hg:W.heap.size≤g):Ext W (sortWorldK pcl 2 w g off m d os):=by
 refine⟨hW.os,hW.tape,hW.output,?_,fun k hk=>?_⟩
 · refine Nat.le_trans hW.size ?_;show _≤((w.heap.modify g _) ++ os).size;simp
 · rw[← hW.block k hk];show((w.heap.modify g _) ++ os)[k]?=_;have:=hW.size;rw[Array.getElem?_append_left (by simp;omega),Array.getElem?_modify,if_neg (by omega)]
theorem sort_blk{w:World}{g:Nat}{cur:Array Value}{T:TypeId}{fr:Nat×Nat}{z:Nat}(h:w.heap[g]?=some (.cells cur T fr))(hz:cur.size=z)(_b off m:Nat)(d:Array (Int×Int))(os:Array Obj):∃ cur',(sortWorldK pcl 2 w g off m d os).heap[g]?=some (.cells cur' T fr)∧cur'.size=z:=by have hl:=blk_lt h;show ∃ cur',((w.heap.modify g _) ++ os)[g]?=_∧_;rw[Array.getElem?_append_left (by simpa using hl),Array.getElem?_modify,if_pos rfl,h];exact⟨_,rfl,by rw[show(putCells _ _ _ cur).size=cur.size from by simp[putCells]];exact hz⟩
theorem cmp_lays(blk off size:Nat)(w:World):CmpLays Tryz.prog 122 #[] pcl 2 cf blk off size w :=
 fun _ _ _ _ x y=>order_any x y _
theorem sort_any{W:World}(A:Option Addr)(c n:Nat)(ps:List (Int×Int))(hn:ps.length=n)(w:World)(hW:Ext W w)(h:w.ownsRow W.heap.size 80 2 (.slice A n c) n (ps.map pcl).flatten)(hb:n≤1000) :
    Calls Tryz.prog 121 #[.slice A n c,.func (.func 122) #[] #[]] w fun e w'=>e=.returned (.tuple #[])∧OwnN c W w' A (srt ps)∧Ext W w':=by
 subst hn;rcases Nat.eq_zero_or_pos ps.length with h0 | h0
 · rw[h0];refine(AnyF.slices_SortFunc_none Tryz.sortP A c _ w).mono ?_;rintro e w' ⟨rfl,rfl⟩;have:srt ps=[]:=List.eq_nil_of_length_eq_zero (by rw[srt_len];exact h0);rw[this];refine⟨rfl,?_,hW⟩;rcases h.2 with ⟨e,-⟩ | ⟨g,cap,cur,e,h2,h3,h4,h5,h6,-⟩
   · injection e with e1 _ e2;exact Or.inl ⟨e1,e2,rfl⟩
   · injection e with e1 _ e2;subst e1 e2;exact Or.inr ⟨g,rfl,h2,⟨cur,h3,h6⟩,fun i p hp=>by cases hp⟩
 · rcases h.2 with ⟨-,h1⟩ | ⟨g,cap,cur,h1,h2,h3,h4,h5,h6,h7⟩
   · omega
   · injection h1 with h1 _ hc;subst h1 hc;have hlt:g<w.heap.size:=by
      rcases Nat.lt_or_ge g w.heap.size with e | e
      · exact e
      · rw[Array.getElem?_eq_none e]at h3;cases h3
     have hH:HoldsK pcl 2 w g 0 ps.toArray:=fun j hj=>by rw[size_flatK]at hj;have hi:j / 2<ps.length:=(by simp at hj;omega);have hp:=List.getElem?_eq_getElem hi;have e1:=flatK_at hp (r:=j % 2) (by omega);have e2:=flat_at hp (r:=j % 2) (by omega);rw[show j / 2*2+j % 2=j by omega]at e1 e2;rw[Nat.zero_add,e1];refine⟨?_,frozen_of_row _ _ j _ _ h3⟩;rw[cell_of_row _ _ _ _ _ _ h3];rw[← h7,List.getElem?_take_of_lt (by omega)]at e2;simpa using e2
     have eg:∀ args w,(callFunc 122 args).run Tryz.prog w=.ok (.enter 122 args) w:=enters_of Tryz.func122 (by kernel_rfl) rfl;have hcon:=AnyQ.slices_SortFunc_total Tryz.sortP 2 Tryz.isAgg80 Tryz.sizeOf80 pcl (fun _=>rfl) (fun x v hv=>by simp[pcl]at hv;rcases hv with rfl | rfl <;> rfl) cf swo 122 #[] g 0 c ps.toArray w eg (cmp_lays g 0 _ w) hH hlt (by simp;omega) lt_total;refine(show Calls Tryz.prog 121 #[.slice (some ⟨g,0,none⟩) ps.length c,.func (.func 122) #[] #[]] w _ from hcon).mono ?_;rintro e w' ⟨rfl,m,os,hw'⟩;have hH2:HoldsK pcl 2 w' g 0 (srt ps).toArray:=by rw[hw'];exact holdsK_sortWorldK pcl 2 w g 0 m ps.toArray _ os hlt hH (by simp)
     refine⟨rfl,Or.inr ⟨g,rfl,h2,?_,fun i p hp j v hv=>?_⟩,?_⟩
     · rw[hw'];exact sort_blk h3 h6 g 0 m _ os
     · have hj:j<2:=by
         rcases Nat.lt_or_ge j 2 with e | e
         · exact e
         · rw[List.getElem?_eq_none (by simpa[pcl]using e)]at hv;cases hv
       have hil:i<(srt ps).length:=by
        rcases Nat.lt_or_ge i (srt ps).length with e | e
        · exact e
        · rw[List.getElem?_eq_none e]at hp;cases hp
       have this:=hH2 (i*2+j) (by rw[size_flatK];simp;omega);rw[flatK_at hp hj,Nat.zero_add]at this;refine⟨?_,this.2⟩;rw[this.1]
       match j,hj with
       | 0,_=>simpa[pcl]using hv
       | 1,_=>simpa[pcl]using hv
     · rw[hw'];exact sortWorld_ext hW g 0 m _ os h2
end En
end Bk
end Go.Proofs.YtfnmgcblhebdbaaGreatDoor
namespace Go.Proofs.YtfnmgcblhebdbaaGreatDoor
set_option maxRecDepth 100000
set_option maxHeartbeats 12800000
open Go.RowKit Go.Sort
namespace Bk
namespace En
theorem infoPr:(Tryz.prog.info? 80).map (fun i=>(i.zero,i.size,i.bytes))=some (some (.agg #[.int .i64 0,.int .i64 0]),2,16):=by kernel_rfl
theorem own_cap{w:World}{base:Nat}{e:TypeId}{size:Nat}{A:Option Addr}{n c:Nat}{xs:List Value}(h:w.ownsRow base e size (.slice A n c) n xs):n≤c∧c≤maxLen:=by
 rcases h.2 with ⟨h1,rfl⟩ | ⟨g,cap,cur,h1,-,-,h2,h3,-⟩
 · injection h1 with _ _ h3;subst h3;exact⟨Nat.le_refl _,Nat.zero_le _⟩
 · injection h1 with _ _ h4;subst h4;exact⟨h2,h3⟩
def ofL (l:List (Int×Int)):List (Int×Int):=(l.filter fun p=>!decide (p.1=p.2)).map ordP
def normE (l:List (Int×Int)):List (Int×Int):=dd (srt (ofL l))
theorem ofL_next{l:List (Int×Int)}{k:Nat}{x:Int×Int}(hx:l[k]?=some x):ofL (l.take (k+1))=ofL (l.take k) ++ if x.1=x.2 then[]else[ordP x]:=by unfold ofL;rw[List.take_add_one,hx,List.filter_append,List.map_append];by_cases h:x.1=x.2 <;> simp[h]
theorem ofL_len(l:List (Int×Int)):(ofL l).length≤l.length:=by unfold ofL;rw[List.length_map];exact List.length_filter_le _ _
theorem flat_snoc(xs:List (Int×Int))(y:Int×Int):((xs ++ [y]).map pcl).flatten=(xs.map pcl).flatten ++ pcl y:=by simp
theorem normE_len(l:List (Int×Int)):(normE l).length≤l.length:=Nat.le_trans (dd_len _) (by rw[srt_len];exact ofL_len l)
def RetPr (W:World)(l:List (Int×Int))(e:Ending)(w':World):Prop:=∃ A c,e=.returned (.slice A l.length c)∧OwnN c W w' A l∧l.length≤c∧c≤maxLen∧Ext W w'
theorem norm_any(A:Option Addr)(c n:Nat)(l:List (Int×Int))(hn:l.length=n)(w:World)(h:Sl w 2 A (l.map pcl))(hb:n≤1000){v:List (Int×Int)}(hv:normE l=v) :
    Calls Tryz.prog 93 #[.slice A n c] w (RetPr w v):=by
 have H:=Hi h;have HN:=Hi hn;have HV:=Hi hv;obtain⟨i0,hi0,hz0,hz1,hz2⟩:=info_parts infoPr;clear h hn hv;go_enter Tryz.func93,Tryz.ntmps93
 go_wp2;go_loopw [8,3] (fun i v wr=>∃ k:Nat,k≤n∧i=.int .i64 k∧Hid (wr.ownsRow w.heap.size 80 2 v (ofL (l.take k)).length ((ofL (l.take k)).map pcl).flatten)∧Hid (Ext w wr)) (fun i _ _=>n-(intOf i).toNat)
 case atStart=>exact⟨0,by omega,rfl,Hi (own_nil _ _ _ _),Hi (Ext.refl _)⟩
 case round =>
 obtain⟨k,hk,rfl,HOWN,HE⟩:=hrel;by_cases hlt:k<n
 · obtain⟨x,hx⟩:∃ x,l[k]?=some x:=⟨l[k]'(by rw[HN.out];exact hlt),List.getElem?_eq_getElem _⟩;obtain⟨bb,off,rfl,hbl,hcx⟩:=Sl.at_ (i:=k) (cs:=pcl x) (H.out.ext HE.out) (by simp[hx]);have HX:=Hi hx;obtain⟨CX,hxa,hnx,h1x,hkx,hx0,hx1⟩:=parp x;have IX:=Hi (infoP hnx);have NX:Hid ((#[.int .i64 0,.int .i64 0]:Array Value).size=CX.size):=Hi hnx.symm;have OX:=Hi h1x;have HC:Hid (wr.rangeAt bb (off+k*2) CX.toList):=Hi (by rw[hkx];intro j u hj;rw[Nat.add_assoc];exact hcx j u hj);have HXA:Hid (Ext wr (wr.alloc (.cells CX 80))):=Hi ((Ext.refl _).alloc _);have HB9:Hid ((wr.alloc (.cells CX 80)).heap[wr.heap.size]?=some (.cells CX 80 (0,0))):=Hi (heap_alloc_new wr _);have c0:(wr.alloc (.cells CX 80)).cell? ⟨wr.heap.size,0,none⟩=some (.int .i64 x.1):=(cell_of_row _ _ 0 _ _ _ HB9.out).trans hx0;have c1:(wr.alloc (.cells CX 80)).cell? ⟨wr.heap.size,1,none⟩=some (.int .i64 x.2):=(cell_of_row _ _ 1 _ _ _ HB9.out).trans hx1;have HLE:Hid ((ofL (l.take k)).length≤k):=Hi (Nat.le_trans (ofL_len _) (by rw[List.length_take];omega));have ki0:(0:Int)≤(k:Int):=(by omega);have ki1:(k:Int)<(n:Int):=(by omega);clear hx hcx hxa hnx h1x hkx hx0 hx1;by_cases hxe:x.1=x.2
   · have hb1:(x.1 != x.2)=false:=(by rw[bne_eq_false_iff_eq];exact hxe);have HS:Hid (ofL (l.take (k+1))=ofL (l.take k)):=Hi (by rw[ofL_next HX.out,if_pos hxe,List.append_nil]);clear hxe;go_wp2_with (first
      | (with_reducible refine wpList_load_arr rfl 80 (.tmp 10) rfl bb (off+k*2) (by with_unfolding_all rfl) CX _ HC.out Tryz.underlying80 rfl IX.out ?_)
      | (with_reducible refine wpList_store_new rfl 80 (.tmp 5) (.tmp 11) rfl _ CX 80 (by with_unfolding_all rfl) (by with_unfolding_all rfl) IX.out (by with_unfolding_all exact NX.out) OX.out ?_))
     go_roundw;case rel=>exact⟨k+1,by omega,by go_num,Hi (by rw[HS.out];exact own_ext HOWN.out HXA.out),Hi (HE.out.trans HXA.out)⟩
     case measure=>simp[intOf];omega
   · have hb1:(x.1 != x.2)=true:=(by rw[bne_iff_ne];exact hxe);have HS:Hid (ofL (l.take (k+1))=ofL (l.take k) ++ [ordP x]):=Hi (by rw[ofL_next HX.out,if_neg hxe]);clear hxe;obtain⟨o,ho⟩:∃ o,ordP (x.1,x.2)=o:=⟨_,rfl⟩;have HO:=Hi ho;clear ho;go_wp2_with (first
      | (with_reducible refine wpList_load_arr rfl 80 (.tmp 10) rfl bb (off+k*2) (by with_unfolding_all rfl) CX _ HC.out Tryz.underlying80 rfl IX.out ?_)
      | (with_reducible refine wpList_store_new rfl 80 (.tmp 5) (.tmp 11) rfl _ CX 80 (by with_unfolding_all rfl) (by with_unfolding_all rfl) IX.out (by with_unfolding_all exact NX.out) OX.out ?_))
     with_reducible refine(ordered_any x.1 x.2 HO.out _).mono ?_
     rintro e w2 ⟨rfl,hb2⟩;have HX2:=Hi ((HE.out.trans HXA.out).trans hb2);have HOW2:=Hi (own_ext HOWN.out (HXA.out.trans hb2));have hsz2:=HX2.out.size;have hle:=HLE.out;obtain⟨M,hM⟩:∃ M,ofL (l.take k)=M:=⟨_,rfl⟩;rw[hM]at HOW2 HS hle;clear hb2 c0 c1 HLE HOWN hM;go_wp2_with (at_builtin;refine wpList_append_lies _ rfl _ _ 29 rfl w.heap.size 80 i0 (.agg #[.int .i64 0,.int .i64 0]) 2 16 Tryz.underlying29 hi0 hz0 hz1 hz2 rfl (by decide) _ _ _ rfl (own_ext HOW2.out ((Ext.refl w2).alloc _)) ⟨w2.heap.size,0,none⟩ 1 1 (pcl o) rfl rfl (World.news_of_block (heap_new_at _ _ _ (by simp))) (by simp[Value.oneCell',pcl]) (by decide) (by unfold maxLen;omega) (by omega) (by simp;omega) _ rfl ?_;intro gg cap w3 hown3 hgr3 hat3 hlt3)
     have HO3:=Hi hown3;have HE3:=Hi ((HX2.out.alloc _).grown hgr3 (own_ge HOW2.out));clear hown3 hgr3 hat3 hlt3;go_wp2;go_roundw;case rel=>exact⟨k+1,by omega,by go_num,Hi (by rw[HS.out,List.length_append,flat_snoc,show ordP x=o from HO.out];exact HO3.out),HE3⟩
     case measure=>simp[intOf];omega
 · obtain rfl:k=n:=by omega
   have hkn:¬ (k:Int)<(k:Int):=(by omega);have hown:=HOWN.out;rw[List.take_of_length_le (by rw[HN.out];exact Nat.le_refl _)]at hown;have HL:Hid ((ofL l).length≤k):=Hi (by rw[← HN.out];exact ofL_len l);have HNL:Hid (dd (srt (ofL l))=v):=HV;obtain⟨M,hM⟩:∃ M,ofL l=M:=⟨_,rfl⟩;rw[hM]at hown HL HNL;obtain⟨R,rc,rfl⟩:=own_form hown;have HC:=Hi (own_cap hown);have HOW:=Hi hown;obtain⟨m,hm⟩:∃ m,M.length=m:=⟨_,rfl⟩;have HM:=Hi hm;rw[hm]at HOW HC HL ⊢;have hl:=HL.out;clear hown hM hm HOWN;go_wp2_with fail
   with_reducible refine(sort_any (W:=w) R rc m M HM.out _ HE.out HOW.out (by omega)).mono ?_
   rintro e w4 ⟨rfl,ho4,hx4⟩;have HO4:=Hi ho4;have HX4:=Hi hx4;have HM4:Hid ((srt M).length=m):=Hi (by rw[srt_len];exact HM.out);clear ho4 hx4;go_wp2_with fail
   with_reducible refine(compact_any (W:=w) R rc m (srt M) HM4.out _ HX4.out HO4.out (by omega) HC.out.1 HC.out.2).mono ?_
   rintro e w5 ⟨rfl,ho5,hx5⟩;rw[HNL.out]at ho5 ⊢;have HO5:=Hi ho5;have HX5:=Hi hx5;have HL5:Hid (v.length≤rc):=Hi (by have h1:=dd_len (srt M);rw[HNL.out,HM4.out]at h1;exact Nat.le_trans h1 HC.out.1)
   clear ho5 hx5;go_wp2;go_ret;exact⟨R,rc,rfl,HO5.out,HL5.out,HC.out.2,HX5.out⟩
theorem OwnN.own{c:Nat}{W w:World}{A:Option Addr}{ys:List (Int×Int)}(h:OwnN c W w A ys)(h1:ys.length≤c)(h2:c≤maxLen):w.ownsRow W.heap.size 80 2 (.slice A ys.length c) ys.length (ys.map pcl).flatten:=by
 have hfl:(ys.map pcl).flatten.length=ys.length*2:=by rw[flatten_len (k:=2) (fun c hc=>by obtain⟨p,-,rfl⟩:=List.mem_map.1 hc;rfl),List.length_map]
 rcases h with ⟨rfl,rfl,rfl⟩ | ⟨g,rfl,hg,⟨cur,hb,hz⟩,hr⟩
 · exact own_nil _ _ _ _
 · refine⟨hfl,Or.inr ⟨g,c,cur,rfl,hg,hb,h1,h2,hz,?_⟩⟩;apply List.ext_getElem?;intro j;rcases Nat.lt_or_ge j (ys.length*2)with hj | hj
   · have hi:j / 2<ys.length:=(by omega);have hp:=List.getElem?_eq_getElem hi;obtain⟨u,hu⟩:∃ u,(pcl ys[j / 2])[j % 2]?=some u:=⟨(pcl ys[j / 2])[j % 2]'(by show j % 2<2;omega),List.getElem?_eq_getElem _⟩;have h3:=(hr _ _ hp _ _ hu).1;rw[show j / 2*2+j % 2=j by omega,cell_of_row _ _ j _ _ _ hb]at h3;have h4:=flatten_at (k:=2) (xs:=ys.map pcl) (i:=j / 2) (j:=j % 2) (cs:=pcl ys[j / 2]) (v:=u) (fun c hc=>by obtain⟨p,-,rfl⟩:=List.mem_map.1 hc;rfl) (by rw[List.getElem?_map,hp];rfl) hu;rw[show j / 2*2+j % 2=j by omega]at h4;rw[h4,List.getElem?_take,if_pos hj];simpa using h3
   · rw[List.getElem?_eq_none (by rw[List.length_take];omega),List.getElem?_eq_none (by rw[hfl];exact hj)]
theorem dd_mem{l:List (Int×Int)}{x:Int×Int}(h:x∈dd l):x∈l:=by
 have hs:∀ (l out:List (Int×Int)),x∈l.foldl ddS out→x∈out∨x∈l:=by
  intro l
  induction l with
  | nil=>intro out h;exact Or.inl h
  | cons p l ih =>
   intro out h;rcases ih _ h with h1 | h1
   · unfold ddS at h1;split at h1
     · exact Or.inl h1
     · rcases List.mem_append.1 h1 with h2 | h2
       · exact Or.inl h2
       · rw[List.mem_singleton]at h2;exact Or.inr (by rw[h2];exact List.mem_cons_self)
   · exact Or.inr (List.mem_cons_of_mem _ h1)
 rcases hs l [] h with h1 | h1
 · cases h1
 · exact h1
theorem ordP_in{p:Int×Int}(h:ParIn p):ParIn (ordP p):=by obtain⟨⟨h1,h2⟩,h3,h4⟩:=h;refine⟨⟨?_,?_⟩,?_,?_⟩ <;> simp only[ordP] <;> omega
theorem normE_from{l:List (Int×Int)}{x:Int×Int}(h:x∈normE l):∃ p∈l,p.1≠p.2∧ordP p=x:=by have h1:=srt_mem.1 (dd_mem h);unfold ofL at h1;obtain⟨p,hp,rfl⟩:=List.mem_map.1 h1;obtain⟨hp1,hp2⟩:=List.mem_filter.1 hp;exact⟨p,hp1,by simpa using hp2,rfl⟩
theorem normE_in{l:List (Int×Int)}(h:∀ x∈l,ParIn x):∀ x∈normE l,ParIn x:=fun x hx=>by obtain⟨p,hp,-,rfl⟩:=normE_from hx;exact ordP_in (h p hp)
def addE (l:List (Int×Int))(p:Int×Int):Int×List (Int×Int) :=
 if p.1<1∨9999999<p.1∨p.2<1∨9999999<p.2 then(3,[])else if p.1=p.2 then(1,[])else if areE l p=true then(7,[])else if 400≤(normE l).length then(5,[])else(0,normE (normE l ++ [ordP p]))
def remE (l:List (Int×Int))(p:Int×Int):Int×List (Int×Int):=if areE l p=false then(6,[])else(0,delE (normE l) (ordP p))
def RetPe (W:World)(r:Int×List (Int×Int))(e:Ending)(w':World):Prop:=∃ A c,e=.returned (.tuple #[.slice A r.2.length c,.int .i64 r.1])∧OwnN c W w' A r.2∧r.2.length≤c∧c≤maxLen∧Ext W w'
theorem RetPe.none{W w':World}(er:Int)(he:Ext W w'):RetPe W (er,[]) (.returned (.tuple #[.slice none 0 0,.int .i64 er])) w':=⟨_,0,rfl,Or.inl ⟨rfl,rfl,rfl⟩,Nat.le_refl _,Nat.zero_le _,he⟩
end En
end Bk
set_option maxRecDepth 100000
set_option maxHeartbeats 12800000
open Go.RowKit Go.Sort
namespace Bk
namespace En
theorem add_any(A:Option Addr)(c n:Nat)(l:List (Int×Int))(p:Int×Int)(hn:l.length=n)(w:World)(h:SlX ePar w A l)(hb:n≤999){r:Int×List (Int×Int)}(hr:addE l p=r) :
    Calls Tryz.prog 77 #[.slice A n c,.int .i64 p.1,.int .i64 p.2] w (RetPe w r):=by
 subst hr;have H:=Hi h;have HN:=Hi hn;obtain⟨i0,hi0,hz0,hz1,hz2⟩:=info_parts infoPr;clear h hn;by_cases hrg:p.1<1∨9999999<p.1∨p.2<1∨9999999<p.2
 · have hz:Hid (addE l p=(3,[])):=Hi (by unfold addE;rw[if_pos hrg]);rw[hz.out];have hcase:p.1<1∨(¬ p.1<1∧9999999<p.1)∨(¬ p.1<1∧¬ 9999999<p.1∧p.2<1)∨(¬ p.1<1∧¬ 9999999<p.1∧¬ p.2<1∧9999999<p.2):=(by omega);clear hrg;rcases hcase with h1 | ⟨h1,h2⟩ | ⟨h1,h2,h3⟩ | ⟨h1,h2,h3,h4⟩
   all_goals
    go_enter Tryz.func77,Tryz.ntmps77
    go_wp2
    go_ret2
    exact RetPe.none 3 (Ext.refl _)
 have h1:¬ p.1<1:=fun e=>hrg (Or.inl e);have h2:¬ 9999999<p.1:=fun e=>hrg (Or.inr (Or.inl e));have h3:¬ p.2<1:=fun e=>hrg (Or.inr (Or.inr (Or.inl e)));have h4:¬ 9999999<p.2:=fun e=>hrg (Or.inr (Or.inr (Or.inr e)));have HRG:=Hi hrg;by_cases he:p.1=p.2
 · have hz:Hid (addE l p=(1,[])):=Hi (by unfold addE;rw[if_neg HRG.out,if_pos he]);rw[hz.out];have e1:(p.1 == p.2)=true:=(by rw[beq_iff_eq];exact he);clear he hrg;go_enter Tryz.func77,Tryz.ntmps77
   go_wp2
   go_ret2
   exact RetPe.none 1 (Ext.refl _)
 have HEQ:=Hi he;have e1:(p.1 == p.2)=false:=by rw[beq_eq_false_iff_ne];exact he
 obtain⟨u,hu⟩:∃ u,areE l p=u:=⟨_,rfl⟩;have HU:=Hi hu;clear he hrg hu;go_enter Tryz.func77,Tryz.ntmps77
 go_wp2_with fail
 with_reducible refine(are_any A c n l p HN.out HU.out _ H.out (by omega)).mono ?_
 rintro e w1 ⟨rfl,hb1⟩;have HX1:=Hi hb1;clear hb1;cases u with
 | true =>
  have hz:Hid (addE l p=(7,[])):=Hi (by unfold addE;rw[if_neg HRG.out,if_neg HEQ.out,if_pos HU.out]);go_wp2
  go_ret2
  rw[hz.out];exact RetPe.none 7 HX1.out
 | false =>
 have HS:=Hi (H.out.ext HX1.out).sl;obtain⟨m,hm⟩:∃ m,normE l=m:=⟨_,rfl⟩;have HM:=Hi hm;have HML:Hid (m.length≤n):=Hi (by rw[← hm,← HN.out];exact normE_len l);clear hm;go_wp2_with fail
 with_reducible refine(norm_any A c n l HN.out _ HS.out (by omega) HM.out).mono ?_
 rintro e w2 ⟨R,rc,rfl,ho2,hl2,hm2,hb2⟩;have HX2:=Hi (HX1.out.trans hb2);have HOW:=Hi (OwnN.own ho2 hl2 hm2);have HSZ:Hid (w1.heap.size≤w2.heap.size):=Hi hb2.size;clear ho2 hl2 hm2;obtain⟨k,hk⟩:∃ k,m.length=k:=⟨_,rfl⟩;have HK:=Hi hk;have hml:=HML.out;rw[hk]at HOW hml ⊢;clear hk;by_cases h400:400≤k
 · have hi:(400:Int)≤(k:Int):=(by omega);have hz:Hid (addE l p=(5,[])):=Hi (by unfold addE;rw[if_neg HRG.out,if_neg HEQ.out,if_neg (by rw[HU.out];simp),if_pos (by rw[HM.out,HK.out];exact h400)]);go_wp2
   go_ret2
   rw[hz.out];exact RetPe.none 5 HX2.out
 have hi:¬ (400:Int)≤(k:Int):=by omega
 obtain⟨v,hv⟩:∃ v,normE (m ++ [ordP p])=v:=⟨_,rfl⟩;have HV:=Hi hv;have hz:Hid (addE l p=(0,v)):=Hi (by unfold addE;rw[if_neg HRG.out,if_neg HEQ.out,if_neg (by rw[HU.out];simp),if_neg (by rw[HM.out,HK.out];exact h400),HM.out,hv]);obtain⟨o,ho⟩:∃ o,ordP p=o:=⟨_,rfl⟩;have HO:=Hi ho;have HO':Hid (ordP (p.1,p.2)=o):=Hi ho;rw[ho]at HV;clear hv ho hb2;go_wp2_with fail
 with_reducible refine(ordered_any p.1 p.2 HO'.out _).mono ?_
 rintro e w3 ⟨rfl,hb3⟩;have HX3:=Hi (HX2.out.trans hb3);have HOW3:=Hi (own_ext HOW.out hb3);have hsz3:=Nat.le_trans HSZ.out hb3.size;clear hb3;go_wp2_with (at_builtin;refine wpList_append_lies _ rfl _ _ 29 rfl w1.heap.size 80 i0 (.agg #[.int .i64 0,.int .i64 0]) 2 16 Tryz.underlying29 hi0 hz0 hz1 hz2 rfl (by decide) _ _ _ rfl (own_ext HOW3.out ((Ext.refl w3).alloc _)) ⟨w3.heap.size,0,none⟩ 1 1 (pcl o) rfl rfl (World.news_of_block (heap_new_at _ _ _ (by simp))) (by simp[Value.oneCell',pcl]) (by decide) (by unfold maxLen;omega) (by omega) (by simp;omega) _ rfl ?_;intro gg cap w4 hown4 hgr4 hat4 hlt4)
 have HX4:=Hi ((HX3.out.alloc _).grown hgr4 (fun q hq=>Nat.le_trans HX1.out.size (own_ge HOW3.out q hq)));have HSL:Hid (Sl w4 2 (some ⟨gg,0,none⟩) ((m ++ [o]).map pcl)):=Hi (by rw[← flat_snoc]at hown4;obtain⟨A9,c9,h9,-,-,h9'⟩:=Sl.of_own (xs:=(m ++ [o]).map pcl) (fun c hc=>by obtain⟨p,-,rfl⟩:=List.mem_map.1 hc;rfl) (by rw[List.length_map,List.length_append,HK.out];rfl) hown4;injection h9 with h9 _ _;rw[h9];exact h9')
 have HL4:Hid ((m ++ [o]).length=k+1):=Hi (by rw[List.length_append,HK.out];rfl);clear hown4 hgr4 hat4 hlt4;go_wp2_with fail
 with_reducible refine(norm_any (some ⟨gg,0,none⟩) cap (k+1) (m ++ [o]) HL4.out _ HSL.out (by omega) HV.out).mono ?_
 rintro e w5 ⟨R5,c5,rfl,ho5,hl5,hm5,hb5⟩;have HO5:=Hi ho5;have HX5:=Hi hb5;have HX05:=Hi (HX4.out.trans hb5);have HL5:=Hi hl5;have HM5:=Hi hm5;have HS4:=Hi HX4.out.size;clear ho5 hl5 hm5 hb5;go_wp2
 go_ret2
 rw[hz.out];refine⟨R5,c5,rfl,?_,HL5.out,HM5.out,HX05.out⟩;rcases HO5.out with h | ⟨g,h1,h2,h3⟩
 · exact Or.inl h
 · exact Or.inr ⟨g,h1,Nat.le_trans HS4.out h2,h3⟩
theorem remove_any(A:Option Addr)(c n:Nat)(l:List (Int×Int))(p:Int×Int)(hn:l.length=n)(w:World)(h:SlX ePar w A l)(hb:n≤999){r:Int×List (Int×Int)}(hr:remE l p=r) :
    Calls Tryz.prog 78 #[.slice A n c,.int .i64 p.1,.int .i64 p.2] w (RetPe w r):=by
 subst hr;have H:=Hi h;have HN:=Hi hn;obtain⟨u,hu⟩:∃ u,areE l p=u:=⟨_,rfl⟩;have HU:=Hi hu;clear h hn hu;go_enter Tryz.func78,Tryz.ntmps78
 go_wp2_with fail
 with_reducible refine(are_any A c n l p HN.out HU.out _ H.out (by omega)).mono ?_
 rintro e w1 ⟨rfl,hb1⟩;have HX1:=Hi hb1;clear hb1;cases u with
 | false =>
  have hz:Hid (remE l p=(6,[])):=Hi (by unfold remE;rw[if_pos HU.out]);go_wp2
  go_ret2
  rw[hz.out];exact RetPe.none 6 HX1.out
 | true =>
 obtain⟨o,ho⟩:∃ o,ordP p=o:=⟨_,rfl⟩;have HO':Hid (ordP (p.1,p.2)=o):=Hi ho;obtain⟨m,hm⟩:∃ m,normE l=m:=⟨_,rfl⟩;have HM:=Hi hm;have HML:Hid (m.length≤n):=Hi (by rw[← hm,← HN.out];exact normE_len l);have hz:Hid (remE l p=(0,delE m o)):=Hi (by unfold remE;rw[if_neg (by rw[HU.out];simp),hm,ho]);obtain⟨CT,hta,hnt,h1t,hkt,ht0,ht1⟩:=parp o;have HTA:=Hi hta;have IT:=Hi (infoP hnt);have NT:Hid ((#[.int .i64 0,.int .i64 0]:Array Value).size=CT.size):=Hi hnt.symm;have OT:=Hi h1t;clear ho hm hta hnt h1t hkt;go_wp2_with fail
 with_reducible refine(ordered_any p.1 p.2 HO'.out _).mono ?_
 rintro e w2 ⟨rfl,hb2⟩;have HX2:=Hi ((HX1.out.trans hb2).alloc (.cells CT 80));have HB7:Hid ((w2.alloc (.cells CT 80)).heap[w2.heap.size]?=some (.cells CT 80 (0,0))):=Hi (heap_alloc_new w2 _);have C0:Hid ((w2.alloc (.cells CT 80)).cell? ⟨w2.heap.size,0,none⟩=some (.int .i64 o.1)):=Hi ((cell_of_row _ _ 0 _ _ _ HB7.out).trans ht0);have C1:Hid ((w2.alloc (.cells CT 80)).cell? ⟨w2.heap.size,1,none⟩=some (.int .i64 o.2)):=Hi ((cell_of_row _ _ 1 _ _ _ HB7.out).trans ht1);have HS:=Hi (H.out.ext HX2.out).sl;clear hb2 ht0 ht1;rw[HTA.out];go_wp2_with (with_reducible refine wpList_store_new rfl 80 (.tmp 8) (.tmp 16) rfl _ CT 80 (by with_unfolding_all rfl) (by with_unfolding_all rfl) IT.out (by with_unfolding_all exact NT.out) OT.out ?_)
 generalize w2.alloc (.cells CT 80)=w3 at HX2 HB7 C0 C1 HS ⊢;with_reducible refine(norm_any A c n l HN.out _ HS.out (by omega) HM.out).mono ?_
 rintro e w4 ⟨R,rc,rfl,ho4,hl4,hm4,hb4⟩;have HO4:=Hi ho4;have HL4:=Hi hl4;have HM4:=Hi hm4;have HX4:=Hi hb4;obtain⟨k,hk⟩:∃ k,m.length=k:=⟨_,rfl⟩;have HK:=Hi hk;have hml:=HML.out;rw[hk]at hml HL4 ⊢;clear ho4 hl4 hm4 hb4 hk;go_wp2_with fail
 with_reducible refine(del_any (W:=w3) R rc k m o w2.heap.size HK.out _ HX4.out HO4.out (by omega) HL4.out HM4.out C0.out C1.out).mono ?_
 rintro e w5 ⟨rfl,ho5,hb5⟩;have HO5:=Hi ho5;have HX5:=Hi (HX2.out.trans hb5);have HL5:Hid ((delE m o).length≤rc):=Hi (Nat.le_trans (List.length_filter_le _ _) (by rw[HK.out];exact HL4.out));have HSZ:=Hi HX2.out.size;clear ho5 hb5;go_wp2
 go_ret2
 rw[hz.out];refine⟨R,rc,rfl,?_,HL5.out,HM4.out,HX5.out⟩;rcases HO5.out with h | ⟨g,h1,h2,h3⟩
 · exact Or.inl h
 · exact Or.inr ⟨g,h1,Nat.le_trans HSZ.out h2,h3⟩
end En
end Bk
namespace Bk
namespace En
def Lt (p q:Int×Int):Prop:=p.1<q.1∨(p.1=q.1∧p.2<q.2)
theorem lt_Lt{p q:Int×Int}:lt p q=true↔Lt p q:=by rw[lt_iff];exact decide_eq_true_iff
theorem Lt.ne{p q:Int×Int}(h:Lt p q):p≠q:=by rintro rfl;rcases h with h | h <;> omega
theorem Lt.tri(p q:Int×Int)(h:¬ Lt q p)(hn:p≠q):Lt p q:=by unfold Lt at *;have:¬ (p.1=q.1∧p.2=q.2):=fun e=>hn (Prod.ext e.1 e.2);omega
theorem dd_sorted:∀ (l:List (Int×Int)),l.Pairwise (fun x y=>¬ Lt y x)→(dd l).Pairwise Lt:=by
 intro l;have h:∀ (n:Nat),n≤l.length→l.Pairwise (fun x y=>¬ Lt y x)→(dd (l.take n)).Pairwise Lt:=by
  intro n
  induction n with
  | zero=>intro _ _;rw[List.take_zero];exact List.Pairwise.nil
  | succ n ih =>
   intro hn hp;obtain⟨p,hx⟩:∃ p,l[n]?=some p:=⟨_,List.getElem?_eq_getElem (by omega)⟩;rw[dd_take hx];have h1:=ih (by omega) hp;unfold ddS;split
   · exact h1
   · rename_i hl
     rw[List.pairwise_append];refine⟨h1,List.pairwise_singleton _ _,fun a ha b hb=>?_⟩;rw[List.mem_singleton]at hb;subst hb;obtain⟨j,hj⟩:=List.mem_iff_getElem?.1 (dd_mem ha);have hjn:j<n:=by have:=(List.getElem?_eq_some_iff.1 hj).1;rw[List.length_take]at this;omega
     have hj2:l[j]?=some a:=(by rw[← hj,List.getElem?_take_of_lt hjn]);have hle:¬ Lt b a:=by obtain⟨hjl,ej⟩:=List.getElem?_eq_some_iff.1 hj2;obtain⟨hnl,en⟩:=List.getElem?_eq_some_iff.1 hx;have:=List.pairwise_iff_getElem.1 hp j n hjl hnl hjn;rw[ej,en]at this;exact this
     by_cases hab:a=b
     · subst hab;exfalso;obtain⟨z,hz⟩:∃ z,(dd (l.take n)).getLast?=some z:=by
        cases hd:(dd (l.take n)).getLast? with
        | none=>rw[List.getLast?_eq_none_iff]at hd;rw[hd]at ha;cases ha
        | some z=>exact⟨z,rfl⟩
       have hza:z≠a:=fun e=>hl (by rw[hz,e]);have hzm:=List.mem_of_getLast? hz;have h2:Lt a z:=by
        obtain⟨ys,hys⟩:=List.getLast?_eq_some_iff.1 hz;rw[hys]at h1 ha;rw[List.pairwise_append]at h1;rcases List.mem_append.1 ha with ha | ha
        · exact h1.2.2 a ha z (List.mem_singleton.2 rfl)
        · rw[List.mem_singleton]at ha;exact absurd ha.symm hza
       obtain⟨i,hi⟩:=List.mem_iff_getElem?.1 (dd_mem hzm);have hin:i<n:=by have:=(List.getElem?_eq_some_iff.1 hi).1;rw[List.length_take]at this;omega
       have hi2:l[i]?=some z:=(by rw[← hi,List.getElem?_take_of_lt hin]);obtain⟨hil,ei⟩:=List.getElem?_eq_some_iff.1 hi2;obtain⟨hnl,en⟩:=List.getElem?_eq_some_iff.1 hx;have:=List.pairwise_iff_getElem.1 hp i n hil hnl hin;rw[ei,en]at this;exact this h2
     · exact Lt.tri a b hle hab
 intro hp;have:=h l.length (Nat.le_refl _) hp;rwa [List.take_length]at this
theorem dd_same:∀ (l:List (Int×Int)),l.Pairwise Lt→dd l=l:=by
 intro l;have h:∀ (n:Nat),n≤l.length→l.Pairwise Lt→dd (l.take n)=l.take n:=by
  intro n
  induction n with
  | zero=>intro _ _;rw[List.take_zero];rfl
  | succ n ih =>
   intro hn hp;obtain⟨p,hx⟩:∃ p,l[n]?=some p:=⟨_,List.getElem?_eq_getElem (by omega)⟩;rw[dd_take hx,ih (by omega) hp,List.take_add_one,hx];unfold ddS;rw[if_neg]
   · rfl
   · intro hl;obtain⟨j,hj⟩:=List.mem_iff_getElem?.1 (List.mem_of_getLast? hl);have hjn:j<n:=by have:=(List.getElem?_eq_some_iff.1 hj).1;rw[List.length_take]at this;omega
     have hj2:l[j]?=some p:=(by rw[← hj,List.getElem?_take_of_lt hjn]);obtain⟨hjl,ej⟩:=List.getElem?_eq_some_iff.1 hj2;obtain⟨hnl,en⟩:=List.getElem?_eq_some_iff.1 hx;have:=List.pairwise_iff_getElem.1 hp j n hjl hnl hjn;rw[ej,en]at this;exact this.ne rfl
 intro hp;have:=h l.length (Nat.le_refl _) hp;rwa [List.take_length]at this
theorem srt_sorted(l:List (Int×Int)):(srt l).Pairwise (fun x y=>¬ Lt y x):=by
 have h:=List.pairwise_mergeSort (le:=fun x y=>!lt y x) (fun a b c h1 h2=>by
  simp only[Bool.not_eq_true',← Bool.not_eq_true,lt_Lt]at h1 h2 ⊢;unfold Lt at *;omega) (fun a b=>by
  simp only[Bool.or_eq_true,Bool.not_eq_true',← Bool.not_eq_true,lt_Lt];unfold Lt;omega) l
 refine h.imp fun {a b} hab=>?_;simpa only[Bool.not_eq_true',← Bool.not_eq_true,lt_Lt]using hab
theorem srt_same{l:List (Int×Int)}(h:l.Pairwise Lt):srt l=l:=by unfold srt;refine List.mergeSort_of_pairwise (h.imp fun {a b} hab=>?_);simp only[Bool.not_eq_true',← Bool.not_eq_true,lt_Lt];unfold Lt at *;omega
structure Nrm (l:List (Int×Int)):Prop where
 lt:l.Pairwise Lt
 up:∀ p∈l,p.1<p.2
theorem Nrm.same{l:List (Int×Int)}(h:Nrm l):normE l=l:=by
 have h1:ofL l=l:=by
  unfold ofL;rw[List.filter_eq_self.2 (fun p hp=>by have:=h.up p hp;simp;omega)];refine List.ext_getElem? fun i=>?_;rw[List.getElem?_map];cases hi:l[i]? with
  | none=>rfl
  | some p=>have:=h.up p (List.mem_of_getElem? hi);show some (ordP p)=some p;unfold ordP;rw[Int.min_eq_left (by omega),Int.max_eq_right (by omega)]
 unfold normE;rw[h1,srt_same h.lt,dd_same _ h.lt]
theorem Nrm.of(l:List (Int×Int)):Nrm (normE l):=⟨dd_sorted _ (srt_sorted _),fun p hp=>by obtain⟨q,-,hne,rfl⟩:=normE_from hp;show min q.1 q.2<max q.1 q.2;omega⟩
theorem Nrm.del{l:List (Int×Int)}(h:Nrm l)(t:Int×Int):Nrm (delE l t):=⟨h.lt.filter _,fun p hp=>h.up p (List.mem_filter.1 hp).1⟩
end En
end Bk
end Go.Proofs.YtfnmgcblhebdbaaGreatDoor
