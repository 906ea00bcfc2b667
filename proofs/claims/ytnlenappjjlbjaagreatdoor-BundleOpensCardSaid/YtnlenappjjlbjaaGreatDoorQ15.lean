/- item.Decode of any node; Succeed of both sides: contracts. Conditions: those of each theorem. -/
import Derived.Test.YtnlenappjjlbjaaGreatDoorQ13
import Derived.Test.YtnlenappjjlbjaaGreatDoorQ14
import Derived.Test.YtnlenappjjlbjaaGreatDoorQ12
import Derived.Test.YtnlenappjjlbjaaGreatDoorQ8
namespace Go.Proofs.YtnlenappjjlbjaaGreatDoor
open Go.RowKit Go.Shelf

def N64:Nat→Nd→Prop
 | 0,x=>In64 x.n
 | d+1,x=>In64 x.n∧∀ k∈x.kids,N64 d k
theorem N64.top {d:Nat} {x:Nd} (h:N64 d x):In64 x.n:=by
 cases d with
 | zero=>exact h
 | succ d=>exact h.1
theorem N64.kid {d:Nat} {x k:Nd} (h:N64 (d+1) x) (hk:k∈x.kids):N64 d k:=h.2 k hk
theorem SzOk.kid {d:Nat} {x k:Nd} (h:SzOk (d+1) x) (hk:k∈x.kids):SzOk d k:=h.2 k hk
def decErr (x:Nd):Int:=if isTr x=true then It.vld (itemOf x.kids) else 2
theorem itemOf_ok {x:Nd} (hz:SzOk 2 x) (hn:N64 2 x) (h17:x.kids.length=17):It.Ok (itemOf x.kids):=by
 obtain ⟨t,kd,n,s,ks⟩:=x
 have hz':∀ k∈ks,SzOk 1 k:=fun k hk=>hz.kid hk
 have hn':∀ k∈ks,N64 1 k:=fun k hk=>hn.kid hk
 have h17':ks.length=17:=h17
 match ks,h17' with
 | [y0,y1,y2,y3,y4,y5,y6,y7,y8,y9,y10,y11,y12,y13,y14,y15,y16],_ =>
  simp only [List.mem_cons,List.not_mem_nil,or_false,forall_eq_or_imp,forall_eq] at hz' hn'
  obtain ⟨z0,z1,z2,z3,z4,z5,z6,z7,z8,z9,z10,z11,z12,z13,z14,z15,z16⟩:=hz'
  obtain ⟨n0,n1,n2,n3,n4,n5,n6,n7,n8,n9,n10,n11,n12,n13,n14,n15,n16⟩:=hn'
  refine ⟨n0.top,n1.top,n2.top,n6.top,n7.top,n9.top,n11.top,n12.top,n13.top,n14.top,n16.top,z3.top.1,z10.top.1,fun u hu=>?_,fun u hu=>?_,fun u hu=>?_,fun u hu=>?_,?_,?_,?_,?_⟩
  · obtain ⟨k,hk,rfl⟩:=List.mem_map.1 hu
    exact (z4.kid hk).top.1
  · obtain ⟨k,hk,rfl⟩:=List.mem_map.1 hu
    exact (z8.kid hk).top.1
  · obtain ⟨k,hk,rfl⟩:=List.mem_map.1 hu
    exact (n5.kid hk).top
  · obtain ⟨k,hk,rfl⟩:=List.mem_map.1 hu
    exact (n15.kid hk).top
  · show (List.map Nd.s y4.kids).length≤_
    rw [List.length_map];exact z4.top.2
  · show (List.map Nd.n y5.kids).length≤_
    rw [List.length_map];exact z5.top.2
  · show (List.map Nd.s y8.kids).length≤_
    rw [List.length_map];exact z8.top.2
  · show (List.map Nd.n y15.kids).length≤_
    rw [List.length_map];exact z15.top.2
set_option maxRecDepth 100000 in
set_option maxHeartbeats 6400000 in
theorem decode_no (B d : Nat) (x : Nd) (M : Option Addr × Nat) (w : World) (hK : KidsAt B 0 (d + 2) w M x.kids) (hz : SzOk 2 x) (hT : isTr x = false) :
    Calls Tryz.prog 79 #[nda x M] w fun e w'=>e=.returned (.tuple #[.agg #[.int .i64 0,.int .i64 0,.int .i64 0,.string ⟨#[]⟩,.slice none 0 0,.slice none 0 0,.int .i64 0,.int .i64 0,.slice none 0 0,.int .i64 0,.string ⟨#[]⟩,.int .i64 0,.int .i64 0,.int .i64 0,.int .i64 0,.slice none 0 0,.int .i64 0],.int .i64 2])∧Ext w w':=by
 have HZ:=Hi hz
 have HK:=Hi hK
 have HT:=Hi hT
 clear hz hT hK
 obtain ⟨CN,hcn,hns⟩:∃ CN:Array Value,nda x M=.agg CN∧CN.size=5:=⟨_,rfl,rfl⟩
 have HIS:=Hi (fun w h=>isTree_v B d x M HT.out w h HZ.out)
 rw [hcn] at HIS ⊢
 have HIN:Hid ((Tryz.prog.info? 52).map (·.size)=some CN.size):=Hi (by rw [hns];kernel_rfl)
 clear hcn hns
 go_enter Tryz.func79,Tryz.ntmps79
 go_wp2_with (refine wpList_load_row rfl _ _ rfl w.heap.size rfl _ CN _ _ (heap_two_fst _ _ _) Tryz.underlying52 rfl HIN.out ?_)
 have X0:=((Ext.refl w).alloc (.cells CN 52)).alloc (.cells #[.int .i64 0,.int .i64 0,.int .i64 0,.string ⟨#[]⟩,.slice none 0 0,.slice none 0 0,.int .i64 0,.int .i64 0,.slice none 0 0,.int .i64 0,.string ⟨#[]⟩,.int .i64 0,.int .i64 0,.int .i64 0,.int .i64 0,.slice none 0 0,.int .i64 0] 45)
 with_reducible refine (HIS.out _ (HK.out.ext X0)).mono ?_
 rintro e w1 ⟨rfl,hb1⟩
 have HB1:=Hi (hb1.blockAt (heap_two_snd w (.cells CN 52) (.cells #[.int .i64 0,.int .i64 0,.int .i64 0,.string ⟨#[]⟩,.slice none 0 0,.slice none 0 0,.int .i64 0,.int .i64 0,.slice none 0 0,.int .i64 0,.string ⟨#[]⟩,.int .i64 0,.int .i64 0,.int .i64 0,.int .i64 0,.slice none 0 0,.int .i64 0] 45)))
 have X1:=Hi (X0.trans hb1)
 clear hb1 X0
 go_wp2_with (refine wpList_store_row rfl _ _ _ rfl (w.heap.size+1) #[.int .i64 0,.int .i64 0,.int .i64 0,.string ⟨#[]⟩,.slice none 0 0,.slice none 0 0,.int .i64 0,.int .i64 0,.slice none 0 0,.int .i64 0,.string ⟨#[]⟩,.int .i64 0,.int .i64 0,.int .i64 0,.int .i64 0,.slice none 0 0,.int .i64 0] rfl rfl _ _ HB1.out (by kernel_rfl) rfl (by simp [Value.oneCell']) ?_)
 have HRS:=setRow_at (cs':=#[.int .i64 0,.int .i64 0,.int .i64 0,.string ⟨#[]⟩,.slice none 0 0,.slice none 0 0,.int .i64 0,.int .i64 0,.slice none 0 0,.int .i64 0,.string ⟨#[]⟩,.int .i64 0,.int .i64 0,.int .i64 0,.int .i64 0,.slice none 0 0,.int .i64 0]) HB1.out
 refine bodyPost_ret (v:=.tuple #[.agg #[.int .i64 0,.int .i64 0,.int .i64 0,.string ⟨#[]⟩,.slice none 0 0,.slice none 0 0,.int .i64 0,.int .i64 0,.slice none 0 0,.int .i64 0,.string ⟨#[]⟩,.int .i64 0,.int .i64 0,.int .i64 0,.int .i64 0,.slice none 0 0,.int .i64 0],.int .i64 2]) (results_cell_tmp Tryz.results79 _ _ (w.heap.size+1) _ _ _ _ rfl HRS Tryz.underlying45 rfl (by kernel_rfl) rfl) rfl ?_
 exact ⟨rfl,X1.out.setRow (Nat.le_succ _) _⟩
theorem isTr_len {x:Nd} (h:isTr x=true):x.kids.length=17:=by
 unfold isTr at h
 simp only [Bool.and_eq_true,decide_eq_true_eq] at h
 exact h.2.1
theorem decode_any (B d : Nat) (x : Nd) (M : Option Addr × Nat) (w : World) (hK : KidsAt B 0 (d + 2) w M x.kids) (hz : SzOk 2 x) (hn : N64 2 x) (hk : ∀ y ∈ x.kids, y.kids.length ≤ 2199023255552) (hg : Gm w) :
    Calls Tryz.prog 79 #[nda x M] w fun e w'=>DecPost (itemOf x.kids) (decErr x) e w'∧Ext w w':=by
 cases hT:isTr x with
 | false =>
  refine (decode_no B d x M w hK hz hT).mono ?_
  rintro e w' ⟨rfl,hb⟩
  have e2:decErr x=2:=by unfold decErr;rw [hT];rfl
  rw [e2]
  exact ⟨⟨fun h=>absurd h (by decide),fun _=>rfl⟩,hb⟩
 | true =>
  have h17:=isTr_len hT
  have hok:=itemOf_ok hz hn h17
  have e2:decErr x=It.vld (itemOf x.kids):=by unfold decErr;rw [hT];rfl
  rw [e2]
  obtain ⟨t,kd,n,s,ks⟩:=x
  have h17':ks.length=17:=h17
  match ks,h17',hK,hz,hT,hk,hok with
  | [y0,y1,y2,y3,y4,y5,y6,y7,y8,y9,y10,y11,y12,y13,y14,y15,y16],_,hK,hz,hT,hk,hok =>
   exact decode_lit B d t kd n s y0 y1 y2 y3 y4 y5 y6 y7 y8 y9 y10 y11 y12 y13 y14 y15 y16 M w hK hz hT hk _ (fun L w hI hG=>valid_any _ L w (hI.in_ hok) hG) hg

namespace It
end It

theorem emptyB:({ data:=#[] }:ByteArray)=ByteArray.empty:=rfl
theorem itemOf_flds (it:It.Item):itemOf (flds it)=it:=by
 have hs:∀ l:List ByteArray,(l.map leafS).map Nd.s=l:=fun l=>by rw [List.map_map];exact List.map_id' l
 have hi:∀ l:List Int,(l.map leafI).map Nd.n=l:=fun l=>by rw [List.map_map];exact List.map_id' l
 show (⟨it.id,it.ver,it.kind,it.stem,(it.opts.map leafS).map Nd.s,(it.chs.map leafI).map Nd.n,it.value,it.tol,(it.texts.map leafS).map Nd.s,it.pts,it.cont,it.fam,it.set_,it.wrd,it.sec,(it.assets.map leafI).map Nd.n,it.rub⟩:It.Item)=it
 rw [hs,hs,hi,hi]
theorem isLst_I (tag:Int) (l:List Int):isLst (.mk tag 3 0 ⟨#[]⟩ (l.map leafI)) tag 1=true:=by
 unfold isLst
 rw [Bool.and_eq_true,List.all_eq_true]
 refine ⟨fun k hk=>?_,by simp [isNd,Nd.tag,Nd.kind,Nd.n,Nd.s,emptyB]⟩
 obtain ⟨x,_,rfl⟩:=List.mem_map.1 (show k∈l.map leafI from hk)
 simp [isNd,leafI,Nd.tag,Nd.kind,Nd.n,Nd.s,Nd.kids,emptyB]
theorem isLst_S (tag:Int) (l:List ByteArray):isLst (.mk tag 3 0 ⟨#[]⟩ (l.map leafS)) tag 2=true:=by
 unfold isLst
 rw [Bool.and_eq_true,List.all_eq_true]
 refine ⟨fun k hk=>?_,by simp [isNd,Nd.tag,Nd.kind,Nd.n,Nd.s,emptyB]⟩
 obtain ⟨x,_,rfl⟩:=List.mem_map.1 (show k∈l.map leafS from hk)
 simp [isNd,leafS,Nd.tag,Nd.kind,Nd.n,Nd.s,Nd.kids]
theorem isTr_tree (it:It.Item):isTr (tree it)=true:=by
 unfold isTr
 rw [Bool.and_eq_true,Bool.and_eq_true,It.allN_iff]
 refine ⟨by simp [isNd,tree,Nd.tag,Nd.kind,Nd.n,Nd.s,emptyB],rfl,fun i hi=>?_⟩
 match i,hi with
 | 0,_=>simp [fldOk,tree,flds,isNd,Nd.tag,Nd.kind,Nd.n,Nd.s,Nd.kids,emptyB]
 | 1,_=>simp [fldOk,tree,flds,isNd,Nd.tag,Nd.kind,Nd.n,Nd.s,Nd.kids,emptyB]
 | 2,_=>simp [fldOk,tree,flds,isNd,Nd.tag,Nd.kind,Nd.n,Nd.s,Nd.kids,emptyB]
 | 3,_=>simp [fldOk,tree,flds,isNd,Nd.tag,Nd.kind,Nd.n,Nd.s,Nd.kids,emptyB]
 | 4,_=>exact isLst_S 5 _
 | 5,_=>exact isLst_I 6 _
 | 6,_=>simp [fldOk,tree,flds,isNd,Nd.tag,Nd.kind,Nd.n,Nd.s,Nd.kids,emptyB]
 | 7,_=>simp [fldOk,tree,flds,isNd,Nd.tag,Nd.kind,Nd.n,Nd.s,Nd.kids,emptyB]
 | 8,_=>exact isLst_S 9 _
 | 9,_=>simp [fldOk,tree,flds,isNd,Nd.tag,Nd.kind,Nd.n,Nd.s,Nd.kids,emptyB]
 | 10,_=>simp [fldOk,tree,flds,isNd,Nd.tag,Nd.kind,Nd.n,Nd.s,Nd.kids,emptyB]
 | 11,_=>simp [fldOk,tree,flds,isNd,Nd.tag,Nd.kind,Nd.n,Nd.s,Nd.kids,emptyB]
 | 12,_=>simp [fldOk,tree,flds,isNd,Nd.tag,Nd.kind,Nd.n,Nd.s,Nd.kids,emptyB]
 | 13,_=>simp [fldOk,tree,flds,isNd,Nd.tag,Nd.kind,Nd.n,Nd.s,Nd.kids,emptyB]
 | 14,_=>simp [fldOk,tree,flds,isNd,Nd.tag,Nd.kind,Nd.n,Nd.s,Nd.kids,emptyB]
 | 15,_=>exact isLst_I 16 _
 | 16,_=>simp [fldOk,tree,flds,isNd,Nd.tag,Nd.kind,Nd.n,Nd.s,Nd.kids,emptyB]
 | i+17,hi=>exact absurd hi (by omega)
def EncPost (it:It.Item) (er:Int) (lo:Nat) (e:Ending) (w':World):Prop :=
 (er=0→∃ M:Option Addr×Nat,e=.returned (.tuple #[nda (tree it) M,.int .i64 0])∧KidsAt 1000 lo 2 w' M (flds it))∧(er≠0→e=.returned (.tuple #[.agg #[.int .i64 0,.int .i64 0,.int .i64 0,.string ⟨#[]⟩,.slice none 0 0],.int .i64 er]))
set_option maxRecDepth 100000 in
set_option maxHeartbeats 6400000 in
theorem encode_bad (it : It.Item) (L : It.Loc) (w : World) (h : It.In w it L) (hg : ∀ w', Ext w w' → Gm w') (hv : It.vld it ≠ 0) :
    Calls Tryz.prog 23 #[It.agg it L] w fun e w'=>e=.returned (.tuple #[.agg #[.int .i64 0,.int .i64 0,.int .i64 0,.string ⟨#[]⟩,.slice none 0 0],.int .i64 (It.vld it)])∧Ext w w':=by
 obtain ⟨CA,hca,hna,-,-⟩:=It.packed it L
 have HV:=Hi (valid_any it L)
 rw [hca] at HV ⊢
 have IA:=Hi (infoItem hna)
 have H:=Hi h
 have HG:=Hi hg
 obtain ⟨er,her⟩:∃ er,It.vld it=er:=⟨_,rfl⟩
 rw [her] at HV hv ⊢
 have t0:(er != 0)=true:=by rw [bne_iff_ne];exact hv
 clear hca hna h hg her hv
 go_enter Tryz.func23,Tryz.ntmps23
 go_wp2_with (refine wpList_load_row rfl _ _ rfl w.heap.size rfl _ CA _ _ (heap_two_fst _ _ _) Tryz.underlying45 rfl IA.out ?_)
 have X0:=((Ext.refl w).alloc (.cells CA 45)).alloc (.cells #[.int .i64 0,.int .i64 0,.int .i64 0,.string ⟨#[]⟩,.slice none 0 0] 52)
 with_reducible refine (HV.out _ (H.out.ext X0) (HG.out _ X0)).mono ?_
 rintro e w1 ⟨rfl,hb1⟩
 have HB1:=Hi (hb1.blockAt (heap_two_snd w (.cells CA 45) (.cells #[.int .i64 0,.int .i64 0,.int .i64 0,.string ⟨#[]⟩,.slice none 0 0] 52)))
 have X1:=Hi (X0.trans hb1)
 clear hb1 X0
 go_wp2_with (refine wpList_store_row rfl _ _ _ rfl (w.heap.size+1) #[.int .i64 0,.int .i64 0,.int .i64 0,.string ⟨#[]⟩,.slice none 0 0] rfl rfl _ _ HB1.out (by kernel_rfl) rfl (by simp [Value.oneCell']) ?_)
 have HRS:=setRow_at (cs':=#[.int .i64 0,.int .i64 0,.int .i64 0,.string ⟨#[]⟩,.slice none 0 0]) HB1.out
 refine bodyPost_ret (v:=.tuple #[.agg #[.int .i64 0,.int .i64 0,.int .i64 0,.string ⟨#[]⟩,.slice none 0 0],.int .i64 er]) (results_cell_tmp Tryz.results23 _ _ (w.heap.size+1) _ _ _ _ rfl HRS Tryz.underlying52 rfl (by kernel_rfl) rfl) rfl ?_
 exact ⟨rfl,X1.out.setRow (Nat.le_succ _) _⟩
theorem encode_any (it : It.Item) (L : It.Loc) (w : World) (h : It.In w it L) (hg : ∀ w', Ext w w' → Gm w') :
    Calls Tryz.prog 23 #[It.agg it L] w fun e w'=>EncPost it (It.vld it) w.heap.size e w'∧Ext w w':=by
 by_cases hv:It.vld it=0
 · obtain ⟨h1,h2,h3,h4⟩:=It.vld_small hv
   refine (encode_ok it L w h (fun w' he hI=>?_) (by omega) (by omega) (by omega) (by omega)).mono ?_
   · have:=valid_any it L w' hI (hg w' he)
     rwa [hv] at this
   · rintro e w' ⟨he,hb⟩
     exact ⟨⟨fun _=>he,fun hn=>absurd hv hn⟩,hb⟩
 · refine (encode_bad it L w h hg hv).mono ?_
   rintro e w' ⟨rfl,hb⟩
   exact ⟨⟨fun h0=>absurd h0 hv,fun _=>rfl⟩,hb⟩

namespace It
end It
end Go.Proofs.YtnlenappjjlbjaaGreatDoor
namespace Go.Proofs.YtnlenappjjlbjaaGreatDoor
open Go.RowKit

set_option maxRecDepth 100000 in
set_option maxHeartbeats 6400000 in
theorem rlines_any (B d : Nat) (x : Nd) (M : Option Addr × Nat) (w : World) (hK : KidsAt B 0 (d + 1) w M x.kids) (hl : x.kids.length ≤ 8796093021952) :
    Calls Tryz.prog 84 #[nda x M] w fun e w'=>(∃ (A:Option Addr) (c:Nat),e=.returned (.slice A x.kids.length c)∧SlS w' A (x.kids.map Nd.s)∧x.kids.length≤c∧c≤maxLen∧TyB w' A 9)∧Ext w w':=by
 have HK:=Hi hK
 clear hK
 obtain ⟨i0,hi0,hz0,hz1,hz2⟩:=info_parts Tryz.infoStr
 obtain ⟨A,c⟩:=M
 unfold nda
 dsimp only
 go_enter Tryz.func84,Tryz.ntmps84
 go_wp2
 go_loopw [3,9] (fun l i wr=>∃ k:Nat,k≤x.kids.length∧i=.int .i64 k∧Hid (wr.ownsRow (w.heap.size+1) 9 1 l k ((x.kids.take k).map fun y=>Value.string y.s))∧Ext (w.alloc (.cells #[.int .i64 x.tag,.int .i64 x.kind,.int .i64 x.n,.string x.s,.slice A x.kids.length c] 52)) wr) (fun _ i _=>x.kids.length-(intOf i).toNat)
 case atStart=>exact ⟨0,by omega,rfl,Hi (own_nil _ _ _ _),Ext.refl _⟩
 case round =>
  obtain ⟨k,hk,rfl,HO,he⟩:=hrel
  have hew:Hid (Ext w wr):=Hi (((Ext.refl w).alloc _).trans he)
  have hwr:w.heap.size+1≤wr.heap.size:=by have:=he.size;simpa using this
  by_cases hlt:k<x.kids.length
  · obtain ⟨y,hy⟩:∃ y,x.kids[k]?=some y:=⟨x.kids[k],List.getElem?_eq_getElem hlt⟩
    obtain ⟨b,off,N,hA,hb,c0,c1,c2,c3,c4,hKN⟩:=(HK.out.ext hew.out).at_ hy
    dsimp only at hA
    subst hA
    have HT:Hid ((x.kids.take (k+1)).map (fun y=>Value.string y.s)=(x.kids.take k).map (fun y=>Value.string y.s) ++ [Value.string y.s]):=Hi (by rw [List.take_add_one,hy,List.map_append];rfl)
    clear hy hKN
    have ki0:(0:Int)≤(k:Int):=by omega
    have ki1:(k:Int)<(x.kids.length:Int):=by omega
    obtain ⟨A1,c5,rfl⟩:=own_form HO.out
    go_wp2_with (at_builtin;refine wpList_append_lies _ rfl _ _ 42 rfl (w.heap.size+1) 9 i0 (.string ⟨#[]⟩) 1 16 Tryz.underlying42 hi0 hz0 hz1 hz2 rfl (by decide) _ _ _ rfl ((HO.out.alloc _).alloc _) ⟨wr.heap.size+1,0,none⟩ 1 1 [Value.string y.s] rfl rfl (World.news_of_block (heap_new_at _ _ _ (by simp))) (by simp [Value.oneCell']) (by decide) (by unfold maxLen;omega) (by omega) (by simp;omega) (wr.heap.size+1+1) (by simp) ?_;intro gg cap w2 hown2 hgrow2 hat hlt2)
    have HO2:Hid (w2.ownsRow (w.heap.size+1) 9 1 (.slice (some ⟨gg,0,none⟩) (k+1) cap) (k+1) ((x.kids.take (k+1)).map fun y=>Value.string y.s)):=Hi (by rw [HT.out];exact hown2)
    have X2:=Hi (((he.alloc _).alloc _).grown hgrow2 (fun q hq=>by have:=own_ge HO.out q hq;simp;omega))
    clear hown2 hgrow2 hat
    go_wp2
    go_roundw
    case rel=>exact ⟨k+1,by omega,by go_num,HO2,X2.out⟩
    case measure=>simp [intOf];omega
  · obtain rfl:k=x.kids.length:=by omega
    obtain ⟨A1,c5,rfl⟩:=own_form HO.out
    have HO3:Hid (wr.ownsRow (w.heap.size+1) 9 1 (.slice A1 x.kids.length c5) x.kids.length (x.kids.map fun y=>Value.string y.s)):=Hi (by have:=HO.out;rwa [List.take_length] at this)
    obtain ⟨A2,c6,e,h1,h2,h3⟩:=(show RowS (w.heap.size+1) (x.kids.map Nd.s) wr (.slice A1 x.kids.length c5) from by unfold RowS;rw [List.length_map,List.map_map];exact HO3.out).sl
    rw [List.length_map] at h1
    simp at e
    obtain ⟨rfl,rfl⟩:=e
    go_wp2
    go_ret
    exact ⟨⟨A1,c5,rfl,h3,h1,h2,TyB.own HO3.out⟩,hew.out⟩
set_option maxRecDepth 100000 in
set_option maxHeartbeats 6400000 in
theorem rints_any (B d : Nat) (x : Nd) (M : Option Addr × Nat) (w : World) (hK : KidsAt B 0 (d + 1) w M x.kids) (hl : x.kids.length ≤ 8796093021952) :
    Calls Tryz.prog 85 #[nda x M] w fun e w'=>(∃ (A:Option Addr) (c:Nat),e=.returned (.slice A x.kids.length c)∧SlI w' A (x.kids.map Nd.n)∧x.kids.length≤c∧c≤maxLen∧TyB w' A 3)∧Ext w w':=by
 have HK:=Hi hK
 clear hK
 obtain ⟨i0,hi0,hz0,hz1,hz2⟩:=info_parts Tryz.infoInt
 obtain ⟨A,c⟩:=M
 unfold nda
 dsimp only
 go_enter Tryz.func85,Tryz.ntmps85
 go_wp2
 go_loopw [3,9] (fun l i wr=>∃ k:Nat,k≤x.kids.length∧i=.int .i64 k∧Hid (wr.ownsRow (w.heap.size+1) 3 1 l k ((x.kids.take k).map fun y=>Value.int .i64 y.n))∧Ext (w.alloc (.cells #[.int .i64 x.tag,.int .i64 x.kind,.int .i64 x.n,.string x.s,.slice A x.kids.length c] 52)) wr) (fun _ i _=>x.kids.length-(intOf i).toNat)
 case atStart=>exact ⟨0,by omega,rfl,Hi (own_nil _ _ _ _),Ext.refl _⟩
 case round =>
  obtain ⟨k,hk,rfl,HO,he⟩:=hrel
  have hew:Hid (Ext w wr):=Hi (((Ext.refl w).alloc _).trans he)
  have hwr:w.heap.size+1≤wr.heap.size:=by have:=he.size;simpa using this
  by_cases hlt:k<x.kids.length
  · obtain ⟨y,hy⟩:∃ y,x.kids[k]?=some y:=⟨x.kids[k],List.getElem?_eq_getElem hlt⟩
    obtain ⟨b,off,N,hA,hb,c0,c1,c2,c3,c4,hKN⟩:=(HK.out.ext hew.out).at_ hy
    dsimp only at hA
    subst hA
    have HT:Hid ((x.kids.take (k+1)).map (fun y=>Value.int .i64 y.n)=(x.kids.take k).map (fun y=>Value.int .i64 y.n) ++ [Value.int .i64 y.n]):=Hi (by rw [List.take_add_one,hy,List.map_append];rfl)
    clear hy hKN
    have ki0:(0:Int)≤(k:Int):=by omega
    have ki1:(k:Int)<(x.kids.length:Int):=by omega
    obtain ⟨A1,c5,rfl⟩:=own_form HO.out
    go_wp2_with (at_builtin;refine wpList_append_lies _ rfl _ _ 43 rfl (w.heap.size+1) 3 i0 (.int .i64 0) 1 8 Tryz.underlying43 hi0 hz0 hz1 hz2 rfl (by decide) _ _ _ rfl ((HO.out.alloc _).alloc _) ⟨wr.heap.size+1,0,none⟩ 1 1 [Value.int .i64 y.n] rfl rfl (World.news_of_block (heap_new_at _ _ _ (by simp))) (by simp [Value.oneCell']) (by decide) (by unfold maxLen;omega) (by omega) (by simp;omega) (wr.heap.size+1+1) (by simp) ?_;intro gg cap w2 hown2 hgrow2 hat hlt2)
    have HO2:Hid (w2.ownsRow (w.heap.size+1) 3 1 (.slice (some ⟨gg,0,none⟩) (k+1) cap) (k+1) ((x.kids.take (k+1)).map fun y=>Value.int .i64 y.n)):=Hi (by rw [HT.out];exact hown2)
    have X2:=Hi (((he.alloc _).alloc _).grown hgrow2 (fun q hq=>by have:=own_ge HO.out q hq;simp;omega))
    clear hown2 hgrow2 hat
    go_wp2
    go_roundw
    case rel=>exact ⟨k+1,by omega,by go_num,HO2,X2.out⟩
    case measure=>simp [intOf];omega
  · obtain rfl:k=x.kids.length:=by omega
    obtain ⟨A1,c5,rfl⟩:=own_form HO.out
    have HO3:Hid (wr.ownsRow (w.heap.size+1) 3 1 (.slice A1 x.kids.length c5) x.kids.length (x.kids.map fun y=>Value.int .i64 y.n)):=Hi (by have:=HO.out;rwa [List.take_length] at this)
    obtain ⟨A2,c6,e,h1,h2,h3⟩:=(SlI.of_own (xs:=x.kids.map Nd.n) (n:=x.kids.length) (v:=.slice A1 x.kids.length c5) (by rw [List.map_map];exact HO3.out))
    rw [List.length_map] at h1
    simp at e
    obtain ⟨rfl,rfl⟩:=e
    go_wp2
    go_ret
    exact ⟨⟨A1,c5,rfl,h3,h1,h2,TyB.own HO3.out⟩,hew.out⟩
theorem formed_v1 (x : Nd) (M : Option Addr × Nat) (tag : Int) {v : Bool} (hv : isNd x tag 1 = v) (w : World) (hs : x.s.size ≤ 140737488351232) (hl : x.kids.length ≤ 140737488351232) :
    Calls Tryz.prog 82 #[.agg #[.int .i64 x.tag,.int .i64 x.kind,.int .i64 x.n,.string x.s,.slice M.1 x.kids.length M.2],.int .i64 tag,.int .i64 1] w fun e w'=>e=.returned (.bool v)∧Ext w w':=by
 subst hv;exact formed_1 x M tag w (by omega) (by omega)
theorem formed_v2 (x : Nd) (M : Option Addr × Nat) (tag : Int) {v : Bool} (hv : isNd x tag 2 = v) (w : World) (hs : x.s.size ≤ 140737488351232) (hl : x.kids.length ≤ 140737488351232) :
    Calls Tryz.prog 82 #[.agg #[.int .i64 x.tag,.int .i64 x.kind,.int .i64 x.n,.string x.s,.slice M.1 x.kids.length M.2],.int .i64 tag,.int .i64 2] w fun e w'=>e=.returned (.bool v)∧Ext w w':=by
 subst hv;exact formed_2 x M tag w (by omega) (by omega)
theorem formed_v3 (x : Nd) (M : Option Addr × Nat) (tag : Int) {v : Bool} (hv : isNd x tag 3 = v) (w : World) (hs : x.s.size ≤ 140737488351232) (hl : x.kids.length ≤ 140737488351232) :
    Calls Tryz.prog 82 #[.agg #[.int .i64 x.tag,.int .i64 x.kind,.int .i64 x.n,.string x.s,.slice M.1 x.kids.length M.2],.int .i64 tag,.int .i64 3] w fun e w'=>e=.returned (.bool v)∧Ext w w':=by
 subst hv;exact formed_3 x M tag w (by omega) (by omega)
set_option maxRecDepth 100000 in
set_option maxHeartbeats 6400000 in
theorem listed_1 (B : Nat) (d : Nat) (x : Nd) (M : Option Addr × Nat) (tag : Int) {v : Bool} (hv : isLst x tag 1 = v) (w : World) (hK : KidsAt B 0 (d + 1) w M x.kids) (hz : SzOk 1 x) :
    Calls Tryz.prog 83 #[.agg #[.int .i64 x.tag,.int .i64 x.kind,.int .i64 x.n,.string x.s,.slice M.1 x.kids.length M.2],.int .i64 tag,.int .i64 1] w fun e w'=>e=.returned (.bool v)∧Ext w w':=by
 have HZ:=Hi hz
 have hs:=hz.top.1
 have hl:=hz.top.2
 have HK:=Hi hK
 have HV:Hid (isLst x tag 1=v):=Hi hv
 clear hz hK hv
 obtain ⟨A,c⟩:=M
 dsimp only
 obtain ⟨q0,hq0⟩:∃ q,isNd x tag 3=q:=⟨_,rfl⟩
 have HQ0:=Hi hq0
 clear hq0
 go_enter Tryz.func83,Tryz.ntmps83
 go_wp2_with fail
 refine (formed_v3 x (A,c) tag HQ0.out _ hs hl).mono ?_
 rintro e w1 ⟨rfl,hb1⟩
 obtain ⟨⟨b0,b1,b2,b3,b4⟩,hfr,hlt0⟩:=block5 hb1
 have X1:Hid (Ext w w1):=Hi (((Ext.refl w).alloc _).trans hb1)
 clear hfr hb1
 cases q0 with
 | false =>
  have HF:Hid (v=false):=Hi (by rw [← HV.out];unfold isLst;rw [HQ0.out,Bool.and_false])
  go_wp2
  go_ret
  exact ⟨ret_bool HF.out.symm,X1.out⟩
 | true =>
 have HV2:Hid (x.kids.all (fun k=>isNd k 0 1)=v):=Hi (by rw [← HV.out];unfold isLst;rw [HQ0.out,Bool.and_true])
 go_wp2
 go_loopw [16] (fun i wr=>∃ k:Nat,k≤x.kids.length∧i=.int .i64 k∧Hid ((x.kids.take k).all (fun k=>isNd k 0 1)=true)∧Hid (Ext w1 wr)) (fun i _=>x.kids.length-(intOf i).toNat)
 case atStart=>exact ⟨0,by omega,rfl,Hi rfl,Hi (Ext.refl _)⟩
 case round =>
  obtain ⟨k,hk,rfl,HA,HE⟩:=hrel
  have hew:Hid (Ext w wr):=Hi (X1.out.trans HE.out)
  by_cases hlt:k<x.kids.length
  · obtain ⟨y,hy⟩:∃ y,x.kids[k]?=some y:=⟨x.kids[k],List.getElem?_eq_getElem hlt⟩
    obtain ⟨b,off,N,hA,hb,c0,c1,c2,c3,c4,hKN⟩:=(HK.out.ext hew.out).at_ hy
    dsimp only at hA
    subst hA
    have HY:=Hi hy
    have hyz:SzOk 0 y:=HZ.out.2 y (List.mem_of_getElem? hy)
    have hys:y.s.size≤140737488351232:=hyz.1
    have hyl:y.kids.length≤140737488351232:=hyz.2
    clear hy hKN hyz
    have ki0:(0:Int)≤(k:Int):=by omega
    have ki1:(k:Int)<(x.kids.length:Int):=by omega
    obtain ⟨q,hq⟩:∃ q,isNd y 0 1=q:=⟨_,rfl⟩
    have HQ:=Hi hq
    clear hq
    cases q with
    | false =>
     have HF:Hid (v=false):=Hi (by rw [← HV2.out];exact nds_no HY.out HQ.out)
     go_wp2_with fail
     refine (formed_v1 y N 0 HQ.out _ hys hyl).mono ?_
     rintro e w2 ⟨rfl,hb2⟩
     have X2:Hid (Ext w w2):=Hi ((hew.out.alloc _).trans hb2)
     clear hb2
     go_wp2
     go_ret
     exact ⟨ret_bool HF.out.symm,X2.out⟩
    | true =>
     have HN:=Hi (nds_next (p:=fun k=>isNd k 0 1) HY.out HA.out HQ.out)
     go_wp2_with fail
     refine (formed_v1 y N 0 HQ.out _ hys hyl).mono ?_
     rintro e w2 ⟨rfl,hb2⟩
     have X2:=Hi ((HE.out.alloc _).trans hb2)
     clear hb2
     go_wp2
     go_roundw
     case rel=>exact ⟨k+1,by omega,by go_num,HN,X2⟩
     case measure=>simp [intOf];omega
  · obtain rfl:k=x.kids.length:=by omega
    have HF:Hid (v=true):=Hi (by rw [← HV2.out];have:=HA.out;rwa [List.take_length] at this)
    go_wp2
    go_ret
    exact ⟨ret_bool HF.out.symm,hew.out⟩
set_option maxRecDepth 100000 in
set_option maxHeartbeats 6400000 in
theorem listed_2 (B : Nat) (d : Nat) (x : Nd) (M : Option Addr × Nat) (tag : Int) {v : Bool} (hv : isLst x tag 2 = v) (w : World) (hK : KidsAt B 0 (d + 1) w M x.kids) (hz : SzOk 1 x) :
    Calls Tryz.prog 83 #[.agg #[.int .i64 x.tag,.int .i64 x.kind,.int .i64 x.n,.string x.s,.slice M.1 x.kids.length M.2],.int .i64 tag,.int .i64 2] w fun e w'=>e=.returned (.bool v)∧Ext w w':=by
 have HZ:=Hi hz
 have hs:=hz.top.1
 have hl:=hz.top.2
 have HK:=Hi hK
 have HV:Hid (isLst x tag 2=v):=Hi hv
 clear hz hK hv
 obtain ⟨A,c⟩:=M
 dsimp only
 obtain ⟨q0,hq0⟩:∃ q,isNd x tag 3=q:=⟨_,rfl⟩
 have HQ0:=Hi hq0
 clear hq0
 go_enter Tryz.func83,Tryz.ntmps83
 go_wp2_with fail
 refine (formed_v3 x (A,c) tag HQ0.out _ hs hl).mono ?_
 rintro e w1 ⟨rfl,hb1⟩
 obtain ⟨⟨b0,b1,b2,b3,b4⟩,hfr,hlt0⟩:=block5 hb1
 have X1:Hid (Ext w w1):=Hi (((Ext.refl w).alloc _).trans hb1)
 clear hfr hb1
 cases q0 with
 | false =>
  have HF:Hid (v=false):=Hi (by rw [← HV.out];unfold isLst;rw [HQ0.out,Bool.and_false])
  go_wp2
  go_ret
  exact ⟨ret_bool HF.out.symm,X1.out⟩
 | true =>
 have HV2:Hid (x.kids.all (fun k=>isNd k 0 2)=v):=Hi (by rw [← HV.out];unfold isLst;rw [HQ0.out,Bool.and_true])
 go_wp2
 go_loopw [16] (fun i wr=>∃ k:Nat,k≤x.kids.length∧i=.int .i64 k∧Hid ((x.kids.take k).all (fun k=>isNd k 0 2)=true)∧Hid (Ext w1 wr)) (fun i _=>x.kids.length-(intOf i).toNat)
 case atStart=>exact ⟨0,by omega,rfl,Hi rfl,Hi (Ext.refl _)⟩
 case round =>
  obtain ⟨k,hk,rfl,HA,HE⟩:=hrel
  have hew:Hid (Ext w wr):=Hi (X1.out.trans HE.out)
  by_cases hlt:k<x.kids.length
  · obtain ⟨y,hy⟩:∃ y,x.kids[k]?=some y:=⟨x.kids[k],List.getElem?_eq_getElem hlt⟩
    obtain ⟨b,off,N,hA,hb,c0,c1,c2,c3,c4,hKN⟩:=(HK.out.ext hew.out).at_ hy
    dsimp only at hA
    subst hA
    have HY:=Hi hy
    have hyz:SzOk 0 y:=HZ.out.2 y (List.mem_of_getElem? hy)
    have hys:y.s.size≤140737488351232:=hyz.1
    have hyl:y.kids.length≤140737488351232:=hyz.2
    clear hy hKN hyz
    have ki0:(0:Int)≤(k:Int):=by omega
    have ki1:(k:Int)<(x.kids.length:Int):=by omega
    obtain ⟨q,hq⟩:∃ q,isNd y 0 2=q:=⟨_,rfl⟩
    have HQ:=Hi hq
    clear hq
    cases q with
    | false =>
     have HF:Hid (v=false):=Hi (by rw [← HV2.out];exact nds_no HY.out HQ.out)
     go_wp2_with fail
     refine (formed_v2 y N 0 HQ.out _ hys hyl).mono ?_
     rintro e w2 ⟨rfl,hb2⟩
     have X2:Hid (Ext w w2):=Hi ((hew.out.alloc _).trans hb2)
     clear hb2
     go_wp2
     go_ret
     exact ⟨ret_bool HF.out.symm,X2.out⟩
    | true =>
     have HN:=Hi (nds_next (p:=fun k=>isNd k 0 2) HY.out HA.out HQ.out)
     go_wp2_with fail
     refine (formed_v2 y N 0 HQ.out _ hys hyl).mono ?_
     rintro e w2 ⟨rfl,hb2⟩
     have X2:=Hi ((HE.out.alloc _).trans hb2)
     clear hb2
     go_wp2
     go_roundw
     case rel=>exact ⟨k+1,by omega,by go_num,HN,X2⟩
     case measure=>simp [intOf];omega
  · obtain rfl:k=x.kids.length:=by omega
    have HF:Hid (v=true):=Hi (by rw [← HV2.out];have:=HA.out;rwa [List.take_length] at this)
    go_wp2
    go_ret
    exact ⟨ret_bool HF.out.symm,hew.out⟩
end Go.Proofs.YtnlenappjjlbjaaGreatDoor
namespace Go.Proofs.YtnlenappjjlbjaaGreatDoor
open Go.RowKit Go.Shelf


def StbR (p:Option Value→World→Prop):Prop:=(∀ u w w',Ext w w'→p u w→p u w')∧∀ u w q (cs:Array Value),cs.size=17→BlkI w q→p u w→p u (w.setRow q cs)
theorem rd_val (v:Value):StbR (fun u _=>u=some v):=⟨fun _ _ _ _ h=>h,fun _ _ _ _ _ _ h=>h⟩
theorem rd_true:StbR (fun _ _=>True):=⟨fun _ _ _ _ _=>trivial,fun _ _ _ _ _ _ _=>trivial⟩
theorem rd_ss (n:Nat) (xs:List ByteArray):StbR (fun u w=>∃ (A:Option Addr) (c:Nat),u=some (.slice A n c)∧SlS w A xs∧n≤c∧c≤maxLen∧TyB w A 9) :=
 ⟨fun _ _ _ he ⟨A,c,e,h1,h2,h3,h4⟩=>⟨A,c,e,h1.ext he,h2,h3,h4.ext he⟩,fun _ _ _ cs _ hq ⟨A,c,e,h1,h2,h3,h4⟩=>by
  obtain ⟨c0,q1,_⟩:=hq
  have o:=h4.other q1 (by decide)
  exact ⟨A,c,e,Sl.setRow h1 o cs,h2,h3,h4.setRow o cs⟩⟩
theorem rd_si (n:Nat) (xs:List Int):StbR (fun u w=>∃ (A:Option Addr) (c:Nat),u=some (.slice A n c)∧SlI w A xs∧n≤c∧c≤maxLen∧TyB w A 3) :=
 ⟨fun _ _ _ he ⟨A,c,e,h1,h2,h3,h4⟩=>⟨A,c,e,h1.ext he,h2,h3,h4.ext he⟩,fun _ _ _ cs _ hq ⟨A,c,e,h1,h2,h3,h4⟩=>by
  obtain ⟨c0,q1,_⟩:=hq
  have o:=h4.other q1 (by decide)
  exact ⟨A,c,e,Sl.setRow h1 o cs,h2,h3,h4.setRow o cs⟩⟩
theorem rd_it (it:It.Item):StbR (fun u w=>∃ L,u=some (It.agg it L)∧InX w it L) :=
 ⟨fun _ _ _ he ⟨L,e,h⟩=>⟨L,e,h.ext he⟩,fun _ _ _ cs hs hq ⟨L,e,h⟩=>⟨L,e,h.setRow hq cs hs⟩⟩
theorem BlkI.setRow {w:World} {q0:Nat} (h:BlkI w q0) (q:Nat) (cs:Array Value) (hs:cs.size=17):BlkI (w.setRow q cs) q0:=by
 obtain ⟨c0,h1,h2⟩:=h
 by_cases e:q0=q
 · subst e;exact ⟨cs,setRow_at h1,hs⟩
 · exact ⟨c0,by rw [setRow_other _ _ e];exact h1,h2⟩
theorem rd_al (g:Nat):StbR (fun u w=>∃ q:Nat,u=some (.pointer (some ⟨q,0,none⟩))∧g≤q∧BlkI w q) :=
 ⟨fun _ _ _ he ⟨q,e,h1,h⟩=>⟨q,e,h1,h.ext he⟩,fun _ _ q' cs hs _ ⟨q,e,h1,h⟩=>⟨q,e,h1,h.setRow q' cs hs⟩⟩
def AllStR:List (Option Value→World→Prop)→Prop
 | []=>True
 | p :: l=>StbR p∧AllStR l
theorem AllStR.at_:∀ {l:List (Option Value→World→Prop)},AllStR l→∀ j,StbR (l.getD j fun _ _=>True)
 | [],_,_=>rd_true
 | _ :: _,h,0=>h.1
 | p :: l,h,j+1=>by simpa using AllStR.at_ h.2 j
def rdfL (g b off c:Nat) (y0 y1 y2 y3 y4 y5 y6 y7 y8 y9 y10 y11 y12 y13 y14 y15 y16:Nd) (N4 N5 N8 N15:Option Addr×Nat):List (Option Value→World→Prop):=[fun u _=>u=some (.slice (some ⟨b,off,none⟩) 17 c),
 fun u _=>u=some (.pointer (some ⟨b,off,none⟩)),
 fun u _=>u=some (.pointer (some ⟨b,off+2,none⟩)),
 fun u _=>u=some (.int .i64 y0.n),
 fun u _=>u=some (.slice (some ⟨b,off,none⟩) 17 c),
 fun u _=>u=some (.pointer (some ⟨b,off+5,none⟩)),
 fun u _=>u=some (.pointer (some ⟨b,off+7,none⟩)),
 fun u _=>u=some (.int .i64 y1.n),
 fun u _=>u=some (.slice (some ⟨b,off,none⟩) 17 c),
 fun u _=>u=some (.pointer (some ⟨b,off+10,none⟩)),
 fun u _=>u=some (.pointer (some ⟨b,off+12,none⟩)),
 fun u _=>u=some (.int .i64 y2.n),
 fun u _=>u=some (.slice (some ⟨b,off,none⟩) 17 c),
 fun u _=>u=some (.pointer (some ⟨b,off+15,none⟩)),
 fun u _=>u=some (.pointer (some ⟨b,off+18,none⟩)),
 fun u _=>u=some (.string y3.s),
 fun u _=>u=some (.slice (some ⟨b,off,none⟩) 17 c),
 fun u _=>u=some (.pointer (some ⟨b,off+20,none⟩)),
 fun u _=>u=some (.agg #[.int .i64 y4.tag,.int .i64 y4.kind,.int .i64 y4.n,.string y4.s,.slice N4.1 y4.kids.length N4.2]),
 fun u w=>∃ (A:Option Addr) (c:Nat),u=some (.slice A y4.kids.length c)∧SlS w A (y4.kids.map Nd.s)∧y4.kids.length≤c∧c≤maxLen∧TyB w A 9,
 fun u _=>u=some (.slice (some ⟨b,off,none⟩) 17 c),
 fun u _=>u=some (.pointer (some ⟨b,off+25,none⟩)),
 fun u _=>u=some (.agg #[.int .i64 y5.tag,.int .i64 y5.kind,.int .i64 y5.n,.string y5.s,.slice N5.1 y5.kids.length N5.2]),
 fun u w=>∃ (A:Option Addr) (c:Nat),u=some (.slice A y5.kids.length c)∧SlI w A (y5.kids.map Nd.n)∧y5.kids.length≤c∧c≤maxLen∧TyB w A 3,
 fun u _=>u=some (.slice (some ⟨b,off,none⟩) 17 c),
 fun u _=>u=some (.pointer (some ⟨b,off+30,none⟩)),
 fun u _=>u=some (.pointer (some ⟨b,off+32,none⟩)),
 fun u _=>u=some (.int .i64 y6.n),
 fun u _=>u=some (.slice (some ⟨b,off,none⟩) 17 c),
 fun u _=>u=some (.pointer (some ⟨b,off+35,none⟩)),
 fun u _=>u=some (.pointer (some ⟨b,off+37,none⟩)),
 fun u _=>u=some (.int .i64 y7.n),
 fun u _=>u=some (.slice (some ⟨b,off,none⟩) 17 c),
 fun u _=>u=some (.pointer (some ⟨b,off+40,none⟩)),
 fun u _=>u=some (.agg #[.int .i64 y8.tag,.int .i64 y8.kind,.int .i64 y8.n,.string y8.s,.slice N8.1 y8.kids.length N8.2]),
 fun u w=>∃ (A:Option Addr) (c:Nat),u=some (.slice A y8.kids.length c)∧SlS w A (y8.kids.map Nd.s)∧y8.kids.length≤c∧c≤maxLen∧TyB w A 9,
 fun u _=>u=some (.slice (some ⟨b,off,none⟩) 17 c),
 fun u _=>u=some (.pointer (some ⟨b,off+45,none⟩)),
 fun u _=>u=some (.pointer (some ⟨b,off+47,none⟩)),
 fun u _=>u=some (.int .i64 y9.n),
 fun u _=>u=some (.slice (some ⟨b,off,none⟩) 17 c),
 fun u _=>u=some (.pointer (some ⟨b,off+50,none⟩)),
 fun u _=>u=some (.pointer (some ⟨b,off+53,none⟩)),
 fun u _=>u=some (.string y10.s),
 fun u _=>u=some (.slice (some ⟨b,off,none⟩) 17 c),
 fun u _=>u=some (.pointer (some ⟨b,off+55,none⟩)),
 fun u _=>u=some (.pointer (some ⟨b,off+57,none⟩)),
 fun u _=>u=some (.int .i64 y11.n),
 fun u _=>u=some (.slice (some ⟨b,off,none⟩) 17 c),
 fun u _=>u=some (.pointer (some ⟨b,off+60,none⟩)),
 fun u _=>u=some (.pointer (some ⟨b,off+62,none⟩)),
 fun u _=>u=some (.int .i64 y12.n),
 fun u _=>u=some (.slice (some ⟨b,off,none⟩) 17 c),
 fun u _=>u=some (.pointer (some ⟨b,off+65,none⟩)),
 fun u _=>u=some (.pointer (some ⟨b,off+67,none⟩)),
 fun u _=>u=some (.int .i64 y13.n),
 fun u _=>u=some (.slice (some ⟨b,off,none⟩) 17 c),
 fun u _=>u=some (.pointer (some ⟨b,off+70,none⟩)),
 fun u _=>u=some (.pointer (some ⟨b,off+72,none⟩)),
 fun u _=>u=some (.int .i64 y14.n),
 fun u _=>u=some (.slice (some ⟨b,off,none⟩) 17 c),
 fun u _=>u=some (.pointer (some ⟨b,off+75,none⟩)),
 fun u _=>u=some (.agg #[.int .i64 y15.tag,.int .i64 y15.kind,.int .i64 y15.n,.string y15.s,.slice N15.1 y15.kids.length N15.2]),
 fun u w=>∃ (A:Option Addr) (c:Nat),u=some (.slice A y15.kids.length c)∧SlI w A (y15.kids.map Nd.n)∧y15.kids.length≤c∧c≤maxLen∧TyB w A 3,
 fun u _=>u=some (.slice (some ⟨b,off,none⟩) 17 c),
 fun u _=>u=some (.pointer (some ⟨b,off+80,none⟩)),
 fun u _=>u=some (.pointer (some ⟨b,off+82,none⟩)),
 fun u _=>u=some (.int .i64 y16.n),
 fun u w=>∃ L,u=some (It.agg ⟨y0.n,y1.n,y2.n,y3.s,y4.kids.map Nd.s,y5.kids.map Nd.n,y6.n,y7.n,y8.kids.map Nd.s,y9.n,y10.s,y11.n,y12.n,y13.n,y14.n,y15.kids.map Nd.n,y16.n⟩ L)∧InX w ⟨y0.n,y1.n,y2.n,y3.s,y4.kids.map Nd.s,y5.kids.map Nd.n,y6.n,y7.n,y8.kids.map Nd.s,y9.n,y10.s,y11.n,y12.n,y13.n,y14.n,y15.kids.map Nd.n,y16.n⟩ L,
 fun u w=>∃ q:Nat,u=some (.pointer (some ⟨q,0,none⟩))∧g≤q∧BlkI w q,
 fun _ _=>True]
theorem rdfL_st (g b off c:Nat) (y0 y1 y2 y3 y4 y5 y6 y7 y8 y9 y10 y11 y12 y13 y14 y15 y16:Nd) (N4 N5 N8 N15:Option Addr×Nat):AllStR (rdfL g b off c y0 y1 y2 y3 y4 y5 y6 y7 y8 y9 y10 y11 y12 y13 y14 y15 y16 N4 N5 N8 N15):=⟨rd_val _,rd_val _,rd_val _,rd_val _,rd_val _,rd_val _,rd_val _,rd_val _,rd_val _,rd_val _,rd_val _,rd_val _,rd_val _,rd_val _,rd_val _,rd_val _,rd_val _,rd_val _,rd_val _,rd_ss _ _,rd_val _,rd_val _,rd_val _,rd_si _ _,rd_val _,rd_val _,rd_val _,rd_val _,rd_val _,rd_val _,rd_val _,rd_val _,rd_val _,rd_val _,rd_val _,rd_ss _ _,rd_val _,rd_val _,rd_val _,rd_val _,rd_val _,rd_val _,rd_val _,rd_val _,rd_val _,rd_val _,rd_val _,rd_val _,rd_val _,rd_val _,rd_val _,rd_val _,rd_val _,rd_val _,rd_val _,rd_val _,rd_val _,rd_val _,rd_val _,rd_val _,rd_val _,rd_val _,rd_val _,rd_si _ _,rd_val _,rd_val _,rd_val _,rd_val _,rd_it _,rd_al _,rd_true,trivial⟩
def RdDone (g:Nat) (it:It.Item) (u:Option Value) (w:World):Prop:=∃ (q:Nat) (L:It.Loc),u=some (.pointer (some ⟨q,0,none⟩))∧g≤q∧w.heap[q]?=some (.cells (It.cells it L).toArray 45 (0,0))∧InX w it L
theorem RdDone.ext {g:Nat} {it:It.Item} {u:Option Value} {w w':World} (h:RdDone g it u w) (he:Ext w w'):RdDone g it u w':=by
 obtain ⟨q,L,e,h1,h2,h3⟩:=h
 exact ⟨q,L,e,h1,he.blockAt h2,h3.ext he⟩
def rdfR (g b off c:Nat) (y0 y1 y2 y3 y4 y5 y6 y7 y8 y9 y10 y11 y12 y13 y14 y15 y16:Nd) (N4 N5 N8 N15:Option Addr×Nat) (j:Nat) (u:Option Value) (w:World):Prop:=if j=70 then RdDone g ⟨y0.n,y1.n,y2.n,y3.s,y4.kids.map Nd.s,y5.kids.map Nd.n,y6.n,y7.n,y8.kids.map Nd.s,y9.n,y10.s,y11.n,y12.n,y13.n,y14.n,y15.kids.map Nd.n,y16.n⟩ u w else (rdfL g b off c y0 y1 y2 y3 y4 y5 y6 y7 y8 y9 y10 y11 y12 y13 y14 y15 y16 N4 N5 N8 N15).getD j (fun _ _=>True) u w
theorem rdfR_ext (g b off c:Nat) (y0 y1 y2 y3 y4 y5 y6 y7 y8 y9 y10 y11 y12 y13 y14 y15 y16:Nd) (N4 N5 N8 N15:Option Addr×Nat) (j:Nat) (u:Option Value) (w w':World) (he:Ext w w') (h:rdfR g b off c y0 y1 y2 y3 y4 y5 y6 y7 y8 y9 y10 y11 y12 y13 y14 y15 y16 N4 N5 N8 N15 j u w):rdfR g b off c y0 y1 y2 y3 y4 y5 y6 y7 y8 y9 y10 y11 y12 y13 y14 y15 y16 N4 N5 N8 N15 j u w':=by
 unfold rdfR at h ⊢
 by_cases e:j=70
 · rw [if_pos e] at h ⊢;exact h.ext he
 · rw [if_neg e] at h ⊢;exact ((rdfL_st g b off c y0 y1 y2 y3 y4 y5 y6 y7 y8 y9 y10 y11 y12 y13 y14 y15 y16 N4 N5 N8 N15).at_ j).1 u w w' he h
theorem rdfR_put (g b off c:Nat) (y0 y1 y2 y3 y4 y5 y6 y7 y8 y9 y10 y11 y12 y13 y14 y15 y16:Nd) (N4 N5 N8 N15:Option Addr×Nat) (j:Nat) (hj:j≠70) (u:Option Value) (w:World) {q:Nat} (hb:BlkI w q) (cs:Array Value) (hs:cs.size=17) (h:rdfR g b off c y0 y1 y2 y3 y4 y5 y6 y7 y8 y9 y10 y11 y12 y13 y14 y15 y16 N4 N5 N8 N15 j u w):rdfR g b off c y0 y1 y2 y3 y4 y5 y6 y7 y8 y9 y10 y11 y12 y13 y14 y15 y16 N4 N5 N8 N15 j u (w.setRow q cs):=by
 unfold rdfR at h ⊢
 rw [if_neg hj] at h ⊢
 exact ((rdfL_st g b off c y0 y1 y2 y3 y4 y5 y6 y7 y8 y9 y10 y11 y12 y13 y14 y15 y16 N4 N5 N8 N15).at_ j).2 u w q cs hs hb h
def rdfD:List Nat:=[59,60,61,62,63,64,65,66,67,68,69,70,71,72,73,74,75,76,77,78,79,80,81,82,83,84,85,86,87,88,89,90,91,92,93,94,95,96,97,98,99,100,101,102,103,104,105,106,107,108,109,110,111,112,113,114,115,116,117,118,119,120,121,122,123,124,125,126,127,9,9]
def rdfE (b off c:Nat) (t:Array Value):Prop:=t.getD 8 undef=.slice (some ⟨b,off,none⟩) 17 c∧t.size=135

theorem decPost_no {x:Nd} {w W:World} (h:isTr x=false) (hx:Ext w W) (hg:w.heap.size≤w.heap.size+1:=Nat.le_succ _):DecPost (itemOf x.kids) (decErr x) (.returned (.tuple #[.agg #[.int .i64 0,.int .i64 0,.int .i64 0,.string ⟨#[]⟩,.slice none 0 0,.slice none 0 0,.int .i64 0,.int .i64 0,.slice none 0 0,.int .i64 0,.string ⟨#[]⟩,.int .i64 0,.int .i64 0,.int .i64 0,.int .i64 0,.slice none 0 0,.int .i64 0],.int .i64 2])) (W.setRow (w.heap.size+1) #[.int .i64 0,.int .i64 0,.int .i64 0,.string ⟨#[]⟩,.slice none 0 0,.slice none 0 0,.int .i64 0,.int .i64 0,.slice none 0 0,.int .i64 0,.string ⟨#[]⟩,.int .i64 0,.int .i64 0,.int .i64 0,.int .i64 0,.slice none 0 0,.int .i64 0])∧Ext w (W.setRow (w.heap.size+1) #[.int .i64 0,.int .i64 0,.int .i64 0,.string ⟨#[]⟩,.slice none 0 0,.slice none 0 0,.int .i64 0,.int .i64 0,.slice none 0 0,.int .i64 0,.string ⟨#[]⟩,.int .i64 0,.int .i64 0,.int .i64 0,.int .i64 0,.slice none 0 0,.int .i64 0]):=by
 have e2:decErr x=2:=by unfold decErr;rw [h];rfl
 rw [e2]
 exact ⟨⟨fun h=>absurd h (by decide),fun _=>rfl⟩,hx.setRow hg _⟩
set_option maxRecDepth 100000 in
set_option maxHeartbeats 25600000 in
theorem rdecode_any (B d : Nat) (x : Nd) (M : Option Addr × Nat) (w : World) (hK : KidsAt B 0 (d + 2) w M x.kids) (hz : SzOk 2 x) (hn : N64 2 x) (hkl : ∀ y ∈ x.kids, y.kids.length ≤ 2199023255552) :
    Calls Tryz.prog 46 #[nda x M] w fun e w'=>DecPost (itemOf x.kids) (decErr x) e w'∧Ext w w':=by
 have HZ:=Hi hz
 have hs:=hz.top.1
 have hl:=hz.top.2
 have HK:=Hi hK
 have HNN:=Hi hn
 have HKL:=Hi hkl
 clear hz hK hn hkl
 obtain ⟨v,hv⟩:∃ v,isTr x=v:=⟨_,rfl⟩
 have HV0:Hid (isTr x=v):=Hi hv
 clear hv
 obtain ⟨q1,hq1⟩:∃ q,isNd x 14 3=q:=⟨_,rfl⟩
 have HQ1:=Hi hq1
 clear hq1
 obtain ⟨A,c⟩:=M
 unfold nda
 dsimp only
 go_enter Tryz.func46,Tryz.ntmps46
 go_wp2_with fail
 refine (formed_v3 x (A,c) 14 HQ1.out _ hs hl).mono ?_
 rintro e w1 ⟨rfl,hb1⟩
 have HB:Hid (w1.heap[w.heap.size]?=some (.cells #[.int .i64 x.tag,.int .i64 x.kind,.int .i64 x.n,.string x.s,.slice A x.kids.length c] 52 (0,0))):=Hi (hb1.blockAt (heap_two_fst _ _ _))
 have HBR:Hid (w1.heap[w.heap.size+1]?=some (.cells #[.int .i64 0,.int .i64 0,.int .i64 0,.string ⟨#[]⟩,.slice none 0 0,.slice none 0 0,.int .i64 0,.int .i64 0,.slice none 0 0,.int .i64 0,.string ⟨#[]⟩,.int .i64 0,.int .i64 0,.int .i64 0,.int .i64 0,.slice none 0 0,.int .i64 0] 45 (0,0))):=Hi (hb1.blockAt (heap_two_snd _ _ _))
 have HX:Hid (Ext w w1):=Hi ((((Ext.refl w).alloc _).alloc _).trans hb1)
 have b4:w1.cell? ⟨w.heap.size,4,none⟩=some (.slice A x.kids.length c):=cell_of_row _ _ 4 _ _ _ HB.out
 clear hb1
 cases q1 with
 | false =>
  have HV:Hid (isTr x=false):=Hi (by unfold isTr;rw [HQ1.out];rfl)
  go_wp2_with (refine wpList_store_row rfl _ _ _ rfl (w.heap.size+1) #[.int .i64 0,.int .i64 0,.int .i64 0,.string ⟨#[]⟩,.slice none 0 0,.slice none 0 0,.int .i64 0,.int .i64 0,.slice none 0 0,.int .i64 0,.string ⟨#[]⟩,.int .i64 0,.int .i64 0,.int .i64 0,.int .i64 0,.slice none 0 0,.int .i64 0] rfl rfl _ #[.int .i64 0,.int .i64 0,.int .i64 0,.string ⟨#[]⟩,.slice none 0 0,.slice none 0 0,.int .i64 0,.int .i64 0,.slice none 0 0,.int .i64 0,.string ⟨#[]⟩,.int .i64 0,.int .i64 0,.int .i64 0,.int .i64 0,.slice none 0 0,.int .i64 0] HBR.out (by kernel_rfl) rfl (by simp [Value.oneCell']) ?_)
  have HRS:=setRow_at (cs':=#[.int .i64 0,.int .i64 0,.int .i64 0,.string ⟨#[]⟩,.slice none 0 0,.slice none 0 0,.int .i64 0,.int .i64 0,.slice none 0 0,.int .i64 0,.string ⟨#[]⟩,.int .i64 0,.int .i64 0,.int .i64 0,.int .i64 0,.slice none 0 0,.int .i64 0]) HBR.out
  exact bodyPost_ret (v:=.tuple #[.agg #[.int .i64 0,.int .i64 0,.int .i64 0,.string ⟨#[]⟩,.slice none 0 0,.slice none 0 0,.int .i64 0,.int .i64 0,.slice none 0 0,.int .i64 0,.string ⟨#[]⟩,.int .i64 0,.int .i64 0,.int .i64 0,.int .i64 0,.slice none 0 0,.int .i64 0],.int .i64 2]) (results_cell_tmp Tryz.results46 _ _ (w.heap.size+1) _ _ _ _ rfl HRS Tryz.underlying45 rfl (by kernel_rfl) rfl) rfl (decPost_no HV.out HX.out)
 | true =>
 by_cases h17:x.kids.length=17
 case neg =>
  have HV:Hid (isTr x=false):=Hi (by unfold isTr;rw [decide_eq_false h17];simp)
  have e17:((x.kids.length:Int) != 17)=true:=by rw [bne_iff_ne];omega
  clear h17
  go_wp2_with (refine wpList_store_row rfl _ _ _ rfl (w.heap.size+1) #[.int .i64 0,.int .i64 0,.int .i64 0,.string ⟨#[]⟩,.slice none 0 0,.slice none 0 0,.int .i64 0,.int .i64 0,.slice none 0 0,.int .i64 0,.string ⟨#[]⟩,.int .i64 0,.int .i64 0,.int .i64 0,.int .i64 0,.slice none 0 0,.int .i64 0] rfl rfl _ #[.int .i64 0,.int .i64 0,.int .i64 0,.string ⟨#[]⟩,.slice none 0 0,.slice none 0 0,.int .i64 0,.int .i64 0,.slice none 0 0,.int .i64 0,.string ⟨#[]⟩,.int .i64 0,.int .i64 0,.int .i64 0,.int .i64 0,.slice none 0 0,.int .i64 0] HBR.out (by kernel_rfl) rfl (by simp [Value.oneCell']) ?_)
  have HRS:=setRow_at (cs':=#[.int .i64 0,.int .i64 0,.int .i64 0,.string ⟨#[]⟩,.slice none 0 0,.slice none 0 0,.int .i64 0,.int .i64 0,.slice none 0 0,.int .i64 0,.string ⟨#[]⟩,.int .i64 0,.int .i64 0,.int .i64 0,.int .i64 0,.slice none 0 0,.int .i64 0]) HBR.out
  exact bodyPost_ret (v:=.tuple #[.agg #[.int .i64 0,.int .i64 0,.int .i64 0,.string ⟨#[]⟩,.slice none 0 0,.slice none 0 0,.int .i64 0,.int .i64 0,.slice none 0 0,.int .i64 0,.string ⟨#[]⟩,.int .i64 0,.int .i64 0,.int .i64 0,.int .i64 0,.slice none 0 0,.int .i64 0],.int .i64 2]) (results_cell_tmp Tryz.results46 _ _ (w.heap.size+1) _ _ _ _ rfl HRS Tryz.underlying45 rfl (by kernel_rfl) rfl) rfl (decPost_no HV.out HX.out)
 have HV2:Hid (It.allN (fun i=>fldOk i (x.kids.getD i default)) 17=isTr x):=Hi (by unfold isTr;rw [HQ1.out,decide_eq_true h17];rfl)
 have e17:((x.kids.length:Int) != 17)=false:=by rw [h17];rfl
 have H17:=Hi h17
 have hn1:x.kids.length≤17:=by omega
 have hn2:17≤x.kids.length:=by omega
 clear h17
 go_wp2
 clear b4
 go_loopw [24] (fun i wr=>∃ k:Nat,k≤x.kids.length∧i=.int .i64 k∧Hid (It.allN (fun i=>fldOk i (x.kids.getD i default)) k=true)∧Hid (Ext w1 wr)) (fun i _=>x.kids.length-(intOf i).toNat)
 case atStart=>exact ⟨0,by omega,rfl,Hi rfl,Hi (Ext.refl _)⟩
 case round =>
  obtain ⟨k,hk,rfl,HA,HE⟩:=hrel
  have hew:Hid (Ext w wr):=Hi (HX.out.trans HE.out)
  by_cases hlt:k<x.kids.length
  · have hlt17:k<17:=by omega
    obtain ⟨y,hy⟩:∃ y,x.kids[k]?=some y:=⟨x.kids[k],List.getElem?_eq_getElem hlt⟩
    obtain ⟨b,off,NN,hA,hb,c0,c1,c2,c3,c4,hKN⟩:=(HK.out.ext hew.out).at_ hy
    dsimp only at hA
    subst hA
    have HKN:=Hi hKN
    have hyz:SzOk 1 y:=HZ.out.2 y (List.mem_of_getElem? hy)
    have HYZ:=Hi hyz
    have hys:y.s.size≤140737488351232:=hyz.1.1
    have hyl:y.kids.length≤140737488351232:=hyz.1.2
    have hyd:x.kids.getD k default=y:=by rw [List.getD_eq_getElem?_getD,hy];rfl
    obtain ⟨q,hq⟩:∃ q,fldOk k y=q:=⟨_,rfl⟩
    have HQ:=Hi hq
    have HEE:Hid (q=false→isTr x=false):=Hi fun g=>by rw [← HV2.out];exact It.allN_no hlt17 (by show fldOk k (x.kids.getD k default)=false;rw [hyd,hq,g])
    have HN:Hid (q=true→It.allN (fun i=>fldOk i (x.kids.getD i default)) (k+1)=true):=Hi fun g=>It.allN_next HA.out (by show fldOk k (x.kids.getD k default)=true;rw [hyd,hq,g])
    have HX:=hew
    have HBR:=Hi (HE.out.blockAt HBR.out)
    clear hy hKN hyz hyd hq
    rcases (show k=0∨k=1∨k=2∨k=3∨k=4∨k=5∨k=6∨k=7∨k=8∨k=9∨k=10∨k=11∨k=12∨k=13∨k=14∨k=15∨k=16 by omega) with rfl | rfl | rfl | rfl | rfl | rfl | rfl | rfl | rfl | rfl | rfl | rfl | rfl | rfl | rfl | rfl | rfl
    · have d0:wr.cell? ⟨b,off,none⟩=some (.int .i64 y.tag):=c0
      have d1:wr.cell? ⟨b,off+1,none⟩=some (.int .i64 y.kind):=c1
      have d2:wr.cell? ⟨b,off+2,none⟩=some (.int .i64 y.n):=c2
      have d3:wr.cell? ⟨b,off+3,none⟩=some (.string y.s):=c3
      have d4:wr.cell? ⟨b,off+4,none⟩=some (.slice NN.1 y.kids.length NN.2):=c4
      clear c0 c1 c2 c3 c4
      have ki1:(0:Int)<(x.kids.length:Int):=by omega
      have HQ2:Hid (isNd y 1 1=q):=Hi HQ.out
      cases q with
      | false =>
       have HV:=Hi (HEE.out rfl)
       go_wp2_with fail
       refine (formed_v1 y NN 1 HQ2.out _ hys hyl).mono ?_
       rintro e w2 ⟨rfl,hb2⟩
       have HX2:Hid (Ext w w2):=Hi ((HX.out.alloc _).trans hb2)
       have HBR:=Hi (((Ext.refl _).alloc _).trans hb2 |>.blockAt HBR.out)
       have HX:=HX2
       clear hb2
       go_wp2_with (refine wpList_store_row rfl _ _ _ rfl (w.heap.size+1) #[.int .i64 0,.int .i64 0,.int .i64 0,.string ⟨#[]⟩,.slice none 0 0,.slice none 0 0,.int .i64 0,.int .i64 0,.slice none 0 0,.int .i64 0,.string ⟨#[]⟩,.int .i64 0,.int .i64 0,.int .i64 0,.int .i64 0,.slice none 0 0,.int .i64 0] rfl rfl _ #[.int .i64 0,.int .i64 0,.int .i64 0,.string ⟨#[]⟩,.slice none 0 0,.slice none 0 0,.int .i64 0,.int .i64 0,.slice none 0 0,.int .i64 0,.string ⟨#[]⟩,.int .i64 0,.int .i64 0,.int .i64 0,.int .i64 0,.slice none 0 0,.int .i64 0] HBR.out (by kernel_rfl) rfl (by simp [Value.oneCell']) ?_)
       have HRS:=setRow_at (cs':=#[.int .i64 0,.int .i64 0,.int .i64 0,.string ⟨#[]⟩,.slice none 0 0,.slice none 0 0,.int .i64 0,.int .i64 0,.slice none 0 0,.int .i64 0,.string ⟨#[]⟩,.int .i64 0,.int .i64 0,.int .i64 0,.int .i64 0,.slice none 0 0,.int .i64 0]) HBR.out
       exact bodyPost_ret (v:=.tuple #[.agg #[.int .i64 0,.int .i64 0,.int .i64 0,.string ⟨#[]⟩,.slice none 0 0,.slice none 0 0,.int .i64 0,.int .i64 0,.slice none 0 0,.int .i64 0,.string ⟨#[]⟩,.int .i64 0,.int .i64 0,.int .i64 0,.int .i64 0,.slice none 0 0,.int .i64 0],.int .i64 2]) (results_cell_tmp Tryz.results46 _ _ (w.heap.size+1) _ _ _ _ rfl HRS Tryz.underlying45 rfl (by kernel_rfl) rfl) rfl (decPost_no HV.out HX.out)
      | true =>
       have HM:=Hi (HN.out rfl)
       go_wp2_with fail
       refine (formed_v1 y NN 1 HQ2.out _ hys hyl).mono ?_
       rintro e w2 ⟨rfl,hb2⟩
       have X2:=Hi ((HE.out.alloc _).trans hb2)
       clear hb2
       go_wp2
       go_roundw
       case rel=>exact ⟨0+1,by omega,by go_num,HM,X2⟩
       case measure=>simp [intOf];omega
    · have d0:wr.cell? ⟨b,off+5,none⟩=some (.int .i64 y.tag):=c0
      have d1:wr.cell? ⟨b,off+6,none⟩=some (.int .i64 y.kind):=c1
      have d2:wr.cell? ⟨b,off+7,none⟩=some (.int .i64 y.n):=c2
      have d3:wr.cell? ⟨b,off+8,none⟩=some (.string y.s):=c3
      have d4:wr.cell? ⟨b,off+9,none⟩=some (.slice NN.1 y.kids.length NN.2):=c4
      clear c0 c1 c2 c3 c4
      have ki1:(1:Int)<(x.kids.length:Int):=by omega
      have HQ2:Hid (isNd y 2 1=q):=Hi HQ.out
      cases q with
      | false =>
       have HV:=Hi (HEE.out rfl)
       go_wp2_with fail
       refine (formed_v1 y NN 2 HQ2.out _ hys hyl).mono ?_
       rintro e w2 ⟨rfl,hb2⟩
       have HX2:Hid (Ext w w2):=Hi ((HX.out.alloc _).trans hb2)
       have HBR:=Hi (((Ext.refl _).alloc _).trans hb2 |>.blockAt HBR.out)
       have HX:=HX2
       clear hb2
       go_wp2_with (refine wpList_store_row rfl _ _ _ rfl (w.heap.size+1) #[.int .i64 0,.int .i64 0,.int .i64 0,.string ⟨#[]⟩,.slice none 0 0,.slice none 0 0,.int .i64 0,.int .i64 0,.slice none 0 0,.int .i64 0,.string ⟨#[]⟩,.int .i64 0,.int .i64 0,.int .i64 0,.int .i64 0,.slice none 0 0,.int .i64 0] rfl rfl _ #[.int .i64 0,.int .i64 0,.int .i64 0,.string ⟨#[]⟩,.slice none 0 0,.slice none 0 0,.int .i64 0,.int .i64 0,.slice none 0 0,.int .i64 0,.string ⟨#[]⟩,.int .i64 0,.int .i64 0,.int .i64 0,.int .i64 0,.slice none 0 0,.int .i64 0] HBR.out (by kernel_rfl) rfl (by simp [Value.oneCell']) ?_)
       have HRS:=setRow_at (cs':=#[.int .i64 0,.int .i64 0,.int .i64 0,.string ⟨#[]⟩,.slice none 0 0,.slice none 0 0,.int .i64 0,.int .i64 0,.slice none 0 0,.int .i64 0,.string ⟨#[]⟩,.int .i64 0,.int .i64 0,.int .i64 0,.int .i64 0,.slice none 0 0,.int .i64 0]) HBR.out
       exact bodyPost_ret (v:=.tuple #[.agg #[.int .i64 0,.int .i64 0,.int .i64 0,.string ⟨#[]⟩,.slice none 0 0,.slice none 0 0,.int .i64 0,.int .i64 0,.slice none 0 0,.int .i64 0,.string ⟨#[]⟩,.int .i64 0,.int .i64 0,.int .i64 0,.int .i64 0,.slice none 0 0,.int .i64 0],.int .i64 2]) (results_cell_tmp Tryz.results46 _ _ (w.heap.size+1) _ _ _ _ rfl HRS Tryz.underlying45 rfl (by kernel_rfl) rfl) rfl (decPost_no HV.out HX.out)
      | true =>
       have HM:=Hi (HN.out rfl)
       go_wp2_with fail
       refine (formed_v1 y NN 2 HQ2.out _ hys hyl).mono ?_
       rintro e w2 ⟨rfl,hb2⟩
       have X2:=Hi ((HE.out.alloc _).trans hb2)
       clear hb2
       go_wp2
       go_roundw
       case rel=>exact ⟨1+1,by omega,by go_num,HM,X2⟩
       case measure=>simp [intOf];omega
    · have d0:wr.cell? ⟨b,off+10,none⟩=some (.int .i64 y.tag):=c0
      have d1:wr.cell? ⟨b,off+11,none⟩=some (.int .i64 y.kind):=c1
      have d2:wr.cell? ⟨b,off+12,none⟩=some (.int .i64 y.n):=c2
      have d3:wr.cell? ⟨b,off+13,none⟩=some (.string y.s):=c3
      have d4:wr.cell? ⟨b,off+14,none⟩=some (.slice NN.1 y.kids.length NN.2):=c4
      clear c0 c1 c2 c3 c4
      have ki1:(2:Int)<(x.kids.length:Int):=by omega
      have HQ2:Hid (isNd y 3 1=q):=Hi HQ.out
      cases q with
      | false =>
       have HV:=Hi (HEE.out rfl)
       go_wp2_with fail
       refine (formed_v1 y NN 3 HQ2.out _ hys hyl).mono ?_
       rintro e w2 ⟨rfl,hb2⟩
       have HX2:Hid (Ext w w2):=Hi ((HX.out.alloc _).trans hb2)
       have HBR:=Hi (((Ext.refl _).alloc _).trans hb2 |>.blockAt HBR.out)
       have HX:=HX2
       clear hb2
       go_wp2_with (refine wpList_store_row rfl _ _ _ rfl (w.heap.size+1) #[.int .i64 0,.int .i64 0,.int .i64 0,.string ⟨#[]⟩,.slice none 0 0,.slice none 0 0,.int .i64 0,.int .i64 0,.slice none 0 0,.int .i64 0,.string ⟨#[]⟩,.int .i64 0,.int .i64 0,.int .i64 0,.int .i64 0,.slice none 0 0,.int .i64 0] rfl rfl _ #[.int .i64 0,.int .i64 0,.int .i64 0,.string ⟨#[]⟩,.slice none 0 0,.slice none 0 0,.int .i64 0,.int .i64 0,.slice none 0 0,.int .i64 0,.string ⟨#[]⟩,.int .i64 0,.int .i64 0,.int .i64 0,.int .i64 0,.slice none 0 0,.int .i64 0] HBR.out (by kernel_rfl) rfl (by simp [Value.oneCell']) ?_)
       have HRS:=setRow_at (cs':=#[.int .i64 0,.int .i64 0,.int .i64 0,.string ⟨#[]⟩,.slice none 0 0,.slice none 0 0,.int .i64 0,.int .i64 0,.slice none 0 0,.int .i64 0,.string ⟨#[]⟩,.int .i64 0,.int .i64 0,.int .i64 0,.int .i64 0,.slice none 0 0,.int .i64 0]) HBR.out
       exact bodyPost_ret (v:=.tuple #[.agg #[.int .i64 0,.int .i64 0,.int .i64 0,.string ⟨#[]⟩,.slice none 0 0,.slice none 0 0,.int .i64 0,.int .i64 0,.slice none 0 0,.int .i64 0,.string ⟨#[]⟩,.int .i64 0,.int .i64 0,.int .i64 0,.int .i64 0,.slice none 0 0,.int .i64 0],.int .i64 2]) (results_cell_tmp Tryz.results46 _ _ (w.heap.size+1) _ _ _ _ rfl HRS Tryz.underlying45 rfl (by kernel_rfl) rfl) rfl (decPost_no HV.out HX.out)
      | true =>
       have HM:=Hi (HN.out rfl)
       go_wp2_with fail
       refine (formed_v1 y NN 3 HQ2.out _ hys hyl).mono ?_
       rintro e w2 ⟨rfl,hb2⟩
       have X2:=Hi ((HE.out.alloc _).trans hb2)
       clear hb2
       go_wp2
       go_roundw
       case rel=>exact ⟨2+1,by omega,by go_num,HM,X2⟩
       case measure=>simp [intOf];omega
    · have d0:wr.cell? ⟨b,off+15,none⟩=some (.int .i64 y.tag):=c0
      have d1:wr.cell? ⟨b,off+16,none⟩=some (.int .i64 y.kind):=c1
      have d2:wr.cell? ⟨b,off+17,none⟩=some (.int .i64 y.n):=c2
      have d3:wr.cell? ⟨b,off+18,none⟩=some (.string y.s):=c3
      have d4:wr.cell? ⟨b,off+19,none⟩=some (.slice NN.1 y.kids.length NN.2):=c4
      clear c0 c1 c2 c3 c4
      have ki1:(3:Int)<(x.kids.length:Int):=by omega
      have HQ2:Hid (isNd y 4 2=q):=Hi HQ.out
      cases q with
      | false =>
       have HV:=Hi (HEE.out rfl)
       go_wp2_with fail
       refine (formed_v2 y NN 4 HQ2.out _ hys hyl).mono ?_
       rintro e w2 ⟨rfl,hb2⟩
       have HX2:Hid (Ext w w2):=Hi ((HX.out.alloc _).trans hb2)
       have HBR:=Hi (((Ext.refl _).alloc _).trans hb2 |>.blockAt HBR.out)
       have HX:=HX2
       clear hb2
       go_wp2_with (refine wpList_store_row rfl _ _ _ rfl (w.heap.size+1) #[.int .i64 0,.int .i64 0,.int .i64 0,.string ⟨#[]⟩,.slice none 0 0,.slice none 0 0,.int .i64 0,.int .i64 0,.slice none 0 0,.int .i64 0,.string ⟨#[]⟩,.int .i64 0,.int .i64 0,.int .i64 0,.int .i64 0,.slice none 0 0,.int .i64 0] rfl rfl _ #[.int .i64 0,.int .i64 0,.int .i64 0,.string ⟨#[]⟩,.slice none 0 0,.slice none 0 0,.int .i64 0,.int .i64 0,.slice none 0 0,.int .i64 0,.string ⟨#[]⟩,.int .i64 0,.int .i64 0,.int .i64 0,.int .i64 0,.slice none 0 0,.int .i64 0] HBR.out (by kernel_rfl) rfl (by simp [Value.oneCell']) ?_)
       have HRS:=setRow_at (cs':=#[.int .i64 0,.int .i64 0,.int .i64 0,.string ⟨#[]⟩,.slice none 0 0,.slice none 0 0,.int .i64 0,.int .i64 0,.slice none 0 0,.int .i64 0,.string ⟨#[]⟩,.int .i64 0,.int .i64 0,.int .i64 0,.int .i64 0,.slice none 0 0,.int .i64 0]) HBR.out
       exact bodyPost_ret (v:=.tuple #[.agg #[.int .i64 0,.int .i64 0,.int .i64 0,.string ⟨#[]⟩,.slice none 0 0,.slice none 0 0,.int .i64 0,.int .i64 0,.slice none 0 0,.int .i64 0,.string ⟨#[]⟩,.int .i64 0,.int .i64 0,.int .i64 0,.int .i64 0,.slice none 0 0,.int .i64 0],.int .i64 2]) (results_cell_tmp Tryz.results46 _ _ (w.heap.size+1) _ _ _ _ rfl HRS Tryz.underlying45 rfl (by kernel_rfl) rfl) rfl (decPost_no HV.out HX.out)
      | true =>
       have HM:=Hi (HN.out rfl)
       go_wp2_with fail
       refine (formed_v2 y NN 4 HQ2.out _ hys hyl).mono ?_
       rintro e w2 ⟨rfl,hb2⟩
       have X2:=Hi ((HE.out.alloc _).trans hb2)
       clear hb2
       go_wp2
       go_roundw
       case rel=>exact ⟨3+1,by omega,by go_num,HM,X2⟩
       case measure=>simp [intOf];omega
    · have d0:wr.cell? ⟨b,off+20,none⟩=some (.int .i64 y.tag):=c0
      have d1:wr.cell? ⟨b,off+21,none⟩=some (.int .i64 y.kind):=c1
      have d2:wr.cell? ⟨b,off+22,none⟩=some (.int .i64 y.n):=c2
      have d3:wr.cell? ⟨b,off+23,none⟩=some (.string y.s):=c3
      have d4:wr.cell? ⟨b,off+24,none⟩=some (.slice NN.1 y.kids.length NN.2):=c4
      clear c0 c1 c2 c3 c4
      have ki1:(4:Int)<(x.kids.length:Int):=by omega
      have HQ2:Hid (isLst y 5 2=q):=Hi HQ.out
      cases q with
      | false =>
       have HV:=Hi (HEE.out rfl)
       go_wp2_with fail
       refine (listed_2 B d y NN 5 HQ2.out _ (HKN.out.ext ((Ext.refl _).alloc _)) HYZ.out).mono ?_
       rintro e w2 ⟨rfl,hb2⟩
       have HX2:Hid (Ext w w2):=Hi ((HX.out.alloc _).trans hb2)
       have HBR:=Hi (((Ext.refl _).alloc _).trans hb2 |>.blockAt HBR.out)
       have HX:=HX2
       clear hb2
       go_wp2_with (refine wpList_store_row rfl _ _ _ rfl (w.heap.size+1) #[.int .i64 0,.int .i64 0,.int .i64 0,.string ⟨#[]⟩,.slice none 0 0,.slice none 0 0,.int .i64 0,.int .i64 0,.slice none 0 0,.int .i64 0,.string ⟨#[]⟩,.int .i64 0,.int .i64 0,.int .i64 0,.int .i64 0,.slice none 0 0,.int .i64 0] rfl rfl _ #[.int .i64 0,.int .i64 0,.int .i64 0,.string ⟨#[]⟩,.slice none 0 0,.slice none 0 0,.int .i64 0,.int .i64 0,.slice none 0 0,.int .i64 0,.string ⟨#[]⟩,.int .i64 0,.int .i64 0,.int .i64 0,.int .i64 0,.slice none 0 0,.int .i64 0] HBR.out (by kernel_rfl) rfl (by simp [Value.oneCell']) ?_)
       have HRS:=setRow_at (cs':=#[.int .i64 0,.int .i64 0,.int .i64 0,.string ⟨#[]⟩,.slice none 0 0,.slice none 0 0,.int .i64 0,.int .i64 0,.slice none 0 0,.int .i64 0,.string ⟨#[]⟩,.int .i64 0,.int .i64 0,.int .i64 0,.int .i64 0,.slice none 0 0,.int .i64 0]) HBR.out
       exact bodyPost_ret (v:=.tuple #[.agg #[.int .i64 0,.int .i64 0,.int .i64 0,.string ⟨#[]⟩,.slice none 0 0,.slice none 0 0,.int .i64 0,.int .i64 0,.slice none 0 0,.int .i64 0,.string ⟨#[]⟩,.int .i64 0,.int .i64 0,.int .i64 0,.int .i64 0,.slice none 0 0,.int .i64 0],.int .i64 2]) (results_cell_tmp Tryz.results46 _ _ (w.heap.size+1) _ _ _ _ rfl HRS Tryz.underlying45 rfl (by kernel_rfl) rfl) rfl (decPost_no HV.out HX.out)
      | true =>
       have HM:=Hi (HN.out rfl)
       go_wp2_with fail
       refine (listed_2 B d y NN 5 HQ2.out _ (HKN.out.ext ((Ext.refl _).alloc _)) HYZ.out).mono ?_
       rintro e w2 ⟨rfl,hb2⟩
       have X2:=Hi ((HE.out.alloc _).trans hb2)
       clear hb2
       go_wp2
       go_roundw
       case rel=>exact ⟨4+1,by omega,by go_num,HM,X2⟩
       case measure=>simp [intOf];omega
    · have d0:wr.cell? ⟨b,off+25,none⟩=some (.int .i64 y.tag):=c0
      have d1:wr.cell? ⟨b,off+26,none⟩=some (.int .i64 y.kind):=c1
      have d2:wr.cell? ⟨b,off+27,none⟩=some (.int .i64 y.n):=c2
      have d3:wr.cell? ⟨b,off+28,none⟩=some (.string y.s):=c3
      have d4:wr.cell? ⟨b,off+29,none⟩=some (.slice NN.1 y.kids.length NN.2):=c4
      clear c0 c1 c2 c3 c4
      have ki1:(5:Int)<(x.kids.length:Int):=by omega
      have HQ2:Hid (isLst y 6 1=q):=Hi HQ.out
      cases q with
      | false =>
       have HV:=Hi (HEE.out rfl)
       go_wp2_with fail
       refine (listed_1 B d y NN 6 HQ2.out _ (HKN.out.ext ((Ext.refl _).alloc _)) HYZ.out).mono ?_
       rintro e w2 ⟨rfl,hb2⟩
       have HX2:Hid (Ext w w2):=Hi ((HX.out.alloc _).trans hb2)
       have HBR:=Hi (((Ext.refl _).alloc _).trans hb2 |>.blockAt HBR.out)
       have HX:=HX2
       clear hb2
       go_wp2_with (refine wpList_store_row rfl _ _ _ rfl (w.heap.size+1) #[.int .i64 0,.int .i64 0,.int .i64 0,.string ⟨#[]⟩,.slice none 0 0,.slice none 0 0,.int .i64 0,.int .i64 0,.slice none 0 0,.int .i64 0,.string ⟨#[]⟩,.int .i64 0,.int .i64 0,.int .i64 0,.int .i64 0,.slice none 0 0,.int .i64 0] rfl rfl _ #[.int .i64 0,.int .i64 0,.int .i64 0,.string ⟨#[]⟩,.slice none 0 0,.slice none 0 0,.int .i64 0,.int .i64 0,.slice none 0 0,.int .i64 0,.string ⟨#[]⟩,.int .i64 0,.int .i64 0,.int .i64 0,.int .i64 0,.slice none 0 0,.int .i64 0] HBR.out (by kernel_rfl) rfl (by simp [Value.oneCell']) ?_)
       have HRS:=setRow_at (cs':=#[.int .i64 0,.int .i64 0,.int .i64 0,.string ⟨#[]⟩,.slice none 0 0,.slice none 0 0,.int .i64 0,.int .i64 0,.slice none 0 0,.int .i64 0,.string ⟨#[]⟩,.int .i64 0,.int .i64 0,.int .i64 0,.int .i64 0,.slice none 0 0,.int .i64 0]) HBR.out
       exact bodyPost_ret (v:=.tuple #[.agg #[.int .i64 0,.int .i64 0,.int .i64 0,.string ⟨#[]⟩,.slice none 0 0,.slice none 0 0,.int .i64 0,.int .i64 0,.slice none 0 0,.int .i64 0,.string ⟨#[]⟩,.int .i64 0,.int .i64 0,.int .i64 0,.int .i64 0,.slice none 0 0,.int .i64 0],.int .i64 2]) (results_cell_tmp Tryz.results46 _ _ (w.heap.size+1) _ _ _ _ rfl HRS Tryz.underlying45 rfl (by kernel_rfl) rfl) rfl (decPost_no HV.out HX.out)
      | true =>
       have HM:=Hi (HN.out rfl)
       go_wp2_with fail
       refine (listed_1 B d y NN 6 HQ2.out _ (HKN.out.ext ((Ext.refl _).alloc _)) HYZ.out).mono ?_
       rintro e w2 ⟨rfl,hb2⟩
       have X2:=Hi ((HE.out.alloc _).trans hb2)
       clear hb2
       go_wp2
       go_roundw
       case rel=>exact ⟨5+1,by omega,by go_num,HM,X2⟩
       case measure=>simp [intOf];omega
    · have d0:wr.cell? ⟨b,off+30,none⟩=some (.int .i64 y.tag):=c0
      have d1:wr.cell? ⟨b,off+31,none⟩=some (.int .i64 y.kind):=c1
      have d2:wr.cell? ⟨b,off+32,none⟩=some (.int .i64 y.n):=c2
      have d3:wr.cell? ⟨b,off+33,none⟩=some (.string y.s):=c3
      have d4:wr.cell? ⟨b,off+34,none⟩=some (.slice NN.1 y.kids.length NN.2):=c4
      clear c0 c1 c2 c3 c4
      have ki1:(6:Int)<(x.kids.length:Int):=by omega
      have HQ2:Hid (isNd y 7 1=q):=Hi HQ.out
      cases q with
      | false =>
       have HV:=Hi (HEE.out rfl)
       go_wp2_with fail
       refine (formed_v1 y NN 7 HQ2.out _ hys hyl).mono ?_
       rintro e w2 ⟨rfl,hb2⟩
       have HX2:Hid (Ext w w2):=Hi ((HX.out.alloc _).trans hb2)
       have HBR:=Hi (((Ext.refl _).alloc _).trans hb2 |>.blockAt HBR.out)
       have HX:=HX2
       clear hb2
       go_wp2_with (refine wpList_store_row rfl _ _ _ rfl (w.heap.size+1) #[.int .i64 0,.int .i64 0,.int .i64 0,.string ⟨#[]⟩,.slice none 0 0,.slice none 0 0,.int .i64 0,.int .i64 0,.slice none 0 0,.int .i64 0,.string ⟨#[]⟩,.int .i64 0,.int .i64 0,.int .i64 0,.int .i64 0,.slice none 0 0,.int .i64 0] rfl rfl _ #[.int .i64 0,.int .i64 0,.int .i64 0,.string ⟨#[]⟩,.slice none 0 0,.slice none 0 0,.int .i64 0,.int .i64 0,.slice none 0 0,.int .i64 0,.string ⟨#[]⟩,.int .i64 0,.int .i64 0,.int .i64 0,.int .i64 0,.slice none 0 0,.int .i64 0] HBR.out (by kernel_rfl) rfl (by simp [Value.oneCell']) ?_)
       have HRS:=setRow_at (cs':=#[.int .i64 0,.int .i64 0,.int .i64 0,.string ⟨#[]⟩,.slice none 0 0,.slice none 0 0,.int .i64 0,.int .i64 0,.slice none 0 0,.int .i64 0,.string ⟨#[]⟩,.int .i64 0,.int .i64 0,.int .i64 0,.int .i64 0,.slice none 0 0,.int .i64 0]) HBR.out
       exact bodyPost_ret (v:=.tuple #[.agg #[.int .i64 0,.int .i64 0,.int .i64 0,.string ⟨#[]⟩,.slice none 0 0,.slice none 0 0,.int .i64 0,.int .i64 0,.slice none 0 0,.int .i64 0,.string ⟨#[]⟩,.int .i64 0,.int .i64 0,.int .i64 0,.int .i64 0,.slice none 0 0,.int .i64 0],.int .i64 2]) (results_cell_tmp Tryz.results46 _ _ (w.heap.size+1) _ _ _ _ rfl HRS Tryz.underlying45 rfl (by kernel_rfl) rfl) rfl (decPost_no HV.out HX.out)
      | true =>
       have HM:=Hi (HN.out rfl)
       go_wp2_with fail
       refine (formed_v1 y NN 7 HQ2.out _ hys hyl).mono ?_
       rintro e w2 ⟨rfl,hb2⟩
       have X2:=Hi ((HE.out.alloc _).trans hb2)
       clear hb2
       go_wp2
       go_roundw
       case rel=>exact ⟨6+1,by omega,by go_num,HM,X2⟩
       case measure=>simp [intOf];omega
    · have d0:wr.cell? ⟨b,off+35,none⟩=some (.int .i64 y.tag):=c0
      have d1:wr.cell? ⟨b,off+36,none⟩=some (.int .i64 y.kind):=c1
      have d2:wr.cell? ⟨b,off+37,none⟩=some (.int .i64 y.n):=c2
      have d3:wr.cell? ⟨b,off+38,none⟩=some (.string y.s):=c3
      have d4:wr.cell? ⟨b,off+39,none⟩=some (.slice NN.1 y.kids.length NN.2):=c4
      clear c0 c1 c2 c3 c4
      have ki1:(7:Int)<(x.kids.length:Int):=by omega
      have HQ2:Hid (isNd y 8 1=q):=Hi HQ.out
      cases q with
      | false =>
       have HV:=Hi (HEE.out rfl)
       go_wp2_with fail
       refine (formed_v1 y NN 8 HQ2.out _ hys hyl).mono ?_
       rintro e w2 ⟨rfl,hb2⟩
       have HX2:Hid (Ext w w2):=Hi ((HX.out.alloc _).trans hb2)
       have HBR:=Hi (((Ext.refl _).alloc _).trans hb2 |>.blockAt HBR.out)
       have HX:=HX2
       clear hb2
       go_wp2_with (refine wpList_store_row rfl _ _ _ rfl (w.heap.size+1) #[.int .i64 0,.int .i64 0,.int .i64 0,.string ⟨#[]⟩,.slice none 0 0,.slice none 0 0,.int .i64 0,.int .i64 0,.slice none 0 0,.int .i64 0,.string ⟨#[]⟩,.int .i64 0,.int .i64 0,.int .i64 0,.int .i64 0,.slice none 0 0,.int .i64 0] rfl rfl _ #[.int .i64 0,.int .i64 0,.int .i64 0,.string ⟨#[]⟩,.slice none 0 0,.slice none 0 0,.int .i64 0,.int .i64 0,.slice none 0 0,.int .i64 0,.string ⟨#[]⟩,.int .i64 0,.int .i64 0,.int .i64 0,.int .i64 0,.slice none 0 0,.int .i64 0] HBR.out (by kernel_rfl) rfl (by simp [Value.oneCell']) ?_)
       have HRS:=setRow_at (cs':=#[.int .i64 0,.int .i64 0,.int .i64 0,.string ⟨#[]⟩,.slice none 0 0,.slice none 0 0,.int .i64 0,.int .i64 0,.slice none 0 0,.int .i64 0,.string ⟨#[]⟩,.int .i64 0,.int .i64 0,.int .i64 0,.int .i64 0,.slice none 0 0,.int .i64 0]) HBR.out
       exact bodyPost_ret (v:=.tuple #[.agg #[.int .i64 0,.int .i64 0,.int .i64 0,.string ⟨#[]⟩,.slice none 0 0,.slice none 0 0,.int .i64 0,.int .i64 0,.slice none 0 0,.int .i64 0,.string ⟨#[]⟩,.int .i64 0,.int .i64 0,.int .i64 0,.int .i64 0,.slice none 0 0,.int .i64 0],.int .i64 2]) (results_cell_tmp Tryz.results46 _ _ (w.heap.size+1) _ _ _ _ rfl HRS Tryz.underlying45 rfl (by kernel_rfl) rfl) rfl (decPost_no HV.out HX.out)
      | true =>
       have HM:=Hi (HN.out rfl)
       go_wp2_with fail
       refine (formed_v1 y NN 8 HQ2.out _ hys hyl).mono ?_
       rintro e w2 ⟨rfl,hb2⟩
       have X2:=Hi ((HE.out.alloc _).trans hb2)
       clear hb2
       go_wp2
       go_roundw
       case rel=>exact ⟨7+1,by omega,by go_num,HM,X2⟩
       case measure=>simp [intOf];omega
    · have d0:wr.cell? ⟨b,off+40,none⟩=some (.int .i64 y.tag):=c0
      have d1:wr.cell? ⟨b,off+41,none⟩=some (.int .i64 y.kind):=c1
      have d2:wr.cell? ⟨b,off+42,none⟩=some (.int .i64 y.n):=c2
      have d3:wr.cell? ⟨b,off+43,none⟩=some (.string y.s):=c3
      have d4:wr.cell? ⟨b,off+44,none⟩=some (.slice NN.1 y.kids.length NN.2):=c4
      clear c0 c1 c2 c3 c4
      have ki1:(8:Int)<(x.kids.length:Int):=by omega
      have HQ2:Hid (isLst y 9 2=q):=Hi HQ.out
      cases q with
      | false =>
       have HV:=Hi (HEE.out rfl)
       go_wp2_with fail
       refine (listed_2 B d y NN 9 HQ2.out _ (HKN.out.ext ((Ext.refl _).alloc _)) HYZ.out).mono ?_
       rintro e w2 ⟨rfl,hb2⟩
       have HX2:Hid (Ext w w2):=Hi ((HX.out.alloc _).trans hb2)
       have HBR:=Hi (((Ext.refl _).alloc _).trans hb2 |>.blockAt HBR.out)
       have HX:=HX2
       clear hb2
       go_wp2_with (refine wpList_store_row rfl _ _ _ rfl (w.heap.size+1) #[.int .i64 0,.int .i64 0,.int .i64 0,.string ⟨#[]⟩,.slice none 0 0,.slice none 0 0,.int .i64 0,.int .i64 0,.slice none 0 0,.int .i64 0,.string ⟨#[]⟩,.int .i64 0,.int .i64 0,.int .i64 0,.int .i64 0,.slice none 0 0,.int .i64 0] rfl rfl _ #[.int .i64 0,.int .i64 0,.int .i64 0,.string ⟨#[]⟩,.slice none 0 0,.slice none 0 0,.int .i64 0,.int .i64 0,.slice none 0 0,.int .i64 0,.string ⟨#[]⟩,.int .i64 0,.int .i64 0,.int .i64 0,.int .i64 0,.slice none 0 0,.int .i64 0] HBR.out (by kernel_rfl) rfl (by simp [Value.oneCell']) ?_)
       have HRS:=setRow_at (cs':=#[.int .i64 0,.int .i64 0,.int .i64 0,.string ⟨#[]⟩,.slice none 0 0,.slice none 0 0,.int .i64 0,.int .i64 0,.slice none 0 0,.int .i64 0,.string ⟨#[]⟩,.int .i64 0,.int .i64 0,.int .i64 0,.int .i64 0,.slice none 0 0,.int .i64 0]) HBR.out
       exact bodyPost_ret (v:=.tuple #[.agg #[.int .i64 0,.int .i64 0,.int .i64 0,.string ⟨#[]⟩,.slice none 0 0,.slice none 0 0,.int .i64 0,.int .i64 0,.slice none 0 0,.int .i64 0,.string ⟨#[]⟩,.int .i64 0,.int .i64 0,.int .i64 0,.int .i64 0,.slice none 0 0,.int .i64 0],.int .i64 2]) (results_cell_tmp Tryz.results46 _ _ (w.heap.size+1) _ _ _ _ rfl HRS Tryz.underlying45 rfl (by kernel_rfl) rfl) rfl (decPost_no HV.out HX.out)
      | true =>
       have HM:=Hi (HN.out rfl)
       go_wp2_with fail
       refine (listed_2 B d y NN 9 HQ2.out _ (HKN.out.ext ((Ext.refl _).alloc _)) HYZ.out).mono ?_
       rintro e w2 ⟨rfl,hb2⟩
       have X2:=Hi ((HE.out.alloc _).trans hb2)
       clear hb2
       go_wp2
       go_roundw
       case rel=>exact ⟨8+1,by omega,by go_num,HM,X2⟩
       case measure=>simp [intOf];omega
    · have d0:wr.cell? ⟨b,off+45,none⟩=some (.int .i64 y.tag):=c0
      have d1:wr.cell? ⟨b,off+46,none⟩=some (.int .i64 y.kind):=c1
      have d2:wr.cell? ⟨b,off+47,none⟩=some (.int .i64 y.n):=c2
      have d3:wr.cell? ⟨b,off+48,none⟩=some (.string y.s):=c3
      have d4:wr.cell? ⟨b,off+49,none⟩=some (.slice NN.1 y.kids.length NN.2):=c4
      clear c0 c1 c2 c3 c4
      have ki1:(9:Int)<(x.kids.length:Int):=by omega
      have HQ2:Hid (isNd y 10 1=q):=Hi HQ.out
      cases q with
      | false =>
       have HV:=Hi (HEE.out rfl)
       go_wp2_with fail
       refine (formed_v1 y NN 10 HQ2.out _ hys hyl).mono ?_
       rintro e w2 ⟨rfl,hb2⟩
       have HX2:Hid (Ext w w2):=Hi ((HX.out.alloc _).trans hb2)
       have HBR:=Hi (((Ext.refl _).alloc _).trans hb2 |>.blockAt HBR.out)
       have HX:=HX2
       clear hb2
       go_wp2_with (refine wpList_store_row rfl _ _ _ rfl (w.heap.size+1) #[.int .i64 0,.int .i64 0,.int .i64 0,.string ⟨#[]⟩,.slice none 0 0,.slice none 0 0,.int .i64 0,.int .i64 0,.slice none 0 0,.int .i64 0,.string ⟨#[]⟩,.int .i64 0,.int .i64 0,.int .i64 0,.int .i64 0,.slice none 0 0,.int .i64 0] rfl rfl _ #[.int .i64 0,.int .i64 0,.int .i64 0,.string ⟨#[]⟩,.slice none 0 0,.slice none 0 0,.int .i64 0,.int .i64 0,.slice none 0 0,.int .i64 0,.string ⟨#[]⟩,.int .i64 0,.int .i64 0,.int .i64 0,.int .i64 0,.slice none 0 0,.int .i64 0] HBR.out (by kernel_rfl) rfl (by simp [Value.oneCell']) ?_)
       have HRS:=setRow_at (cs':=#[.int .i64 0,.int .i64 0,.int .i64 0,.string ⟨#[]⟩,.slice none 0 0,.slice none 0 0,.int .i64 0,.int .i64 0,.slice none 0 0,.int .i64 0,.string ⟨#[]⟩,.int .i64 0,.int .i64 0,.int .i64 0,.int .i64 0,.slice none 0 0,.int .i64 0]) HBR.out
       exact bodyPost_ret (v:=.tuple #[.agg #[.int .i64 0,.int .i64 0,.int .i64 0,.string ⟨#[]⟩,.slice none 0 0,.slice none 0 0,.int .i64 0,.int .i64 0,.slice none 0 0,.int .i64 0,.string ⟨#[]⟩,.int .i64 0,.int .i64 0,.int .i64 0,.int .i64 0,.slice none 0 0,.int .i64 0],.int .i64 2]) (results_cell_tmp Tryz.results46 _ _ (w.heap.size+1) _ _ _ _ rfl HRS Tryz.underlying45 rfl (by kernel_rfl) rfl) rfl (decPost_no HV.out HX.out)
      | true =>
       have HM:=Hi (HN.out rfl)
       go_wp2_with fail
       refine (formed_v1 y NN 10 HQ2.out _ hys hyl).mono ?_
       rintro e w2 ⟨rfl,hb2⟩
       have X2:=Hi ((HE.out.alloc _).trans hb2)
       clear hb2
       go_wp2
       go_roundw
       case rel=>exact ⟨9+1,by omega,by go_num,HM,X2⟩
       case measure=>simp [intOf];omega
    · have d0:wr.cell? ⟨b,off+50,none⟩=some (.int .i64 y.tag):=c0
      have d1:wr.cell? ⟨b,off+51,none⟩=some (.int .i64 y.kind):=c1
      have d2:wr.cell? ⟨b,off+52,none⟩=some (.int .i64 y.n):=c2
      have d3:wr.cell? ⟨b,off+53,none⟩=some (.string y.s):=c3
      have d4:wr.cell? ⟨b,off+54,none⟩=some (.slice NN.1 y.kids.length NN.2):=c4
      clear c0 c1 c2 c3 c4
      have ki1:(10:Int)<(x.kids.length:Int):=by omega
      have HQ2:Hid (isNd y 11 2=q):=Hi HQ.out
      cases q with
      | false =>
       have HV:=Hi (HEE.out rfl)
       go_wp2_with fail
       refine (formed_v2 y NN 11 HQ2.out _ hys hyl).mono ?_
       rintro e w2 ⟨rfl,hb2⟩
       have HX2:Hid (Ext w w2):=Hi ((HX.out.alloc _).trans hb2)
       have HBR:=Hi (((Ext.refl _).alloc _).trans hb2 |>.blockAt HBR.out)
       have HX:=HX2
       clear hb2
       go_wp2_with (refine wpList_store_row rfl _ _ _ rfl (w.heap.size+1) #[.int .i64 0,.int .i64 0,.int .i64 0,.string ⟨#[]⟩,.slice none 0 0,.slice none 0 0,.int .i64 0,.int .i64 0,.slice none 0 0,.int .i64 0,.string ⟨#[]⟩,.int .i64 0,.int .i64 0,.int .i64 0,.int .i64 0,.slice none 0 0,.int .i64 0] rfl rfl _ #[.int .i64 0,.int .i64 0,.int .i64 0,.string ⟨#[]⟩,.slice none 0 0,.slice none 0 0,.int .i64 0,.int .i64 0,.slice none 0 0,.int .i64 0,.string ⟨#[]⟩,.int .i64 0,.int .i64 0,.int .i64 0,.int .i64 0,.slice none 0 0,.int .i64 0] HBR.out (by kernel_rfl) rfl (by simp [Value.oneCell']) ?_)
       have HRS:=setRow_at (cs':=#[.int .i64 0,.int .i64 0,.int .i64 0,.string ⟨#[]⟩,.slice none 0 0,.slice none 0 0,.int .i64 0,.int .i64 0,.slice none 0 0,.int .i64 0,.string ⟨#[]⟩,.int .i64 0,.int .i64 0,.int .i64 0,.int .i64 0,.slice none 0 0,.int .i64 0]) HBR.out
       exact bodyPost_ret (v:=.tuple #[.agg #[.int .i64 0,.int .i64 0,.int .i64 0,.string ⟨#[]⟩,.slice none 0 0,.slice none 0 0,.int .i64 0,.int .i64 0,.slice none 0 0,.int .i64 0,.string ⟨#[]⟩,.int .i64 0,.int .i64 0,.int .i64 0,.int .i64 0,.slice none 0 0,.int .i64 0],.int .i64 2]) (results_cell_tmp Tryz.results46 _ _ (w.heap.size+1) _ _ _ _ rfl HRS Tryz.underlying45 rfl (by kernel_rfl) rfl) rfl (decPost_no HV.out HX.out)
      | true =>
       have HM:=Hi (HN.out rfl)
       go_wp2_with fail
       refine (formed_v2 y NN 11 HQ2.out _ hys hyl).mono ?_
       rintro e w2 ⟨rfl,hb2⟩
       have X2:=Hi ((HE.out.alloc _).trans hb2)
       clear hb2
       go_wp2
       go_roundw
       case rel=>exact ⟨10+1,by omega,by go_num,HM,X2⟩
       case measure=>simp [intOf];omega
    · have d0:wr.cell? ⟨b,off+55,none⟩=some (.int .i64 y.tag):=c0
      have d1:wr.cell? ⟨b,off+56,none⟩=some (.int .i64 y.kind):=c1
      have d2:wr.cell? ⟨b,off+57,none⟩=some (.int .i64 y.n):=c2
      have d3:wr.cell? ⟨b,off+58,none⟩=some (.string y.s):=c3
      have d4:wr.cell? ⟨b,off+59,none⟩=some (.slice NN.1 y.kids.length NN.2):=c4
      clear c0 c1 c2 c3 c4
      have ki1:(11:Int)<(x.kids.length:Int):=by omega
      have HQ2:Hid (isNd y 12 1=q):=Hi HQ.out
      cases q with
      | false =>
       have HV:=Hi (HEE.out rfl)
       go_wp2_with fail
       refine (formed_v1 y NN 12 HQ2.out _ hys hyl).mono ?_
       rintro e w2 ⟨rfl,hb2⟩
       have HX2:Hid (Ext w w2):=Hi ((HX.out.alloc _).trans hb2)
       have HBR:=Hi (((Ext.refl _).alloc _).trans hb2 |>.blockAt HBR.out)
       have HX:=HX2
       clear hb2
       go_wp2_with (refine wpList_store_row rfl _ _ _ rfl (w.heap.size+1) #[.int .i64 0,.int .i64 0,.int .i64 0,.string ⟨#[]⟩,.slice none 0 0,.slice none 0 0,.int .i64 0,.int .i64 0,.slice none 0 0,.int .i64 0,.string ⟨#[]⟩,.int .i64 0,.int .i64 0,.int .i64 0,.int .i64 0,.slice none 0 0,.int .i64 0] rfl rfl _ #[.int .i64 0,.int .i64 0,.int .i64 0,.string ⟨#[]⟩,.slice none 0 0,.slice none 0 0,.int .i64 0,.int .i64 0,.slice none 0 0,.int .i64 0,.string ⟨#[]⟩,.int .i64 0,.int .i64 0,.int .i64 0,.int .i64 0,.slice none 0 0,.int .i64 0] HBR.out (by kernel_rfl) rfl (by simp [Value.oneCell']) ?_)
       have HRS:=setRow_at (cs':=#[.int .i64 0,.int .i64 0,.int .i64 0,.string ⟨#[]⟩,.slice none 0 0,.slice none 0 0,.int .i64 0,.int .i64 0,.slice none 0 0,.int .i64 0,.string ⟨#[]⟩,.int .i64 0,.int .i64 0,.int .i64 0,.int .i64 0,.slice none 0 0,.int .i64 0]) HBR.out
       exact bodyPost_ret (v:=.tuple #[.agg #[.int .i64 0,.int .i64 0,.int .i64 0,.string ⟨#[]⟩,.slice none 0 0,.slice none 0 0,.int .i64 0,.int .i64 0,.slice none 0 0,.int .i64 0,.string ⟨#[]⟩,.int .i64 0,.int .i64 0,.int .i64 0,.int .i64 0,.slice none 0 0,.int .i64 0],.int .i64 2]) (results_cell_tmp Tryz.results46 _ _ (w.heap.size+1) _ _ _ _ rfl HRS Tryz.underlying45 rfl (by kernel_rfl) rfl) rfl (decPost_no HV.out HX.out)
      | true =>
       have HM:=Hi (HN.out rfl)
       go_wp2_with fail
       refine (formed_v1 y NN 12 HQ2.out _ hys hyl).mono ?_
       rintro e w2 ⟨rfl,hb2⟩
       have X2:=Hi ((HE.out.alloc _).trans hb2)
       clear hb2
       go_wp2
       go_roundw
       case rel=>exact ⟨11+1,by omega,by go_num,HM,X2⟩
       case measure=>simp [intOf];omega
    · have d0:wr.cell? ⟨b,off+60,none⟩=some (.int .i64 y.tag):=c0
      have d1:wr.cell? ⟨b,off+61,none⟩=some (.int .i64 y.kind):=c1
      have d2:wr.cell? ⟨b,off+62,none⟩=some (.int .i64 y.n):=c2
      have d3:wr.cell? ⟨b,off+63,none⟩=some (.string y.s):=c3
      have d4:wr.cell? ⟨b,off+64,none⟩=some (.slice NN.1 y.kids.length NN.2):=c4
      clear c0 c1 c2 c3 c4
      have ki1:(12:Int)<(x.kids.length:Int):=by omega
      have HQ2:Hid (isNd y 13 1=q):=Hi HQ.out
      cases q with
      | false =>
       have HV:=Hi (HEE.out rfl)
       go_wp2_with fail
       refine (formed_v1 y NN 13 HQ2.out _ hys hyl).mono ?_
       rintro e w2 ⟨rfl,hb2⟩
       have HX2:Hid (Ext w w2):=Hi ((HX.out.alloc _).trans hb2)
       have HBR:=Hi (((Ext.refl _).alloc _).trans hb2 |>.blockAt HBR.out)
       have HX:=HX2
       clear hb2
       go_wp2_with (refine wpList_store_row rfl _ _ _ rfl (w.heap.size+1) #[.int .i64 0,.int .i64 0,.int .i64 0,.string ⟨#[]⟩,.slice none 0 0,.slice none 0 0,.int .i64 0,.int .i64 0,.slice none 0 0,.int .i64 0,.string ⟨#[]⟩,.int .i64 0,.int .i64 0,.int .i64 0,.int .i64 0,.slice none 0 0,.int .i64 0] rfl rfl _ #[.int .i64 0,.int .i64 0,.int .i64 0,.string ⟨#[]⟩,.slice none 0 0,.slice none 0 0,.int .i64 0,.int .i64 0,.slice none 0 0,.int .i64 0,.string ⟨#[]⟩,.int .i64 0,.int .i64 0,.int .i64 0,.int .i64 0,.slice none 0 0,.int .i64 0] HBR.out (by kernel_rfl) rfl (by simp [Value.oneCell']) ?_)
       have HRS:=setRow_at (cs':=#[.int .i64 0,.int .i64 0,.int .i64 0,.string ⟨#[]⟩,.slice none 0 0,.slice none 0 0,.int .i64 0,.int .i64 0,.slice none 0 0,.int .i64 0,.string ⟨#[]⟩,.int .i64 0,.int .i64 0,.int .i64 0,.int .i64 0,.slice none 0 0,.int .i64 0]) HBR.out
       exact bodyPost_ret (v:=.tuple #[.agg #[.int .i64 0,.int .i64 0,.int .i64 0,.string ⟨#[]⟩,.slice none 0 0,.slice none 0 0,.int .i64 0,.int .i64 0,.slice none 0 0,.int .i64 0,.string ⟨#[]⟩,.int .i64 0,.int .i64 0,.int .i64 0,.int .i64 0,.slice none 0 0,.int .i64 0],.int .i64 2]) (results_cell_tmp Tryz.results46 _ _ (w.heap.size+1) _ _ _ _ rfl HRS Tryz.underlying45 rfl (by kernel_rfl) rfl) rfl (decPost_no HV.out HX.out)
      | true =>
       have HM:=Hi (HN.out rfl)
       go_wp2_with fail
       refine (formed_v1 y NN 13 HQ2.out _ hys hyl).mono ?_
       rintro e w2 ⟨rfl,hb2⟩
       have X2:=Hi ((HE.out.alloc _).trans hb2)
       clear hb2
       go_wp2
       go_roundw
       case rel=>exact ⟨12+1,by omega,by go_num,HM,X2⟩
       case measure=>simp [intOf];omega
    · have d0:wr.cell? ⟨b,off+65,none⟩=some (.int .i64 y.tag):=c0
      have d1:wr.cell? ⟨b,off+66,none⟩=some (.int .i64 y.kind):=c1
      have d2:wr.cell? ⟨b,off+67,none⟩=some (.int .i64 y.n):=c2
      have d3:wr.cell? ⟨b,off+68,none⟩=some (.string y.s):=c3
      have d4:wr.cell? ⟨b,off+69,none⟩=some (.slice NN.1 y.kids.length NN.2):=c4
      clear c0 c1 c2 c3 c4
      have ki1:(13:Int)<(x.kids.length:Int):=by omega
      have HQ2:Hid (isNd y 14 1=q):=Hi HQ.out
      cases q with
      | false =>
       have HV:=Hi (HEE.out rfl)
       go_wp2_with fail
       refine (formed_v1 y NN 14 HQ2.out _ hys hyl).mono ?_
       rintro e w2 ⟨rfl,hb2⟩
       have HX2:Hid (Ext w w2):=Hi ((HX.out.alloc _).trans hb2)
       have HBR:=Hi (((Ext.refl _).alloc _).trans hb2 |>.blockAt HBR.out)
       have HX:=HX2
       clear hb2
       go_wp2_with (refine wpList_store_row rfl _ _ _ rfl (w.heap.size+1) #[.int .i64 0,.int .i64 0,.int .i64 0,.string ⟨#[]⟩,.slice none 0 0,.slice none 0 0,.int .i64 0,.int .i64 0,.slice none 0 0,.int .i64 0,.string ⟨#[]⟩,.int .i64 0,.int .i64 0,.int .i64 0,.int .i64 0,.slice none 0 0,.int .i64 0] rfl rfl _ #[.int .i64 0,.int .i64 0,.int .i64 0,.string ⟨#[]⟩,.slice none 0 0,.slice none 0 0,.int .i64 0,.int .i64 0,.slice none 0 0,.int .i64 0,.string ⟨#[]⟩,.int .i64 0,.int .i64 0,.int .i64 0,.int .i64 0,.slice none 0 0,.int .i64 0] HBR.out (by kernel_rfl) rfl (by simp [Value.oneCell']) ?_)
       have HRS:=setRow_at (cs':=#[.int .i64 0,.int .i64 0,.int .i64 0,.string ⟨#[]⟩,.slice none 0 0,.slice none 0 0,.int .i64 0,.int .i64 0,.slice none 0 0,.int .i64 0,.string ⟨#[]⟩,.int .i64 0,.int .i64 0,.int .i64 0,.int .i64 0,.slice none 0 0,.int .i64 0]) HBR.out
       exact bodyPost_ret (v:=.tuple #[.agg #[.int .i64 0,.int .i64 0,.int .i64 0,.string ⟨#[]⟩,.slice none 0 0,.slice none 0 0,.int .i64 0,.int .i64 0,.slice none 0 0,.int .i64 0,.string ⟨#[]⟩,.int .i64 0,.int .i64 0,.int .i64 0,.int .i64 0,.slice none 0 0,.int .i64 0],.int .i64 2]) (results_cell_tmp Tryz.results46 _ _ (w.heap.size+1) _ _ _ _ rfl HRS Tryz.underlying45 rfl (by kernel_rfl) rfl) rfl (decPost_no HV.out HX.out)
      | true =>
       have HM:=Hi (HN.out rfl)
       go_wp2_with fail
       refine (formed_v1 y NN 14 HQ2.out _ hys hyl).mono ?_
       rintro e w2 ⟨rfl,hb2⟩
       have X2:=Hi ((HE.out.alloc _).trans hb2)
       clear hb2
       go_wp2
       go_roundw
       case rel=>exact ⟨13+1,by omega,by go_num,HM,X2⟩
       case measure=>simp [intOf];omega
    · have d0:wr.cell? ⟨b,off+70,none⟩=some (.int .i64 y.tag):=c0
      have d1:wr.cell? ⟨b,off+71,none⟩=some (.int .i64 y.kind):=c1
      have d2:wr.cell? ⟨b,off+72,none⟩=some (.int .i64 y.n):=c2
      have d3:wr.cell? ⟨b,off+73,none⟩=some (.string y.s):=c3
      have d4:wr.cell? ⟨b,off+74,none⟩=some (.slice NN.1 y.kids.length NN.2):=c4
      clear c0 c1 c2 c3 c4
      have ki1:(14:Int)<(x.kids.length:Int):=by omega
      have HQ2:Hid (isNd y 15 1=q):=Hi HQ.out
      cases q with
      | false =>
       have HV:=Hi (HEE.out rfl)
       go_wp2_with fail
       refine (formed_v1 y NN 15 HQ2.out _ hys hyl).mono ?_
       rintro e w2 ⟨rfl,hb2⟩
       have HX2:Hid (Ext w w2):=Hi ((HX.out.alloc _).trans hb2)
       have HBR:=Hi (((Ext.refl _).alloc _).trans hb2 |>.blockAt HBR.out)
       have HX:=HX2
       clear hb2
       go_wp2_with (refine wpList_store_row rfl _ _ _ rfl (w.heap.size+1) #[.int .i64 0,.int .i64 0,.int .i64 0,.string ⟨#[]⟩,.slice none 0 0,.slice none 0 0,.int .i64 0,.int .i64 0,.slice none 0 0,.int .i64 0,.string ⟨#[]⟩,.int .i64 0,.int .i64 0,.int .i64 0,.int .i64 0,.slice none 0 0,.int .i64 0] rfl rfl _ #[.int .i64 0,.int .i64 0,.int .i64 0,.string ⟨#[]⟩,.slice none 0 0,.slice none 0 0,.int .i64 0,.int .i64 0,.slice none 0 0,.int .i64 0,.string ⟨#[]⟩,.int .i64 0,.int .i64 0,.int .i64 0,.int .i64 0,.slice none 0 0,.int .i64 0] HBR.out (by kernel_rfl) rfl (by simp [Value.oneCell']) ?_)
       have HRS:=setRow_at (cs':=#[.int .i64 0,.int .i64 0,.int .i64 0,.string ⟨#[]⟩,.slice none 0 0,.slice none 0 0,.int .i64 0,.int .i64 0,.slice none 0 0,.int .i64 0,.string ⟨#[]⟩,.int .i64 0,.int .i64 0,.int .i64 0,.int .i64 0,.slice none 0 0,.int .i64 0]) HBR.out
       exact bodyPost_ret (v:=.tuple #[.agg #[.int .i64 0,.int .i64 0,.int .i64 0,.string ⟨#[]⟩,.slice none 0 0,.slice none 0 0,.int .i64 0,.int .i64 0,.slice none 0 0,.int .i64 0,.string ⟨#[]⟩,.int .i64 0,.int .i64 0,.int .i64 0,.int .i64 0,.slice none 0 0,.int .i64 0],.int .i64 2]) (results_cell_tmp Tryz.results46 _ _ (w.heap.size+1) _ _ _ _ rfl HRS Tryz.underlying45 rfl (by kernel_rfl) rfl) rfl (decPost_no HV.out HX.out)
      | true =>
       have HM:=Hi (HN.out rfl)
       go_wp2_with fail
       refine (formed_v1 y NN 15 HQ2.out _ hys hyl).mono ?_
       rintro e w2 ⟨rfl,hb2⟩
       have X2:=Hi ((HE.out.alloc _).trans hb2)
       clear hb2
       go_wp2
       go_roundw
       case rel=>exact ⟨14+1,by omega,by go_num,HM,X2⟩
       case measure=>simp [intOf];omega
    · have d0:wr.cell? ⟨b,off+75,none⟩=some (.int .i64 y.tag):=c0
      have d1:wr.cell? ⟨b,off+76,none⟩=some (.int .i64 y.kind):=c1
      have d2:wr.cell? ⟨b,off+77,none⟩=some (.int .i64 y.n):=c2
      have d3:wr.cell? ⟨b,off+78,none⟩=some (.string y.s):=c3
      have d4:wr.cell? ⟨b,off+79,none⟩=some (.slice NN.1 y.kids.length NN.2):=c4
      clear c0 c1 c2 c3 c4
      have ki1:(15:Int)<(x.kids.length:Int):=by omega
      have HQ2:Hid (isLst y 16 1=q):=Hi HQ.out
      cases q with
      | false =>
       have HV:=Hi (HEE.out rfl)
       go_wp2_with fail
       refine (listed_1 B d y NN 16 HQ2.out _ (HKN.out.ext ((Ext.refl _).alloc _)) HYZ.out).mono ?_
       rintro e w2 ⟨rfl,hb2⟩
       have HX2:Hid (Ext w w2):=Hi ((HX.out.alloc _).trans hb2)
       have HBR:=Hi (((Ext.refl _).alloc _).trans hb2 |>.blockAt HBR.out)
       have HX:=HX2
       clear hb2
       go_wp2_with (refine wpList_store_row rfl _ _ _ rfl (w.heap.size+1) #[.int .i64 0,.int .i64 0,.int .i64 0,.string ⟨#[]⟩,.slice none 0 0,.slice none 0 0,.int .i64 0,.int .i64 0,.slice none 0 0,.int .i64 0,.string ⟨#[]⟩,.int .i64 0,.int .i64 0,.int .i64 0,.int .i64 0,.slice none 0 0,.int .i64 0] rfl rfl _ #[.int .i64 0,.int .i64 0,.int .i64 0,.string ⟨#[]⟩,.slice none 0 0,.slice none 0 0,.int .i64 0,.int .i64 0,.slice none 0 0,.int .i64 0,.string ⟨#[]⟩,.int .i64 0,.int .i64 0,.int .i64 0,.int .i64 0,.slice none 0 0,.int .i64 0] HBR.out (by kernel_rfl) rfl (by simp [Value.oneCell']) ?_)
       have HRS:=setRow_at (cs':=#[.int .i64 0,.int .i64 0,.int .i64 0,.string ⟨#[]⟩,.slice none 0 0,.slice none 0 0,.int .i64 0,.int .i64 0,.slice none 0 0,.int .i64 0,.string ⟨#[]⟩,.int .i64 0,.int .i64 0,.int .i64 0,.int .i64 0,.slice none 0 0,.int .i64 0]) HBR.out
       exact bodyPost_ret (v:=.tuple #[.agg #[.int .i64 0,.int .i64 0,.int .i64 0,.string ⟨#[]⟩,.slice none 0 0,.slice none 0 0,.int .i64 0,.int .i64 0,.slice none 0 0,.int .i64 0,.string ⟨#[]⟩,.int .i64 0,.int .i64 0,.int .i64 0,.int .i64 0,.slice none 0 0,.int .i64 0],.int .i64 2]) (results_cell_tmp Tryz.results46 _ _ (w.heap.size+1) _ _ _ _ rfl HRS Tryz.underlying45 rfl (by kernel_rfl) rfl) rfl (decPost_no HV.out HX.out)
      | true =>
       have HM:=Hi (HN.out rfl)
       go_wp2_with fail
       refine (listed_1 B d y NN 16 HQ2.out _ (HKN.out.ext ((Ext.refl _).alloc _)) HYZ.out).mono ?_
       rintro e w2 ⟨rfl,hb2⟩
       have X2:=Hi ((HE.out.alloc _).trans hb2)
       clear hb2
       go_wp2
       go_roundw
       case rel=>exact ⟨15+1,by omega,by go_num,HM,X2⟩
       case measure=>simp [intOf];omega
    · have d0:wr.cell? ⟨b,off+80,none⟩=some (.int .i64 y.tag):=c0
      have d1:wr.cell? ⟨b,off+81,none⟩=some (.int .i64 y.kind):=c1
      have d2:wr.cell? ⟨b,off+82,none⟩=some (.int .i64 y.n):=c2
      have d3:wr.cell? ⟨b,off+83,none⟩=some (.string y.s):=c3
      have d4:wr.cell? ⟨b,off+84,none⟩=some (.slice NN.1 y.kids.length NN.2):=c4
      clear c0 c1 c2 c3 c4
      have ki1:(16:Int)<(x.kids.length:Int):=by omega
      have HQ2:Hid (isNd y 17 1=q):=Hi HQ.out
      cases q with
      | false =>
       have HV:=Hi (HEE.out rfl)
       go_wp2_with fail
       refine (formed_v1 y NN 17 HQ2.out _ hys hyl).mono ?_
       rintro e w2 ⟨rfl,hb2⟩
       have HX2:Hid (Ext w w2):=Hi ((HX.out.alloc _).trans hb2)
       have HBR:=Hi (((Ext.refl _).alloc _).trans hb2 |>.blockAt HBR.out)
       have HX:=HX2
       clear hb2
       go_wp2_with (refine wpList_store_row rfl _ _ _ rfl (w.heap.size+1) #[.int .i64 0,.int .i64 0,.int .i64 0,.string ⟨#[]⟩,.slice none 0 0,.slice none 0 0,.int .i64 0,.int .i64 0,.slice none 0 0,.int .i64 0,.string ⟨#[]⟩,.int .i64 0,.int .i64 0,.int .i64 0,.int .i64 0,.slice none 0 0,.int .i64 0] rfl rfl _ #[.int .i64 0,.int .i64 0,.int .i64 0,.string ⟨#[]⟩,.slice none 0 0,.slice none 0 0,.int .i64 0,.int .i64 0,.slice none 0 0,.int .i64 0,.string ⟨#[]⟩,.int .i64 0,.int .i64 0,.int .i64 0,.int .i64 0,.slice none 0 0,.int .i64 0] HBR.out (by kernel_rfl) rfl (by simp [Value.oneCell']) ?_)
       have HRS:=setRow_at (cs':=#[.int .i64 0,.int .i64 0,.int .i64 0,.string ⟨#[]⟩,.slice none 0 0,.slice none 0 0,.int .i64 0,.int .i64 0,.slice none 0 0,.int .i64 0,.string ⟨#[]⟩,.int .i64 0,.int .i64 0,.int .i64 0,.int .i64 0,.slice none 0 0,.int .i64 0]) HBR.out
       exact bodyPost_ret (v:=.tuple #[.agg #[.int .i64 0,.int .i64 0,.int .i64 0,.string ⟨#[]⟩,.slice none 0 0,.slice none 0 0,.int .i64 0,.int .i64 0,.slice none 0 0,.int .i64 0,.string ⟨#[]⟩,.int .i64 0,.int .i64 0,.int .i64 0,.int .i64 0,.slice none 0 0,.int .i64 0],.int .i64 2]) (results_cell_tmp Tryz.results46 _ _ (w.heap.size+1) _ _ _ _ rfl HRS Tryz.underlying45 rfl (by kernel_rfl) rfl) rfl (decPost_no HV.out HX.out)
      | true =>
       have HM:=Hi (HN.out rfl)
       go_wp2_with fail
       refine (formed_v1 y NN 17 HQ2.out _ hys hyl).mono ?_
       rintro e w2 ⟨rfl,hb2⟩
       have X2:=Hi ((HE.out.alloc _).trans hb2)
       clear hb2
       go_wp2
       go_roundw
       case rel=>exact ⟨16+1,by omega,by go_num,HM,X2⟩
       case measure=>simp [intOf];omega
  · have hk17:k=17:=by omega
    subst hk17
    have HV:Hid (isTr x=true):=Hi (by rw [← HV2.out];exact HA.out)
    have HX2:=Hi (HX.out.trans HE.out)
    obtain ⟨y0,hy0⟩:∃ y,x.kids[0]?=some y:=⟨x.kids[0]'(by rw [H17.out];omega),List.getElem?_eq_getElem _⟩
    obtain ⟨y1,hy1⟩:∃ y,x.kids[1]?=some y:=⟨x.kids[1]'(by rw [H17.out];omega),List.getElem?_eq_getElem _⟩
    obtain ⟨y2,hy2⟩:∃ y,x.kids[2]?=some y:=⟨x.kids[2]'(by rw [H17.out];omega),List.getElem?_eq_getElem _⟩
    obtain ⟨y3,hy3⟩:∃ y,x.kids[3]?=some y:=⟨x.kids[3]'(by rw [H17.out];omega),List.getElem?_eq_getElem _⟩
    obtain ⟨y4,hy4⟩:∃ y,x.kids[4]?=some y:=⟨x.kids[4]'(by rw [H17.out];omega),List.getElem?_eq_getElem _⟩
    obtain ⟨y5,hy5⟩:∃ y,x.kids[5]?=some y:=⟨x.kids[5]'(by rw [H17.out];omega),List.getElem?_eq_getElem _⟩
    obtain ⟨y6,hy6⟩:∃ y,x.kids[6]?=some y:=⟨x.kids[6]'(by rw [H17.out];omega),List.getElem?_eq_getElem _⟩
    obtain ⟨y7,hy7⟩:∃ y,x.kids[7]?=some y:=⟨x.kids[7]'(by rw [H17.out];omega),List.getElem?_eq_getElem _⟩
    obtain ⟨y8,hy8⟩:∃ y,x.kids[8]?=some y:=⟨x.kids[8]'(by rw [H17.out];omega),List.getElem?_eq_getElem _⟩
    obtain ⟨y9,hy9⟩:∃ y,x.kids[9]?=some y:=⟨x.kids[9]'(by rw [H17.out];omega),List.getElem?_eq_getElem _⟩
    obtain ⟨y10,hy10⟩:∃ y,x.kids[10]?=some y:=⟨x.kids[10]'(by rw [H17.out];omega),List.getElem?_eq_getElem _⟩
    obtain ⟨y11,hy11⟩:∃ y,x.kids[11]?=some y:=⟨x.kids[11]'(by rw [H17.out];omega),List.getElem?_eq_getElem _⟩
    obtain ⟨y12,hy12⟩:∃ y,x.kids[12]?=some y:=⟨x.kids[12]'(by rw [H17.out];omega),List.getElem?_eq_getElem _⟩
    obtain ⟨y13,hy13⟩:∃ y,x.kids[13]?=some y:=⟨x.kids[13]'(by rw [H17.out];omega),List.getElem?_eq_getElem _⟩
    obtain ⟨y14,hy14⟩:∃ y,x.kids[14]?=some y:=⟨x.kids[14]'(by rw [H17.out];omega),List.getElem?_eq_getElem _⟩
    obtain ⟨y15,hy15⟩:∃ y,x.kids[15]?=some y:=⟨x.kids[15]'(by rw [H17.out];omega),List.getElem?_eq_getElem _⟩
    obtain ⟨y16,hy16⟩:∃ y,x.kids[16]?=some y:=⟨x.kids[16]'(by rw [H17.out];omega),List.getElem?_eq_getElem _⟩
    have g0:x.kids.getD 0 default=y0:=by rw [List.getD_eq_getElem?_getD,hy0];rfl
    have g1:x.kids.getD 1 default=y1:=by rw [List.getD_eq_getElem?_getD,hy1];rfl
    have g2:x.kids.getD 2 default=y2:=by rw [List.getD_eq_getElem?_getD,hy2];rfl
    have g3:x.kids.getD 3 default=y3:=by rw [List.getD_eq_getElem?_getD,hy3];rfl
    have g4:x.kids.getD 4 default=y4:=by rw [List.getD_eq_getElem?_getD,hy4];rfl
    have g5:x.kids.getD 5 default=y5:=by rw [List.getD_eq_getElem?_getD,hy5];rfl
    have g6:x.kids.getD 6 default=y6:=by rw [List.getD_eq_getElem?_getD,hy6];rfl
    have g7:x.kids.getD 7 default=y7:=by rw [List.getD_eq_getElem?_getD,hy7];rfl
    have g8:x.kids.getD 8 default=y8:=by rw [List.getD_eq_getElem?_getD,hy8];rfl
    have g9:x.kids.getD 9 default=y9:=by rw [List.getD_eq_getElem?_getD,hy9];rfl
    have g10:x.kids.getD 10 default=y10:=by rw [List.getD_eq_getElem?_getD,hy10];rfl
    have g11:x.kids.getD 11 default=y11:=by rw [List.getD_eq_getElem?_getD,hy11];rfl
    have g12:x.kids.getD 12 default=y12:=by rw [List.getD_eq_getElem?_getD,hy12];rfl
    have g13:x.kids.getD 13 default=y13:=by rw [List.getD_eq_getElem?_getD,hy13];rfl
    have g14:x.kids.getD 14 default=y14:=by rw [List.getD_eq_getElem?_getD,hy14];rfl
    have g15:x.kids.getD 15 default=y15:=by rw [List.getD_eq_getElem?_getD,hy15];rfl
    have g16:x.kids.getD 16 default=y16:=by rw [List.getD_eq_getElem?_getD,hy16];rfl
    have hit:itemOf x.kids=⟨y0.n,y1.n,y2.n,y3.s,y4.kids.map Nd.s,y5.kids.map Nd.n,y6.n,y7.n,y8.kids.map Nd.s,y9.n,y10.s,y11.n,y12.n,y13.n,y14.n,y15.kids.map Nd.n,y16.n⟩:=by unfold itemOf;rw [g0,g1,g2,g3,g4,g5,g6,g7,g8,g9,g10,g11,g12,g13,g14,g15,g16]
    have hok:=itemOf_ok HZ.out HNN.out H17.out
    rw [hit] at hok
    have HIT:=Hi hit
    have HOK:=Hi hok
    clear hit hok g0 g1 g2 g3 g4 g5 g6 g7 g8 g9 g10 g11 g12 g13 g14 g15 g16
    have HM4:Hid (y4∈x.kids):=Hi (List.mem_of_getElem? hy4)
    have HM5:Hid (y5∈x.kids):=Hi (List.mem_of_getElem? hy5)
    have HM8:Hid (y8∈x.kids):=Hi (List.mem_of_getElem? hy8)
    have HM15:Hid (y15∈x.kids):=Hi (List.mem_of_getElem? hy15)
    have hK0:=HK.out.ext HX2.out
    obtain ⟨b,off,N0,hA,-,p0,r0,s0,t0,m0,K0⟩:=hK0.at_ hy0
    dsimp only at hA
    subst hA
    have M0:Hid (wr.cell? ⟨b,off+2,none⟩=some (.int .i64 y0.n)):=Hi s0
    clear p0 r0 s0 t0 m0 K0 hy0
    obtain ⟨b1,o1,N1,e1,-,p1,r1,s1,t1,m1,K1⟩:=hK0.at_ hy1
    obtain ⟨rfl,rfl⟩:b=b1∧off=o1:=by cases e1;exact ⟨rfl,rfl⟩
    clear e1
    have M1:Hid (wr.cell? ⟨b,off+7,none⟩=some (.int .i64 y1.n)):=Hi s1
    clear p1 r1 s1 t1 m1 K1 hy1
    obtain ⟨b2,o2,N2,e2,-,p2,r2,s2,t2,m2,K2⟩:=hK0.at_ hy2
    obtain ⟨rfl,rfl⟩:b=b2∧off=o2:=by cases e2;exact ⟨rfl,rfl⟩
    clear e2
    have M2:Hid (wr.cell? ⟨b,off+12,none⟩=some (.int .i64 y2.n)):=Hi s2
    clear p2 r2 s2 t2 m2 K2 hy2
    obtain ⟨b3,o3,N3,e3,-,p3,r3,s3,t3,m3,K3⟩:=hK0.at_ hy3
    obtain ⟨rfl,rfl⟩:b=b3∧off=o3:=by cases e3;exact ⟨rfl,rfl⟩
    clear e3
    have M3:Hid (wr.cell? ⟨b,off+18,none⟩=some (.string y3.s)):=Hi t3
    clear p3 r3 s3 t3 m3 K3 hy3
    obtain ⟨b4,o4,N4,e4,-,p4,r4,s4,t4,m4,K4⟩:=hK0.at_ hy4
    obtain ⟨rfl,rfl⟩:b=b4∧off=o4:=by cases e4;exact ⟨rfl,rfl⟩
    clear e4
    have P4:Hid (wr.cell? ⟨b,off+20,none⟩=some (.int .i64 y4.tag)∧wr.cell? ⟨b,off+21,none⟩=some (.int .i64 y4.kind)∧wr.cell? ⟨b,off+22,none⟩=some (.int .i64 y4.n)∧wr.cell? ⟨b,off+23,none⟩=some (.string y4.s)∧wr.cell? ⟨b,off+24,none⟩=some (.slice N4.1 y4.kids.length N4.2)):=Hi ⟨p4,r4,s4,t4,m4⟩
    have HKK4:=Hi K4
    clear p4 r4 s4 t4 m4 K4 hy4
    obtain ⟨b5,o5,N5,e5,-,p5,r5,s5,t5,m5,K5⟩:=hK0.at_ hy5
    obtain ⟨rfl,rfl⟩:b=b5∧off=o5:=by cases e5;exact ⟨rfl,rfl⟩
    clear e5
    have P5:Hid (wr.cell? ⟨b,off+25,none⟩=some (.int .i64 y5.tag)∧wr.cell? ⟨b,off+26,none⟩=some (.int .i64 y5.kind)∧wr.cell? ⟨b,off+27,none⟩=some (.int .i64 y5.n)∧wr.cell? ⟨b,off+28,none⟩=some (.string y5.s)∧wr.cell? ⟨b,off+29,none⟩=some (.slice N5.1 y5.kids.length N5.2)):=Hi ⟨p5,r5,s5,t5,m5⟩
    have HKK5:=Hi K5
    clear p5 r5 s5 t5 m5 K5 hy5
    obtain ⟨b6,o6,N6,e6,-,p6,r6,s6,t6,m6,K6⟩:=hK0.at_ hy6
    obtain ⟨rfl,rfl⟩:b=b6∧off=o6:=by cases e6;exact ⟨rfl,rfl⟩
    clear e6
    have M6:Hid (wr.cell? ⟨b,off+32,none⟩=some (.int .i64 y6.n)):=Hi s6
    clear p6 r6 s6 t6 m6 K6 hy6
    obtain ⟨b7,o7,N7,e7,-,p7,r7,s7,t7,m7,K7⟩:=hK0.at_ hy7
    obtain ⟨rfl,rfl⟩:b=b7∧off=o7:=by cases e7;exact ⟨rfl,rfl⟩
    clear e7
    have M7:Hid (wr.cell? ⟨b,off+37,none⟩=some (.int .i64 y7.n)):=Hi s7
    clear p7 r7 s7 t7 m7 K7 hy7
    obtain ⟨b8,o8,N8,e8,-,p8,r8,s8,t8,m8,K8⟩:=hK0.at_ hy8
    obtain ⟨rfl,rfl⟩:b=b8∧off=o8:=by cases e8;exact ⟨rfl,rfl⟩
    clear e8
    have P8:Hid (wr.cell? ⟨b,off+40,none⟩=some (.int .i64 y8.tag)∧wr.cell? ⟨b,off+41,none⟩=some (.int .i64 y8.kind)∧wr.cell? ⟨b,off+42,none⟩=some (.int .i64 y8.n)∧wr.cell? ⟨b,off+43,none⟩=some (.string y8.s)∧wr.cell? ⟨b,off+44,none⟩=some (.slice N8.1 y8.kids.length N8.2)):=Hi ⟨p8,r8,s8,t8,m8⟩
    have HKK8:=Hi K8
    clear p8 r8 s8 t8 m8 K8 hy8
    obtain ⟨b9,o9,N9,e9,-,p9,r9,s9,t9,m9,K9⟩:=hK0.at_ hy9
    obtain ⟨rfl,rfl⟩:b=b9∧off=o9:=by cases e9;exact ⟨rfl,rfl⟩
    clear e9
    have M9:Hid (wr.cell? ⟨b,off+47,none⟩=some (.int .i64 y9.n)):=Hi s9
    clear p9 r9 s9 t9 m9 K9 hy9
    obtain ⟨b10,o10,N10,e10,-,p10,r10,s10,t10,m10,K10⟩:=hK0.at_ hy10
    obtain ⟨rfl,rfl⟩:b=b10∧off=o10:=by cases e10;exact ⟨rfl,rfl⟩
    clear e10
    have M10:Hid (wr.cell? ⟨b,off+53,none⟩=some (.string y10.s)):=Hi t10
    clear p10 r10 s10 t10 m10 K10 hy10
    obtain ⟨b11,o11,N11,e11,-,p11,r11,s11,t11,m11,K11⟩:=hK0.at_ hy11
    obtain ⟨rfl,rfl⟩:b=b11∧off=o11:=by cases e11;exact ⟨rfl,rfl⟩
    clear e11
    have M11:Hid (wr.cell? ⟨b,off+57,none⟩=some (.int .i64 y11.n)):=Hi s11
    clear p11 r11 s11 t11 m11 K11 hy11
    obtain ⟨b12,o12,N12,e12,-,p12,r12,s12,t12,m12,K12⟩:=hK0.at_ hy12
    obtain ⟨rfl,rfl⟩:b=b12∧off=o12:=by cases e12;exact ⟨rfl,rfl⟩
    clear e12
    have M12:Hid (wr.cell? ⟨b,off+62,none⟩=some (.int .i64 y12.n)):=Hi s12
    clear p12 r12 s12 t12 m12 K12 hy12
    obtain ⟨b13,o13,N13,e13,-,p13,r13,s13,t13,m13,K13⟩:=hK0.at_ hy13
    obtain ⟨rfl,rfl⟩:b=b13∧off=o13:=by cases e13;exact ⟨rfl,rfl⟩
    clear e13
    have M13:Hid (wr.cell? ⟨b,off+67,none⟩=some (.int .i64 y13.n)):=Hi s13
    clear p13 r13 s13 t13 m13 K13 hy13
    obtain ⟨b14,o14,N14,e14,-,p14,r14,s14,t14,m14,K14⟩:=hK0.at_ hy14
    obtain ⟨rfl,rfl⟩:b=b14∧off=o14:=by cases e14;exact ⟨rfl,rfl⟩
    clear e14
    have M14:Hid (wr.cell? ⟨b,off+72,none⟩=some (.int .i64 y14.n)):=Hi s14
    clear p14 r14 s14 t14 m14 K14 hy14
    obtain ⟨b15,o15,N15,e15,-,p15,r15,s15,t15,m15,K15⟩:=hK0.at_ hy15
    obtain ⟨rfl,rfl⟩:b=b15∧off=o15:=by cases e15;exact ⟨rfl,rfl⟩
    clear e15
    have P15:Hid (wr.cell? ⟨b,off+75,none⟩=some (.int .i64 y15.tag)∧wr.cell? ⟨b,off+76,none⟩=some (.int .i64 y15.kind)∧wr.cell? ⟨b,off+77,none⟩=some (.int .i64 y15.n)∧wr.cell? ⟨b,off+78,none⟩=some (.string y15.s)∧wr.cell? ⟨b,off+79,none⟩=some (.slice N15.1 y15.kids.length N15.2)):=Hi ⟨p15,r15,s15,t15,m15⟩
    have HKK15:=Hi K15
    clear p15 r15 s15 t15 m15 K15 hy15
    obtain ⟨b16,o16,N16,e16,-,p16,r16,s16,t16,m16,K16⟩:=hK0.at_ hy16
    obtain ⟨rfl,rfl⟩:b=b16∧off=o16:=by cases e16;exact ⟨rfl,rfl⟩
    clear e16
    have M16:Hid (wr.cell? ⟨b,off+82,none⟩=some (.int .i64 y16.n)):=Hi s16
    clear p16 r16 s16 t16 m16 K16 hy16
    clear hK0
    have ET:=Hi (enters_of Tryz.func84 (by kernel_rfl) rfl)
    have EI:=Hi (enters_of Tryz.func85 (by kernel_rfl) rfl)
    have b4:wr.cell? ⟨w.heap.size,4,none⟩=some (.slice (some ⟨b,off,none⟩) 17 c):=by
     have:=cell_of_row _ _ 4 _ _ _ (HE.out.blockAt HB.out)
     rw [H17.out] at this
     exact this
    have HBR2:=Hi (HE.out.blockAt HBR.out)
    clear HB HBR
    go_wp2_with fail
    clear b4
    refine region_tb (by kernel_rfl) (by decide +kernel) (rdfE b off c) ⟨rfl,rfl⟩ 71 rdfD (fun _=>none) (rdfR wr.heap.size b off c y0 y1 y2 y3 y4 y5 y6 y7 y8 y9 y10 y11 y12 y13 y14 y15 y16 N4 N5 N8 N15) wr (Ext.refl _) (fun i h1 h2=>absurd h2 (Nat.not_lt.2 h1)) ?_ ?_
    · intro Tv dd lv U wz i o hE ho hlv hd hT
      obtain ⟨t8,tz⟩:=hE
      have hx:=hT.ext
      match i,ho,hlv,hd with
      | 0,ho,hlv,hd =>
       obtain rfl:=Option.some.inj ho
       have v0:=eval_old (d:=dd) (hT.out 8 (by decide)) (by omega) t8
       refine tb_pure (v:=.slice (some ⟨b,off,none⟩) 17 c) hT ho hd rfl rfl (by decide) (by decide) ?_ rfl
       generalize Act.eval ⟨over Tv U,dd⟩=ev at *
       simp [execOp,v0,go_sem]
      | 1,ho,hlv,hd =>
       obtain rfl:=Option.some.inj ho
       have f0:U 59=some (.slice (some ⟨b,off,none⟩) 17 c):=hT.facts 0 (by decide) (dep hd 0 (by kernel_rfl)) (fun c e=>by cases e)
       have v0:Act.eval ⟨over Tv U,dd⟩ (.tmp 59)=_:=eval_new (t:=Tv) (d:=dd) f0 (by show 59<Tv.size;omega)
       have vc:Act.eval ⟨over Tv U,dd⟩ (.const (.int .i64 0))=.int .i64 0:=rfl
       refine tb_pure (v:=.pointer (some ⟨b,off,none⟩)) hT ho hd rfl rfl (by decide) (by decide) ?_ rfl
       generalize Act.eval ⟨over Tv U,dd⟩=ev at *
       simp [execOp,v0,vc,go_sem]
      | 2,ho,hlv,hd =>
       obtain rfl:=Option.some.inj ho
       have f0:U 60=some (.pointer (some ⟨b,off,none⟩)):=hT.facts 1 (by decide) (dep hd 1 (by kernel_rfl)) (fun c e=>by cases e)
       have v0:Act.eval ⟨over Tv U,dd⟩ (.tmp 60)=_:=eval_new (t:=Tv) (d:=dd) f0 (by show 60<Tv.size;omega)
       refine tb_pure (v:=.pointer (some ⟨b,off+2,none⟩)) hT ho hd rfl rfl (by decide) (by decide) ?_ rfl
       generalize Act.eval ⟨over Tv U,dd⟩=ev at *
       simp [execOp,v0,go_sem]
      | 3,ho,hlv,hd =>
       obtain rfl:=Option.some.inj ho
       have f0:U 61=some (.pointer (some ⟨b,off+2,none⟩)):=hT.facts 2 (by decide) (dep hd 2 (by kernel_rfl)) (fun c e=>by cases e)
       have v0:Act.eval ⟨over Tv U,dd⟩ (.tmp 61)=_:=eval_new (t:=Tv) (d:=dd) f0 (by show 61<Tv.size;omega)
       have hc:=hx.keep M0.out
       refine tb_pure (v:=.int .i64 y0.n) hT ho hd rfl rfl (by decide) (by decide) ?_ rfl
       generalize Act.eval ⟨over Tv U,dd⟩=ev at *
       simp [execOp,v0,go_sem,hc]
      | 4,ho,hlv,hd =>
       obtain rfl:=Option.some.inj ho
       have v0:=eval_old (d:=dd) (hT.out 8 (by decide)) (by omega) t8
       refine tb_pure (v:=.slice (some ⟨b,off,none⟩) 17 c) hT ho hd rfl rfl (by decide) (by decide) ?_ rfl
       generalize Act.eval ⟨over Tv U,dd⟩=ev at *
       simp [execOp,v0,go_sem]
      | 5,ho,hlv,hd =>
       obtain rfl:=Option.some.inj ho
       have f0:U 63=some (.slice (some ⟨b,off,none⟩) 17 c):=hT.facts 4 (by decide) (dep hd 4 (by kernel_rfl)) (fun c e=>by cases e)
       have v0:Act.eval ⟨over Tv U,dd⟩ (.tmp 63)=_:=eval_new (t:=Tv) (d:=dd) f0 (by show 63<Tv.size;omega)
       have vc:Act.eval ⟨over Tv U,dd⟩ (.const (.int .i64 1))=.int .i64 1:=rfl
       refine tb_pure (v:=.pointer (some ⟨b,off+5,none⟩)) hT ho hd rfl rfl (by decide) (by decide) ?_ rfl
       generalize Act.eval ⟨over Tv U,dd⟩=ev at *
       simp [execOp,v0,vc,go_sem]
      | 6,ho,hlv,hd =>
       obtain rfl:=Option.some.inj ho
       have f0:U 64=some (.pointer (some ⟨b,off+5,none⟩)):=hT.facts 5 (by decide) (dep hd 5 (by kernel_rfl)) (fun c e=>by cases e)
       have v0:Act.eval ⟨over Tv U,dd⟩ (.tmp 64)=_:=eval_new (t:=Tv) (d:=dd) f0 (by show 64<Tv.size;omega)
       refine tb_pure (v:=.pointer (some ⟨b,off+7,none⟩)) hT ho hd rfl rfl (by decide) (by decide) ?_ rfl
       generalize Act.eval ⟨over Tv U,dd⟩=ev at *
       simp [execOp,v0,go_sem]
      | 7,ho,hlv,hd =>
       obtain rfl:=Option.some.inj ho
       have f0:U 65=some (.pointer (some ⟨b,off+7,none⟩)):=hT.facts 6 (by decide) (dep hd 6 (by kernel_rfl)) (fun c e=>by cases e)
       have v0:Act.eval ⟨over Tv U,dd⟩ (.tmp 65)=_:=eval_new (t:=Tv) (d:=dd) f0 (by show 65<Tv.size;omega)
       have hc:=hx.keep M1.out
       refine tb_pure (v:=.int .i64 y1.n) hT ho hd rfl rfl (by decide) (by decide) ?_ rfl
       generalize Act.eval ⟨over Tv U,dd⟩=ev at *
       simp [execOp,v0,go_sem,hc]
      | 8,ho,hlv,hd =>
       obtain rfl:=Option.some.inj ho
       have v0:=eval_old (d:=dd) (hT.out 8 (by decide)) (by omega) t8
       refine tb_pure (v:=.slice (some ⟨b,off,none⟩) 17 c) hT ho hd rfl rfl (by decide) (by decide) ?_ rfl
       generalize Act.eval ⟨over Tv U,dd⟩=ev at *
       simp [execOp,v0,go_sem]
      | 9,ho,hlv,hd =>
       obtain rfl:=Option.some.inj ho
       have f0:U 67=some (.slice (some ⟨b,off,none⟩) 17 c):=hT.facts 8 (by decide) (dep hd 8 (by kernel_rfl)) (fun c e=>by cases e)
       have v0:Act.eval ⟨over Tv U,dd⟩ (.tmp 67)=_:=eval_new (t:=Tv) (d:=dd) f0 (by show 67<Tv.size;omega)
       have vc:Act.eval ⟨over Tv U,dd⟩ (.const (.int .i64 2))=.int .i64 2:=rfl
       refine tb_pure (v:=.pointer (some ⟨b,off+10,none⟩)) hT ho hd rfl rfl (by decide) (by decide) ?_ rfl
       generalize Act.eval ⟨over Tv U,dd⟩=ev at *
       simp [execOp,v0,vc,go_sem]
      | 10,ho,hlv,hd =>
       obtain rfl:=Option.some.inj ho
       have f0:U 68=some (.pointer (some ⟨b,off+10,none⟩)):=hT.facts 9 (by decide) (dep hd 9 (by kernel_rfl)) (fun c e=>by cases e)
       have v0:Act.eval ⟨over Tv U,dd⟩ (.tmp 68)=_:=eval_new (t:=Tv) (d:=dd) f0 (by show 68<Tv.size;omega)
       refine tb_pure (v:=.pointer (some ⟨b,off+12,none⟩)) hT ho hd rfl rfl (by decide) (by decide) ?_ rfl
       generalize Act.eval ⟨over Tv U,dd⟩=ev at *
       simp [execOp,v0,go_sem]
      | 11,ho,hlv,hd =>
       obtain rfl:=Option.some.inj ho
       have f0:U 69=some (.pointer (some ⟨b,off+12,none⟩)):=hT.facts 10 (by decide) (dep hd 10 (by kernel_rfl)) (fun c e=>by cases e)
       have v0:Act.eval ⟨over Tv U,dd⟩ (.tmp 69)=_:=eval_new (t:=Tv) (d:=dd) f0 (by show 69<Tv.size;omega)
       have hc:=hx.keep M2.out
       refine tb_pure (v:=.int .i64 y2.n) hT ho hd rfl rfl (by decide) (by decide) ?_ rfl
       generalize Act.eval ⟨over Tv U,dd⟩=ev at *
       simp [execOp,v0,go_sem,hc]
      | 12,ho,hlv,hd =>
       obtain rfl:=Option.some.inj ho
       have v0:=eval_old (d:=dd) (hT.out 8 (by decide)) (by omega) t8
       refine tb_pure (v:=.slice (some ⟨b,off,none⟩) 17 c) hT ho hd rfl rfl (by decide) (by decide) ?_ rfl
       generalize Act.eval ⟨over Tv U,dd⟩=ev at *
       simp [execOp,v0,go_sem]
      | 13,ho,hlv,hd =>
       obtain rfl:=Option.some.inj ho
       have f0:U 71=some (.slice (some ⟨b,off,none⟩) 17 c):=hT.facts 12 (by decide) (dep hd 12 (by kernel_rfl)) (fun c e=>by cases e)
       have v0:Act.eval ⟨over Tv U,dd⟩ (.tmp 71)=_:=eval_new (t:=Tv) (d:=dd) f0 (by show 71<Tv.size;omega)
       have vc:Act.eval ⟨over Tv U,dd⟩ (.const (.int .i64 3))=.int .i64 3:=rfl
       refine tb_pure (v:=.pointer (some ⟨b,off+15,none⟩)) hT ho hd rfl rfl (by decide) (by decide) ?_ rfl
       generalize Act.eval ⟨over Tv U,dd⟩=ev at *
       simp [execOp,v0,vc,go_sem]
      | 14,ho,hlv,hd =>
       obtain rfl:=Option.some.inj ho
       have f0:U 72=some (.pointer (some ⟨b,off+15,none⟩)):=hT.facts 13 (by decide) (dep hd 13 (by kernel_rfl)) (fun c e=>by cases e)
       have v0:Act.eval ⟨over Tv U,dd⟩ (.tmp 72)=_:=eval_new (t:=Tv) (d:=dd) f0 (by show 72<Tv.size;omega)
       refine tb_pure (v:=.pointer (some ⟨b,off+18,none⟩)) hT ho hd rfl rfl (by decide) (by decide) ?_ rfl
       generalize Act.eval ⟨over Tv U,dd⟩=ev at *
       simp [execOp,v0,go_sem]
      | 15,ho,hlv,hd =>
       obtain rfl:=Option.some.inj ho
       have f0:U 73=some (.pointer (some ⟨b,off+18,none⟩)):=hT.facts 14 (by decide) (dep hd 14 (by kernel_rfl)) (fun c e=>by cases e)
       have v0:Act.eval ⟨over Tv U,dd⟩ (.tmp 73)=_:=eval_new (t:=Tv) (d:=dd) f0 (by show 73<Tv.size;omega)
       have hc:=hx.keep M3.out
       refine tb_pure (v:=.string y3.s) hT ho hd rfl rfl (by decide) (by decide) ?_ rfl
       generalize Act.eval ⟨over Tv U,dd⟩=ev at *
       simp [execOp,v0,go_sem,hc]
      | 16,ho,hlv,hd =>
       obtain rfl:=Option.some.inj ho
       have v0:=eval_old (d:=dd) (hT.out 8 (by decide)) (by omega) t8
       refine tb_pure (v:=.slice (some ⟨b,off,none⟩) 17 c) hT ho hd rfl rfl (by decide) (by decide) ?_ rfl
       generalize Act.eval ⟨over Tv U,dd⟩=ev at *
       simp [execOp,v0,go_sem]
      | 17,ho,hlv,hd =>
       obtain rfl:=Option.some.inj ho
       have f0:U 75=some (.slice (some ⟨b,off,none⟩) 17 c):=hT.facts 16 (by decide) (dep hd 16 (by kernel_rfl)) (fun c e=>by cases e)
       have v0:Act.eval ⟨over Tv U,dd⟩ (.tmp 75)=_:=eval_new (t:=Tv) (d:=dd) f0 (by show 75<Tv.size;omega)
       have vc:Act.eval ⟨over Tv U,dd⟩ (.const (.int .i64 4))=.int .i64 4:=rfl
       refine tb_pure (v:=.pointer (some ⟨b,off+20,none⟩)) hT ho hd rfl rfl (by decide) (by decide) ?_ rfl
       generalize Act.eval ⟨over Tv U,dd⟩=ev at *
       simp [execOp,v0,vc,go_sem]
      | 18,ho,hlv,hd =>
       obtain rfl:=Option.some.inj ho
       have f0:U 76=some (.pointer (some ⟨b,off+20,none⟩)):=hT.facts 17 (by decide) (dep hd 17 (by kernel_rfl)) (fun c e=>by cases e)
       have v0:Act.eval ⟨over Tv U,dd⟩ (.tmp 76)=_:=eval_new (t:=Tv) (d:=dd) f0 (by show 76<Tv.size;omega)
       have h0:=hx.keep P4.out.1
       have h1:=hx.keep P4.out.2.1
       have h2:=hx.keep P4.out.2.2.1
       have h3:=hx.keep P4.out.2.2.2.1
       have h4:=hx.keep P4.out.2.2.2.2
       refine tb_pure (v:=.agg #[.int .i64 y4.tag,.int .i64 y4.kind,.int .i64 y4.n,.string y4.s,.slice N4.1 y4.kids.length N4.2]) hT ho hd rfl rfl (by decide) (by decide) ?_ rfl
       generalize Act.eval ⟨over Tv U,dd⟩=ev at *
       simp [execOp,v0,go_sem,h0,h1,h2,h3,h4]
      | 19,ho,hlv,hd =>
       obtain rfl:=Option.some.inj ho
       have f0:U 77=some (.agg #[.int .i64 y4.tag,.int .i64 y4.kind,.int .i64 y4.n,.string y4.s,.slice N4.1 y4.kids.length N4.2]):=hT.facts 18 (by decide) (dep hd 18 (by kernel_rfl)) (fun c e=>by cases e)
       have v0:Act.eval ⟨over Tv U,dd⟩ (.tmp 77)=_:=eval_new (t:=Tv) (d:=dd) f0 (by show 77<Tv.size;omega)
       refine tb_call (f:=84) (args:=#[.agg #[.int .i64 y4.tag,.int .i64 y4.kind,.int .i64 y4.n,.string y4.s,.slice N4.1 y4.kids.length N4.2]]) (rdfR_ext wr.heap.size b off c y0 y1 y2 y3 y4 y5 y6 y7 y8 y9 y10 y11 y12 y13 y14 y15 y16 N4 N5 N8 N15) hT ho hd rfl rfl (by decide) (by decide) (exec_call1 rfl rfl v0 ET.out) ?_
       refine (rlines_any B d y4 N4 wz (HKK4.out.ext hx) (Nat.le_trans (HKL.out y4 HM4.out) (by omega))).mono ?_
       rintro e w' ⟨⟨A',c',rfl,h1,h2,h3,h4⟩,hb⟩
       exact ⟨_,rfl,hb,A',c',rfl,h1,h2,h3,h4⟩
      | 20,ho,hlv,hd =>
       obtain rfl:=Option.some.inj ho
       have v0:=eval_old (d:=dd) (hT.out 8 (by decide)) (by omega) t8
       refine tb_pure (v:=.slice (some ⟨b,off,none⟩) 17 c) hT ho hd rfl rfl (by decide) (by decide) ?_ rfl
       generalize Act.eval ⟨over Tv U,dd⟩=ev at *
       simp [execOp,v0,go_sem]
      | 21,ho,hlv,hd =>
       obtain rfl:=Option.some.inj ho
       have f0:U 79=some (.slice (some ⟨b,off,none⟩) 17 c):=hT.facts 20 (by decide) (dep hd 20 (by kernel_rfl)) (fun c e=>by cases e)
       have v0:Act.eval ⟨over Tv U,dd⟩ (.tmp 79)=_:=eval_new (t:=Tv) (d:=dd) f0 (by show 79<Tv.size;omega)
       have vc:Act.eval ⟨over Tv U,dd⟩ (.const (.int .i64 5))=.int .i64 5:=rfl
       refine tb_pure (v:=.pointer (some ⟨b,off+25,none⟩)) hT ho hd rfl rfl (by decide) (by decide) ?_ rfl
       generalize Act.eval ⟨over Tv U,dd⟩=ev at *
       simp [execOp,v0,vc,go_sem]
      | 22,ho,hlv,hd =>
       obtain rfl:=Option.some.inj ho
       have f0:U 80=some (.pointer (some ⟨b,off+25,none⟩)):=hT.facts 21 (by decide) (dep hd 21 (by kernel_rfl)) (fun c e=>by cases e)
       have v0:Act.eval ⟨over Tv U,dd⟩ (.tmp 80)=_:=eval_new (t:=Tv) (d:=dd) f0 (by show 80<Tv.size;omega)
       have h0:=hx.keep P5.out.1
       have h1:=hx.keep P5.out.2.1
       have h2:=hx.keep P5.out.2.2.1
       have h3:=hx.keep P5.out.2.2.2.1
       have h4:=hx.keep P5.out.2.2.2.2
       refine tb_pure (v:=.agg #[.int .i64 y5.tag,.int .i64 y5.kind,.int .i64 y5.n,.string y5.s,.slice N5.1 y5.kids.length N5.2]) hT ho hd rfl rfl (by decide) (by decide) ?_ rfl
       generalize Act.eval ⟨over Tv U,dd⟩=ev at *
       simp [execOp,v0,go_sem,h0,h1,h2,h3,h4]
      | 23,ho,hlv,hd =>
       obtain rfl:=Option.some.inj ho
       have f0:U 81=some (.agg #[.int .i64 y5.tag,.int .i64 y5.kind,.int .i64 y5.n,.string y5.s,.slice N5.1 y5.kids.length N5.2]):=hT.facts 22 (by decide) (dep hd 22 (by kernel_rfl)) (fun c e=>by cases e)
       have v0:Act.eval ⟨over Tv U,dd⟩ (.tmp 81)=_:=eval_new (t:=Tv) (d:=dd) f0 (by show 81<Tv.size;omega)
       refine tb_call (f:=85) (args:=#[.agg #[.int .i64 y5.tag,.int .i64 y5.kind,.int .i64 y5.n,.string y5.s,.slice N5.1 y5.kids.length N5.2]]) (rdfR_ext wr.heap.size b off c y0 y1 y2 y3 y4 y5 y6 y7 y8 y9 y10 y11 y12 y13 y14 y15 y16 N4 N5 N8 N15) hT ho hd rfl rfl (by decide) (by decide) (exec_call1 rfl rfl v0 EI.out) ?_
       refine (rints_any B d y5 N5 wz (HKK5.out.ext hx) (Nat.le_trans (HKL.out y5 HM5.out) (by omega))).mono ?_
       rintro e w' ⟨⟨A',c',rfl,h1,h2,h3,h4⟩,hb⟩
       exact ⟨_,rfl,hb,A',c',rfl,h1,h2,h3,h4⟩
      | 24,ho,hlv,hd =>
       obtain rfl:=Option.some.inj ho
       have v0:=eval_old (d:=dd) (hT.out 8 (by decide)) (by omega) t8
       refine tb_pure (v:=.slice (some ⟨b,off,none⟩) 17 c) hT ho hd rfl rfl (by decide) (by decide) ?_ rfl
       generalize Act.eval ⟨over Tv U,dd⟩=ev at *
       simp [execOp,v0,go_sem]
      | 25,ho,hlv,hd =>
       obtain rfl:=Option.some.inj ho
       have f0:U 83=some (.slice (some ⟨b,off,none⟩) 17 c):=hT.facts 24 (by decide) (dep hd 24 (by kernel_rfl)) (fun c e=>by cases e)
       have v0:Act.eval ⟨over Tv U,dd⟩ (.tmp 83)=_:=eval_new (t:=Tv) (d:=dd) f0 (by show 83<Tv.size;omega)
       have vc:Act.eval ⟨over Tv U,dd⟩ (.const (.int .i64 6))=.int .i64 6:=rfl
       refine tb_pure (v:=.pointer (some ⟨b,off+30,none⟩)) hT ho hd rfl rfl (by decide) (by decide) ?_ rfl
       generalize Act.eval ⟨over Tv U,dd⟩=ev at *
       simp [execOp,v0,vc,go_sem]
      | 26,ho,hlv,hd =>
       obtain rfl:=Option.some.inj ho
       have f0:U 84=some (.pointer (some ⟨b,off+30,none⟩)):=hT.facts 25 (by decide) (dep hd 25 (by kernel_rfl)) (fun c e=>by cases e)
       have v0:Act.eval ⟨over Tv U,dd⟩ (.tmp 84)=_:=eval_new (t:=Tv) (d:=dd) f0 (by show 84<Tv.size;omega)
       refine tb_pure (v:=.pointer (some ⟨b,off+32,none⟩)) hT ho hd rfl rfl (by decide) (by decide) ?_ rfl
       generalize Act.eval ⟨over Tv U,dd⟩=ev at *
       simp [execOp,v0,go_sem]
      | 27,ho,hlv,hd =>
       obtain rfl:=Option.some.inj ho
       have f0:U 85=some (.pointer (some ⟨b,off+32,none⟩)):=hT.facts 26 (by decide) (dep hd 26 (by kernel_rfl)) (fun c e=>by cases e)
       have v0:Act.eval ⟨over Tv U,dd⟩ (.tmp 85)=_:=eval_new (t:=Tv) (d:=dd) f0 (by show 85<Tv.size;omega)
       have hc:=hx.keep M6.out
       refine tb_pure (v:=.int .i64 y6.n) hT ho hd rfl rfl (by decide) (by decide) ?_ rfl
       generalize Act.eval ⟨over Tv U,dd⟩=ev at *
       simp [execOp,v0,go_sem,hc]
      | 28,ho,hlv,hd =>
       obtain rfl:=Option.some.inj ho
       have v0:=eval_old (d:=dd) (hT.out 8 (by decide)) (by omega) t8
       refine tb_pure (v:=.slice (some ⟨b,off,none⟩) 17 c) hT ho hd rfl rfl (by decide) (by decide) ?_ rfl
       generalize Act.eval ⟨over Tv U,dd⟩=ev at *
       simp [execOp,v0,go_sem]
      | 29,ho,hlv,hd =>
       obtain rfl:=Option.some.inj ho
       have f0:U 87=some (.slice (some ⟨b,off,none⟩) 17 c):=hT.facts 28 (by decide) (dep hd 28 (by kernel_rfl)) (fun c e=>by cases e)
       have v0:Act.eval ⟨over Tv U,dd⟩ (.tmp 87)=_:=eval_new (t:=Tv) (d:=dd) f0 (by show 87<Tv.size;omega)
       have vc:Act.eval ⟨over Tv U,dd⟩ (.const (.int .i64 7))=.int .i64 7:=rfl
       refine tb_pure (v:=.pointer (some ⟨b,off+35,none⟩)) hT ho hd rfl rfl (by decide) (by decide) ?_ rfl
       generalize Act.eval ⟨over Tv U,dd⟩=ev at *
       simp [execOp,v0,vc,go_sem]
      | 30,ho,hlv,hd =>
       obtain rfl:=Option.some.inj ho
       have f0:U 88=some (.pointer (some ⟨b,off+35,none⟩)):=hT.facts 29 (by decide) (dep hd 29 (by kernel_rfl)) (fun c e=>by cases e)
       have v0:Act.eval ⟨over Tv U,dd⟩ (.tmp 88)=_:=eval_new (t:=Tv) (d:=dd) f0 (by show 88<Tv.size;omega)
       refine tb_pure (v:=.pointer (some ⟨b,off+37,none⟩)) hT ho hd rfl rfl (by decide) (by decide) ?_ rfl
       generalize Act.eval ⟨over Tv U,dd⟩=ev at *
       simp [execOp,v0,go_sem]
      | 31,ho,hlv,hd =>
       obtain rfl:=Option.some.inj ho
       have f0:U 89=some (.pointer (some ⟨b,off+37,none⟩)):=hT.facts 30 (by decide) (dep hd 30 (by kernel_rfl)) (fun c e=>by cases e)
       have v0:Act.eval ⟨over Tv U,dd⟩ (.tmp 89)=_:=eval_new (t:=Tv) (d:=dd) f0 (by show 89<Tv.size;omega)
       have hc:=hx.keep M7.out
       refine tb_pure (v:=.int .i64 y7.n) hT ho hd rfl rfl (by decide) (by decide) ?_ rfl
       generalize Act.eval ⟨over Tv U,dd⟩=ev at *
       simp [execOp,v0,go_sem,hc]
      | 32,ho,hlv,hd =>
       obtain rfl:=Option.some.inj ho
       have v0:=eval_old (d:=dd) (hT.out 8 (by decide)) (by omega) t8
       refine tb_pure (v:=.slice (some ⟨b,off,none⟩) 17 c) hT ho hd rfl rfl (by decide) (by decide) ?_ rfl
       generalize Act.eval ⟨over Tv U,dd⟩=ev at *
       simp [execOp,v0,go_sem]
      | 33,ho,hlv,hd =>
       obtain rfl:=Option.some.inj ho
       have f0:U 91=some (.slice (some ⟨b,off,none⟩) 17 c):=hT.facts 32 (by decide) (dep hd 32 (by kernel_rfl)) (fun c e=>by cases e)
       have v0:Act.eval ⟨over Tv U,dd⟩ (.tmp 91)=_:=eval_new (t:=Tv) (d:=dd) f0 (by show 91<Tv.size;omega)
       have vc:Act.eval ⟨over Tv U,dd⟩ (.const (.int .i64 8))=.int .i64 8:=rfl
       refine tb_pure (v:=.pointer (some ⟨b,off+40,none⟩)) hT ho hd rfl rfl (by decide) (by decide) ?_ rfl
       generalize Act.eval ⟨over Tv U,dd⟩=ev at *
       simp [execOp,v0,vc,go_sem]
      | 34,ho,hlv,hd =>
       obtain rfl:=Option.some.inj ho
       have f0:U 92=some (.pointer (some ⟨b,off+40,none⟩)):=hT.facts 33 (by decide) (dep hd 33 (by kernel_rfl)) (fun c e=>by cases e)
       have v0:Act.eval ⟨over Tv U,dd⟩ (.tmp 92)=_:=eval_new (t:=Tv) (d:=dd) f0 (by show 92<Tv.size;omega)
       have h0:=hx.keep P8.out.1
       have h1:=hx.keep P8.out.2.1
       have h2:=hx.keep P8.out.2.2.1
       have h3:=hx.keep P8.out.2.2.2.1
       have h4:=hx.keep P8.out.2.2.2.2
       refine tb_pure (v:=.agg #[.int .i64 y8.tag,.int .i64 y8.kind,.int .i64 y8.n,.string y8.s,.slice N8.1 y8.kids.length N8.2]) hT ho hd rfl rfl (by decide) (by decide) ?_ rfl
       generalize Act.eval ⟨over Tv U,dd⟩=ev at *
       simp [execOp,v0,go_sem,h0,h1,h2,h3,h4]
      | 35,ho,hlv,hd =>
       obtain rfl:=Option.some.inj ho
       have f0:U 93=some (.agg #[.int .i64 y8.tag,.int .i64 y8.kind,.int .i64 y8.n,.string y8.s,.slice N8.1 y8.kids.length N8.2]):=hT.facts 34 (by decide) (dep hd 34 (by kernel_rfl)) (fun c e=>by cases e)
       have v0:Act.eval ⟨over Tv U,dd⟩ (.tmp 93)=_:=eval_new (t:=Tv) (d:=dd) f0 (by show 93<Tv.size;omega)
       refine tb_call (f:=84) (args:=#[.agg #[.int .i64 y8.tag,.int .i64 y8.kind,.int .i64 y8.n,.string y8.s,.slice N8.1 y8.kids.length N8.2]]) (rdfR_ext wr.heap.size b off c y0 y1 y2 y3 y4 y5 y6 y7 y8 y9 y10 y11 y12 y13 y14 y15 y16 N4 N5 N8 N15) hT ho hd rfl rfl (by decide) (by decide) (exec_call1 rfl rfl v0 ET.out) ?_
       refine (rlines_any B d y8 N8 wz (HKK8.out.ext hx) (Nat.le_trans (HKL.out y8 HM8.out) (by omega))).mono ?_
       rintro e w' ⟨⟨A',c',rfl,h1,h2,h3,h4⟩,hb⟩
       exact ⟨_,rfl,hb,A',c',rfl,h1,h2,h3,h4⟩
      | 36,ho,hlv,hd =>
       obtain rfl:=Option.some.inj ho
       have v0:=eval_old (d:=dd) (hT.out 8 (by decide)) (by omega) t8
       refine tb_pure (v:=.slice (some ⟨b,off,none⟩) 17 c) hT ho hd rfl rfl (by decide) (by decide) ?_ rfl
       generalize Act.eval ⟨over Tv U,dd⟩=ev at *
       simp [execOp,v0,go_sem]
      | 37,ho,hlv,hd =>
       obtain rfl:=Option.some.inj ho
       have f0:U 95=some (.slice (some ⟨b,off,none⟩) 17 c):=hT.facts 36 (by decide) (dep hd 36 (by kernel_rfl)) (fun c e=>by cases e)
       have v0:Act.eval ⟨over Tv U,dd⟩ (.tmp 95)=_:=eval_new (t:=Tv) (d:=dd) f0 (by show 95<Tv.size;omega)
       have vc:Act.eval ⟨over Tv U,dd⟩ (.const (.int .i64 9))=.int .i64 9:=rfl
       refine tb_pure (v:=.pointer (some ⟨b,off+45,none⟩)) hT ho hd rfl rfl (by decide) (by decide) ?_ rfl
       generalize Act.eval ⟨over Tv U,dd⟩=ev at *
       simp [execOp,v0,vc,go_sem]
      | 38,ho,hlv,hd =>
       obtain rfl:=Option.some.inj ho
       have f0:U 96=some (.pointer (some ⟨b,off+45,none⟩)):=hT.facts 37 (by decide) (dep hd 37 (by kernel_rfl)) (fun c e=>by cases e)
       have v0:Act.eval ⟨over Tv U,dd⟩ (.tmp 96)=_:=eval_new (t:=Tv) (d:=dd) f0 (by show 96<Tv.size;omega)
       refine tb_pure (v:=.pointer (some ⟨b,off+47,none⟩)) hT ho hd rfl rfl (by decide) (by decide) ?_ rfl
       generalize Act.eval ⟨over Tv U,dd⟩=ev at *
       simp [execOp,v0,go_sem]
      | 39,ho,hlv,hd =>
       obtain rfl:=Option.some.inj ho
       have f0:U 97=some (.pointer (some ⟨b,off+47,none⟩)):=hT.facts 38 (by decide) (dep hd 38 (by kernel_rfl)) (fun c e=>by cases e)
       have v0:Act.eval ⟨over Tv U,dd⟩ (.tmp 97)=_:=eval_new (t:=Tv) (d:=dd) f0 (by show 97<Tv.size;omega)
       have hc:=hx.keep M9.out
       refine tb_pure (v:=.int .i64 y9.n) hT ho hd rfl rfl (by decide) (by decide) ?_ rfl
       generalize Act.eval ⟨over Tv U,dd⟩=ev at *
       simp [execOp,v0,go_sem,hc]
      | 40,ho,hlv,hd =>
       obtain rfl:=Option.some.inj ho
       have v0:=eval_old (d:=dd) (hT.out 8 (by decide)) (by omega) t8
       refine tb_pure (v:=.slice (some ⟨b,off,none⟩) 17 c) hT ho hd rfl rfl (by decide) (by decide) ?_ rfl
       generalize Act.eval ⟨over Tv U,dd⟩=ev at *
       simp [execOp,v0,go_sem]
      | 41,ho,hlv,hd =>
       obtain rfl:=Option.some.inj ho
       have f0:U 99=some (.slice (some ⟨b,off,none⟩) 17 c):=hT.facts 40 (by decide) (dep hd 40 (by kernel_rfl)) (fun c e=>by cases e)
       have v0:Act.eval ⟨over Tv U,dd⟩ (.tmp 99)=_:=eval_new (t:=Tv) (d:=dd) f0 (by show 99<Tv.size;omega)
       have vc:Act.eval ⟨over Tv U,dd⟩ (.const (.int .i64 10))=.int .i64 10:=rfl
       refine tb_pure (v:=.pointer (some ⟨b,off+50,none⟩)) hT ho hd rfl rfl (by decide) (by decide) ?_ rfl
       generalize Act.eval ⟨over Tv U,dd⟩=ev at *
       simp [execOp,v0,vc,go_sem]
      | 42,ho,hlv,hd =>
       obtain rfl:=Option.some.inj ho
       have f0:U 100=some (.pointer (some ⟨b,off+50,none⟩)):=hT.facts 41 (by decide) (dep hd 41 (by kernel_rfl)) (fun c e=>by cases e)
       have v0:Act.eval ⟨over Tv U,dd⟩ (.tmp 100)=_:=eval_new (t:=Tv) (d:=dd) f0 (by show 100<Tv.size;omega)
       refine tb_pure (v:=.pointer (some ⟨b,off+53,none⟩)) hT ho hd rfl rfl (by decide) (by decide) ?_ rfl
       generalize Act.eval ⟨over Tv U,dd⟩=ev at *
       simp [execOp,v0,go_sem]
      | 43,ho,hlv,hd =>
       obtain rfl:=Option.some.inj ho
       have f0:U 101=some (.pointer (some ⟨b,off+53,none⟩)):=hT.facts 42 (by decide) (dep hd 42 (by kernel_rfl)) (fun c e=>by cases e)
       have v0:Act.eval ⟨over Tv U,dd⟩ (.tmp 101)=_:=eval_new (t:=Tv) (d:=dd) f0 (by show 101<Tv.size;omega)
       have hc:=hx.keep M10.out
       refine tb_pure (v:=.string y10.s) hT ho hd rfl rfl (by decide) (by decide) ?_ rfl
       generalize Act.eval ⟨over Tv U,dd⟩=ev at *
       simp [execOp,v0,go_sem,hc]
      | 44,ho,hlv,hd =>
       obtain rfl:=Option.some.inj ho
       have v0:=eval_old (d:=dd) (hT.out 8 (by decide)) (by omega) t8
       refine tb_pure (v:=.slice (some ⟨b,off,none⟩) 17 c) hT ho hd rfl rfl (by decide) (by decide) ?_ rfl
       generalize Act.eval ⟨over Tv U,dd⟩=ev at *
       simp [execOp,v0,go_sem]
      | 45,ho,hlv,hd =>
       obtain rfl:=Option.some.inj ho
       have f0:U 103=some (.slice (some ⟨b,off,none⟩) 17 c):=hT.facts 44 (by decide) (dep hd 44 (by kernel_rfl)) (fun c e=>by cases e)
       have v0:Act.eval ⟨over Tv U,dd⟩ (.tmp 103)=_:=eval_new (t:=Tv) (d:=dd) f0 (by show 103<Tv.size;omega)
       have vc:Act.eval ⟨over Tv U,dd⟩ (.const (.int .i64 11))=.int .i64 11:=rfl
       refine tb_pure (v:=.pointer (some ⟨b,off+55,none⟩)) hT ho hd rfl rfl (by decide) (by decide) ?_ rfl
       generalize Act.eval ⟨over Tv U,dd⟩=ev at *
       simp [execOp,v0,vc,go_sem]
      | 46,ho,hlv,hd =>
       obtain rfl:=Option.some.inj ho
       have f0:U 104=some (.pointer (some ⟨b,off+55,none⟩)):=hT.facts 45 (by decide) (dep hd 45 (by kernel_rfl)) (fun c e=>by cases e)
       have v0:Act.eval ⟨over Tv U,dd⟩ (.tmp 104)=_:=eval_new (t:=Tv) (d:=dd) f0 (by show 104<Tv.size;omega)
       refine tb_pure (v:=.pointer (some ⟨b,off+57,none⟩)) hT ho hd rfl rfl (by decide) (by decide) ?_ rfl
       generalize Act.eval ⟨over Tv U,dd⟩=ev at *
       simp [execOp,v0,go_sem]
      | 47,ho,hlv,hd =>
       obtain rfl:=Option.some.inj ho
       have f0:U 105=some (.pointer (some ⟨b,off+57,none⟩)):=hT.facts 46 (by decide) (dep hd 46 (by kernel_rfl)) (fun c e=>by cases e)
       have v0:Act.eval ⟨over Tv U,dd⟩ (.tmp 105)=_:=eval_new (t:=Tv) (d:=dd) f0 (by show 105<Tv.size;omega)
       have hc:=hx.keep M11.out
       refine tb_pure (v:=.int .i64 y11.n) hT ho hd rfl rfl (by decide) (by decide) ?_ rfl
       generalize Act.eval ⟨over Tv U,dd⟩=ev at *
       simp [execOp,v0,go_sem,hc]
      | 48,ho,hlv,hd =>
       obtain rfl:=Option.some.inj ho
       have v0:=eval_old (d:=dd) (hT.out 8 (by decide)) (by omega) t8
       refine tb_pure (v:=.slice (some ⟨b,off,none⟩) 17 c) hT ho hd rfl rfl (by decide) (by decide) ?_ rfl
       generalize Act.eval ⟨over Tv U,dd⟩=ev at *
       simp [execOp,v0,go_sem]
      | 49,ho,hlv,hd =>
       obtain rfl:=Option.some.inj ho
       have f0:U 107=some (.slice (some ⟨b,off,none⟩) 17 c):=hT.facts 48 (by decide) (dep hd 48 (by kernel_rfl)) (fun c e=>by cases e)
       have v0:Act.eval ⟨over Tv U,dd⟩ (.tmp 107)=_:=eval_new (t:=Tv) (d:=dd) f0 (by show 107<Tv.size;omega)
       have vc:Act.eval ⟨over Tv U,dd⟩ (.const (.int .i64 12))=.int .i64 12:=rfl
       refine tb_pure (v:=.pointer (some ⟨b,off+60,none⟩)) hT ho hd rfl rfl (by decide) (by decide) ?_ rfl
       generalize Act.eval ⟨over Tv U,dd⟩=ev at *
       simp [execOp,v0,vc,go_sem]
      | 50,ho,hlv,hd =>
       obtain rfl:=Option.some.inj ho
       have f0:U 108=some (.pointer (some ⟨b,off+60,none⟩)):=hT.facts 49 (by decide) (dep hd 49 (by kernel_rfl)) (fun c e=>by cases e)
       have v0:Act.eval ⟨over Tv U,dd⟩ (.tmp 108)=_:=eval_new (t:=Tv) (d:=dd) f0 (by show 108<Tv.size;omega)
       refine tb_pure (v:=.pointer (some ⟨b,off+62,none⟩)) hT ho hd rfl rfl (by decide) (by decide) ?_ rfl
       generalize Act.eval ⟨over Tv U,dd⟩=ev at *
       simp [execOp,v0,go_sem]
      | 51,ho,hlv,hd =>
       obtain rfl:=Option.some.inj ho
       have f0:U 109=some (.pointer (some ⟨b,off+62,none⟩)):=hT.facts 50 (by decide) (dep hd 50 (by kernel_rfl)) (fun c e=>by cases e)
       have v0:Act.eval ⟨over Tv U,dd⟩ (.tmp 109)=_:=eval_new (t:=Tv) (d:=dd) f0 (by show 109<Tv.size;omega)
       have hc:=hx.keep M12.out
       refine tb_pure (v:=.int .i64 y12.n) hT ho hd rfl rfl (by decide) (by decide) ?_ rfl
       generalize Act.eval ⟨over Tv U,dd⟩=ev at *
       simp [execOp,v0,go_sem,hc]
      | 52,ho,hlv,hd =>
       obtain rfl:=Option.some.inj ho
       have v0:=eval_old (d:=dd) (hT.out 8 (by decide)) (by omega) t8
       refine tb_pure (v:=.slice (some ⟨b,off,none⟩) 17 c) hT ho hd rfl rfl (by decide) (by decide) ?_ rfl
       generalize Act.eval ⟨over Tv U,dd⟩=ev at *
       simp [execOp,v0,go_sem]
      | 53,ho,hlv,hd =>
       obtain rfl:=Option.some.inj ho
       have f0:U 111=some (.slice (some ⟨b,off,none⟩) 17 c):=hT.facts 52 (by decide) (dep hd 52 (by kernel_rfl)) (fun c e=>by cases e)
       have v0:Act.eval ⟨over Tv U,dd⟩ (.tmp 111)=_:=eval_new (t:=Tv) (d:=dd) f0 (by show 111<Tv.size;omega)
       have vc:Act.eval ⟨over Tv U,dd⟩ (.const (.int .i64 13))=.int .i64 13:=rfl
       refine tb_pure (v:=.pointer (some ⟨b,off+65,none⟩)) hT ho hd rfl rfl (by decide) (by decide) ?_ rfl
       generalize Act.eval ⟨over Tv U,dd⟩=ev at *
       simp [execOp,v0,vc,go_sem]
      | 54,ho,hlv,hd =>
       obtain rfl:=Option.some.inj ho
       have f0:U 112=some (.pointer (some ⟨b,off+65,none⟩)):=hT.facts 53 (by decide) (dep hd 53 (by kernel_rfl)) (fun c e=>by cases e)
       have v0:Act.eval ⟨over Tv U,dd⟩ (.tmp 112)=_:=eval_new (t:=Tv) (d:=dd) f0 (by show 112<Tv.size;omega)
       refine tb_pure (v:=.pointer (some ⟨b,off+67,none⟩)) hT ho hd rfl rfl (by decide) (by decide) ?_ rfl
       generalize Act.eval ⟨over Tv U,dd⟩=ev at *
       simp [execOp,v0,go_sem]
      | 55,ho,hlv,hd =>
       obtain rfl:=Option.some.inj ho
       have f0:U 113=some (.pointer (some ⟨b,off+67,none⟩)):=hT.facts 54 (by decide) (dep hd 54 (by kernel_rfl)) (fun c e=>by cases e)
       have v0:Act.eval ⟨over Tv U,dd⟩ (.tmp 113)=_:=eval_new (t:=Tv) (d:=dd) f0 (by show 113<Tv.size;omega)
       have hc:=hx.keep M13.out
       refine tb_pure (v:=.int .i64 y13.n) hT ho hd rfl rfl (by decide) (by decide) ?_ rfl
       generalize Act.eval ⟨over Tv U,dd⟩=ev at *
       simp [execOp,v0,go_sem,hc]
      | 56,ho,hlv,hd =>
       obtain rfl:=Option.some.inj ho
       have v0:=eval_old (d:=dd) (hT.out 8 (by decide)) (by omega) t8
       refine tb_pure (v:=.slice (some ⟨b,off,none⟩) 17 c) hT ho hd rfl rfl (by decide) (by decide) ?_ rfl
       generalize Act.eval ⟨over Tv U,dd⟩=ev at *
       simp [execOp,v0,go_sem]
      | 57,ho,hlv,hd =>
       obtain rfl:=Option.some.inj ho
       have f0:U 115=some (.slice (some ⟨b,off,none⟩) 17 c):=hT.facts 56 (by decide) (dep hd 56 (by kernel_rfl)) (fun c e=>by cases e)
       have v0:Act.eval ⟨over Tv U,dd⟩ (.tmp 115)=_:=eval_new (t:=Tv) (d:=dd) f0 (by show 115<Tv.size;omega)
       have vc:Act.eval ⟨over Tv U,dd⟩ (.const (.int .i64 14))=.int .i64 14:=rfl
       refine tb_pure (v:=.pointer (some ⟨b,off+70,none⟩)) hT ho hd rfl rfl (by decide) (by decide) ?_ rfl
       generalize Act.eval ⟨over Tv U,dd⟩=ev at *
       simp [execOp,v0,vc,go_sem]
      | 58,ho,hlv,hd =>
       obtain rfl:=Option.some.inj ho
       have f0:U 116=some (.pointer (some ⟨b,off+70,none⟩)):=hT.facts 57 (by decide) (dep hd 57 (by kernel_rfl)) (fun c e=>by cases e)
       have v0:Act.eval ⟨over Tv U,dd⟩ (.tmp 116)=_:=eval_new (t:=Tv) (d:=dd) f0 (by show 116<Tv.size;omega)
       refine tb_pure (v:=.pointer (some ⟨b,off+72,none⟩)) hT ho hd rfl rfl (by decide) (by decide) ?_ rfl
       generalize Act.eval ⟨over Tv U,dd⟩=ev at *
       simp [execOp,v0,go_sem]
      | 59,ho,hlv,hd =>
       obtain rfl:=Option.some.inj ho
       have f0:U 117=some (.pointer (some ⟨b,off+72,none⟩)):=hT.facts 58 (by decide) (dep hd 58 (by kernel_rfl)) (fun c e=>by cases e)
       have v0:Act.eval ⟨over Tv U,dd⟩ (.tmp 117)=_:=eval_new (t:=Tv) (d:=dd) f0 (by show 117<Tv.size;omega)
       have hc:=hx.keep M14.out
       refine tb_pure (v:=.int .i64 y14.n) hT ho hd rfl rfl (by decide) (by decide) ?_ rfl
       generalize Act.eval ⟨over Tv U,dd⟩=ev at *
       simp [execOp,v0,go_sem,hc]
      | 60,ho,hlv,hd =>
       obtain rfl:=Option.some.inj ho
       have v0:=eval_old (d:=dd) (hT.out 8 (by decide)) (by omega) t8
       refine tb_pure (v:=.slice (some ⟨b,off,none⟩) 17 c) hT ho hd rfl rfl (by decide) (by decide) ?_ rfl
       generalize Act.eval ⟨over Tv U,dd⟩=ev at *
       simp [execOp,v0,go_sem]
      | 61,ho,hlv,hd =>
       obtain rfl:=Option.some.inj ho
       have f0:U 119=some (.slice (some ⟨b,off,none⟩) 17 c):=hT.facts 60 (by decide) (dep hd 60 (by kernel_rfl)) (fun c e=>by cases e)
       have v0:Act.eval ⟨over Tv U,dd⟩ (.tmp 119)=_:=eval_new (t:=Tv) (d:=dd) f0 (by show 119<Tv.size;omega)
       have vc:Act.eval ⟨over Tv U,dd⟩ (.const (.int .i64 15))=.int .i64 15:=rfl
       refine tb_pure (v:=.pointer (some ⟨b,off+75,none⟩)) hT ho hd rfl rfl (by decide) (by decide) ?_ rfl
       generalize Act.eval ⟨over Tv U,dd⟩=ev at *
       simp [execOp,v0,vc,go_sem]
      | 62,ho,hlv,hd =>
       obtain rfl:=Option.some.inj ho
       have f0:U 120=some (.pointer (some ⟨b,off+75,none⟩)):=hT.facts 61 (by decide) (dep hd 61 (by kernel_rfl)) (fun c e=>by cases e)
       have v0:Act.eval ⟨over Tv U,dd⟩ (.tmp 120)=_:=eval_new (t:=Tv) (d:=dd) f0 (by show 120<Tv.size;omega)
       have h0:=hx.keep P15.out.1
       have h1:=hx.keep P15.out.2.1
       have h2:=hx.keep P15.out.2.2.1
       have h3:=hx.keep P15.out.2.2.2.1
       have h4:=hx.keep P15.out.2.2.2.2
       refine tb_pure (v:=.agg #[.int .i64 y15.tag,.int .i64 y15.kind,.int .i64 y15.n,.string y15.s,.slice N15.1 y15.kids.length N15.2]) hT ho hd rfl rfl (by decide) (by decide) ?_ rfl
       generalize Act.eval ⟨over Tv U,dd⟩=ev at *
       simp [execOp,v0,go_sem,h0,h1,h2,h3,h4]
      | 63,ho,hlv,hd =>
       obtain rfl:=Option.some.inj ho
       have f0:U 121=some (.agg #[.int .i64 y15.tag,.int .i64 y15.kind,.int .i64 y15.n,.string y15.s,.slice N15.1 y15.kids.length N15.2]):=hT.facts 62 (by decide) (dep hd 62 (by kernel_rfl)) (fun c e=>by cases e)
       have v0:Act.eval ⟨over Tv U,dd⟩ (.tmp 121)=_:=eval_new (t:=Tv) (d:=dd) f0 (by show 121<Tv.size;omega)
       refine tb_call (f:=85) (args:=#[.agg #[.int .i64 y15.tag,.int .i64 y15.kind,.int .i64 y15.n,.string y15.s,.slice N15.1 y15.kids.length N15.2]]) (rdfR_ext wr.heap.size b off c y0 y1 y2 y3 y4 y5 y6 y7 y8 y9 y10 y11 y12 y13 y14 y15 y16 N4 N5 N8 N15) hT ho hd rfl rfl (by decide) (by decide) (exec_call1 rfl rfl v0 EI.out) ?_
       refine (rints_any B d y15 N15 wz (HKK15.out.ext hx) (Nat.le_trans (HKL.out y15 HM15.out) (by omega))).mono ?_
       rintro e w' ⟨⟨A',c',rfl,h1,h2,h3,h4⟩,hb⟩
       exact ⟨_,rfl,hb,A',c',rfl,h1,h2,h3,h4⟩
      | 64,ho,hlv,hd =>
       obtain rfl:=Option.some.inj ho
       have v0:=eval_old (d:=dd) (hT.out 8 (by decide)) (by omega) t8
       refine tb_pure (v:=.slice (some ⟨b,off,none⟩) 17 c) hT ho hd rfl rfl (by decide) (by decide) ?_ rfl
       generalize Act.eval ⟨over Tv U,dd⟩=ev at *
       simp [execOp,v0,go_sem]
      | 65,ho,hlv,hd =>
       obtain rfl:=Option.some.inj ho
       have f0:U 123=some (.slice (some ⟨b,off,none⟩) 17 c):=hT.facts 64 (by decide) (dep hd 64 (by kernel_rfl)) (fun c e=>by cases e)
       have v0:Act.eval ⟨over Tv U,dd⟩ (.tmp 123)=_:=eval_new (t:=Tv) (d:=dd) f0 (by show 123<Tv.size;omega)
       have vc:Act.eval ⟨over Tv U,dd⟩ (.const (.int .i64 16))=.int .i64 16:=rfl
       refine tb_pure (v:=.pointer (some ⟨b,off+80,none⟩)) hT ho hd rfl rfl (by decide) (by decide) ?_ rfl
       generalize Act.eval ⟨over Tv U,dd⟩=ev at *
       simp [execOp,v0,vc,go_sem]
      | 66,ho,hlv,hd =>
       obtain rfl:=Option.some.inj ho
       have f0:U 124=some (.pointer (some ⟨b,off+80,none⟩)):=hT.facts 65 (by decide) (dep hd 65 (by kernel_rfl)) (fun c e=>by cases e)
       have v0:Act.eval ⟨over Tv U,dd⟩ (.tmp 124)=_:=eval_new (t:=Tv) (d:=dd) f0 (by show 124<Tv.size;omega)
       refine tb_pure (v:=.pointer (some ⟨b,off+82,none⟩)) hT ho hd rfl rfl (by decide) (by decide) ?_ rfl
       generalize Act.eval ⟨over Tv U,dd⟩=ev at *
       simp [execOp,v0,go_sem]
      | 67,ho,hlv,hd =>
       obtain rfl:=Option.some.inj ho
       have f0:U 125=some (.pointer (some ⟨b,off+82,none⟩)):=hT.facts 66 (by decide) (dep hd 66 (by kernel_rfl)) (fun c e=>by cases e)
       have v0:Act.eval ⟨over Tv U,dd⟩ (.tmp 125)=_:=eval_new (t:=Tv) (d:=dd) f0 (by show 125<Tv.size;omega)
       have hc:=hx.keep M16.out
       refine tb_pure (v:=.int .i64 y16.n) hT ho hd rfl rfl (by decide) (by decide) ?_ rfl
       generalize Act.eval ⟨over Tv U,dd⟩=ev at *
       simp [execOp,v0,go_sem,hc]
      | 68,ho,hlv,hd =>
       obtain rfl:=Option.some.inj ho
       have f0:U 62=some (.int .i64 y0.n):=hT.facts 3 (by decide) (dep hd 3 (by kernel_rfl)) (fun c e=>by cases e)
       have v0:Act.eval ⟨over Tv U,dd⟩ (.tmp 62)=_:=eval_new (t:=Tv) (d:=dd) f0 (by show 62<Tv.size;omega)
       have f1:U 66=some (.int .i64 y1.n):=hT.facts 7 (by decide) (dep hd 7 (by kernel_rfl)) (fun c e=>by cases e)
       have v1:Act.eval ⟨over Tv U,dd⟩ (.tmp 66)=_:=eval_new (t:=Tv) (d:=dd) f1 (by show 66<Tv.size;omega)
       have f2:U 70=some (.int .i64 y2.n):=hT.facts 11 (by decide) (dep hd 11 (by kernel_rfl)) (fun c e=>by cases e)
       have v2:Act.eval ⟨over Tv U,dd⟩ (.tmp 70)=_:=eval_new (t:=Tv) (d:=dd) f2 (by show 70<Tv.size;omega)
       have f3:U 74=some (.string y3.s):=hT.facts 15 (by decide) (dep hd 15 (by kernel_rfl)) (fun c e=>by cases e)
       have v3:Act.eval ⟨over Tv U,dd⟩ (.tmp 74)=_:=eval_new (t:=Tv) (d:=dd) f3 (by show 74<Tv.size;omega)
       obtain ⟨A4,C4,f4,a4,b4,c4,d4⟩:∃ (A:Option Addr) (c:Nat),U 78=some (.slice A y4.kids.length c)∧SlS wz A (y4.kids.map Nd.s)∧y4.kids.length≤c∧c≤maxLen∧TyB wz A 9:=hT.facts 19 (by decide) (dep hd 19 (by kernel_rfl)) (fun c e=>by cases e)
       have v4:Act.eval ⟨over Tv U,dd⟩ (.tmp 78)=_:=eval_new (t:=Tv) (d:=dd) f4 (by show 78<Tv.size;omega)
       obtain ⟨A5,C5,f5,a5,b5,c5,d5⟩:∃ (A:Option Addr) (c:Nat),U 82=some (.slice A y5.kids.length c)∧SlI wz A (y5.kids.map Nd.n)∧y5.kids.length≤c∧c≤maxLen∧TyB wz A 3:=hT.facts 23 (by decide) (dep hd 23 (by kernel_rfl)) (fun c e=>by cases e)
       have v5:Act.eval ⟨over Tv U,dd⟩ (.tmp 82)=_:=eval_new (t:=Tv) (d:=dd) f5 (by show 82<Tv.size;omega)
       have f6:U 86=some (.int .i64 y6.n):=hT.facts 27 (by decide) (dep hd 27 (by kernel_rfl)) (fun c e=>by cases e)
       have v6:Act.eval ⟨over Tv U,dd⟩ (.tmp 86)=_:=eval_new (t:=Tv) (d:=dd) f6 (by show 86<Tv.size;omega)
       have f7:U 90=some (.int .i64 y7.n):=hT.facts 31 (by decide) (dep hd 31 (by kernel_rfl)) (fun c e=>by cases e)
       have v7:Act.eval ⟨over Tv U,dd⟩ (.tmp 90)=_:=eval_new (t:=Tv) (d:=dd) f7 (by show 90<Tv.size;omega)
       obtain ⟨A8,C8,f8,a8,b8,c8,d8⟩:∃ (A:Option Addr) (c:Nat),U 94=some (.slice A y8.kids.length c)∧SlS wz A (y8.kids.map Nd.s)∧y8.kids.length≤c∧c≤maxLen∧TyB wz A 9:=hT.facts 35 (by decide) (dep hd 35 (by kernel_rfl)) (fun c e=>by cases e)
       have v8:Act.eval ⟨over Tv U,dd⟩ (.tmp 94)=_:=eval_new (t:=Tv) (d:=dd) f8 (by show 94<Tv.size;omega)
       have f9:U 98=some (.int .i64 y9.n):=hT.facts 39 (by decide) (dep hd 39 (by kernel_rfl)) (fun c e=>by cases e)
       have v9:Act.eval ⟨over Tv U,dd⟩ (.tmp 98)=_:=eval_new (t:=Tv) (d:=dd) f9 (by show 98<Tv.size;omega)
       have f10:U 102=some (.string y10.s):=hT.facts 43 (by decide) (dep hd 43 (by kernel_rfl)) (fun c e=>by cases e)
       have v10:Act.eval ⟨over Tv U,dd⟩ (.tmp 102)=_:=eval_new (t:=Tv) (d:=dd) f10 (by show 102<Tv.size;omega)
       have f11:U 106=some (.int .i64 y11.n):=hT.facts 47 (by decide) (dep hd 47 (by kernel_rfl)) (fun c e=>by cases e)
       have v11:Act.eval ⟨over Tv U,dd⟩ (.tmp 106)=_:=eval_new (t:=Tv) (d:=dd) f11 (by show 106<Tv.size;omega)
       have f12:U 110=some (.int .i64 y12.n):=hT.facts 51 (by decide) (dep hd 51 (by kernel_rfl)) (fun c e=>by cases e)
       have v12:Act.eval ⟨over Tv U,dd⟩ (.tmp 110)=_:=eval_new (t:=Tv) (d:=dd) f12 (by show 110<Tv.size;omega)
       have f13:U 114=some (.int .i64 y13.n):=hT.facts 55 (by decide) (dep hd 55 (by kernel_rfl)) (fun c e=>by cases e)
       have v13:Act.eval ⟨over Tv U,dd⟩ (.tmp 114)=_:=eval_new (t:=Tv) (d:=dd) f13 (by show 114<Tv.size;omega)
       have f14:U 118=some (.int .i64 y14.n):=hT.facts 59 (by decide) (dep hd 59 (by kernel_rfl)) (fun c e=>by cases e)
       have v14:Act.eval ⟨over Tv U,dd⟩ (.tmp 118)=_:=eval_new (t:=Tv) (d:=dd) f14 (by show 118<Tv.size;omega)
       obtain ⟨A15,C15,f15,a15,b15,c15,d15⟩:∃ (A:Option Addr) (c:Nat),U 122=some (.slice A y15.kids.length c)∧SlI wz A (y15.kids.map Nd.n)∧y15.kids.length≤c∧c≤maxLen∧TyB wz A 3:=hT.facts 63 (by decide) (dep hd 63 (by kernel_rfl)) (fun c e=>by cases e)
       have v15:Act.eval ⟨over Tv U,dd⟩ (.tmp 122)=_:=eval_new (t:=Tv) (d:=dd) f15 (by show 122<Tv.size;omega)
       have f16:U 126=some (.int .i64 y16.n):=hT.facts 67 (by decide) (dep hd 67 (by kernel_rfl)) (fun c e=>by cases e)
       have v16:Act.eval ⟨over Tv U,dd⟩ (.tmp 126)=_:=eval_new (t:=Tv) (d:=dd) f16 (by show 126<Tv.size;omega)
       have hI:InX wz ⟨y0.n,y1.n,y2.n,y3.s,y4.kids.map Nd.s,y5.kids.map Nd.n,y6.n,y7.n,y8.kids.map Nd.s,y9.n,y10.s,y11.n,y12.n,y13.n,y14.n,y15.kids.map Nd.n,y16.n⟩ ⟨A4,C4,A5,C5,A8,C8,A15,C15⟩:=⟨a4,a5,a8,a15,⟨by rw [List.length_map];exact b4,c4⟩,⟨by rw [List.length_map];exact b5,c5⟩,⟨by rw [List.length_map];exact b8,c8⟩,⟨by rw [List.length_map];exact b15,c15⟩,d4,d5,d8,d15⟩
       refine tb_pure (v:=It.agg ⟨y0.n,y1.n,y2.n,y3.s,y4.kids.map Nd.s,y5.kids.map Nd.n,y6.n,y7.n,y8.kids.map Nd.s,y9.n,y10.s,y11.n,y12.n,y13.n,y14.n,y15.kids.map Nd.n,y16.n⟩ ⟨A4,C4,A5,C5,A8,C8,A15,C15⟩) hT ho hd rfl rfl (by decide) (by decide) ?_ ⟨⟨A4,C4,A5,C5,A8,C8,A15,C15⟩,rfl,hI⟩
       clear hI
       generalize Act.eval ⟨over Tv U,dd⟩=ev at *
       simp [execOp,v0,v1,v2,v3,v4,v5,v6,v7,v8,v9,v10,v11,v12,v13,v14,v15,v16,go_sem,It.agg]
      | 69,ho,hlv,hd =>
       obtain rfl:=Option.some.inj ho
       refine tb_extW (v:=.pointer (some ⟨wz.heap.size,0,none⟩)) (w':=wz.alloc (.cells #[.int .i64 0,.int .i64 0,.int .i64 0,.string ⟨#[]⟩,.slice none 0 0,.slice none 0 0,.int .i64 0,.int .i64 0,.slice none 0 0,.int .i64 0,.string ⟨#[]⟩,.int .i64 0,.int .i64 0,.int .i64 0,.int .i64 0,.slice none 0 0,.int .i64 0] 45)) (rdfR_ext wr.heap.size b off c y0 y1 y2 y3 y4 y5 y6 y7 y8 y9 y10 y11 y12 y13 y14 y15 y16 N4 N5 N8 N15) hT ho hd rfl rfl (by decide) (fun j hj hji hlj=>?_) ?_ ((Ext.refl _).alloc _) ⟨wz.heap.size,rfl,hx.size,_,heap_alloc_new _ _,rfl⟩
       · by_cases h70:j=70
         · subst h70
           have:=dep (hT.shut 70 _ rfl hlj) 69 (by kernel_rfl)
           rw [hlv] at this;cases this
         · exact (show ∀ j,j<71→j≠69→j≠70→rdfD.getD j 0≠9 by decide) j hj hji h70
       · generalize Act.eval ⟨over Tv U,dd⟩=ev at *
         simp [execOp,go_sem]
      | 70,ho,hlv,hd =>
       obtain rfl:=Option.some.inj ho
       obtain ⟨q,f5,hq,hblk⟩:∃ q:Nat,U 9=some (.pointer (some ⟨q,0,none⟩))∧wr.heap.size≤q∧BlkI wz q:=hT.facts 69 (by decide) (dep hd 69 (by kernel_rfl)) (fun c e=>by cases e)
       obtain ⟨L,f6,hI⟩:∃ L,U 127=some (It.agg ⟨y0.n,y1.n,y2.n,y3.s,y4.kids.map Nd.s,y5.kids.map Nd.n,y6.n,y7.n,y8.kids.map Nd.s,y9.n,y10.s,y11.n,y12.n,y13.n,y14.n,y15.kids.map Nd.n,y16.n⟩ L)∧InX wz ⟨y0.n,y1.n,y2.n,y3.s,y4.kids.map Nd.s,y5.kids.map Nd.n,y6.n,y7.n,y8.kids.map Nd.s,y9.n,y10.s,y11.n,y12.n,y13.n,y14.n,y15.kids.map Nd.n,y16.n⟩ L:=hT.facts 68 (by decide) (dep hd 68 (by kernel_rfl)) (fun c e=>by cases e)
       have v5:Act.eval ⟨over Tv U,dd⟩ (.tmp 9)=_:=eval_new (t:=Tv) (d:=dd) f5 (by show 9<Tv.size;omega)
       have v6:Act.eval ⟨over Tv U,dd⟩ (.tmp 127)=.agg (It.cells ⟨y0.n,y1.n,y2.n,y3.s,y4.kids.map Nd.s,y5.kids.map Nd.n,y6.n,y7.n,y8.kids.map Nd.s,y9.n,y10.s,y11.n,y12.n,y13.n,y14.n,y15.kids.map Nd.n,y16.n⟩ L).toArray:=eval_new (t:=Tv) (d:=dd) f6 (by show 127<Tv.size;omega)
       obtain ⟨c0,hb1,hb2⟩:=hblk
       refine tb_store (w':=wz.setRow q (It.cells ⟨y0.n,y1.n,y2.n,y3.s,y4.kids.map Nd.s,y5.kids.map Nd.n,y6.n,y7.n,y8.kids.map Nd.s,y9.n,y10.s,y11.n,y12.n,y13.n,y14.n,y15.kids.map Nd.n,y16.n⟩ L).toArray) hT ho hd rfl rfl (exec_store_row _ _ _ rfl q _ v5 v6 _ c0 hb1 (by kernel_rfl) hb2 (by simp [It.cells,Value.oneCell'])) (hx.setRow hq _) ⟨q,L,f5,hq,setRow_at hb1,hI.setRow ⟨c0,hb1,hb2⟩ _ rfl⟩ (fun j hj hji hlj hcj hR=>rdfR_put wr.heap.size b off c y0 y1 y2 y3 y4 y5 y6 y7 y8 y9 y10 y11 y12 y13 y14 y15 y16 N4 N5 N8 N15 j hji _ _ ⟨c0,hb1,hb2⟩ _ rfl hR)
      | i+71,ho,_,_=>exact absurd ho (by simp)
    · intro U wz hex hout hfin
      obtain ⟨q,L,f5,hq,hblk,hX⟩:RdDone wr.heap.size ⟨y0.n,y1.n,y2.n,y3.s,y4.kids.map Nd.s,y5.kids.map Nd.n,y6.n,y7.n,y8.kids.map Nd.s,y9.n,y10.s,y11.n,y12.n,y13.n,y14.n,y15.kids.map Nd.n,y16.n⟩ (U 9) wz:=hfin 70 (by decide) rfl
      obtain ⟨CS,hCS⟩:∃ CS,(It.cells ⟨y0.n,y1.n,y2.n,y3.s,y4.kids.map Nd.s,y5.kids.map Nd.n,y6.n,y7.n,y8.kids.map Nd.s,y9.n,y10.s,y11.n,y12.n,y13.n,y14.n,y15.kids.map Nd.n,y16.n⟩ L).toArray=CS:=⟨_,rfl⟩
      have HAG:Hid (It.agg ⟨y0.n,y1.n,y2.n,y3.s,y4.kids.map Nd.s,y5.kids.map Nd.n,y6.n,y7.n,y8.kids.map Nd.s,y9.n,y10.s,y11.n,y12.n,y13.n,y14.n,y15.kids.map Nd.n,y16.n⟩ L=.agg CS):=Hi (by rw [← hCS];rfl)
      have hsz:CS.size=17:=by rw [← hCS];rfl
      have HONE:Hid (CS.all (·.oneCell')=true):=Hi (by rw [← hCS];simp [It.cells,Value.oneCell'])
      have HINF:=Hi (infoItem hsz)
      rw [hCS] at hblk
      have HBL:=Hi hblk
      have HIX:=Hi hX
      have HEX:=Hi (HX2.out.trans hex)
      have HRES:=Hi (hex.blockAt HBR2.out)
      have HSZ:=Hi hsz
      clear hX hex hfin hblk hCS hsz HBR2
      rw [over_list]
      simp (disch:=decide) only [overL,Nat.reduceAdd,hout,Option.getD_none]
      rw [f5]
      simp only [Option.getD_some]
      clear hout f5
      go_wp2_with (refine wpList_load_row rfl _ _ rfl q rfl _ CS _ _ HBL.out Tryz.underlying45 rfl HINF.out ?_)
      have hv:=rvalid_any ⟨y0.n,y1.n,y2.n,y3.s,y4.kids.map Nd.s,y5.kids.map Nd.n,y6.n,y7.n,y8.kids.map Nd.s,y9.n,y10.s,y11.n,y12.n,y13.n,y14.n,y15.kids.map Nd.n,y16.n⟩ L _ (HIX.out.in_ HOK.out)
      rw [HAG.out] at hv
      obtain ⟨er,her0⟩:∃ er,It.vld ⟨y0.n,y1.n,y2.n,y3.s,y4.kids.map Nd.s,y5.kids.map Nd.n,y6.n,y7.n,y8.kids.map Nd.s,y9.n,y10.s,y11.n,y12.n,y13.n,y14.n,y15.kids.map Nd.n,y16.n⟩=er:=⟨_,rfl⟩
      rw [her0] at hv
      have HDE:Hid (decErr x=er):=Hi (by unfold decErr;rw [if_pos HV.out,HIT.out,her0])
      with_reducible refine hv.mono ?_
      rintro e w3 ⟨rfl,hb3⟩
      clear hv her0
      have HX3:=Hi (HIX.out.ext hb3)
      have X3:=Hi (HEX.out.trans hb3)
      have HB3:=Hi (hb3.blockAt HBL.out)
      have HR1:=Hi (hb3.blockAt HRES.out)
      have HR3:Hid (BlkI w3 (w.heap.size+1)):=Hi ⟨_,HR1.out,rfl⟩
      clear hb3
      by_cases her:er=0
      · have e0:(er != 0)=false:=by rw [her];rfl
        have HER:=Hi her
        clear her
        go_wp2_with (first
         | refine wpList_load_row rfl _ _ rfl q rfl _ CS _ _ HB3.out Tryz.underlying45 rfl HINF.out ?_
         | refine wpList_store_row rfl _ _ _ rfl (w.heap.size+1) CS rfl rfl _ _ HR1.out HINF.out HSZ.out.symm HONE.out ?_)
        have HRS:=setRow_at (cs':=CS) HR1.out
        refine bodyPost_ret (v:=.tuple #[.agg CS,.int .i64 0]) (results_cell_tmp Tryz.results46 _ _ (w.heap.size+1) _ CS _ _ rfl HRS Tryz.underlying45 rfl HINF.out rfl) rfl ?_
        rw [HDE.out,HIT.out,← HAG.out]
        rw [HER.out]
        exact ⟨⟨fun _=>⟨L,rfl,HX3.out.setRow HR3.out CS HSZ.out⟩,fun h=>absurd rfl h⟩,X3.out.setRow (Nat.le_succ _) CS⟩
      · have e0:(er != 0)=true:=by rw [bne_iff_ne];exact her
        have HER:=Hi her
        clear her
        go_wp2_with (refine wpList_store_row rfl _ _ _ rfl (w.heap.size+1) #[.int .i64 0,.int .i64 0,.int .i64 0,.string ⟨#[]⟩,.slice none 0 0,.slice none 0 0,.int .i64 0,.int .i64 0,.slice none 0 0,.int .i64 0,.string ⟨#[]⟩,.int .i64 0,.int .i64 0,.int .i64 0,.int .i64 0,.slice none 0 0,.int .i64 0] rfl rfl _ _ HR1.out (by kernel_rfl) rfl (by simp [Value.oneCell']) ?_)
        have HRS:=setRow_at (cs':=#[.int .i64 0,.int .i64 0,.int .i64 0,.string ⟨#[]⟩,.slice none 0 0,.slice none 0 0,.int .i64 0,.int .i64 0,.slice none 0 0,.int .i64 0,.string ⟨#[]⟩,.int .i64 0,.int .i64 0,.int .i64 0,.int .i64 0,.slice none 0 0,.int .i64 0]) HR1.out
        refine bodyPost_ret (v:=.tuple #[.agg #[.int .i64 0,.int .i64 0,.int .i64 0,.string ⟨#[]⟩,.slice none 0 0,.slice none 0 0,.int .i64 0,.int .i64 0,.slice none 0 0,.int .i64 0,.string ⟨#[]⟩,.int .i64 0,.int .i64 0,.int .i64 0,.int .i64 0,.slice none 0 0,.int .i64 0],.int .i64 er]) (results_cell_tmp Tryz.results46 _ _ (w.heap.size+1) _ _ _ _ rfl HRS Tryz.underlying45 rfl (by kernel_rfl) rfl) rfl ?_
        rw [HDE.out,HIT.out]
        exact ⟨⟨fun h=>absurd h HER.out,fun _=>rfl⟩,X3.out.setRow (Nat.le_succ _) _⟩
end Go.Proofs.YtnlenappjjlbjaaGreatDoor
