/- The reference's Build: a contract. Conditions: those of each theorem. -/
import Derived.Test.YtnlenappjjlbjaaGreatDoorQ32
import Derived.Test.YtnlenappjjlbjaaGreatDoorQ34
import Derived.Lib.SlBytesConst
import Derived.Test.YtnlenappjjlbjaaGreatDoorQ15
namespace Go.Proofs.YtnlenappjjlbjaaGreatDoor
open Go.ChangeShapes Go.WideShapes Go.ChangeAt Go.RowKit Go.Shelf
theorem slU_mark (w:World) (ys:List Int) (fr:Nat×Nat):SlU (w.alloc (.cells (ys.map (Value.int .u8)).toArray 5 fr)) (some ⟨w.heap.size,0,none⟩) ys:=Or.inr ⟨w.heap.size,0,rfl,by simp,fun i cs hi j v hv=>by
 rw [List.getElem?_map] at hi
 obtain ⟨y,hy,rfl⟩:=Option.map_eq_some_iff.1 hi
 have hj:j=0:=by
  rcases Nat.eq_zero_or_pos j with h | h
  · exact h
  · rw [List.getElem?_eq_none (by simp;omega)] at hv;cases hv
 subst hj
 rw [World.cell?_alloc_mark,Nat.zero_add,Nat.mul_one,Nat.add_zero,List.getElem?_toArray,List.getElem?_map,hy]
 exact hv⟩
def BldP (key nonce session:Int) (its:List It.Item) (e:Ending) (w':World):Prop:=∃ A' c',e=.returned (.tuple #[.slice A' (Bu.buildB key nonce session its).length c',.int .i64 (Bu.buildE session its)])∧SlU w' A' (Bu.buildB key nonce session its)∧(Bu.buildB key nonce session its).length≤c'
theorem BldP.bad {key nonce session:Int} {its:List It.Item} {er:Int} (h:Bu.buildE session its=er) (h0:er≠0) (w':World):BldP key nonce session its (.returned (.tuple #[.slice none 0 0,.int .i64 er])) w':=by
 have e:Bu.buildB key nonce session its=[]:=by unfold Bu.buildB;rw [h,if_neg h0]
 refine ⟨none,0,?_,?_,?_⟩
 · rw [e,h];rfl
 · rw [e];exact SlU.nil _ _
 · rw [e];exact Nat.le_refl 0
set_option maxRecDepth 100000 in
set_option maxHeartbeats 25600000 in
theorem bbuild_any (key nonce session : Int) (hkey : Bu.U64 key) (hnonce : Bu.U64 nonce) (A : Option Addr) (c : Nat) (xs : List Rt.ItL) {n : Nat} (hn : xs.length = n) (w : World) (h : Rt.SlIt w A xs) (hl : n ≤ 9223372036854775807) (hg : ∀ w', Ext w w' → Gm w') :
    Calls Tryz.prog 9 #[.int .u64 key,.int .u64 nonce,.int .i64 session,.slice A n c] w fun e w'=>BldP key nonce session (Rt.its xs) e w'∧Ext w w':=by
 have HK:=Hi (broot_any A c xs hn w h hl hg)
 by_cases hs:session<1∨9999999<session
 · have HE:Hid (Bu.buildE session (Rt.its xs)=3):=Hi (by unfold Bu.buildE;rw [if_pos hs])
   clear h
   by_cases h1:session<1
   · have t1:decide (session<1)=true:=decide_eq_true h1
     go_enter Tryz.func9,Tryz.ntmps9
     go_wp2
     go_ret2
     exact ⟨BldP.bad HE.out (by decide) _,Ext.refl _⟩
   · have t1:decide (session<1)=false:=decide_eq_false h1
     have t2:decide (9999999<session)=true:=decide_eq_true (by omega)
     go_enter Tryz.func9,Tryz.ntmps9
     go_wp2
     go_ret2
     exact ⟨BldP.bad HE.out (by decide) _,Ext.refl _⟩
 have t1:decide (session<1)=false:=decide_eq_false (by omega)
 have t2:decide (9999999<session)=false:=decide_eq_false (by omega)
 have HE:Hid (Bu.buildE session (Rt.its xs)=Rs.chkI (Rt.its xs)):=Hi (by unfold Bu.buildE;rw [if_neg hs])
 by_cases hv:Rs.chkI (Rt.its xs)=0
 · rw [if_pos hv,hv] at HK
   rw [hv] at HE
   have HV:=Hi hv
   have hn60:n≤60:=by have:=Rs.chkI_few hv;rw [Rt.its_len,hn] at this;exact this
   have HSA:=Hi (fun wr (hx:Ext w wr)=>h.ext hx)
   have HN:=Hi hn
   have HG:=Hi hg
   have HSN:=Hi hs
   clear hv h hn hg hs
   obtain ⟨rv,hrv⟩:∃ rv,Bu.rootV (Rt.its xs)=rv:=⟨_,rfl⟩
   rw [hrv] at HK
   have HRV:=Hi hrv
   clear hrv
   go_enter Tryz.func9,Tryz.ntmps9
   go_wp2_with fail
   with_reducible refine HK.out.mono ?_
   rintro e w1 ⟨rfl,hx1⟩
   have hmk:=make_nd n (by omega) w1
   obtain ⟨W2,hW2⟩:∃ W,w1.alloc (.cells (madeCells #[.int .i64 0,.int .i64 0,.int .i64 0,.string ⟨#[]⟩,.slice none 0 0] (n*5)) 52)=W:=⟨_,rfl⟩
   rw [hW2] at hmk
   have HR0:Hid (OutN 1000 2 W2 w1.heap.size n []):=Hi (by rw [← hW2];exact OutN.made 1000 2 w1 n _)
   have HX0:Hid (Ext w W2):=Hi (by rw [← hW2];exact hx1.alloc _)
   have HSZ:Hid (w.heap.size≤w1.heap.size):=Hi hx1.size
   clear HK hx1 hW2
   go_wp2_with fail
   go_loopw [37] (fun i wr=>∃ (k:Nat) (ys:List NdM),k≤n∧i=.int .i64 (k:Int)∧Hid (ys.length=k)∧Hid (nds ys=((Rt.its xs).map tree).take k)∧Hid (OutN 1000 2 wr w1.heap.size n ys)∧Hid (Ext w wr)) (fun i _=>n-(intOf i).toNat)
   case atStart=>exact ⟨0,[],Nat.zero_le _,rfl,Hi rfl,Hi rfl,HR0,HX0⟩
   case round =>
    clear HR0 HX0
    obtain ⟨k,ys,hk,rfl,HYL,HYN,HR,HE2⟩:=hrel
    have HLT:Hid (w1.heap.size<wr.heap.size):=Hi HR.out.row.lt
    by_cases hlt:k<n
    · obtain ⟨x,hx⟩:∃ x,xs[k]?=some x:=⟨xs[k]'(by rw [HN.out];exact hlt),List.getElem?_eq_getElem _⟩
      obtain ⟨b,off,rfl,hb,hc,hin⟩:=(HSA.out wr HE2.out).at_ hx
      obtain ⟨CA,hca,hna,h1a,hka⟩:=rs_packed x.1 x.2
      have HC:Hid (wr.rangeAt b (off+k*17) CA.toList):=Hi (by rw [← hka];exact hc)
      have HI:=Hi hin
      have IA:=Hi (Rt.infoItem hna)
      have NA:=Hi hna
      have OA:=Hi h1a
      have ki0:(0:Int)≤(k:Int):=by omega
      have ki1:(k:Int)<(n:Int):=by omega
      have hvl:It.vld x.1=0:=Rs.chkI_vld HV.out (by unfold Rt.its;exact List.mem_map_of_mem (List.mem_of_getElem? hx))
      have HVL:=Hi hvl
      have HV2:=Hi (encode_any x.1 x.2)
      rw [hca] at HV2
      have HT:Hid (((Rt.its xs).map tree).take k ++ [tree x.1]=((Rt.its xs).map tree).take (k+1)):=Hi (by
       rw [List.take_add_one,List.getElem?_map,Rt.its_at hx];rfl)
      clear hx hc hin hca hka hna h1a hvl
      go_wp2_with (first
       | (with_reducible refine wpList_load_arr rfl 45 (.tmp 40) rfl b (off+k*17) (by with_unfolding_all rfl) CA _ HC.out Tryz.underlying45 rfl IA.out ?_)
       | (with_reducible refine wpList_store_new rfl 45 (.tmp 14) (.tmp 41) rfl _ CA 45 (by with_unfolding_all rfl) (by with_unfolding_all rfl) IA.out (by with_unfolding_all exact NA.out.symm) OA.out ?_)
       | (with_reducible refine wpList_load_row rfl 45 (.tmp 14) rfl wr.heap.size (by with_unfolding_all rfl) _ CA _ _ (heap_alloc_last wr _) Tryz.underlying45 rfl IA.out ?_))
      have X0:Ext wr (wr.alloc (.cells CA 45)):=(Ext.refl _).alloc _
      have X1:=HE2.out.trans X0
      with_reducible refine (HV2.out _ (HI.out.ext X0) (fun w' hw'=>HG.out w' (X1.trans hw'))).mono ?_
      rintro e w3 ⟨⟨hp,-⟩,hb3⟩
      obtain ⟨M,he,hM⟩:=hp HVL.out
      obtain ⟨CS,hCS,hCN,hCz,hC1⟩:∃ CS:Array Value,nda (tree x.1) M=.agg CS∧ncl (tree x.1,M)=CS.toList∧CS.size=5∧CS.all (·.oneCell')=true:=⟨_,rfl,rfl,rfl,by simp [Value.oneCell']⟩
      rw [hCS] at he
      subst he
      have HR3:=Hi (HR.out.ext (X0.trans hb3))
      have HTH:=Hi (HR3.out.there HYL.out hlt)
      have HKD:Hid (KidsP 1000 (fun b=>w1.heap.size<b) 2 w3 M (tree x.1).kids):=Hi (hM.toP.mono fun b hb=>by
       have:=HLT.out
       simp at hb
       omega)
      have HPUT:=Hi (HR3.out.put HYL.out hlt (tree x.1,M) HKD.out hCN)
      have HE4:=Hi (Ext.setCells HSZ.out CS.toList (k*5) w3 (X1.trans hb3))
      have IC:Hid ((Tryz.prog.info? 52).map (·.size)=some CS.size):=Hi (by rw [hCz];kernel_rfl)
      have HCZ:=Hi hCz
      have HTH2:Hid (w3.there w1.heap.size (k*5) CS.size):=Hi (by rw [hCz];exact HTH.out)
      have OC:=Hi hC1
      clear hp hM hCS hCN hb3 X0 X1 HR3 hCz hC1
      go_wp2_with (with_reducible refine wpList_store_arr rfl 52 (.tmp 49) (.tmp 47) rfl w1.heap.size (k*5) CS (by with_unfolding_all rfl) (by with_unfolding_all rfl) HTH2.out IC.out OC.out ?_)
      go_roundw
      case rel=>exact ⟨k+1,ys ++ [(tree x.1,M)],by omega,by go_num,Hi (by rw [List.length_append,HYL.out];rfl),Hi (by rw [← HT.out,← HYN.out];unfold nds;rw [List.map_append];rfl),HPUT,HE4⟩
      case measure=>simp [intOf] <;> omega
    · have hkn:k=n:=by omega
      have ki1:¬ (k:Int)<(n:Int):=by omega
      have HT:Hid (nds ys=(Rt.its xs).map tree):=Hi (by rw [HYN.out,List.take_of_length_le (by rw [List.length_map,Rt.its_len,HN.out];omega)])
      have hks:=(HR.out.done (HYL.out.trans hkn) (by omega) (by unfold maxLen;omega)).to (fun b _=>Nat.zero_le b)
      rw [HT.out] at hks
      have hLen:((Rt.its xs).map tree).length=n:=by rw [List.length_map,Rt.its_len,HN.out]
      have HK:=list_any 1000 (by omega) 3 48 (some ⟨w1.heap.size,0,none⟩,n) ((Rt.its xs).map tree) wr hks
      rw [hLen] at HK
      have HK:=Hi HK
      clear hks hkn hlt hLen
      go_wp2_with fail
      with_reducible refine HK.out.mono ?_
      rintro e w2 ⟨⟨M,he,hM⟩,hx2⟩
      have hok:∀ it∈Rt.its xs,It.Ok it:=fun it hi=>by
       obtain ⟨y,hy,rfl⟩:=List.mem_map.1 hi
       exact ((HSA.out w (Ext.refl w)).2 y hy).ok
      obtain ⟨hF,hFl⟩:=Bu.fits_treeB hok HV.out
      have HK2:=Hi (cenc_ok 1000 3 (by omega) (Bu.treeB (Rt.its xs)) M w2 (hM.lower (Nat.zero_le _)) hF hFl)
      obtain ⟨CS,hCS⟩:∃ CS,nda (Bu.treeB (Rt.its xs)) M=.agg CS:=⟨_,rfl⟩
      have he:e=.returned (nda (Bu.treeB (Rt.its xs)) M):=he
      rw [hCS] at he HK2
      subst he
      have X2:=Hi (HE2.out.trans hx2)
      have HPL:Hid ((encT 4 (Bu.treeB (Rt.its xs))).length≤1048576):=Hi hFl
      clear hok hF hFl hM hx2 hCS HK
      go_wp2_with fail
      with_reducible refine HK2.out.mono ?_
      rintro e w4 ⟨⟨Ap,cp,rfl,hsp⟩,hx4⟩
      have X4:=Hi (X2.out.trans hx4)
      obtain ⟨ps,hps⟩:∃ ps,Bu.plainB (Rt.its xs)=ps:=⟨_,rfl⟩
      have hps':encT 4 (Bu.treeB (Rt.its xs))=ps:=hps
      obtain ⟨m,hm⟩:∃ m,ps.length=m:=⟨_,rfl⟩
      have hps2:encT (3+1) (Bu.treeB (Rt.its xs))=ps:=hps'
      rw [hps2] at hsp
      rw [hps'] at HPL
      have HM:=Hi hm
      have HKS:=Hi (fun (W:World) (hx:Ext w4 W)=>seal_any (Bu.derive key) nonce (Bu.dgA_range (Bu.dgA_range (Bu.dgOf_range []) _) _) hnonce Ap cp ps hm (by rw [← hm];exact HPL.out) rfl W (hsp.ext hx))
      have HKD:=Hi (fun W=>derive_any key hkey ⟨#[98,117,110,100,108,101]⟩ (v:=Bu.derive key) rfl (by decide) W)
      have HPS:=Hi hps
      rw [hps2,hm]
      clear hsp hx4 hps hps' hps2 hm HK2
      go_wp2_with fail
      with_reducible refine (HKD.out w4).mono ?_
      rintro e w5 ⟨rfl,hx5⟩
      have HK3:=Hi (HKS.out w5 hx5)
      have X5:=Hi (X4.out.trans hx5)
      clear hx5 HKS HKD
      go_wp2_with fail
      with_reducible refine HK3.out.mono ?_
      rintro e w6 ⟨⟨As,cs,rfl,hss⟩,hx6⟩
      have X6:=Hi (X5.out.trans hx6)
      obtain ⟨S,hS⟩:∃ S,Bu.sealB (Bu.derive key) nonce ps=S:=⟨_,rfl⟩
      rw [hS] at hss
      rw [hS]
      have HSQ:=Hi hS
      clear hx6 HK3 hS
      obtain ⟨W7,hW7⟩:∃ W,w6.alloc (.cells #[.int .u8 69,.int .u8 88,.int .u8 66,.int .u8 49] 5 (4,5))=W:=⟨_,rfl⟩
      have hcv:(convert 24 24 (.slice (some ⟨w6.heap.size,0,none⟩) 4 4)).run Tryz.prog (w6.alloc (.cells #[.int .u8 69,.int .u8 88,.int .u8 66,.int .u8 49] 5))=.ok (.slice (some ⟨w6.heap.size,0,none⟩) 4 4) W7:=by
       rw [← hW7]
       exact Lib.run_convert_bytes_const (P:=Tryz.prog) w6 24 5 #[.int .u8 69,.int .u8 88,.int .u8 66,.int .u8 49] 4 4 Tryz.underlying24 Tryz.underlying5
      have X67:Ext w6 W7:=by rw [← hW7];exact (Ext.refl _).alloc _
      have HM7:Hid (RowM w6.heap.size Bu.magic W7 (.slice (some ⟨w6.heap.size,0,none⟩) 4 4)):=Hi (Or.inr ⟨w6.heap.size,rfl,Nat.le_refl _,by rw [← hW7];exact slU_mark w6 Bu.magic (4,5)⟩)
      have HSS:=Hi (fun W (hx:Ext w6 W)=>show SlU W As S from hss.ext hx)
      have hws:IntKind.u64.wrap session=session:=by rw [IntKind.wrap_u64];have:=HSN.out;omega
      have u1:Bu.U64 (IntKind.u64.wrap session):=by rw [hws];unfold Bu.U64;have:=HSN.out;omega
      have u2:Bu.U64 (n:Int):=by unfold Bu.U64;omega
      have u3:Bu.U64 rv:=by rw [← HRV.out];exact Bu.rootV_range _
      have K8:=Hi (putM_4 w6 w6.heap.size (Nat.le_refl _) _ Bu.magic (IntKind.u64.wrap session) u1 W7 X67 X67.size (by decide) HM7.out)
      have K9:=Hi (fun v w8 (hx:Ext w6 w8) hr=>putM_4 w6 w6.heap.size (Nat.le_refl _) v (Bu.magic ++ Bu.beB 4 session) (n:Int) u2 w8 hx hx.size (by simp [Bu.magic,Bu.beB_len]) hr)
      have K10:=Hi (fun v w8 (hx:Ext w6 w8) hr=>putM_8 w6 w6.heap.size (Nat.le_refl _) v ((Bu.magic ++ Bu.beB 4 session) ++ Bu.beB 4 (n:Int)) rv u3 w8 hx hx.size (by simp [Bu.magic,Bu.beB_len]) hr)
      have HWS:=Hi hws
      obtain ⟨i1,hi1,hy0,hy1,hy2⟩:=info_parts Tryz.infoU8
      have HB:Hid (Bu.buildB key nonce session (Rt.its xs)=(((Bu.magic ++ Bu.beB 4 session) ++ Bu.beB 4 (n:Int)) ++ Bu.beB 8 rv) ++ S):=Hi (by
       unfold Bu.buildB Bu.bundB Bu.headB
       rw [HE.out,if_pos rfl,HRV.out,HPS.out,HSQ.out,Rt.its_len,HN.out])
      have hSl:S.length≤1048592∧0<S.length:=by rw [← HSQ.out,Bu.seal_len];have:=HPL.out;omega
      obtain ⟨sl,hsl⟩:∃ q,S.length=q:=⟨_,rfl⟩
      rw [hsl] at hSl ⊢
      have HSL:=Hi hsl
      clear hss hW7 hws u1 u2 u3 X67 hsl
      go_wp2_with fail
      with_reducible refine K8.out.mono ?_
      rintro e w8 ⟨v8,rfl,hr8,hx8⟩
      rw [HWS.out] at hr8
      have HK9:=Hi (K9.out v8 w8 hx8 hr8)
      clear hr8 hx8 K8 K9
      go_wp2_with fail
      with_reducible refine HK9.out.mono ?_
      rintro e w9 ⟨v9,rfl,hr9,hx9⟩
      have HK10:=Hi (K10.out v9 w9 hx9 hr9)
      clear hr9 hx9 HK9 K10
      go_wp2_with fail
      with_reducible refine HK10.out.mono ?_
      rintro e w10 ⟨v10,rfl,hr10,hx10⟩
      have HR10:=Hi hr10
      have HX10:=Hi hx10
      have HSS10:=Hi (HSS.out w10 hx10)
      have HLE:Hid (((((Bu.magic ++ Bu.beB 4 session) ++ Bu.beB 4 (n:Int)) ++ Bu.beB 8 rv)).length=20):=Hi (by simp [Bu.magic,Bu.beB_len])
      clear hr10 hx10 HK10 HSS
      go_wp2_with (at_builtin;refine wpList_append_slM rfl _ _ 24 rfl w6.heap.size 5 rfl i1 (.int .u8 0) Tryz.underlying24 hi1 hy0 hy1 hy2 rfl v10 20 _ rfl HR10.out HLE.out As sl cs S HSL.out rfl HSS10.out hSl.2 (by unfold maxLen;omega) (by omega) HX10.out.size ?_;intro gg cap w11 hr11 hg11)
      have HCAP:=Hi (own_cap0 hr11)
      have HX11:=Hi (X6.out.trans (HX10.out.grown hg11 (fun q hq=>HR10.out.ge q hq)))
      obtain ⟨A11,c11,e11,hs11⟩:=RowU.sl hr11
      rw [List.length_append,HLE.out,HSL.out] at e11
      cases e11
      have HS11:=Hi hs11
      clear hr11 hg11 hs11
      go_ret2
      refine ⟨⟨_,cap,?_,by rw [HB.out];exact HS11.out,?_⟩,HX11.out⟩
      · rw [HB.out,HE.out,List.length_append,HLE.out,HSL.out]
        rfl
      · rw [HB.out,List.length_append,HLE.out,HSL.out];exact HCAP.out
 · rw [if_neg hv] at HK
   have hvb:(Rs.chkI (Rt.its xs) == 0)=false:=by rw [beq_eq_false_iff_ne];exact hv
   generalize Rs.chkI (Rt.its xs)=v at *
   clear h hg
   go_enter Tryz.func9,Tryz.ntmps9
   go_wp2_with fail
   with_reducible refine HK.out.mono ?_
   rintro e w1 ⟨rfl,hx1⟩
   go_wp2
   go_ret2
   exact ⟨BldP.bad HE.out hv _,hx1⟩
end Go.Proofs.YtnlenappjjlbjaaGreatDoor
