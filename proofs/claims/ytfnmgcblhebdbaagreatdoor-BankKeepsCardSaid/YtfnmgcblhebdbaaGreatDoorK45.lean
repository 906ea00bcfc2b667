/- BankKeeps: the walk. Conditions: those of each theorem. -/
import Derived.Test.YtfnmgcblhebdbaaGreatDoorK44
import Derived.Test.YtfnmgcblhebdbaaGreatDoorK12
import Derived.Test.YtfnmgcblhebdbaaGreatDoorK13
namespace Go.Proofs.YtfnmgcblhebdbaaGreatDoor
open Go.RowKit
namespace Bk
def kpvL (gx gy kk b1 o1 b2 o2 n c m d:Nat)(vx vy:Value):List (Option Value→World→Prop):=[fun u _=>u=some (.pointer (some ⟨gx,0,none⟩)),
 fun u _=>u=some (.slice (some ⟨b1,o1,none⟩) n c),
 fun u _=>u=some (.int .i64 (kk:Int)),
 fun u _=>u=some (.pointer (some ⟨b1,o1+kk*17,none⟩)),
 fun u _=>u=some (vx),
 fun u _=>u=some (.pointer (some ⟨gy,0,none⟩)),
 fun u _=>u=some (.slice (some ⟨b2,o2,none⟩) m d),
 fun u _=>u=some (.int .i64 (kk:Int)),
 fun u _=>u=some (.pointer (some ⟨b2,o2+kk*17,none⟩)),
 fun u _=>u=some (vy),
 fun u _=>u=some (.bool true),
 fun u _=>u=some (.bool false)]
theorem kpvL_mono(gx gy kk b1 o1 b2 o2 n c m d:Nat)(vx vy:Value):AllMono (kpvL gx gy kk b1 o1 b2 o2 n c m d vx vy):=⟨mono_val _,mono_val _,mono_val _,mono_val _,mono_val _,mono_val _,mono_val _,mono_val _,mono_val _,mono_val _,mono_val _,mono_val _,trivial⟩
def kpvR (gx gy kk b1 o1 b2 o2 n c m d:Nat)(vx vy:Value)(j:Nat)(u:Option Value)(w:World):Prop:=(kpvL gx gy kk b1 o1 b2 o2 n c m d vx vy).getD j (fun _ _=>True) u w
theorem kpvR_ext(gx gy kk b1 o1 b2 o2 n c m d:Nat)(vx vy:Value)(j:Nat)(u:Option Value)(w w':World)(he:Ext w w')(hR:kpvR gx gy kk b1 o1 b2 o2 n c m d vx vy j u w):kpvR gx gy kk b1 o1 b2 o2 n c m d vx vy j u w':=((kpvL_mono gx gy kk b1 o1 b2 o2 n c m d vx vy).at_ j) u w w' he hR
def kpvD:List Nat:=[106,107,108,109,110,111,112,113,114,115,116,117]
def kpvE (gx gy kk:Nat)(t:Array Value):Prop:=t.getD 12 undef=.pointer (some ⟨gx,0,none⟩)∧t.getD 14 undef=.pointer (some ⟨gy,0,none⟩)∧t.getD 16 undef=.int .i64 (kk:Int)∧t.size=123

set_option maxRecDepth 100000 in
set_option maxHeartbeats 51200000 in
theorem keeps_any(p q:IL)(A:Option Addr)(c n np nq:Nat)(l:List CmdL)(w:World)(hn:l.length=n)(hnp:p.xs.length=np)(hnq:q.xs.length=nq)(hp:p.In w)(hq:q.In w)(hp8:np*8≤140737488355328)(hq8:nq*8≤140737488355328)(hs:SlX eCmd w A l)(hc:n≤c)(hm:c≤maxLen)(hz:∀ x∈l,CmdSz x.cmd)(hG:Gm w)(hF:Fld w) :
    Calls Tryz.prog 3 #[.agg #[.slice p.A np p.c,.slice q.A nq q.c],.slice A n c] w fun e w'=>e=.returned (.bool true)∧Ext w w':=by
 obtain⟨er,her⟩:∃ v,Gv.gridE p.xs q.xs=v:=⟨_,rfl⟩
 have XA:Hid (Ext w (w.alloc (.cells #[.slice p.A np p.c,.slice q.A nq q.c] 24))):=Hi ((Ext.refl w).alloc _)
 have KN:=Hi (bNew_any p q hnp hnq her _ (hp.ext XA.out) (hq.ext XA.out) hp8 hq8)
 have HI0:Hid (Inv 0 (nBank p.xs q.xs)):=Hi (Inv.new (by rw[hnp];exact hp8) (by rw[hnq];exact hq8))
 obtain⟨m,hmn⟩:∃ m,min n 40=m:=⟨_,rfl⟩
 have hm63:c≤9223372036854775807:=by unfold maxLen at hm;omega
 have KC:=Hi (fun W=>cut_any A c n hmn W hc hm63)
 have hmn63:m≤9223372036854775807:=by omega
 have hm40:m≤40:=by omega
 have HS:Hid (SlX eCmd w A l):=Hi hs
 have HNL:Hid (m≤l.length):=Hi (by omega)
 have HZ:=Hi hz
 have HGM:=Hi hG
 have HFD:=Hi hF
 clear hn hnp hnq hp hq hp8 hq8 hs hc hm hz hG hF her hmn
 go_enter Tryz.func3,Tryz.ntmps3
 go_wp2_with fail
 with_reducible refine KN.out.mono ?_
 rintro e w1 ⟨⟨b0,rfl,hb0,hin0,-,-⟩,hb1⟩
 have HX1:=Hi (XA.out.trans hb1)
 obtain⟨CB0,hcb,hnb,h1b,hkb⟩:=b0.packed
 rw[hcb]
 have IB:=Hi (infoBk hnb)
 have NB:=Hi hnb
 have OB:=Hi h1b
 have XB:Hid (Ext w1 (w1.alloc (.cells CB0 31))):=Hi ((Ext.refl w1).alloc _)
 have HB0:=Hi hb0
 have HIN0:=Hi hin0
 have HG0:Hid ((w1.alloc (.cells CB0 31)).heap[w1.heap.size]?=some (.cells b0.cells.toArray 31 (0,0))):=Hi (by rw[hkb];exact heap_alloc_new w1 _)
 clear hb0 hin0 hb1 hcb hnb h1b hkb
 by_cases h0:er=0
 case neg =>
  go_wp2_with (with_reducible refine wpList_store_newN rfl 31 (.tmp 5) (.tmp 20) rfl (w1.heap.size) (by with_reducible rfl) _ CB0 31 (by with_unfolding_all rfl) (by with_unfolding_all rfl) IB.out (by with_unfolding_all exact NB.out.symm) OB.out ?_)
  with_reducible refine(awake_any _ (HGM.out.ext (HX1.out.trans XB.out)) (HFD.out.ext (HX1.out.trans XB.out))).mono ?_
  rintro e w2 ⟨rfl,hb2⟩
  go_wp2
  go_ret
  exact⟨rfl,(HX1.out.trans XB.out).trans hb2⟩
 subst h0
 have HBN:Hid (b0.bank=nBank p.xs q.xs):=Hi (by have h:=HB0.out;rw[if_pos rfl]at h;exact h)
 go_wp2_with (with_reducible refine wpList_store_newN rfl 31 (.tmp 5) (.tmp 20) rfl (w1.heap.size) (by with_reducible rfl) _ CB0 31 (by with_unfolding_all rfl) (by with_unfolding_all rfl) IB.out (by with_unfolding_all exact NB.out.symm) OB.out ?_)
 with_reducible refine(KC.out _).mono ?_
 rintro e w2 ⟨rfl,rfl⟩
 go_wp2
 go_loopw [28] (fun i wr=>∃ (k:Nat) (b:BankL),k≤m∧i=.int .i64 k∧Hid (wr.heap[w1.heap.size]?=some (.cells b.cells.toArray 31 (0,0)))∧Hid (b.In wr)∧Hid (Inv k b.bank)∧Hid (Uq b.bank.ents)∧Hid (Ext w1 wr)) (fun i _=>m-(intOf i).toNat)
 case atStart=>exact⟨0,b0,by omega,rfl,HG0,Hi (HIN0.out.ext XB.out),Hi (by rw[HBN.out];exact HI0.out),Hi (by rw[HBN.out];exact Uq.new _ _),XB⟩
 case round =>
 obtain⟨k,b,hk,rfl,HGB,HIN,HINV,HUQ,HE⟩:=hrel
 obtain⟨wk,hwk⟩:∃ W,W=wr:=⟨_,rfl⟩
 subst hwk
 clear HG0 HIN0 HBN
 by_cases hlt:k<m
 case neg =>
  obtain rfl:k=m:=by omega
  go_wp2_with fail
  with_reducible refine(awake_any _ (HGM.out.ext (HX1.out.trans HE.out)) (HFD.out.ext (HX1.out.trans HE.out))).mono ?_
  rintro e w2 ⟨rfl,hb2⟩
  go_wp2
  go_ret
  exact⟨rfl,(HX1.out.trans HE.out).trans hb2⟩
 obtain⟨x,hx⟩:∃ x,l[k]?=some x:=⟨_,List.getElem?_eq_getElem (by have:=HNL.out;omega)⟩
 obtain⟨bb,off,rfl,hbl,hrg,hxin⟩:=(HS.out.ext (HX1.out.trans HE.out)).at_ hx
 obtain⟨CC,hcc,hnc,h1c⟩:=x.packed
 have HRG:Hid (wk.rangeAt bb (off+k*32) CC.toList):=Hi (by rw[← hcc];exact hrg)
 have IC:=Hi (infoCm hnc)
 have NC:=Hi hnc
 have OC:=Hi h1c
 have ki0:(0:Int)≤(k:Int):=by omega
 have ki1:(k:Int)<(m:Int):=by omega
 obtain⟨CB,hcb,hnb,h1b,hkb⟩:=b.packed
 have IB2:=Hi (infoBk hnb)
 have XC:Hid (Ext wk (wk.alloc (.cells CC 48))):=Hi ((Ext.refl wk).alloc _)
 have HGB2:Hid ((wk.alloc (.cells CC 48)).heap[w1.heap.size]?=some (.cells CB 31 (0,0))):=Hi (XC.out.blockAt (by rw[← hkb];exact HGB.out))
 have HGC:Hid ((wk.alloc (.cells CC 48)).heap[wk.heap.size]?=some (.cells CC 48 (0,0))):=Hi (heap_alloc_new wk _)
 have HXW:=Hi (HX1.out.trans (HE.out.trans XC.out))
 obtain⟨er2,bo,hr⟩:∃ (e2:Int) (bo:Bank),aplE b.bank x.cmd=(e2,bo):=⟨_,_,rfl⟩
 have KA:=Hi (apply_any k b x CC (wk.alloc (.cells CC 48)) hcc (HIN.out.ext XC.out) HINV.out (by omega) (hxin.ext XC.out) (HZ.out x (List.mem_of_getElem? hx)) (HGM.out.ext HXW.out) (HFD.out.ext HXW.out) hr)
 rw[hcb]at KA
 have HR:=Hi hr
 have HCZ:=Hi (HZ.out x (List.mem_of_getElem? hx))
 have HB7:Hid (CB.size=7):=Hi hnb
 have HKB:=Hi hkb
 clear hx hbl hrg hxin hcc hnc h1c hcb hnb h1b hkb hr
 by_cases h2:er2=0
 case neg =>
  go_wp2_with (first
      | (with_reducible refine wpList_load_arr rfl 48 (.tmp 30) rfl (bb) (off+k*32) (by with_unfolding_all rfl) CC _ HRG.out Tryz.underlying48 rfl IC.out ?_)
      | (with_reducible refine wpList_store_newN rfl 48 (.tmp 8) (.tmp 31) rfl (wk.heap.size) (by with_reducible rfl) _ CC 48 (by with_unfolding_all rfl) (by with_unfolding_all rfl) IC.out (by with_unfolding_all exact NC.out.symm) OC.out ?_)
      | (with_reducible refine wpList_load_row rfl 31 (.tmp 5) rfl (w1.heap.size) (by with_unfolding_all rfl) _ CB _ _ HGB2.out Tryz.underlying31 rfl IB2.out ?_)
      | (with_reducible refine wpList_load_row rfl 48 (.tmp 8) rfl (wk.heap.size) (by with_unfolding_all rfl) _ CC _ _ HGC.out Tryz.underlying48 rfl IC.out ?_))
  with_reducible refine KA.out.mono ?_
  rintro e w3 ⟨⟨b2,rfl,hb2,hin2,-⟩,hb3⟩
  obtain⟨CN,hcn,hnn,h1n,hkn⟩:=b2.packed
  rw[hcn]
  have IN_:=Hi (infoBk hnn)
  have NN:=Hi hnn
  have ON:=Hi h1n
  have XN:Hid (Ext w3 (w3.alloc (.cells CN 31))):=Hi ((Ext.refl w3).alloc _)
  have HGN:Hid ((w3.alloc (.cells CN 31)).heap[w3.heap.size]?=some (.cells CN 31 (0,0))):=Hi (heap_alloc_new w3 _)
  have HZB:Hid (b2.bank=BankL.zero.bank):=Hi (by rw[hb2,zero_bank];exact(congrArg Prod.snd HR.out).symm.trans (aplE_bad (by rw[HR.out];exact h2)))
  have KS:=Hi (rSameZ_any b2 HZB.out (w3.alloc (.cells CN 31)))
  rw[hcn,zero_agg]at KS
  have HX3:=Hi (hb3.trans XN.out)
  clear hb2 hin2 hb3 hcn hnn h1n hkn
  go_wp2_with (first
      | (with_reducible refine wpList_store_newN rfl 31 (.tmp 9) (.tmp 36) rfl (w3.heap.size) (by with_reducible rfl) _ CN 31 (by with_unfolding_all rfl) (by with_unfolding_all rfl) IN_.out (by with_unfolding_all exact NN.out.symm) ON.out ?_)
      | (with_reducible refine wpList_load_row rfl 31 (.tmp 9) rfl (w3.heap.size) (by with_unfolding_all rfl) _ CN _ _ HGN.out Tryz.underlying31 rfl IN_.out ?_))
  with_reducible refine KS.out.mono ?_
  rintro e w4 ⟨rfl,hb4⟩
  have HXR:=Hi ((XC.out.trans HX3.out).trans hb4)
  clear hb4
  go_wp2
  go_roundw
  case rel=>exact⟨k+1,b,by omega,by go_num,Hi (HXR.out.blockAt HGB.out),Hi (HIN.out.ext HXR.out),Hi HINV.out.up,HUQ,Hi (HE.out.trans HXR.out)⟩
  case measure=>simp[intOf];omega
 subst h2
 have HK0:Hid (Kept b.bank bo∧b.bank.now≤bo.now):=Hi (by
  have h:=aplE_kept (c:=x.cmd) HUQ.out (by rw[HR.out])
  rw[HR.out]at h
  exact h)
 have HI2:Hid (Inv (k+1) bo):=Hi (by
  have h:=aplE_inv HINV.out HCZ.out (by rw[HR.out])
  rw[HR.out]at h
  exact h)
 go_wp2_with (first
       | (with_reducible refine wpList_load_arr rfl 48 (.tmp 30) rfl (bb) (off+k*32) (by with_unfolding_all rfl) CC _ HRG.out Tryz.underlying48 rfl IC.out ?_)
       | (with_reducible refine wpList_store_newN rfl 48 (.tmp 8) (.tmp 31) rfl (wk.heap.size) (by with_reducible rfl) _ CC 48 (by with_unfolding_all rfl) (by with_unfolding_all rfl) IC.out (by with_unfolding_all exact NC.out.symm) OC.out ?_)
       | (with_reducible refine wpList_load_row rfl 31 (.tmp 5) rfl (w1.heap.size) (by with_unfolding_all rfl) _ CB _ _ HGB2.out Tryz.underlying31 rfl IB2.out ?_)
       | (with_reducible refine wpList_load_row rfl 48 (.tmp 8) rfl (wk.heap.size) (by with_unfolding_all rfl) _ CC _ _ HGC.out Tryz.underlying48 rfl IC.out ?_))
 with_reducible refine KA.out.mono ?_
 rintro e w3 ⟨⟨b2,rfl,hb2,hin2,hfr2⟩,hb3⟩
 obtain⟨CN,hcn,hnn,h1n,hkn⟩:=b2.packed
 rw[hcn]
 have IN_:=Hi (infoBk hnn)
 have NN:=Hi hnn
 have ON:=Hi h1n
 have HN7:Hid (CB.size=CN.size):=Hi (by rw[HB7.out,hnn])
 have XN:Hid (Ext w3 (w3.alloc (.cells CN 31))):=Hi ((Ext.refl w3).alloc _)
 have HGN:Hid ((w3.alloc (.cells CN 31)).heap[w3.heap.size]?=some (.cells CN 31 (0,0))):=Hi (heap_alloc_new w3 _)
 have HX3:=Hi (hb3.trans XN.out)
 have HGB3:Hid ((w3.alloc (.cells CN 31)).heap[w1.heap.size]?=some (.cells CB 31 (0,0))):=Hi (HX3.out.blockAt HGB2.out)
 have HX3R:=Hi (XC.out.trans HX3.out)
 have HB2:Hid (b2.bank=bo):=Hi hb2
 have HIN2:Hid (b2.In (w3.alloc (.cells CN 31))):=Hi (hin2.ext XN.out)
 have HFR2:Hid (b2.From (wk.heap.size+1)):=Hi (by have h:=hfr2;simpa using h)
 have HKN:=Hi hkn
 have KE:=Hi (fun(id:Int) (W:World) (hx:Ext (w3.alloc (.cells CN 31)) W)=>bEntry_any b2 id W (HIN2.out.ext hx) (by rw[HB2.out];exact HI2.out.sz (by omega)))
 rw[hcn]at KE
 obtain⟨no,hno⟩:∃ n,b.outl.length=n:=⟨_,rfl⟩
 obtain⟨na,hna⟩:∃ n,b.assets.length=n:=⟨_,rfl⟩
 obtain⟨no2,hno2⟩:∃ n,b2.outl.length=n:=⟨_,rfl⟩
 obtain⟨na2,hna2⟩:∃ n,b2.assets.length=n:=⟨_,rfl⟩
 obtain⟨ne,hne⟩:∃ n,b.ents.length=n:=⟨_,rfl⟩
 obtain⟨EA,hEA⟩:∃ A,b.eA=A:=⟨_,rfl⟩
 have d0:(w3.alloc (.cells CN 31)).cell? ⟨w3.heap.size,0,none⟩=some (.int .i64 b2.now):=(cell_of_row _ _ 0 _ _ _ HGN.out).trans (by rw[← hkn];rfl)
 have d3:(w3.alloc (.cells CN 31)).cell? ⟨w3.heap.size,3,none⟩=some (.slice b2.oA no2 b2.oc):=(cell_of_row _ _ 3 _ _ _ HGN.out).trans (by rw[← hkn,← hno2];rfl)
 have d4:(w3.alloc (.cells CN 31)).cell? ⟨w3.heap.size,4,none⟩=some (.slice b2.aA na2 b2.ac):=(cell_of_row _ _ 4 _ _ _ HGN.out).trans (by rw[← hkn,← hna2];rfl)
 have c0:(w3.alloc (.cells CN 31)).cell? ⟨w1.heap.size,0,none⟩=some (.int .i64 b.now):=(cell_of_row _ _ 0 _ _ _ HGB3.out).trans (by rw[← HKB.out];rfl)
 have c3:(w3.alloc (.cells CN 31)).cell? ⟨w1.heap.size,3,none⟩=some (.slice b.oA no b.oc):=(cell_of_row _ _ 3 _ _ _ HGB3.out).trans (by rw[← HKB.out,← hno];rfl)
 have c4:(w3.alloc (.cells CN 31)).cell? ⟨w1.heap.size,4,none⟩=some (.slice b.aA na b.ac):=(cell_of_row _ _ 4 _ _ _ HGB3.out).trans (by rw[← HKB.out,← hna];rfl)
 have c5:(w3.alloc (.cells CN 31)).cell? ⟨w1.heap.size,5,none⟩=some (.slice EA ne b.ec):=(cell_of_row _ _ 5 _ _ _ HGB3.out).trans (by rw[← HKB.out,← hne,← hEA];rfl)
 have g0:¬ b2.now<b.now:=by
  have h:b2.bank.now=b2.now:=rfl
  have h':b.bank.now=b.now:=rfl
  have:=HK0.out.2
  rw[← HB2.out,h,h']at this
  omega
 have g1:¬ (no2:Int)<(no:Int):=by
  have h:=HK0.out.1.outl
  rw[← HB2.out]at h
  have h':b.outl.length≤b2.outl.length:=h
  omega
 have g2:¬ (na2:Int)<(na:Int):=by
  have h:=HK0.out.1.assets
  rw[← HB2.out]at h
  have h':b.assets.length≤b2.assets.length:=h
  omega
 have g1n:¬ no2<no:=by omega
 have g2n:¬ na2<na:=by omega
 have d0f:decide (b2.now<b.now)=false:=decide_eq_false g0
 have d1f:decide (no2<no)=false:=decide_eq_false g1n
 have d2f:decide (na2<na)=false:=decide_eq_false g2n
 have hne63:ne≤9223372036854775807:=by have:=HIN.out.ec;unfold maxLen at this;omega
 have HNE:=Hi hne
 have HSE:Hid (SlX eEnt wk EA b.ents):=Hi (by rw[← hEA];exact HIN.out.ents)
 have EN:=Hi (enters_of Tryz.func14 (by kernel_rfl) rfl)
 clear hb2 hin2 hfr2 hb3 hcn hnn h1n hkn hno hna hno2 hna2 hne hEA
 go_wp2_with (with_reducible refine wpList_store_newN rfl 31 (.tmp 9) (.tmp 36) rfl (w3.heap.size) (by with_reducible rfl) _ CN 31 (by with_unfolding_all rfl) (by with_unfolding_all rfl) IN_.out (by with_unfolding_all exact NN.out.symm) ON.out ?_)
 clear d0 d3 d4 c0 c3 c4 c5 g0 g1 g2 g1n g2n d0f d1f d2f
 go_loopw [70] (fun i wr2=>∃ j:Nat,j≤ne∧i=.int .i64 j∧Hid (Ext (w3.alloc (.cells CN 31)) wr2)) (fun i _=>ne-(intOf i).toNat)
 case atStart=>exact⟨0,by omega,rfl,Hi (Ext.refl _)⟩
 case round =>
  obtain⟨j,hj,rfl,HE2⟩:=hrel
  obtain⟨w4,hw4⟩:∃ W,W=wr:=⟨_,rfl⟩
  subst hw4
  by_cases hjt:j<ne
  case neg =>
   obtain rfl:j=ne:=by omega
   have HGN4:=Hi (HE2.out.blockAt HGN.out)
   have HGB4:=Hi (HE2.out.blockAt HGB3.out)
   go_wp2_with (first
    | (with_reducible refine wpList_load_row rfl 31 (.tmp 9) rfl (w3.heap.size) (by with_unfolding_all rfl) _ CN _ _ HGN4.out Tryz.underlying31 rfl IN_.out ?_)
    | (with_reducible refine wpList_store_row rfl 31 (.tmp 5) (.tmp 120) rfl (w1.heap.size) CN (by with_unfolding_all rfl) (by with_unfolding_all rfl) _ _ HGB4.out IN_.out HN7.out ON.out ?_))
   go_roundw
   case rel =>
    refine⟨k+1,b2,by omega,by go_num,Hi (by rw[HKN.out];exact setRow_heap _ _ _ _ _ _ HGB4.out),Hi ?_,Hi (by rw[HB2.out];exact HI2.out),Hi (by rw[HB2.out];exact HK0.out.1.uq),Hi ?_⟩
    · exact(HIN2.out.ext HE2.out).but (HFR2.out.off (by have:=HE.out.size;omega)) (But.setRow _ _ _)
    · exact(HE.out.trans (HX3R.out.trans HE2.out)).rowSet (Nat.le_refl _) _
   case measure=>simp[intOf];omega
  obtain⟨e,hx⟩:∃ e,b.ents[j]?=some e:=⟨_,List.getElem?_eq_getElem (by rw[HNE.out];exact hjt)⟩
  obtain⟨b1,o1,rfl,hbl,hrg,hein⟩:=(HSE.out.ext (HX3R.out.trans HE2.out)).at_ hx
  obtain⟨CE,hce,hne1,h1e,hke⟩:=e.packed
  have HRE:Hid (w4.rangeAt b1 (o1+j*7) CE.toList):=Hi (by rw[← hke];exact hrg)
  have IE:=Hi (infoEn hne1)
  have NE:=Hi hne1
  have OE:=Hi h1e
  have ji0:(0:Int)≤(j:Int):=by omega
  have ji1:(j:Int)<(ne:Int):=by omega
  have hv0:0<e.vs.length:=(inv_ver HINV.out e (List.mem_of_getElem? hx)).1
  have HEM:Hid (e∈b.ents):=Hi (List.mem_of_getElem? hx)
  obtain⟨nv,hnv⟩:∃ n,e.vs.length=n:=⟨_,rfl⟩
  obtain⟨VA,hVA⟩:∃ A,e.vA=A:=⟨_,rfl⟩
  obtain⟨vc,hvc⟩:∃ A,e.vc=A:=⟨_,rfl⟩
  have hnv63:nv≤9223372036854775807:=by have:=hein.vc;unfold maxLen at this;omega
  obtain⟨y,hy⟩:∃ y,e.vs[nv-1]?=some y:=⟨_,List.getElem?_eq_getElem (by omega)⟩
  have HVX:Hid (SlX eIt w4 VA e.vs):=Hi (by rw[← hVA];exact hein.vs)
  obtain⟨b3,o3,hA3,hbl3,hrg3,hyin⟩:=HVX.out.at_ hy
  subst hA3
  obtain⟨CI,hci,hni,h1i,hki⟩:=It.packed y.1 y.2
  have XE4:Hid (Ext w4 (w4.alloc (.cells CE 56))):=Hi ((Ext.refl w4).alloc _)
  have HRI:Hid ((w4.alloc (.cells CE 56)).rangeAt b3 (o3+(nv-1)*17) CI.toList):=Hi (XE4.out.range (by rw[← hki];exact hrg3))
  have II:=Hi (infoItem hni)
  have NI:=Hi hni
  have OI:=Hi h1i
  have e0:(w4.alloc (.cells CE 56)).cell? ⟨w4.heap.size,0,none⟩=some (.slice (some ⟨b3,o3,none⟩) nv vc):=(World.cell?_alloc_new _ _ _ _).trans (by rw[← hke,← hnv,← hVA,← hvc];rfl)
  have hn1:((nv:Int)-1)=((nv-1:Nat):Int):=by omega
  have hn2:nv-1<nv:=by omega
  have XI4:Hid (Ext w4 ((w4.alloc (.cells CE 56)).alloc (.cells CI 39))):=Hi (((Ext.refl w4).alloc _).alloc _)
  have i0:((w4.alloc (.cells CE 56)).alloc (.cells CI 39)).cell? ⟨w4.heap.size+1,0,none⟩=some (.int .i64 y.1.id):=(cell_of_row _ _ 0 _ _ _ (heap_two_snd w4 _ _)).trans (by rw[← hki];rfl)
  have HGN5:Hid (((w4.alloc (.cells CE 56)).alloc (.cells CI 39)).heap[w3.heap.size]?=some (.cells CN 31 (0,0))):=Hi (XI4.out.blockAt (HE2.out.blockAt HGN.out))
  have HGE5:Hid (((w4.alloc (.cells CE 56)).alloc (.cells CI 39)).heap[w4.heap.size]?=some (.cells CE 56 (0,0))):=Hi (heap_two_fst w4 _ _)
  have KE5:=Hi (KE.out y.1.id _ (HE2.out.trans XI4.out))
  obtain⟨ye,hye,hpre⟩:∃ ye,entF b2.bank y.1.id=some ye∧e.ent.vers <+: ye.vers:=by
   rw[HB2.out]
   refine HK0.out.1.found (x:=e.ent) (List.mem_map.2 ⟨e,HEM.out,rfl⟩) (l:=y.1) ?_
   show(e.vs.map (·.1))[(e.vs.map (·.1)).length-1]?=some y.1
   rw[List.length_map,hnv,List.getElem?_map,hy]
   rfl
  rw[hye]at KE5
  have HPR:=Hi hpre
  have HNV:=Hi hnv
  have HVS:Hid (SlX eIt w4 (some ⟨b3,o3,none⟩) e.vs):=HVX
  clear hx hbl hrg hein hce hne1 h1e hv0 hnv hVA hvc hy hbl3 hrg3 hyin hci hni h1i hye hpre HVX
  go_wp2_with (first
      | (with_reducible refine wpList_load_arr rfl 56 (.tmp 72) rfl (b1) (o1+j*7) (by with_unfolding_all rfl) CE _ HRE.out Tryz.underlying56 rfl IE.out ?_)
      | (with_reducible refine wpList_store_newN rfl 56 (.tmp 12) (.tmp 73) rfl (w4.heap.size) (by with_reducible rfl) _ CE 56 (by with_unfolding_all rfl) (by with_unfolding_all rfl) IE.out (by with_unfolding_all exact NE.out.symm) OE.out ?_)
      | (with_reducible refine wpList_load_arr rfl 39 (.tmp 80) rfl (b3) (o3+(nv-1)*17) (by with_unfolding_all rfl) CI _ HRI.out Tryz.underlying39 rfl II.out ?_)
      | (with_reducible refine wpList_store_newN rfl 39 (.tmp 13) (.tmp 81) rfl (w4.heap.size+1) (by simp) _ CI 39 (by with_unfolding_all rfl) (by with_unfolding_all rfl) II.out (by with_unfolding_all exact NI.out.symm) OI.out ?_)
      | (with_reducible refine wpList_load_row rfl 31 (.tmp 9) rfl (w3.heap.size) (by with_unfolding_all rfl) _ CN _ _ HGN5.out Tryz.underlying31 rfl IN_.out ?_))
  with_reducible refine KE5.out.mono ?_
  rintro r w5 ⟨⟨e2,rfl,he2,hin5⟩,hb5⟩
  obtain⟨CY,hcy,hny1,h1y,hky⟩:=e2.packed
  rw[hcy]
  have IY_:=Hi (infoEn hny1)
  have NY:=Hi hny1
  have OY:=Hi h1y
  obtain⟨ny,hny⟩:∃ n,e2.vs.length=n:=⟨_,rfl⟩
  obtain⟨YA,hYA⟩:∃ A,e2.vA=A:=⟨_,rfl⟩
  obtain⟨yc,hyc⟩:∃ A,e2.vc=A:=⟨_,rfl⟩
  have XY:Hid (Ext w5 (w5.alloc (.cells CY 56))):=Hi ((Ext.refl w5).alloc _)
  have hpl:∀ (i:Nat) (z:ItL),e.vs[i]?=some z→∃ z2:ItL,e2.vs[i]?=some z2∧z2.1=z.1:=fun i z hz=>by
   have h1:e.ent.vers[i]?=some z.1:=by
    show(e.vs.map (·.1))[i]?=some z.1
    rw[List.getElem?_map,hz];rfl
   have h2:=prefix_at HPR.out h1
   have he3:e2.ent=ye:=he2
   rw[← he3]at h2
   have h3:(e2.vs.map (·.1))[i]?=some z.1:=h2
   rw[List.getElem?_map]at h3
   obtain⟨z2,hz2,h4⟩:=Option.map_eq_some_iff.1 h3
   exact⟨z2,hz2,h4⟩
  have hle:nv≤ny:=by
   have h1:=HPR.out.length_le
   have h2:e.ent.vers.length=e.vs.length:=List.length_map _
   have h3:ye.vers.length=e2.vs.length:=by
    have:e2.ent.vers=ye.vers:=congrArg Ent.vers he2
    rw[← this];exact List.length_map _
   have:=HNV.out
   omega
  have HPL:=Hi hpl
  have y0:(w5.alloc (.cells CY 56)).cell? ⟨w5.heap.size,0,none⟩=some (.slice YA ny yc):=(World.cell?_alloc_new _ _ _ _).trans (by rw[← hky,← hny,← hYA,← hyc];rfl)
  have HGE6:Hid ((w5.alloc (.cells CY 56)).heap[w4.heap.size]?=some (.cells CE 56 (0,0))):=Hi ((hb5.trans XY.out).blockAt HGE5.out)
  have x0:(w5.alloc (.cells CY 56)).cell? ⟨w4.heap.size,0,none⟩=some (.slice (some ⟨b3,o3,none⟩) nv vc):=(cell_of_row _ _ 0 _ _ _ HGE6.out).trans ((cell_of_row _ _ 0 _ _ _ (heap_alloc_new w4 _)).symm.trans e0)
  have g3:¬ (ny:Int)<(nv:Int):=by omega
  have g3n:¬ ny<nv:=by omega
  have d3f:decide (ny<nv)=false:=decide_eq_false g3n
  have HVY:Hid (SlX eIt (w5.alloc (.cells CY 56)) YA e2.vs):=Hi (by rw[← hYA];exact hin5.vs.ext XY.out)
  have HVX6:Hid (SlX eIt (w5.alloc (.cells CY 56)) (some ⟨b3,o3,none⟩) e.vs):=Hi (HVS.out.ext (XI4.out.trans (hb5.trans XY.out)))
  have HX6:=Hi (XI4.out.trans (hb5.trans XY.out))
  have HNY:=Hi hny
  clear he2 hin5 hb5 hcy hny1 h1y hky hny hYA hyc hpl e0 i0 hn1 hn2
  go_wp2_with (with_reducible refine wpList_store_newN rfl 56 (.tmp 14) (.tmp 87) rfl (w5.heap.size) (by with_reducible rfl) _ CY 56 (by with_unfolding_all rfl) (by with_unfolding_all rfl) IY_.out (by with_unfolding_all exact NY.out.symm) OY.out ?_)
  go_loopw [103] (fun i wr3=>∃ k2:Nat,k2≤nv∧i=.int .i64 k2∧Hid (Ext (w5.alloc (.cells CY 56)) wr3)) (fun i _=>nv-(intOf i).toNat)
  case atStart=>exact⟨0,by omega,rfl,Hi (Ext.refl _)⟩
  case round =>
   obtain⟨k2,hk2,rfl,HE3⟩:=hrel
   obtain⟨w7,hw7⟩:∃ W,W=wr:=⟨_,rfl⟩
   subst hw7
   by_cases hkt:k2<nv
   case neg =>
    obtain rfl:k2=nv:=by omega
    go_wp2
    go_roundw
    case rel=>exact⟨j+1,by omega,by go_num,Hi (HE2.out.trans (HX6.out.trans HE3.out))⟩
    case measure=>simp[intOf];omega
   obtain⟨z1,hz1⟩:∃ z,e.vs[k2]?=some z:=⟨_,List.getElem?_eq_getElem (by rw[HNV.out];exact hkt)⟩
   obtain⟨z2,hz2,hzz⟩:=HPL.out k2 z1 hz1
   obtain⟨b4,o4,hA4,-,hrg4,hin4⟩:=(HVX6.out.ext HE3.out).at_ hz1
   injection hA4 with hA4
   injection hA4 with hA4 hA5 _
   subst hA4 hA5
   obtain⟨b6,o6,hA6,-,hrg6,hin6⟩:=(HVY.out.ext HE3.out).at_ hz2
   obtain⟨CX,hcx,hnx,-,hkx⟩:=It.packed z1.1 z1.2
   obtain⟨CZ,hcz,hnz,-,hkz⟩:=It.packed z2.1 z2.2
   have RA:Hid (w7.rangeAt b3 (o3+k2*17) CX.toList):=Hi (by rw[← hkx];exact hrg4)
   have RB:Hid (w7.rangeAt b6 (o6+k2*17) CZ.toList):=Hi (by rw[← hkz];exact hrg6)
   have IX:=Hi (infoItem hnx)
   have IY:=Hi (infoItem hnz)
   have KA2:Hid (w7.cell? ⟨w4.heap.size,0,none⟩=some (.slice (some ⟨b3,o3,none⟩) nv vc)):=Hi (HE3.out.keep x0)
   have KB2:Hid (w7.cell? ⟨w5.heap.size,0,none⟩=some (.slice (some ⟨b6,o6,none⟩) ny yc)):=Hi (by rw[← hA6];exact HE3.out.keep y0)
   have KI:Hid ((k2:Int)<(nv:Int)∧(0:Int)≤(k2:Int)∧k2<nv):=Hi ⟨by omega,by omega,hkt⟩
   have KJ:Hid ((k2:Int)<(ny:Int)∧(0:Int)≤(k2:Int)∧k2<ny):=Hi ⟨by omega,by omega,by omega⟩
   have KS:=Hi (fun(W:World) (hx:Ext w7 W)=>rsameItem_any z1 z2 (v:=true) ⟨fun _=>hzz.symm,fun _=>rfl⟩ W (hin4.ext hx) (hin6.ext hx))
   rw[hcx,hcz]at KS
   clear hz1 hz2 hzz hrg4 hin4 hrg6 hin6 hcx hnx hkx hcz hnz hkz hA6
   go_wp2_with fail
   refine region_tb (by kernel_rfl) (by decide +kernel) (kpvE w4.heap.size w5.heap.size k2) ⟨rfl,rfl,rfl,rfl⟩ 12 kpvD (fun _=>none) (kpvR w4.heap.size w5.heap.size k2 b3 o3 b6 o6 nv vc ny yc (.agg CX) (.agg CZ)) w7 (Ext.refl _) (fun i h1 h2=>absurd h2 (Nat.not_lt.2 h1)) ?_ ?_
   · intro Tv dd lv U wz i oZ hE ho hlv hd hT
     obtain⟨t12,t14,t16,tz⟩:=hE
     have hx:=hT.ext
     have rX:=kpvR_ext w4.heap.size w5.heap.size k2 b3 o3 b6 o6 nv vc ny yc (.agg CX) (.agg CZ)
     match i,ho,hlv,hd with
     | 0,ho,hlv,hd =>
      obtain rfl:=oi ho
      exact yl1 hT rX ho hd (.pointer (some ⟨w4.heap.size,0,none⟩)) (od dd hT tz t12)
     | 1,ho,hlv,hd =>
      obtain rfl:=oi ho
      exact yk1 hT rX ho hd (.slice (some ⟨b3,o3,none⟩) nv vc) (nw dd hT hd tz 0 106 (.pointer (some ⟨w4.heap.size,0,none⟩))) (hx.keep KA2.out)
     | 2,ho,hlv,hd =>
      obtain rfl:=oi ho
      exact yl1 hT rX ho hd (.int .i64 (k2:Int)) (od dd hT tz t16)
     | 3,ho,hlv,hd =>
      obtain rfl:=oi ho
      exact yk2 hT rX ho hd (.pointer (some ⟨b3,o3+k2*17,none⟩)) (nw dd hT hd tz 1 107 (.slice (some ⟨b3,o3,none⟩) nv vc)) (nw dd hT hd tz 2 108 (.int .i64 (k2:Int))) KI.out
     | 4,ho,hlv,hd =>
      obtain rfl:=oi ho
      have v0:=nw dd hT hd tz 3 109 (.pointer (some ⟨b3,o3+k2*17,none⟩))
      exact yxe hT rX ho hd (.agg CX) (exec_load_arr _ _ rfl b3 (o3+k2*17) v0 CX _ (hx.range RA.out) Tryz.underlying39 rfl IX.out)
     | 5,ho,hlv,hd =>
      obtain rfl:=oi ho
      exact yl1 hT rX ho hd (.pointer (some ⟨w5.heap.size,0,none⟩)) (od dd hT tz t14)
     | 6,ho,hlv,hd =>
      obtain rfl:=oi ho
      exact yk1 hT rX ho hd (.slice (some ⟨b6,o6,none⟩) ny yc) (nw dd hT hd tz 5 111 (.pointer (some ⟨w5.heap.size,0,none⟩))) (hx.keep KB2.out)
     | 7,ho,hlv,hd =>
      obtain rfl:=oi ho
      exact yl1 hT rX ho hd (.int .i64 (k2:Int)) (od dd hT tz t16)
     | 8,ho,hlv,hd =>
      obtain rfl:=oi ho
      exact yk2 hT rX ho hd (.pointer (some ⟨b6,o6+k2*17,none⟩)) (nw dd hT hd tz 6 112 (.slice (some ⟨b6,o6,none⟩) ny yc)) (nw dd hT hd tz 7 113 (.int .i64 (k2:Int))) KJ.out
     | 9,ho,hlv,hd =>
      obtain rfl:=oi ho
      have v0:=nw dd hT hd tz 8 114 (.pointer (some ⟨b6,o6+k2*17,none⟩))
      exact yxe hT rX ho hd (.agg CZ) (exec_load_arr _ _ rfl b6 (o6+k2*17) v0 CZ _ (hx.range RB.out) Tryz.underlying39 rfl IY.out)
     | 10,ho,hlv,hd =>
      obtain rfl:=oi ho
      have v0:=nw dd hT hd tz 4 110 (.agg CX)
      have v1:=nw dd hT hd tz 9 115 (.agg CZ)
      refine cl hT rX ho hd (f:=14) (args:=#[.agg CX,.agg CZ]) (exec_call2 rfl rfl v0 v1 EN.out) ?_
      refine(KS.out wz hx).mono ?_
      rintro e w' ⟨rfl,hb⟩
      exact⟨_,rfl,hb,rfl⟩
     | 11,ho,hlv,hd =>
      obtain rfl:=oi ho
      exact yl1 hT rX ho hd (.bool false) (nw dd hT hd tz 10 116 (.bool true))
     | i+12,ho,_,_=>exact absurd ho (by simp)
   intro U wz hex hout hfin
   have f117:U 117=some (.bool false):=hfin 11 (by decide) rfl
   have XE:=Hi hex
   clear hex hfin
   rw[over_list]
   simp(disch:=decide) only[overL,Nat.reduceAdd,hout,Option.getD_none]
   rw[f117]
   simp only[Option.getD_some]
   clear hout f117
   have HX7:=Hi (HE3.out.trans XE.out)
   go_wp2
   go_roundw
   case rel=>exact⟨k2+1,by omega,by go_num,HX7⟩
   case measure=>simp[intOf];omega

end Bk
end Go.Proofs.YtfnmgcblhebdbaaGreatDoor
