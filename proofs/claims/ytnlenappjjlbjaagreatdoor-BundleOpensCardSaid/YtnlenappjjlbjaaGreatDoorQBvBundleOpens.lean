/- BundleOpens: for all keys and bytes the law returns true. Conditions: the library's variables lie as the row says. -/
import Derived.Test.YtnlenappjjlbjaaGreatDoorQ38
import Derived.Test.YtnlenappjjlbjaaGreatDoorQ39
namespace Go.Proofs.YtnlenappjjlbjaaGreatDoor
open Go.ChangeShapes Go.WideShapes Go.ChangeAt Go.RowKit Go.Shelf
theorem Bu.opnR_few (key:Int) (s:List Int):(Bu.opnR key s).2.length≤60:=by
 unfold Bu.opnR
 split
 · exact Nat.zero_le _
 · split
   · exact Nat.zero_le _
   · rw [Bu.contE_dec]
     split
     · exact Nat.zero_le _
     · split
       · exact Nat.zero_le _
       · rename_i h
         have h0:Rs.chkI (Bu.decI (Bu.headN s) (Bu.openP (Bu.derive key) (s.drop 20))).2=0:=Classical.byContradiction fun hc=>h (by unfold Bu.restE;rw [if_pos hc];exact hc)
         exact Rs.chkI_few h0
set_option maxRecDepth 100000 in
set_option maxHeartbeats 25600000 in
theorem bundleOpens_walk (key : Int) (hkey : Bu.U64 key) (A : Option Addr) (c : Nat) (s : List Int) {n : Nat} (hn : s.length = n) (hc : n ≤ c) (hB : Bu.Byt s) (hl : n ≤ 9223372036854775807) (w : World) (h : SlU w A s) (hg : Gm w) :
    Calls Tryz.prog 4 #[.int .u64 key,.slice A n c] w fun e w'=>e=.returned (.bool true)∧Ext w w':=by
 have HG:Hid (∀ w',Ext w w'→Gm w'):=Hi (fun w' he=>hg.ext he)
 clear hg
 have K1:=Hi (fun W h=>head_any A c s hn hc hB hl W h)
 have K2:=Hi (fun W h=>rhead_any A c s hn hc hB hl W h)
 obtain ⟨q1,h_q1⟩:∃ q,Bu.hdS s=q:=⟨_,rfl⟩
 obtain ⟨q2,h_q2⟩:∃ q,Bu.hdN s=q:=⟨_,rfl⟩
 obtain ⟨q3,h_q3⟩:∃ q,Bu.hdR s=q:=⟨_,rfl⟩
 obtain ⟨q4,h_q4⟩:∃ q,Bu.headE s=q:=⟨_,rfl⟩
 rw [h_q1,h_q2,h_q3,h_q4] at K1 K2
 obtain ⟨r,h_r⟩:∃ r,Bu.opnR key s=r:=⟨_,rfl⟩
 obtain ⟨er,dl⟩:=r
 obtain ⟨so,h_so⟩:∃ q,Bu.opnS key s=q:=⟨_,rfl⟩
 obtain ⟨nd,h_nd⟩:∃ q,dl.length=q:=⟨_,rfl⟩
 have K3:=Hi (fun W h hg=>(bopen_any key hkey A c s hn hc hB hl W h hg).mono fun e w' h=>And.intro (RetO.use h.1 h_r h_so h_nd) h.2)
 have K4:=Hi (fun W h=>(ropen48_any key hkey A c s hn hc hB hl W h).mono fun e w' h=>And.intro (RetO.use h.1 h_r h_so h_nd) h.2)
 have HND:=Hi h_nd
 have t1:(q4 != q4)=false:=by simp
 have t2:(q1 != q1)=false:=by simp
 have t3:(q2 != q2)=false:=by simp
 have t4:(q3 != q3)=false:=by simp
 have t5:(er == er)=true:=by simp
 have t6:(so == so)=true:=by simp
 have hnd63:nd≤9223372036854775807:=by
  have hf:=Bu.opnR_few key s
  rw [h_r] at hf
  have hf:dl.length≤60:=hf
  omega
 have H:=Hi h
 clear h h_q1 h_q2 h_q3 h_q4 h_r h_so h_nd hkey hB hn hc
 go_enter Tryz.func4,Tryz.ntmps4
 have X_0:=Hi (Ext.refl w)
 go_wp2_with fail
 with_reducible refine (K1.out w H.out).mono ?_
 rintro e w1 ⟨rfl,hb⟩
 have H_1:=Hi (H.out.ext hb)
 clear H
 have X_1:=Hi (X_0.out.trans hb)
 clear X_0
 clear hb
 go_wp2_with fail
 with_reducible refine (K2.out w1 H_1.out).mono ?_
 rintro e w2 ⟨rfl,hb⟩
 have H_2:=Hi (H_1.out.ext hb)
 clear H_1
 have X_2:=Hi (X_1.out.trans hb)
 clear X_1
 clear hb
 go_wp2_with fail
 with_reducible refine (K3.out w2 H_2.out (fun w' hx=>HG.out w' (X_2.out.trans hx))).mono ?_
 rintro e w3 ⟨⟨A4,c4,ys,rfl,hy4,hs4⟩,hb⟩
 have H_3:=Hi (H_2.out.ext hb)
 clear H_2
 have X_3:=Hi (X_2.out.trans hb)
 clear X_2
 have S4_3:=Hi (hs4)
 clear hb hs4
 have HY4:=Hi hy4
 clear hy4
 go_wp2_with fail
 with_reducible refine (K4.out w3 H_3.out).mono ?_
 rintro e w4 ⟨⟨A5,c5,zs,rfl,hy5,hs5⟩,hb⟩
 have H_4:=Hi (H_3.out.ext hb)
 have S4_4:=Hi (S4_3.out.ext hb)
 clear H_3 S4_3
 have X_4:=Hi (X_3.out.trans hb)
 clear X_3
 have S5_4:=Hi (hs5)
 clear hb hs5
 have HY5:=Hi hy5
 clear hy5
 have K5:=Hi (sameItems_eq A4 A5 c4 c5 ys zs (n:=nd) (by rw [← Rt.its_len,HY4.out,HND.out]) (HY4.out.trans HY5.out.symm) w4 S4_4.out S5_4.out hnd63)
 go_wp2_with fail
 with_reducible refine (K5.out).mono ?_
 rintro e w5 ⟨rfl,hb⟩
 have H_5:=Hi (H_4.out.ext hb)
 have S4_5:=Hi (S4_4.out.ext hb)
 have S5_5:=Hi (S5_4.out.ext hb)
 clear H_4 S4_4 S5_4
 have X_5:=Hi (X_4.out.trans hb)
 clear X_4
 clear hb
 go_wp2_with fail
 with_reducible refine (awake_any w5 (fun w' he=>HG.out _ (X_5.out.trans he))).mono ?_
 rintro e w6 ⟨rfl,hb⟩
 have XL:=Hi (X_5.out.trans hb)
 clear hb
 go_wp2
 go_ret
 exact ⟨rfl,XL.out⟩
theorem bundleOpens_laid (os:Os):laidMet Tryz.prog Rows.bundleOpensRow.laid ((laidW os).forCall (fun _ _=>0) ⟨#[],#[.int .u64 0,.slice none 0 0],[]⟩).memory :=
 laidMet_of_run' 8 (by kernel_rfl) (by kernel_rfl)
theorem bundleOpens_reads (os:Os) {H:Type} (enc:TypeId×Value→H):∃ places,DataW.whole enc Tryz.prog ((laidW os).forCall (fun _ _=>0) ⟨#[],#[.int .u64 0,.slice none 0 0],[]⟩).memory Tryz.f4.params.toList Rows.bundleOpensSpec.vars false (#[.int .u64 0,.slice none 0 0]:Array Value).toList 8=some ([.lit (.int .u64 0),.nil],[],places) :=
 ⟨[],by kernel_rfl⟩
set_option maxRecDepth 100000 in
theorem bundleOpens_lifted (os : Os) (started : os.Started) (H : Type) (enc : TypeId × Value → H) (F : Stop.Interp) :
    ReturnsInHanded {} Tryz.checked os 4 .any ((OpenSpec.ofChange Rows.bundleOpensSpec).preRow enc Tryz.prog Tryz.f4 Rows.bundleOpensRow.domain false Rows.bundleOpensRow.laid) (((OpenSpec.ofChange Rows.bundleOpensSpec).at F).post enc Tryz.prog Tryz.f4 false true false false):=by
 obtain ⟨places,hx⟩:=bundleOpens_reads os enc
 refine returnsInHanded_of_row (C:=Tryz.checked) (s:=(OpenSpec.ofChange Rows.bundleOpensSpec)) Tryz.own started (by kernel_rfl) Tryz.func4
  (witness_row_at (enc:=enc) (C:=Tryz.checked) false (laidW os) #[.int .u64 0,.slice none 0 0] rfl (by kernel_rfl) (by kernel_rfl) (by kernel_rfl)
   (OpenSpec.preRow_of_cond 8 hx (by kernel_rfl) (fun k hk=>by cases hk) (by kernel_rfl) (bundleOpens_laid os))) ?_
 intro W base args ds gs before hval0 hW _ hcond hsz0 hL hsh _
 have hval:∀ (j:Nat) t v,Tryz.f4.params[j]?=some t→args[j]?=some v→Value.okWide Tryz.prog W .any base t v:=hval0
 have hW':DataW.Whole enc Tryz.prog Tryz.f4.params.toList Rows.bundleOpensSpec.vars false W args.toList ds gs before:=hW
 have hW2:=hW'
 obtain ⟨p,q,hA0,hV,rfl,hfz,hnd⟩:=hW2
 have hA:DataW.TrodAll enc Tryz.prog W 0 (fun _=>true) true Tryz.f4.params.toList args.toList ds p:=hA0
 rw [Tryz.params4] at hA hval
 obtain ⟨v0,vs0,d0,ds0,p0,q0,hargs,rfl,rfl,h0,r0⟩:=trodAll_cons hA
 obtain ⟨v1,vs1,d1,ds1,p1,q1,rfl,rfl,rfl,h1,r1⟩:=trodAll_cons r0
 obtain ⟨rfl,rfl,rfl⟩:=trodAll_nil r1
 obtain rfl:args=#[v0,v1]:=by cases args;simp_all
 obtain ⟨rfl,rfl⟩:=trodVars_none hV
 obtain ⟨mx,hmx⟩:=Go.Proofs.cell_of_shapedOpen_int (g:=0) (zero:=#[.int .i64 0]) (t:=3) hsh (by decide +kernel) (by kernel_rfl) (by decide) (by kernel_rfl) (by kernel_rfl) Tryz.underlying3
 have hsz:(DataW.weightsEach Tryz.prog (Tryz.f4.params.toList ++ Rows.bundleOpensSpec.plain.varTypes Tryz.prog) _).all (· ≤ reachBytes)=true:=hsz0
 rw [Tryz.params4] at hsz
 obtain ⟨x_0,rfl,hd_0,-,wf_0⟩:=open_int Tryz.underlying22 (hval 0 22 v0 rfl rfl) h0
 obtain ⟨A_1,c_1,l_1,rfl,s_1,t_1,k_1,-,y_1⟩:=bytes_open (hval 1 24 v1 rfl rfl) h1 (light_arg hsz (j:=1) rfl rfl)
 have b_1:l_1.length≤9223372036854775807:=by omega
 refine (bundleOpens_walk x_0 (u64_wf wf_0) A_1 c_1 l_1 rfl k_1 t_1 b_1 W s_1 ⟨mx,hmx⟩).mono fun e W' ⟨he,hw⟩=>?_
 subst he
 exact ⟨_,rfl,law_post (s:=Rows.bundleOpensSpec) hW' Tryz.laidOut (by kernel_rfl) rfl (by rfl) rfl Tryz.underlying4 hw⟩

theorem bundleOpens_holds:Rows.BundleOpensSaid :=
 OpenClaim.holds_of_cond 4 Tryz.f4 rfl rfl rfl rfl rfl rfl rfl ⟨rfl,rfl,rfl,rfl,rfl⟩ rfl rfl rfl rfl rfl (by kernel_rfl) Tryz.func4 (by kernel_rfl)
  (of_decide_eq_true (by kernel_rfl)) (by unfold Func.isWrapper;first | (rw [if_pos (by decide +kernel)];kernel_rfl) | (rw [if_neg (by decide +kernel)];exact ⟨rfl,rfl⟩))
  (fun os started H enc _ F=>by rw [OpenClaim.pre_eq_preRow];exact bundleOpens_lifted os started H enc F)
theorem bundleOpens_card:Rows.BundleOpensCardSaid :=
 Claim7.holds_tied_plain_at .later [] _ _ _ _
  bundleOpens_holds (fun _ h=>by cases h) (by kernel_rfl) (fun _ h=>by cases h) bundleOpens_row_tie rfl ⟨rfl,rfl⟩ (by kernel_rfl) rfl
  (fun f fn hf hfn=>by
   obtain rfl:f=4:=Option.some.inj ((show Tryz.prog.funcNamed Rows.bundleOpensRow.func=some 4 by kernel_rfl).symm.trans hf) |>.symm
   obtain rfl:fn=Tryz.f4:=(Option.some.inj (Tryz.func4.symm.trans hfn)).symm
   exact ⟨by kernel_rfl,fun j t ht=>by
    rw [Tryz.params4] at ht
    have hm:t∈[22,24]:=by simpa using Array.mem_of_getElem? ht
    have hall:([22,24].all fun u=>!Tryz.prog.wantsStandIn u)=true:=by kernel_rfl
    exact (show Tryz.prog.wantsStandIn t=false by simpa using List.all_eq_true.1 hall t hm)⟩)
  (by kernel_rfl)
#print axioms bundleOpens_card
end Go.Proofs.YtnlenappjjlbjaaGreatDoor
