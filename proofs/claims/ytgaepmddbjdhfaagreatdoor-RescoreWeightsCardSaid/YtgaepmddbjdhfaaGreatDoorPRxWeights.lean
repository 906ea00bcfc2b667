/- RescoreWeights: for all grids, pools and steps the law returns true. Conditions: the library's variables lie as the row says. -/
import Derived.Test.YtgaepmddbjdhfaaGreatDoorP35
import Derived.Test.YtgaepmddbjdhfaaGreatDoorP28
import Derived.Test.YtgaepmddbjdhfaaGreatDoorP37
namespace Go.Proofs.YtgaepmddbjdhfaaGreatDoor
open Go.ChangeShapes Go.WideShapes Go.ChangeAt Go.RowKit
set_option maxRecDepth 100000 in
set_option maxHeartbeats 12800000 in
theorem rescoreWeights_walk (A : Option Addr) (c : Nat) (A' : Option Addr) (c' : Nat) (pt pr : List Int) {n m : Nat} (hn : pt.length = n) (hm : pr.length = m) (Ap : Option Addr) (cp : Nat) (ps : List PL) {np : Nat} (hnp : ps.length = np) (As : Option Addr) (cs : Nat) (ss : List Rs.Stp) {ns : Nat} (hns : ss.length = ns) (w : World) (h : SlI w A pt) (h' : SlI w A' pr) (hp : SlPo w Ap ps) (hs : Rt.SlSt w As ss) (hl : n ≤ 9223372036854775807) (hl' : m ≤ 9223372036854775807) (hlp : np ≤ 9223372036854775807) (hls : ns ≤ 9223372036854775807) (hg : Gm w) :
    Calls Tryz.prog 4 #[.agg #[.slice A n c, .slice A' m c'], .slice Ap np cp, .slice As ns cs] w fun e w' => e = .returned (.bool true) ∧ Ext w w' := by
  have K1 := Lib.hid (fun w h h' hp hs hg => kweights_any A c A' c' pt pr hn hm Ap cp ps hnp As cs ss hns w h h' hp hs hl hl' hlp hls hg)
  have K2 := Lib.hid (fun w h h' hp hs => rweights_any A c A' c' pt pr hn hm Ap cp ps hnp As cs ss hns w h h' hp hs hl hl' hlp hls)
  obtain ⟨er, h_er⟩ : ∃ q, Rw.wgtE pt pr (pool ps) ss = q := ⟨_, rfl⟩
  obtain ⟨vs, h_vs⟩ : ∃ q, Rw.wgtV pt pr (pool ps) ss = q := ⟨_, rfl⟩
  rw [h_er, h_vs] at K1 K2
  unfold RetW at K1 K2
  have t1 : (er == er) = true := by simp
  have HG : Hid (∀ w', Ext w w' → Gm w') := Lib.hid (fun w' he => hg.ext he)
  have H := Lib.hid h
  have H' := Lib.hid h'
  have HP := Lib.hid hp
  have HS := Lib.hid hs
  clear h_er h_vs h h' hp hs hg hn hm hnp hns hl hl' hlp hls
  go_enter Tryz.func4, Tryz.ntmps4
  have X_0 := Lib.hid (Ext.refl w)
  have E0 : Ext w (w.alloc (.cells #[.slice A n c, .slice A' m c'] 36)) := (Ext.refl _).alloc _
  have H_1 := Lib.hid (H.out.ext E0)
  have H'_1 := Lib.hid (H'.out.ext E0)
  have HP_1 := Lib.hid (HP.out.ext E0)
  have HS_1 := Lib.hid (HS.out.ext E0)
  clear H H' HP HS
  have X_1 := Lib.hid (X_0.out.trans E0)
  clear X_0
  have B_1 := Lib.hid (heap_alloc_new w (.cells #[.slice A n c, .slice A' m c'] 36))
  clear E0
  go_wp2_with fail
  with_reducible refine (K1.out _ H_1.out H'_1.out HP_1.out HS_1.out (HG.out _ X_1.out)).mono ?_
  rintro e w1 ⟨⟨V, rfl, hV, hv⟩, hb⟩
  have H_2 := Lib.hid (H_1.out.ext hb)
  have H'_2 := Lib.hid (H'_1.out.ext hb)
  have HP_2 := Lib.hid (HP_1.out.ext hb)
  have HS_2 := Lib.hid (HS_1.out.ext hb)
  have B_2 := Lib.hid (hb.blockAt B_1.out)
  clear H_1 H'_1 HP_1 HS_1 B_1
  have X_2 := Lib.hid (X_1.out.trans hb)
  clear X_1
  have V_2 := Lib.hid (hV)
  clear hb hV
  have HV1 := Lib.hid hv
  clear hv
  obtain ⟨qV, hqV⟩ : ∃ q, V.val = q := ⟨_, rfl⟩
  have HQV := Lib.hid hqV
  rw [hqV]
  clear hqV
  go_wp2_with (first | (refine wpList_load_row_w rfl _ _ rfl w.heap.size rfl _ #[.slice A n c, .slice A' m c'] _ _ B_2.out Tryz.underlying36 rfl (by kernel_rfl) ?_))
  with_reducible refine (K2.out _ H_2.out H'_2.out HP_2.out HS_2.out).mono ?_
  rintro e w2 ⟨⟨U, rfl, hU, hu⟩, hb⟩
  have H_3 := Lib.hid (H_2.out.ext hb)
  have H'_3 := Lib.hid (H'_2.out.ext hb)
  have HP_3 := Lib.hid (HP_2.out.ext hb)
  have HS_3 := Lib.hid (HS_2.out.ext hb)
  have B_3 := Lib.hid (hb.blockAt B_2.out)
  have V_3 := Lib.hid (V_2.out.ext hb)
  clear H_2 H'_2 HP_2 HS_2 B_2 V_2
  have X_3 := Lib.hid (X_2.out.trans hb)
  clear X_2
  have U_3 := Lib.hid (hU)
  clear hb hU
  have HU1 := Lib.hid hu
  clear hu
  obtain ⟨qU, hqU⟩ : ∃ q, U.val = q := ⟨_, rfl⟩
  have HQU := Lib.hid hqU
  rw [hqU]
  clear hqU
  clear H_3 H'_3 HP_3 HS_3 B_3
  have KE := Lib.hid (wequal_eq V U (HV1.out.trans HU1.out.symm) w2 V_3.out U_3.out)
  rw [HQV.out, HQU.out] at KE
  go_wp2_with fail
  with_reducible refine (KE.out).mono ?_
  rintro e w3 ⟨rfl, hb⟩
  have V_4 := Lib.hid (V_3.out.ext hb)
  have U_4 := Lib.hid (U_3.out.ext hb)
  clear V_3 U_3
  have X_4 := Lib.hid (X_3.out.trans hb)
  clear X_3
  clear hb
  go_wp2_with fail
  with_reducible refine (awake_any w3 (fun w' he => HG.out _ (X_4.out.trans he))).mono ?_
  rintro e w4 ⟨rfl, hb⟩
  have XL := Lib.hid (X_4.out.trans hb)
  clear hb
  go_wp2
  go_ret
  exact ⟨rfl, XL.out⟩
theorem rescoreWeights_laid (os : Os) : laidMet Tryz.prog Rows.rescoreWeightsRow.laid ((laidW os).forCall (fun _ _ => 0) ⟨#[], #[.agg #[.slice none 0 0, .slice none 0 0], .slice none 0 0, .slice none 0 0], []⟩).memory :=
  laidMet_of_run' 8 (by kernel_rfl) (by kernel_rfl)
theorem rescoreWeights_reads (os : Os) {H : Type} (enc : TypeId × Value → H) : ∃ places, DataW.whole enc Tryz.prog ((laidW os).forCall (fun _ _ => 0) ⟨#[], #[.agg #[.slice none 0 0, .slice none 0 0], .slice none 0 0, .slice none 0 0], []⟩).memory Tryz.f4.params.toList Rows.rescoreWeightsSpec.vars false (#[.agg #[.slice none 0 0, .slice none 0 0], .slice none 0 0, .slice none 0 0] : Array Value).toList 8 = some ([.agg [.nil, .nil], .nil, .nil], [], places) :=
  ⟨[], by kernel_rfl⟩
set_option maxRecDepth 100000 in
theorem rescoreWeights_lifted (os : Os) (started : os.Started) (H : Type) (enc : TypeId × Value → H) (F : Stop.Interp) :
    ReturnsInHanded {} Tryz.checked os 4 .any ((OpenSpec.ofChange Rows.rescoreWeightsSpec).preRow enc Tryz.prog Tryz.f4 Rows.rescoreWeightsRow.domain false Rows.rescoreWeightsRow.laid) (((OpenSpec.ofChange Rows.rescoreWeightsSpec).at F).post enc Tryz.prog Tryz.f4 false true false false) := by
  obtain ⟨places, hx⟩ := rescoreWeights_reads os enc
  refine returnsInHanded_of_row (C := Tryz.checked) (s := (OpenSpec.ofChange Rows.rescoreWeightsSpec)) Tryz.own started (by kernel_rfl) Tryz.func4
    (witness_row_at (enc := enc) (C := Tryz.checked) false (laidW os) #[.agg #[.slice none 0 0, .slice none 0 0], .slice none 0 0, .slice none 0 0] rfl (by kernel_rfl) (by kernel_rfl) (by kernel_rfl)
      (OpenSpec.preRow_of_cond 8 hx (by kernel_rfl) (fun k hk => by cases hk) (by kernel_rfl) (rescoreWeights_laid os))) ?_
  intro W base args ds gs before hval0 hW _ hcond hsz0 hL hsh _
  have hval : ∀ (j : Nat) t v, Tryz.f4.params[j]? = some t → args[j]? = some v → Value.okWide Tryz.prog W .any base t v := hval0
  have hW' : DataW.Whole enc Tryz.prog Tryz.f4.params.toList Rows.rescoreWeightsSpec.vars false W args.toList ds gs before := hW
  have hW2 := hW'
  obtain ⟨p, q, hA0, hV, rfl, hfz, hnd⟩ := hW2
  have hA : DataW.TrodAll enc Tryz.prog W 0 (fun _ => true) true Tryz.f4.params.toList args.toList ds p := hA0
  rw [Tryz.params4] at hA hval
  obtain ⟨v0, vs0, d0, ds0, p0, q0, hargs, rfl, rfl, h0, r0⟩ := trodAll_cons hA
  obtain ⟨v1, vs1, d1, ds1, p1, q1, rfl, rfl, rfl, h1, r1⟩ := trodAll_cons r0
  obtain ⟨v2, vs2, d2, ds2, p2, q2, rfl, rfl, rfl, h2, r2⟩ := trodAll_cons r1
  obtain ⟨rfl, rfl, rfl⟩ := trodAll_nil r2
  obtain rfl : args = #[v0, v1, v2] := by cases args; simp_all
  obtain ⟨rfl, rfl⟩ := trodVars_none hV
  obtain ⟨mx, hmx⟩ := Go.Proofs.cell_of_shapedOpen_int (g := 0) (zero := #[.int .i64 0]) (t := 3) hsh (by decide +kernel) (by kernel_rfl) (by decide) (by kernel_rfl) (by kernel_rfl) Tryz.underlying3
  have hsz : (DataW.weightsEach Tryz.prog (Tryz.f4.params.toList ++ Rows.rescoreWeightsSpec.plain.varTypes Tryz.prog) _).all (· ≤ reachBytes) = true := hsz0
  rw [Tryz.params4] at hsz
  obtain ⟨gx, gy, rfl, hgx, hgy⟩ := grid_open (hval 0 36 v0 rfl rfl) h0
  obtain ⟨gA, gc, gl⟩ := gx
  obtain ⟨gA2, gc2, gl2⟩ := gy
  have w_1 : gl.length ≤ 9223372036854775807 := Nat.le_trans hgx.2.1 (Nat.le_trans hgx.2.2.1 (by decide))
  have w_2 : gl2.length ≤ 9223372036854775807 := Nat.le_trans hgy.2.1 (Nat.le_trans hgy.2.2.1 (by decide))
  obtain ⟨A_1, c_1, l_1, rfl, s_1, k_1, -, y_1⟩ := pool_open (hval 1 37 v1 rfl rfl) h1 (light_arg hsz (j := 1) rfl rfl)
  have b_1 : l_1.length ≤ 9223372036854775807 := by omega
  obtain ⟨A_2, c_2, l_2, rfl, s_2, -, k_2, -, y_2⟩ := steps_open (hval 2 24 v2 rfl rfl) h2 (light_arg hsz (j := 2) rfl rfl)
  have b_2 : l_2.length ≤ 9223372036854775807 := by omega
  refine (rescoreWeights_walk gA gc gA2 gc2 gl gl2 rfl rfl A_1 c_1 l_1 rfl A_2 c_2 l_2 rfl W hgx.1 hgy.1 s_1 s_2 w_1 w_2 b_1 b_2 ⟨mx, hmx⟩).mono fun e W' ⟨he, hw⟩ => ?_
  subst he
  exact ⟨_, rfl, law_post (s := Rows.rescoreWeightsSpec) hW' Tryz.laidOut (by kernel_rfl) rfl (by rfl) rfl Tryz.underlying4 hw⟩

theorem rescoreWeights_holds : Rows.RescoreWeightsSaid :=
  OpenClaim.holds_of_cond 4 Tryz.f4 rfl rfl rfl rfl rfl rfl rfl ⟨rfl, rfl, rfl, rfl, rfl⟩ rfl rfl rfl rfl rfl (by kernel_rfl) Tryz.func4 (by kernel_rfl)
    (of_decide_eq_true (by kernel_rfl)) (by unfold Func.isWrapper; first | (rw [if_pos (by decide +kernel)]; kernel_rfl) | (rw [if_neg (by decide +kernel)]; exact ⟨rfl, rfl⟩))
    (fun os started H enc _ F => by rw [OpenClaim.pre_eq_preRow]; exact rescoreWeights_lifted os started H enc F)
theorem rescoreWeights_card : Rows.RescoreWeightsCardSaid :=
  Claim7.holds_tied_plain_at .later [] _ _ _ _
    rescoreWeights_holds (fun _ h => by cases h) (by kernel_rfl) (fun _ h => by cases h) rescoreWeights_row_tie rfl ⟨rfl, rfl⟩ (by kernel_rfl) rfl
    (fun f fn hf hfn => by
      obtain rfl : f = 4 := Option.some.inj ((show Tryz.prog.funcNamed Rows.rescoreWeightsRow.func = some 4 by kernel_rfl).symm.trans hf) |>.symm
      obtain rfl : fn = Tryz.f4 := (Option.some.inj (Tryz.func4.symm.trans hfn)).symm
      exact ⟨by kernel_rfl, fun j t ht => by
        rw [Tryz.params4] at ht
        have hm : t ∈ [36, 37, 24] := by simpa using Array.mem_of_getElem? ht
        have hall : ([36, 37, 24].all fun u => !Tryz.prog.wantsStandIn u) = true := by kernel_rfl
        exact (show Tryz.prog.wantsStandIn t = false by simpa using List.all_eq_true.1 hall t hm)⟩)
    (by kernel_rfl)
#print axioms rescoreWeights_card
end Go.Proofs.YtgaepmddbjdhfaaGreatDoor
