/- RescoreSteps: for all items, answers and steps the law returns true. Conditions: the library's variables lie as the row says. -/
import Derived.Test.YtgaepmddbjdhfaaGreatDoorP35
import Derived.Test.YtgaepmddbjdhfaaGreatDoorP29
import Derived.Test.YtgaepmddbjdhfaaGreatDoorP37
namespace Go.Proofs.YtgaepmddbjdhfaaGreatDoor
open Go.ChangeShapes Go.WideShapes Go.ChangeAt Go.RowKit
set_option maxRecDepth 100000 in
set_option maxHeartbeats 12800000 in
theorem rescoreSteps_walk (A : Option Addr) (c : Nat) (xs : List Rt.ItL) (A2 : Option Addr) (c2 : Nat) (al : List Rt.AnL) (A3 : Option Addr) (c3 : Nat) (ss : List Rs.Stp) {n m s : Nat} (hn : xs.length = n) (hm : al.length = m) (hs : ss.length = s) (w : World) (h : Rt.SlIt w A xs) (h2 : Rt.SlAn w A2 al) (h3 : Rt.SlSt w A3 ss) (hl : n ≤ 9223372036854775807) (hl2 : m ≤ 9223372036854775807) (hl3 : s * 8 ≤ 140737488355328) (hg : Gm w) :
    Calls Tryz.prog 3 #[.slice A n c, .slice A2 m c2, .slice A3 s c3] w fun e w' => e = .returned (.bool true) ∧ Ext w w' := by
  have hs63 : s ≤ 9223372036854775807 := by omega
  have K1 := Lib.hid (fun w h h2 h3 hg => ksteps_any A c xs A2 c2 al A3 c3 ss hn hm hs w h h2 h3 hl hl2 hs63 hg)
  have K2 := Lib.hid (fun w h h2 h3 => rsteps_any A c xs A2 c2 al A3 c3 ss hn hm hs w h h2 h3 hl hl2 hs63)
  obtain ⟨er, h_er⟩ : ∃ q, Rs.stsE (Rt.its xs) (Rt.ans al) ss = q := ⟨_, rfl⟩
  obtain ⟨l, h_l⟩ : ∃ q, Rs.stsL (Rt.its xs) (Rt.ans al) ss = q := ⟨_, rfl⟩
  rw [h_er, h_l] at K1 K2
  unfold Rt.RetSt at K1 K2
  have K3 := Lib.hid (fun A' c' w h h' hl' => kchanged_any A3 A' c3 c' ss l hs rfl w h h' hs63 hl' hl3)
  have K4 := Lib.hid (fun A' c' w h h' hl' => rchanged_any A3 A' c3 c' ss l hs rfl w h h' hs63 hl' hl3)
  obtain ⟨e2, h_e2⟩ : ∃ q, Rs.chdE ss l = q := ⟨_, rfl⟩
  obtain ⟨d, h_d⟩ : ∃ q, Rs.chdL ss l = q := ⟨_, rfl⟩
  rw [h_e2, h_d] at K3 K4
  unfold Rt.RetCh at K3 K4
  have t1 : (er != er) = false := by simp
  have t2 : (e2 != e2) = false := by simp
  have t3 : (e2 == e2) = true := by simp
  have HG : Hid (∀ w', Ext w w' → Gm w') := Lib.hid (fun w' he => hg.ext he)
  have H := Lib.hid h
  have H2 := Lib.hid h2
  have H3 := Lib.hid h3
  clear h_er h_l h_e2 h_d h h2 h3 hg hn hm hs hl hl2 hl3
  go_enter Tryz.func3, Tryz.ntmps3
  have X_0 := Lib.hid (Ext.refl w)
  go_wp2_with fail
  with_reducible refine (K1.out w H.out H2.out H3.out (HG.out _ X_0.out)).mono ?_
  rintro e w1 ⟨⟨A4, c4, rfl, hs4, hk4, hm4⟩, hb⟩
  have H_1 := Lib.hid (H.out.ext hb)
  have H2_1 := Lib.hid (H2.out.ext hb)
  have H3_1 := Lib.hid (H3.out.ext hb)
  clear H H2 H3
  have X_1 := Lib.hid (X_0.out.trans hb)
  clear X_0
  have S4_1 := Lib.hid (hs4)
  clear hb hs4
  have hl4 : l.length ≤ 9223372036854775807 := Nat.le_trans hk4 (Nat.le_trans hm4 (by decide))
  clear hk4 hm4
  go_wp2_with fail
  with_reducible refine (K2.out w1 H_1.out H2_1.out H3_1.out).mono ?_
  rintro e w2 ⟨⟨A5, c5, rfl, hs5, -, -⟩, hb⟩
  have H_2 := Lib.hid (H_1.out.ext hb)
  have H2_2 := Lib.hid (H2_1.out.ext hb)
  have H3_2 := Lib.hid (H3_1.out.ext hb)
  have S4_2 := Lib.hid (S4_1.out.ext hb)
  clear H_1 H2_1 H3_1 S4_1
  have X_2 := Lib.hid (X_1.out.trans hb)
  clear X_1
  have S5_2 := Lib.hid (hs5)
  clear hb hs5
  clear H_2 H2_2
  go_wp2_with fail
  with_reducible refine (same_eq (n := l.length) A4 A5 c4 c5 l rfl w2 S4_2.out S5_2.out hl4).mono ?_
  rintro e w3 ⟨rfl, hb⟩
  have H3_3 := Lib.hid (H3_2.out.ext hb)
  have S4_3 := Lib.hid (S4_2.out.ext hb)
  have S5_3 := Lib.hid (S5_2.out.ext hb)
  clear H3_2 S4_2 S5_2
  have X_3 := Lib.hid (X_2.out.trans hb)
  clear X_2
  clear hb
  go_wp2_with fail
  with_reducible refine (K3.out A4 c4 w3 H3_3.out S4_3.out hl4).mono ?_
  rintro e w4 ⟨⟨A6, c6, rfl, hs6, hk6, hm6⟩, hb⟩
  have H3_4 := Lib.hid (H3_3.out.ext hb)
  have S4_4 := Lib.hid (S4_3.out.ext hb)
  have S5_4 := Lib.hid (S5_3.out.ext hb)
  clear H3_3 S4_3 S5_3
  have X_4 := Lib.hid (X_3.out.trans hb)
  clear X_3
  have S6_4 := Lib.hid (hs6)
  clear hb hs6
  have hl6 : d.length ≤ 9223372036854775807 := Nat.le_trans hk6 (Nat.le_trans hm6 (by decide))
  clear hk6 hm6
  go_wp2_with fail
  with_reducible refine (K4.out A5 c5 w4 H3_4.out S5_4.out hl4).mono ?_
  rintro e w5 ⟨⟨A7, c7, rfl, hs7, -, -⟩, hb⟩
  have H3_5 := Lib.hid (H3_4.out.ext hb)
  have S4_5 := Lib.hid (S4_4.out.ext hb)
  have S5_5 := Lib.hid (S5_4.out.ext hb)
  have S6_5 := Lib.hid (S6_4.out.ext hb)
  clear H3_4 S4_4 S5_4 S6_4
  have X_5 := Lib.hid (X_4.out.trans hb)
  clear X_4
  have S7_5 := Lib.hid (hs7)
  clear hb hs7
  go_wp2_with fail
  with_reducible refine (sameInts_eq (n := d.length) A6 A7 c6 c7 d rfl w5 S6_5.out S7_5.out hl6).mono ?_
  rintro e w6 ⟨rfl, hb⟩
  have H3_6 := Lib.hid (H3_5.out.ext hb)
  have S4_6 := Lib.hid (S4_5.out.ext hb)
  have S5_6 := Lib.hid (S5_5.out.ext hb)
  have S6_6 := Lib.hid (S6_5.out.ext hb)
  have S7_6 := Lib.hid (S7_5.out.ext hb)
  clear H3_5 S4_5 S5_5 S6_5 S7_5
  have X_6 := Lib.hid (X_5.out.trans hb)
  clear X_5
  clear hb
  go_wp2_with fail
  with_reducible refine (awake_any w6 (fun w' he => HG.out _ (X_6.out.trans he))).mono ?_
  rintro e w7 ⟨rfl, hb⟩
  have XL := Lib.hid (X_6.out.trans hb)
  clear hb
  go_wp2
  go_ret
  exact ⟨rfl, XL.out⟩
theorem rescoreSteps_laid (os : Os) : laidMet Tryz.prog Rows.rescoreStepsRow.laid ((laidW os).forCall (fun _ _ => 0) ⟨#[], #[.slice none 0 0, .slice none 0 0, .slice none 0 0], []⟩).memory :=
  laidMet_of_run' 8 (by kernel_rfl) (by kernel_rfl)
theorem rescoreSteps_reads (os : Os) {H : Type} (enc : TypeId × Value → H) : ∃ places, DataW.whole enc Tryz.prog ((laidW os).forCall (fun _ _ => 0) ⟨#[], #[.slice none 0 0, .slice none 0 0, .slice none 0 0], []⟩).memory Tryz.f3.params.toList Rows.rescoreStepsSpec.vars false (#[.slice none 0 0, .slice none 0 0, .slice none 0 0] : Array Value).toList 8 = some ([.nil, .nil, .nil], [], places) :=
  ⟨[], by kernel_rfl⟩
set_option maxRecDepth 100000 in
theorem rescoreSteps_lifted (os : Os) (started : os.Started) (H : Type) (enc : TypeId × Value → H) (F : Stop.Interp) :
    ReturnsInHanded {} Tryz.checked os 3 .any ((OpenSpec.ofChange Rows.rescoreStepsSpec).preRow enc Tryz.prog Tryz.f3 Rows.rescoreStepsRow.domain false Rows.rescoreStepsRow.laid) (((OpenSpec.ofChange Rows.rescoreStepsSpec).at F).post enc Tryz.prog Tryz.f3 false true false false) := by
  obtain ⟨places, hx⟩ := rescoreSteps_reads os enc
  refine returnsInHanded_of_row (C := Tryz.checked) (s := (OpenSpec.ofChange Rows.rescoreStepsSpec)) Tryz.own started (by kernel_rfl) Tryz.func3
    (witness_row_at (enc := enc) (C := Tryz.checked) false (laidW os) #[.slice none 0 0, .slice none 0 0, .slice none 0 0] rfl (by kernel_rfl) (by kernel_rfl) (by kernel_rfl)
      (OpenSpec.preRow_of_cond 8 hx (by kernel_rfl) (fun k hk => by cases hk) (by kernel_rfl) (rescoreSteps_laid os))) ?_
  intro W base args ds gs before hval0 hW _ hcond hsz0 hL hsh _
  have hval : ∀ (j : Nat) t v, Tryz.f3.params[j]? = some t → args[j]? = some v → Value.okWide Tryz.prog W .any base t v := hval0
  have hW' : DataW.Whole enc Tryz.prog Tryz.f3.params.toList Rows.rescoreStepsSpec.vars false W args.toList ds gs before := hW
  have hW2 := hW'
  obtain ⟨p, q, hA0, hV, rfl, hfz, hnd⟩ := hW2
  have hA : DataW.TrodAll enc Tryz.prog W 0 (fun _ => true) true Tryz.f3.params.toList args.toList ds p := hA0
  rw [Tryz.params3] at hA hval
  obtain ⟨v0, vs0, d0, ds0, p0, q0, hargs, rfl, rfl, h0, r0⟩ := trodAll_cons hA
  obtain ⟨v1, vs1, d1, ds1, p1, q1, rfl, rfl, rfl, h1, r1⟩ := trodAll_cons r0
  obtain ⟨v2, vs2, d2, ds2, p2, q2, rfl, rfl, rfl, h2, r2⟩ := trodAll_cons r1
  obtain ⟨rfl, rfl, rfl⟩ := trodAll_nil r2
  obtain rfl : args = #[v0, v1, v2] := by cases args; simp_all
  obtain ⟨rfl, rfl⟩ := trodVars_none hV
  obtain ⟨mx, hmx⟩ := Go.Proofs.cell_of_shapedOpen_int (g := 0) (zero := #[.int .i64 0]) (t := 3) hsh (by decide +kernel) (by kernel_rfl) (by decide) (by kernel_rfl) (by kernel_rfl) Tryz.underlying3
  have hsz : (DataW.weightsEach Tryz.prog (Tryz.f3.params.toList ++ Rows.rescoreStepsSpec.plain.varTypes Tryz.prog) _).all (· ≤ reachBytes) = true := hsz0
  rw [Tryz.params3] at hsz
  obtain ⟨A_0, c_0, l_0, rfl, s_0, k_0, -, y_0⟩ := items_open (hval 0 22 v0 rfl rfl) h0 (light_arg hsz (j := 0) rfl rfl)
  have b_0 : l_0.length ≤ 9223372036854775807 := by omega
  obtain ⟨A_1, c_1, l_1, rfl, s_1, k_1, -, y_1⟩ := answers_open (hval 1 23 v1 rfl rfl) h1 (light_arg hsz (j := 1) rfl rfl)
  have b_1 : l_1.length ≤ 9223372036854775807 := by omega
  obtain ⟨A_2, c_2, l_2, rfl, s_2, -, k_2, -, y_2⟩ := steps_open (hval 2 24 v2 rfl rfl) h2 (light_arg hsz (j := 2) rfl rfl)
  have b_2 : l_2.length ≤ 9223372036854775807 := by omega
  refine (rescoreSteps_walk A_0 c_0 l_0 A_1 c_1 l_1 A_2 c_2 l_2 rfl rfl rfl W s_0 s_1 s_2 b_0 b_1 (by omega) ⟨mx, hmx⟩).mono fun e W' ⟨he, hw⟩ => ?_
  subst he
  exact ⟨_, rfl, law_post (s := Rows.rescoreStepsSpec) hW' Tryz.laidOut (by kernel_rfl) rfl (by rfl) rfl Tryz.underlying4 hw⟩

theorem rescoreSteps_holds : Rows.RescoreStepsSaid :=
  OpenClaim.holds_of_cond 3 Tryz.f3 rfl rfl rfl rfl rfl rfl rfl ⟨rfl, rfl, rfl, rfl, rfl⟩ rfl rfl rfl rfl rfl (by kernel_rfl) Tryz.func3 (by kernel_rfl)
    (of_decide_eq_true (by kernel_rfl)) (by unfold Func.isWrapper; first | (rw [if_pos (by decide +kernel)]; kernel_rfl) | (rw [if_neg (by decide +kernel)]; exact ⟨rfl, rfl⟩))
    (fun os started H enc _ F => by rw [OpenClaim.pre_eq_preRow]; exact rescoreSteps_lifted os started H enc F)
theorem rescoreSteps_card : Rows.RescoreStepsCardSaid :=
  Claim7.holds_tied_plain_at .later [] _ _ _ _
    rescoreSteps_holds (fun _ h => by cases h) (by kernel_rfl) (fun _ h => by cases h) rescoreSteps_row_tie rfl ⟨rfl, rfl⟩ (by kernel_rfl) rfl
    (fun f fn hf hfn => by
      obtain rfl : f = 3 := Option.some.inj ((show Tryz.prog.funcNamed Rows.rescoreStepsRow.func = some 3 by kernel_rfl).symm.trans hf) |>.symm
      obtain rfl : fn = Tryz.f3 := (Option.some.inj (Tryz.func3.symm.trans hfn)).symm
      exact ⟨by kernel_rfl, fun j t ht => by
        rw [Tryz.params3] at ht
        have hm : t ∈ [22, 23, 24] := by simpa using Array.mem_of_getElem? ht
        have hall : ([22, 23, 24].all fun u => !Tryz.prog.wantsStandIn u) = true := by kernel_rfl
        exact (show Tryz.prog.wantsStandIn t = false by simpa using List.all_eq_true.1 hall t hm)⟩)
    (by kernel_rfl)
#print axioms rescoreSteps_card
end Go.Proofs.YtgaepmddbjdhfaaGreatDoor
