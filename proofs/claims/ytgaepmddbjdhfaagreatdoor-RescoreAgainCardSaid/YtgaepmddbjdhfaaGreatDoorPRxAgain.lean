/- RescoreAgain: for all items, answers and steps the law returns true. Conditions: the library's variables lie as the row says. -/
import Derived.Test.YtgaepmddbjdhfaaGreatDoorP35
import Derived.Test.YtgaepmddbjdhfaaGreatDoorP29
import Derived.Test.YtgaepmddbjdhfaaGreatDoorP37
namespace Go.Proofs.YtgaepmddbjdhfaaGreatDoor
open Go.ChangeShapes Go.WideShapes Go.ChangeAt Go.RowKit
theorem RetCh.empty {er : Int} {e : Ending} {w : World} (h : Rt.RetCh er [] e w) : ∃ (A : Option Addr) (c : Nat), e = .returned (.tuple #[.slice A 0 c, .int .i64 er]) := by
  obtain ⟨A, c, h, -⟩ := h
  exact ⟨A, c, h⟩
set_option maxRecDepth 100000 in
set_option maxHeartbeats 12800000 in
theorem rescoreAgain_walk (A : Option Addr) (c : Nat) (xs : List Rt.ItL) (A2 : Option Addr) (c2 : Nat) (al : List Rt.AnL) (A3 : Option Addr) (c3 : Nat) (ss : List Rs.Stp) {n m s : Nat} (hn : xs.length = n) (hm : al.length = m) (hs : ss.length = s) (w : World) (h : Rt.SlIt w A xs) (h2 : Rt.SlAn w A2 al) (h3 : Rt.SlSt w A3 ss) (hl : n ≤ 9223372036854775807) (hl2 : m ≤ 9223372036854775807) (hl3 : s * 8 ≤ 140737488355328) (hg : Gm w) :
    Calls Tryz.prog 7 #[.slice A n c, .slice A2 m c2, .slice A3 s c3] w fun e w' => e = .returned (.bool true) ∧ Ext w w' := by
  have hs63 : s ≤ 9223372036854775807 := by omega
  have K1 := Lib.hid (fun w h h2 h3 hg => ksteps_any A c xs A2 c2 al A3 c3 ss hn hm hs w h h2 h3 hl hl2 hs63 hg)
  have K2 := Lib.hid (fun A3 c3 ss w (h : Rt.SlIt w A xs) (h2 : Rt.SlAn w A2 al) h3 hs63 hg => ksteps_any A c xs A2 c2 al A3 c3 ss hn hm rfl w h h2 h3 hl hl2 hs63 hg)
  have K3 := Lib.hid (fun w h h' h3 hg => affected_any A A c c xs xs A2 c2 al hn hn hm w h h' h3 hl hl hl2 hg)
  obtain ⟨er, h_er⟩ : ∃ q, Rs.stsE (Rt.its xs) (Rt.ans al) ss = q := ⟨_, rfl⟩
  have HLW : Hid (er = 0 → _) := Lib.hid (fun h => Rs.again_law (its := Rt.its xs) (an := Rt.ans al) (ss := ss) (h_er.trans h))
  obtain ⟨l, h_l⟩ : ∃ q, Rs.stsL (Rt.its xs) (Rt.ans al) ss = q := ⟨_, rfl⟩
  rw [h_er, h_l] at K1
  rw [h_l] at HLW
  unfold Rt.RetSt at K1
  have HL18 : Hid (er = 0 → l.length ≤ 18) := Lib.hid (fun h => by
    obtain ⟨q1, q2, -, -, q5⟩ := Rs.stsE_parts (h_er.trans h)
    rw [← h_l, q5, Rs.stsV_len q2]
    exact q1)
  have HG : Hid (∀ w', Ext w w' → Gm w') := Lib.hid (fun w' he => hg.ext he)
  have H := Lib.hid h
  have H2 := Lib.hid h2
  have H3 := Lib.hid h3
  clear h_er h_l h h2 h3 hg hn hm hs hl hl2 hl3
  go_enter Tryz.func7, Tryz.ntmps7
  have X_0 := Lib.hid (Ext.refl w)
  go_wp2_with fail
  with_reducible refine (K1.out w H.out H2.out H3.out (HG.out _ X_0.out)).mono ?_
  rintro e w1 ⟨⟨A4, c4, rfl, hs4, -, -⟩, hb⟩
  have H_1 := Lib.hid (H.out.ext hb)
  have H2_1 := Lib.hid (H2.out.ext hb)
  have H3_1 := Lib.hid (H3.out.ext hb)
  clear H H2 H3
  have X_1 := Lib.hid (X_0.out.trans hb)
  clear X_0
  have S4_1 := Lib.hid (hs4)
  clear hb hs4
  rcases Classical.em (er = 0) with h0 | h0
  · have t0 : (er != 0) = false := by rw [h0]; rfl
    obtain ⟨a1, a2, a3, a4⟩ := HLW.out h0
    have hL := HL18.out h0
    subst h0
    have hK := K2.out A4 c4 l w1 H_1.out H2_1.out S4_1.out (by omega) (HG.out _ X_1.out)
    rw [a1, a2] at hK
    unfold Rt.RetSt at hK
    have HK := Lib.hid hK
    rw [a3, a4] at K3
    clear hK a1 a2 a3 a4 HLW
    go_wp2_with fail
    with_reducible refine (HK.out).mono ?_
    rintro e w2 ⟨⟨A5, c5, rfl, hs5, -, -⟩, hb⟩
    have H_2 := Lib.hid (H_1.out.ext hb)
    have H2_2 := Lib.hid (H2_1.out.ext hb)
    have H3_2 := Lib.hid (H3_1.out.ext hb)
    have S4_2 := Lib.hid (S4_1.out.ext hb)
    clear H_1 H2_1 H3_1 S4_1
    have X_2 := Lib.hid (X_1.out.trans hb)
    clear X_1
    have S5_2 := Lib.hid (hs5)
    clear hb hs5
    have hK := kchanged_any A4 A5 c4 c5 l l rfl rfl w2 S4_2.out S5_2.out (by omega) (by omega) (by omega)
    rw [Rs.chdE_self, Rs.chdL_self] at hK
    clear HK
    have HK := Lib.hid (hK.mono fun e w' h => And.intro (RetCh.empty h.1) h.2)
    clear hK
    go_wp2_with fail
    with_reducible refine (HK.out).mono ?_
    rintro e w3 ⟨⟨A6, c6, rfl⟩, hb⟩
    have H_3 := Lib.hid (H_2.out.ext hb)
    have H2_3 := Lib.hid (H2_2.out.ext hb)
    have H3_3 := Lib.hid (H3_2.out.ext hb)
    have S4_3 := Lib.hid (S4_2.out.ext hb)
    have S5_3 := Lib.hid (S5_2.out.ext hb)
    clear H_2 H2_2 H3_2 S4_2 S5_2
    have X_3 := Lib.hid (X_2.out.trans hb)
    clear X_2
    clear hb
    go_wp2_with fail
    with_reducible refine (K3.out w3 H_3.out H_3.out H2_3.out (HG.out _ X_3.out)).mono ?_
    rintro e w4 ⟨rfl, hb⟩
    have H_4 := Lib.hid (H_3.out.ext hb)
    have H2_4 := Lib.hid (H2_3.out.ext hb)
    have H3_4 := Lib.hid (H3_3.out.ext hb)
    have S4_4 := Lib.hid (S4_3.out.ext hb)
    have S5_4 := Lib.hid (S5_3.out.ext hb)
    clear H_3 H2_3 H3_3 S4_3 S5_3
    have X_4 := Lib.hid (X_3.out.trans hb)
    clear X_3
    clear hb
    go_wp2_with fail
    with_reducible refine (same_eq (n := l.length) A4 A5 c4 c5 l rfl w4 S4_4.out S5_4.out (by omega)).mono ?_
    rintro e w5 ⟨rfl, hb⟩
    have H_5 := Lib.hid (H_4.out.ext hb)
    have H2_5 := Lib.hid (H2_4.out.ext hb)
    have H3_5 := Lib.hid (H3_4.out.ext hb)
    have S4_5 := Lib.hid (S4_4.out.ext hb)
    have S5_5 := Lib.hid (S5_4.out.ext hb)
    clear H_4 H2_4 H3_4 S4_4 S5_4
    have X_5 := Lib.hid (X_4.out.trans hb)
    clear X_4
    clear hb
    go_wp2_with fail
    with_reducible refine (awake_any w5 (fun w' he => HG.out _ (X_5.out.trans he))).mono ?_
    rintro e w6 ⟨rfl, hb⟩
    have XL := Lib.hid (X_5.out.trans hb)
    clear hb
    go_wp2
    go_ret
    exact ⟨rfl, XL.out⟩
  · have t0 : (er != 0) = true := by rw [bne_iff_ne]; exact h0
    go_wp2_with fail
    with_reducible refine (awake_any w1 (fun w' he => HG.out _ (X_1.out.trans he))).mono ?_
    rintro e w2 ⟨rfl, hb⟩
    have XL := Lib.hid (X_1.out.trans hb)
    clear hb
    go_wp2
    go_ret
    exact ⟨rfl, XL.out⟩
theorem rescoreAgain_laid (os : Os) : laidMet Tryz.prog Rows.rescoreAgainRow.laid ((laidW os).forCall (fun _ _ => 0) ⟨#[], #[.slice none 0 0, .slice none 0 0, .slice none 0 0], []⟩).memory :=
  laidMet_of_run' 8 (by kernel_rfl) (by kernel_rfl)
theorem rescoreAgain_reads (os : Os) {H : Type} (enc : TypeId × Value → H) : ∃ places, DataW.whole enc Tryz.prog ((laidW os).forCall (fun _ _ => 0) ⟨#[], #[.slice none 0 0, .slice none 0 0, .slice none 0 0], []⟩).memory Tryz.f7.params.toList Rows.rescoreAgainSpec.vars false (#[.slice none 0 0, .slice none 0 0, .slice none 0 0] : Array Value).toList 8 = some ([.nil, .nil, .nil], [], places) :=
  ⟨[], by kernel_rfl⟩
set_option maxRecDepth 100000 in
theorem rescoreAgain_lifted (os : Os) (started : os.Started) (H : Type) (enc : TypeId × Value → H) (F : Stop.Interp) :
    ReturnsInHanded {} Tryz.checked os 7 .any ((OpenSpec.ofChange Rows.rescoreAgainSpec).preRow enc Tryz.prog Tryz.f7 Rows.rescoreAgainRow.domain false Rows.rescoreAgainRow.laid) (((OpenSpec.ofChange Rows.rescoreAgainSpec).at F).post enc Tryz.prog Tryz.f7 false true false false) := by
  obtain ⟨places, hx⟩ := rescoreAgain_reads os enc
  refine returnsInHanded_of_row (C := Tryz.checked) (s := (OpenSpec.ofChange Rows.rescoreAgainSpec)) Tryz.own started (by kernel_rfl) Tryz.func7
    (witness_row_at (enc := enc) (C := Tryz.checked) false (laidW os) #[.slice none 0 0, .slice none 0 0, .slice none 0 0] rfl (by kernel_rfl) (by kernel_rfl) (by kernel_rfl)
      (OpenSpec.preRow_of_cond 8 hx (by kernel_rfl) (fun k hk => by cases hk) (by kernel_rfl) (rescoreAgain_laid os))) ?_
  intro W base args ds gs before hval0 hW _ hcond hsz0 hL hsh _
  have hval : ∀ (j : Nat) t v, Tryz.f7.params[j]? = some t → args[j]? = some v → Value.okWide Tryz.prog W .any base t v := hval0
  have hW' : DataW.Whole enc Tryz.prog Tryz.f7.params.toList Rows.rescoreAgainSpec.vars false W args.toList ds gs before := hW
  have hW2 := hW'
  obtain ⟨p, q, hA0, hV, rfl, hfz, hnd⟩ := hW2
  have hA : DataW.TrodAll enc Tryz.prog W 0 (fun _ => true) true Tryz.f7.params.toList args.toList ds p := hA0
  rw [Tryz.params7] at hA hval
  obtain ⟨v0, vs0, d0, ds0, p0, q0, hargs, rfl, rfl, h0, r0⟩ := trodAll_cons hA
  obtain ⟨v1, vs1, d1, ds1, p1, q1, rfl, rfl, rfl, h1, r1⟩ := trodAll_cons r0
  obtain ⟨v2, vs2, d2, ds2, p2, q2, rfl, rfl, rfl, h2, r2⟩ := trodAll_cons r1
  obtain ⟨rfl, rfl, rfl⟩ := trodAll_nil r2
  obtain rfl : args = #[v0, v1, v2] := by cases args; simp_all
  obtain ⟨rfl, rfl⟩ := trodVars_none hV
  obtain ⟨mx, hmx⟩ := Go.Proofs.cell_of_shapedOpen_int (g := 0) (zero := #[.int .i64 0]) (t := 3) hsh (by decide +kernel) (by kernel_rfl) (by decide) (by kernel_rfl) (by kernel_rfl) Tryz.underlying3
  have hsz : (DataW.weightsEach Tryz.prog (Tryz.f7.params.toList ++ Rows.rescoreAgainSpec.plain.varTypes Tryz.prog) _).all (· ≤ reachBytes) = true := hsz0
  rw [Tryz.params7] at hsz
  obtain ⟨A_0, c_0, l_0, rfl, s_0, k_0, -, y_0⟩ := items_open (hval 0 22 v0 rfl rfl) h0 (light_arg hsz (j := 0) rfl rfl)
  have b_0 : l_0.length ≤ 9223372036854775807 := by omega
  obtain ⟨A_1, c_1, l_1, rfl, s_1, k_1, -, y_1⟩ := answers_open (hval 1 23 v1 rfl rfl) h1 (light_arg hsz (j := 1) rfl rfl)
  have b_1 : l_1.length ≤ 9223372036854775807 := by omega
  obtain ⟨A_2, c_2, l_2, rfl, s_2, -, k_2, -, y_2⟩ := steps_open (hval 2 24 v2 rfl rfl) h2 (light_arg hsz (j := 2) rfl rfl)
  have b_2 : l_2.length ≤ 9223372036854775807 := by omega
  refine (rescoreAgain_walk A_0 c_0 l_0 A_1 c_1 l_1 A_2 c_2 l_2 rfl rfl rfl W s_0 s_1 s_2 b_0 b_1 (by omega) ⟨mx, hmx⟩).mono fun e W' ⟨he, hw⟩ => ?_
  subst he
  exact ⟨_, rfl, law_post (s := Rows.rescoreAgainSpec) hW' Tryz.laidOut (by kernel_rfl) rfl (by rfl) rfl Tryz.underlying4 hw⟩

theorem rescoreAgain_holds : Rows.RescoreAgainSaid :=
  OpenClaim.holds_of_cond 7 Tryz.f7 rfl rfl rfl rfl rfl rfl rfl ⟨rfl, rfl, rfl, rfl, rfl⟩ rfl rfl rfl rfl rfl (by kernel_rfl) Tryz.func7 (by kernel_rfl)
    (of_decide_eq_true (by kernel_rfl)) (by unfold Func.isWrapper; first | (rw [if_pos (by decide +kernel)]; kernel_rfl) | (rw [if_neg (by decide +kernel)]; exact ⟨rfl, rfl⟩))
    (fun os started H enc _ F => by rw [OpenClaim.pre_eq_preRow]; exact rescoreAgain_lifted os started H enc F)
theorem rescoreAgain_card : Rows.RescoreAgainCardSaid :=
  Claim7.holds_tied_plain_at .later [] _ _ _ _
    rescoreAgain_holds (fun _ h => by cases h) (by kernel_rfl) (fun _ h => by cases h) rescoreAgain_row_tie rfl ⟨rfl, rfl⟩ (by kernel_rfl) rfl
    (fun f fn hf hfn => by
      obtain rfl : f = 7 := Option.some.inj ((show Tryz.prog.funcNamed Rows.rescoreAgainRow.func = some 7 by kernel_rfl).symm.trans hf) |>.symm
      obtain rfl : fn = Tryz.f7 := (Option.some.inj (Tryz.func7.symm.trans hfn)).symm
      exact ⟨by kernel_rfl, fun j t ht => by
        rw [Tryz.params7] at ht
        have hm : t ∈ [22, 23, 24] := by simpa using Array.mem_of_getElem? ht
        have hall : ([22, 23, 24].all fun u => !Tryz.prog.wantsStandIn u) = true := by kernel_rfl
        exact (show Tryz.prog.wantsStandIn t = false by simpa using List.all_eq_true.1 hall t hm)⟩)
    (by kernel_rfl)
#print axioms rescoreAgain_card
end Go.Proofs.YtgaepmddbjdhfaaGreatDoor
