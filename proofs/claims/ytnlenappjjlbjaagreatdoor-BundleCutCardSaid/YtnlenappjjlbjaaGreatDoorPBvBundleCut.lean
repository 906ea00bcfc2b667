/- BundleCut: for all keys, sessions, items and lengths the law returns true. Conditions: the library's variables lie as the row says. -/
import Derived.Test.YtnlenappjjlbjaaGreatDoorP38
namespace Go.Proofs.YtnlenappjjlbjaaGreatDoor
open Go.ChangeShapes Go.WideShapes Go.ChangeAt Go.RowKit Go.Shelf
set_option maxRecDepth 100000 in
set_option maxHeartbeats 51200000 in
theorem bundleCut_walk (key : Int) (hkey : Bu.U64 key) (nonce : Int) (hnonce : Bu.U64 nonce) (ses : Int) (A2 : Option Addr) (c2 : Nat) (xs : List Rt.ItL) {k : Nat} (hk : xs.length = k) (hl2 : k ≤ 9223372036854775807) (cut : Int) (hcut : 0 ≤ cut ∧ cut < 65536) (w : World) (h2 : Rt.SlIt w A2 xs) (hg : Gm w) :
    Calls Tryz.prog 8 #[.int .u64 key, .int .u64 nonce, .int .i64 ses, .slice A2 k c2, .int .u16 cut] w fun e w' => e = .returned (.bool true) ∧ Ext w w' := by
  have HG : Hid (∀ w', Ext w w' → Gm w') := Lib.hid (fun w' he => hg.ext he)
  clear hg
  obtain ⟨j, rfl⟩ := Int.eq_ofNat_of_zero_le hcut.1
  have hj : j < 65536 := by have := hcut.2; omega
  clear hcut
  obtain ⟨B, h_B⟩ : ∃ q, Bu.buildB key nonce ses (Rt.its xs) = q := ⟨_, rfl⟩
  obtain ⟨er, h_er⟩ : ∃ q, Bu.buildE ses (Rt.its xs) = q := ⟨_, rfl⟩
  obtain ⟨nb, h_nb⟩ : ∃ q, B.length = q := ⟨_, rfl⟩
  have K1 := Lib.hid (fun W h hg => (bbuild_any key nonce ses hkey hnonce A2 c2 xs hk W h hl2 hg).mono fun e w' h => And.intro (BldP.use h.1 h_B h_er h_nb) h.2)
  have HNB := Lib.hid h_nb
  have HER := Lib.hid h_er
  have HOK : Hid (∀ it ∈ Rt.its xs, It.Ok it) := Lib.hid (fun it hi => by
    obtain ⟨y, hy, rfl⟩ := List.mem_map.1 hi
    exact (h2.2 y hy).ok)
  have HXK := Lib.hid hk
  have HKEY := Lib.hid hkey
  have HNON := Lib.hid hnonce
  have HBU : Hid (er = 0 → B = Bu.bundB key nonce ses (Rt.its xs) ∧ Bu.buildE ses (Rt.its xs) = 0) := Lib.hid (fun h0 => by
    rw [h0] at h_er
    refine ⟨?_, h_er⟩
    rw [← h_B]
    unfold Bu.buildB
    rw [h_er, if_pos rfl])
  have HB0 : Hid (er ≠ 0 → nb = 0) := Lib.hid (fun h0 => by
    rw [← h_nb, ← h_B]
    unfold Bu.buildB
    rw [h_er, if_neg h0]
    rfl)
  have HBL : Hid (er = 0 → nb ≤ 1048612 ∧ 36 ≤ nb) := Lib.hid (fun h0 => by
    obtain ⟨e1, e2⟩ := HBU.out h0
    have e3 := (Bu.fits_treeB HOK.out (Bu.buildE_parts e2).2.2).2
    rw [← h_nb, e1, Bu.bund_len]
    omega)
  have H2 := Lib.hid h2
  have HI0 := Lib.hid h2
  clear h2 h_B h_er h_nb hkey hnonce hk
  go_enter Tryz.func8, Tryz.ntmps8
  have X_0 := Lib.hid (Ext.refl w)
  go_wp2_with fail
  with_reducible refine (K1.out w H2.out (fun w' hx => HG.out w' (X_0.out.trans hx))).mono ?_
  rintro e w1 ⟨⟨A4, c4, rfl, hs4, hc4⟩, hb⟩
  have HI_1 := Lib.hid (H2.out.ext hb)
  clear H2
  have X_1 := Lib.hid (X_0.out.trans hb)
  clear X_0
  have S4_1 := Lib.hid (hs4)
  clear hb hs4
  clear K1
  rcases Classical.em (er = 0) with h0 | h0
  · have t0 : (er != 0) = false := by rw [h0]; rfl
    subst h0
    obtain ⟨e1, e2⟩ := HBU.out (by first | rfl | trivial)
    obtain ⟨e3, e4⟩ := HBL.out (by first | rfl | trivial)
    have hBy := Bu.bund_byt (k := key) (n := nonce) e2 HOK.out
    rw [← e1] at hBy
    by_cases hlt : nb ≤ j
    · have hlt' : (nb : Int) ≤ (j : Int) := by omega
      have t9 : decide ((nb : Int) ≤ (j : Int)) = true := decide_eq_true hlt'
      go_wp2_with fail
      with_reducible refine (awake_any w1 (fun w' he => HG.out _ (X_1.out.trans he))).mono ?_
      rintro e w2 ⟨rfl, hb⟩
      have XL := Lib.hid (X_1.out.trans hb)
      clear hb
      go_wp2
      go_ret
      exact ⟨rfl, XL.out⟩
    · have hlt' : ¬ (nb : Int) ≤ (j : Int) := by omega
      have t9 : decide ((nb : Int) ≤ (j : Int)) = false := decide_eq_false hlt'
      have hcu := Bu.cut_open (k := key) e2 HOK.out HNON.out (m := j) (by rw [← e1, HNB.out]; omega)
      rw [← e1] at hcu
      obtain ⟨e9, he9⟩ : ∃ q, (Bu.opnR key (B.take j)).1 = q := ⟨_, rfl⟩
      obtain ⟨s9, hs9⟩ : ∃ q, Bu.opnS key (B.take j) = q := ⟨_, rfl⟩
      have hr9 : Bu.opnR key (B.take j) = (e9, []) := by rw [← he9, ← hcu.1]
      have hor : e9 = 4 ∨ e9 = 12 := by rw [← he9]; exact hcu.2
      have hjc : (j : Int) ≤ (c4 : Int) := by omega
      have K3 := Lib.hid ((bopen_any key HKEY.out A4 c4 (B.take j) (n := j) (by rw [List.length_take, HNB.out]; omega) (by omega) (hBy.take j) (by omega) w1 (SlU.take1 S4_1.out j) (fun w' hx => HG.out w' (X_1.out.trans hx))).mono fun e w' h => And.intro (RetO.use h.1 hr9 hs9 (show ([] : List It.Item).length = 0 from rfl)) h.2)
      clear hcu he9 hs9 hr9 e1 e2 hBy
      go_wp2_with fail
      with_reducible refine (K3.out).mono ?_
      rintro e w2 ⟨⟨A6, c6, ys, rfl, -, -⟩, hb⟩
      have HI_2 := Lib.hid (HI_1.out.ext hb)
      have S4_2 := Lib.hid (S4_1.out.ext hb)
      clear HI_1 S4_1
      have X_2 := Lib.hid (X_1.out.trans hb)
      clear X_1
      clear hb
      clear K3
      rcases hor with rfl | rfl
      · skip
        go_wp2_with fail
        with_reducible refine (awake_any w2 (fun w' he => HG.out _ (X_2.out.trans he))).mono ?_
        rintro e w3 ⟨rfl, hb⟩
        have XL := Lib.hid (X_2.out.trans hb)
        clear hb
        go_wp2
        go_ret
        exact ⟨rfl, XL.out⟩
      · skip
        go_wp2_with fail
        with_reducible refine (awake_any w2 (fun w' he => HG.out _ (X_2.out.trans he))).mono ?_
        rintro e w3 ⟨rfl, hb⟩
        have XL := Lib.hid (X_2.out.trans hb)
        clear hb
        go_wp2
        go_ret
        exact ⟨rfl, XL.out⟩
  · have t0 : (er != 0) = true := by rw [bne_iff_ne]; exact h0
    obtain rfl := HB0.out h0
    go_wp2_with fail
    with_reducible refine (awake_any w1 (fun w' he => HG.out _ (X_1.out.trans he))).mono ?_
    rintro e w2 ⟨rfl, hb⟩
    have XL := Lib.hid (X_1.out.trans hb)
    clear hb
    go_wp2
    go_ret
    exact ⟨rfl, XL.out⟩
theorem bundleCut_laid (os : Os) : laidMet Tryz.prog Rows.bundleCutRow.laid ((laidW os).forCall (fun _ _ => 0) ⟨#[], #[.int .u64 0, .int .u64 0, .int .i64 0, .slice none 0 0, .int .u16 0], []⟩).memory :=
  laidMet_of_run' 8 (by kernel_rfl) (by kernel_rfl)
theorem bundleCut_reads (os : Os) {H : Type} (enc : TypeId × Value → H) : ∃ places, DataW.whole enc Tryz.prog ((laidW os).forCall (fun _ _ => 0) ⟨#[], #[.int .u64 0, .int .u64 0, .int .i64 0, .slice none 0 0, .int .u16 0], []⟩).memory Tryz.f8.params.toList Rows.bundleCutSpec.vars false (#[.int .u64 0, .int .u64 0, .int .i64 0, .slice none 0 0, .int .u16 0] : Array Value).toList 8 = some ([.lit (.int .u64 0), .lit (.int .u64 0), .lit (.int .i64 0), .nil, .lit (.int .u16 0)], [], places) :=
  ⟨[], by kernel_rfl⟩
set_option maxRecDepth 100000 in
theorem bundleCut_lifted (os : Os) (started : os.Started) (H : Type) (enc : TypeId × Value → H) (F : Stop.Interp) :
    ReturnsInHanded {} Tryz.checked os 8 .any ((OpenSpec.ofChange Rows.bundleCutSpec).preRow enc Tryz.prog Tryz.f8 Rows.bundleCutRow.domain false Rows.bundleCutRow.laid) (((OpenSpec.ofChange Rows.bundleCutSpec).at F).post enc Tryz.prog Tryz.f8 false true false false) := by
  obtain ⟨places, hx⟩ := bundleCut_reads os enc
  refine returnsInHanded_of_row (C := Tryz.checked) (s := (OpenSpec.ofChange Rows.bundleCutSpec)) Tryz.own started (by kernel_rfl) Tryz.func8
    (witness_row_at (enc := enc) (C := Tryz.checked) false (laidW os) #[.int .u64 0, .int .u64 0, .int .i64 0, .slice none 0 0, .int .u16 0] rfl (by kernel_rfl) (by kernel_rfl) (by kernel_rfl)
      (OpenSpec.preRow_of_cond 8 hx (by kernel_rfl) (fun k hk => by cases hk) (by kernel_rfl) (bundleCut_laid os))) ?_
  intro W base args ds gs before hval0 hW _ hcond hsz0 hL hsh _
  have hval : ∀ (j : Nat) t v, Tryz.f8.params[j]? = some t → args[j]? = some v → Value.okWide Tryz.prog W .any base t v := hval0
  have hW' : DataW.Whole enc Tryz.prog Tryz.f8.params.toList Rows.bundleCutSpec.vars false W args.toList ds gs before := hW
  have hW2 := hW'
  obtain ⟨p, q, hA0, hV, rfl, hfz, hnd⟩ := hW2
  have hA : DataW.TrodAll enc Tryz.prog W 0 (fun _ => true) true Tryz.f8.params.toList args.toList ds p := hA0
  rw [Tryz.params8] at hA hval
  obtain ⟨v0, vs0, d0, ds0, p0, q0, hargs, rfl, rfl, h0, r0⟩ := trodAll_cons hA
  obtain ⟨v1, vs1, d1, ds1, p1, q1, rfl, rfl, rfl, h1, r1⟩ := trodAll_cons r0
  obtain ⟨v2, vs2, d2, ds2, p2, q2, rfl, rfl, rfl, h2, r2⟩ := trodAll_cons r1
  obtain ⟨v3, vs3, d3, ds3, p3, q3, rfl, rfl, rfl, h3, r3⟩ := trodAll_cons r2
  obtain ⟨v4, vs4, d4, ds4, p4, q4, rfl, rfl, rfl, h4, r4⟩ := trodAll_cons r3
  obtain ⟨rfl, rfl, rfl⟩ := trodAll_nil r4
  obtain rfl : args = #[v0, v1, v2, v3, v4] := by cases args; simp_all
  obtain ⟨rfl, rfl⟩ := trodVars_none hV
  obtain ⟨mx, hmx⟩ := Go.Proofs.cell_of_shapedOpen_int (g := 0) (zero := #[.int .i64 0]) (t := 3) hsh (by decide +kernel) (by kernel_rfl) (by decide) (by kernel_rfl) (by kernel_rfl) Tryz.underlying3
  have hsz : (DataW.weightsEach Tryz.prog (Tryz.f8.params.toList ++ Rows.bundleCutSpec.plain.varTypes Tryz.prog) _).all (· ≤ reachBytes) = true := hsz0
  rw [Tryz.params8] at hsz
  obtain ⟨x_0, rfl, hd_0, -, wf_0⟩ := open_int Tryz.underlying22 (hval 0 22 v0 rfl rfl) h0
  obtain ⟨x_1, rfl, hd_1, -, wf_1⟩ := open_int Tryz.underlying22 (hval 1 22 v1 rfl rfl) h1
  obtain ⟨x_2, rfl, hd_2, -, wf_2⟩ := open_int Tryz.underlying3 (hval 2 3 v2 rfl rfl) h2
  obtain ⟨A_3, c_3, l_3, rfl, s_3, k_3, -, y_3⟩ := items_open (hval 3 23 v3 rfl rfl) h3 (light_arg hsz (j := 3) rfl rfl)
  have b_3 : l_3.length ≤ 9223372036854775807 := by omega
  obtain ⟨x_4, rfl, hd_4, -, wf_4⟩ := open_int Tryz.underlying47 (hval 4 47 v4 rfl rfl) h4
  refine (bundleCut_walk x_0 (u64_wf wf_0) x_1 (u64_wf wf_1) x_2 A_3 c_3 l_3 rfl b_3 x_4 (u16_wf wf_4) W s_3 ⟨mx, hmx⟩).mono fun e W' ⟨he, hw⟩ => ?_
  subst he
  exact ⟨_, rfl, law_post (s := Rows.bundleCutSpec) hW' Tryz.laidOut (by kernel_rfl) rfl (by rfl) rfl Tryz.underlying4 hw⟩

theorem bundleCut_holds : Rows.BundleCutSaid :=
  OpenClaim.holds_of_cond 8 Tryz.f8 rfl rfl rfl rfl rfl rfl rfl ⟨rfl, rfl, rfl, rfl, rfl⟩ rfl rfl rfl rfl rfl (by kernel_rfl) Tryz.func8 (by kernel_rfl)
    (of_decide_eq_true (by kernel_rfl)) (by unfold Func.isWrapper; first | (rw [if_pos (by decide +kernel)]; kernel_rfl) | (rw [if_neg (by decide +kernel)]; exact ⟨rfl, rfl⟩))
    (fun os started H enc _ F => by rw [OpenClaim.pre_eq_preRow]; exact bundleCut_lifted os started H enc F)
theorem bundleCut_card : Rows.BundleCutCardSaid :=
  Claim7.holds_tied_plain_at .later [] _ _ _ _
    bundleCut_holds (fun _ h => by cases h) (by kernel_rfl) (fun _ h => by cases h) bundleCut_row_tie rfl ⟨rfl, rfl⟩ (by kernel_rfl) rfl
    (fun f fn hf hfn => by
      obtain rfl : f = 8 := Option.some.inj ((show Tryz.prog.funcNamed Rows.bundleCutRow.func = some 8 by kernel_rfl).symm.trans hf) |>.symm
      obtain rfl : fn = Tryz.f8 := (Option.some.inj (Tryz.func8.symm.trans hfn)).symm
      exact ⟨by kernel_rfl, fun j t ht => by
        rw [Tryz.params8] at ht
        have hm : t ∈ [22, 3, 23, 47] := by simpa using Array.mem_of_getElem? ht
        have hall : ([22, 3, 23, 47].all fun u => !Tryz.prog.wantsStandIn u) = true := by kernel_rfl
        exact (show Tryz.prog.wantsStandIn t = false by simpa using List.all_eq_true.1 hall t hm)⟩)
    (by kernel_rfl)
#print axioms bundleCut_card
end Go.Proofs.YtnlenappjjlbjaaGreatDoor
