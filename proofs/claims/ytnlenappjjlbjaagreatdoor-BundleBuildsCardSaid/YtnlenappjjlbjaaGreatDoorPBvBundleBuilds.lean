/- BundleBuilds: for all keys, sessions and items the law returns true. Conditions: the library's variables lie as the row says. -/
import Derived.Test.YtnlenappjjlbjaaGreatDoorP38
namespace Go.Proofs.YtnlenappjjlbjaaGreatDoor
open Go.ChangeShapes Go.WideShapes Go.ChangeAt Go.RowKit Go.Shelf
set_option maxRecDepth 100000 in
set_option maxHeartbeats 25600000 in
theorem bundleBuilds_walk (key : Int) (hkey : Bu.U64 key) (nonce : Int) (hnonce : Bu.U64 nonce) (ses : Int) (A2 : Option Addr) (c2 : Nat) (xs : List Rt.ItL) {k : Nat} (hk : xs.length = k) (hl2 : k ≤ 9223372036854775807) (w : World) (h2 : Rt.SlIt w A2 xs) (hg : Gm w) :
    Calls Tryz.prog 3 #[.int .u64 key, .int .u64 nonce, .int .i64 ses, .slice A2 k c2] w fun e w' => e = .returned (.bool true) ∧ Ext w w' := by
  have HG : Hid (∀ w', Ext w w' → Gm w') := Lib.hid (fun w' he => hg.ext he)
  clear hg
  obtain ⟨B, h_B⟩ : ∃ q, Bu.buildB key nonce ses (Rt.its xs) = q := ⟨_, rfl⟩
  obtain ⟨er, h_er⟩ : ∃ q, Bu.buildE ses (Rt.its xs) = q := ⟨_, rfl⟩
  obtain ⟨nb, h_nb⟩ : ∃ q, B.length = q := ⟨_, rfl⟩
  have K1 := Lib.hid (fun W h hg => (bbuild_any key nonce ses hkey hnonce A2 c2 xs hk W h hl2 hg).mono fun e w' h => And.intro (BldP.use h.1 h_B h_er h_nb) h.2)
  have K2 := Lib.hid (fun W h => (rbuild_any key nonce ses hkey hnonce A2 c2 xs hk W h hl2).mono fun e w' h => And.intro (BldP.use h.1 h_B h_er h_nb) h.2)
  have K3 := Lib.hid (fun W h hg => broot_any A2 c2 xs hk W h hl2 hg)
  have K4 := Lib.hid (fun W h => rbroot_any A2 c2 xs hk W h hl2)
  obtain ⟨r2, h_r2⟩ : ∃ q, (if Rs.chkI (Rt.its xs) = 0 then Bu.rootV (Rt.its xs) else 0) = q := ⟨_, rfl⟩
  obtain ⟨e2, h_e2⟩ : ∃ q, Rs.chkI (Rt.its xs) = q := ⟨_, rfl⟩
  rw [h_r2, h_e2] at K3 K4
  have HNB := Lib.hid h_nb
  have t1 : (er != er) = false := by simp
  have t2 : (e2 == e2) = true := by simp
  have t3 : (r2 == r2) = true := by simp
  have t4 : ((Bu.toB B).toList == (Bu.toB B).toList) = true := by simp
  have H2 := Lib.hid h2
  clear h2 h_B h_er h_nb h_r2 h_e2 hkey hnonce hk
  go_enter Tryz.func3, Tryz.ntmps3
  have X_0 := Lib.hid (Ext.refl w)
  go_wp2_with fail
  with_reducible refine (K1.out w H2.out (fun w' hx => HG.out w' (X_0.out.trans hx))).mono ?_
  rintro e w1 ⟨⟨A4, c4, rfl, hs4, -⟩, hb⟩
  have HI_1 := Lib.hid (H2.out.ext hb)
  clear H2
  have X_1 := Lib.hid (X_0.out.trans hb)
  clear X_0
  have S4_1 := Lib.hid (hs4)
  clear hb hs4
  go_wp2_with fail
  with_reducible refine (K2.out w1 HI_1.out).mono ?_
  rintro e w2 ⟨⟨A5, c5, rfl, hs5, -⟩, hb⟩
  have HI_2 := Lib.hid (HI_1.out.ext hb)
  have S4_2 := Lib.hid (S4_1.out.ext hb)
  clear HI_1 S4_1
  have X_2 := Lib.hid (X_1.out.trans hb)
  clear X_1
  have S5_2 := Lib.hid (hs5)
  clear hb hs5
  have hv1 := conv_any w2 A4 nb c4 B HNB.out S4_2.out
  have hv2 := conv_any w2 A5 nb c5 B HNB.out S5_2.out
  go_wp2_with fail
  with_reducible refine (K3.out w2 HI_2.out (fun w' hx => HG.out w' (X_2.out.trans hx))).mono ?_
  rintro e w3 ⟨rfl, hb⟩
  have HI_3 := Lib.hid (HI_2.out.ext hb)
  have S4_3 := Lib.hid (S4_2.out.ext hb)
  have S5_3 := Lib.hid (S5_2.out.ext hb)
  clear HI_2 S4_2 S5_2
  have X_3 := Lib.hid (X_2.out.trans hb)
  clear X_2
  clear hb
  clear hv1 hv2
  go_wp2_with fail
  with_reducible refine (K4.out w3 HI_3.out).mono ?_
  rintro e w4 ⟨rfl, hb⟩
  have HI_4 := Lib.hid (HI_3.out.ext hb)
  have S4_4 := Lib.hid (S4_3.out.ext hb)
  have S5_4 := Lib.hid (S5_3.out.ext hb)
  clear HI_3 S4_3 S5_3
  have X_4 := Lib.hid (X_3.out.trans hb)
  clear X_3
  clear hb
  go_wp2_with fail
  with_reducible refine (awake_any w4 (fun w' he => HG.out _ (X_4.out.trans he))).mono ?_
  rintro e w5 ⟨rfl, hb⟩
  have XL := Lib.hid (X_4.out.trans hb)
  clear hb
  go_wp2
  go_ret
  exact ⟨rfl, XL.out⟩
theorem bundleBuilds_laid (os : Os) : laidMet Tryz.prog Rows.bundleBuildsRow.laid ((laidW os).forCall (fun _ _ => 0) ⟨#[], #[.int .u64 0, .int .u64 0, .int .i64 0, .slice none 0 0], []⟩).memory :=
  laidMet_of_run' 8 (by kernel_rfl) (by kernel_rfl)
theorem bundleBuilds_reads (os : Os) {H : Type} (enc : TypeId × Value → H) : ∃ places, DataW.whole enc Tryz.prog ((laidW os).forCall (fun _ _ => 0) ⟨#[], #[.int .u64 0, .int .u64 0, .int .i64 0, .slice none 0 0], []⟩).memory Tryz.f3.params.toList Rows.bundleBuildsSpec.vars false (#[.int .u64 0, .int .u64 0, .int .i64 0, .slice none 0 0] : Array Value).toList 8 = some ([.lit (.int .u64 0), .lit (.int .u64 0), .lit (.int .i64 0), .nil], [], places) :=
  ⟨[], by kernel_rfl⟩
set_option maxRecDepth 100000 in
theorem bundleBuilds_lifted (os : Os) (started : os.Started) (H : Type) (enc : TypeId × Value → H) (F : Stop.Interp) :
    ReturnsInHanded {} Tryz.checked os 3 .any ((OpenSpec.ofChange Rows.bundleBuildsSpec).preRow enc Tryz.prog Tryz.f3 Rows.bundleBuildsRow.domain false Rows.bundleBuildsRow.laid) (((OpenSpec.ofChange Rows.bundleBuildsSpec).at F).post enc Tryz.prog Tryz.f3 false true false false) := by
  obtain ⟨places, hx⟩ := bundleBuilds_reads os enc
  refine returnsInHanded_of_row (C := Tryz.checked) (s := (OpenSpec.ofChange Rows.bundleBuildsSpec)) Tryz.own started (by kernel_rfl) Tryz.func3
    (witness_row_at (enc := enc) (C := Tryz.checked) false (laidW os) #[.int .u64 0, .int .u64 0, .int .i64 0, .slice none 0 0] rfl (by kernel_rfl) (by kernel_rfl) (by kernel_rfl)
      (OpenSpec.preRow_of_cond 8 hx (by kernel_rfl) (fun k hk => by cases hk) (by kernel_rfl) (bundleBuilds_laid os))) ?_
  intro W base args ds gs before hval0 hW _ hcond hsz0 hL hsh _
  have hval : ∀ (j : Nat) t v, Tryz.f3.params[j]? = some t → args[j]? = some v → Value.okWide Tryz.prog W .any base t v := hval0
  have hW' : DataW.Whole enc Tryz.prog Tryz.f3.params.toList Rows.bundleBuildsSpec.vars false W args.toList ds gs before := hW
  have hW2 := hW'
  obtain ⟨p, q, hA0, hV, rfl, hfz, hnd⟩ := hW2
  have hA : DataW.TrodAll enc Tryz.prog W 0 (fun _ => true) true Tryz.f3.params.toList args.toList ds p := hA0
  rw [Tryz.params3] at hA hval
  obtain ⟨v0, vs0, d0, ds0, p0, q0, hargs, rfl, rfl, h0, r0⟩ := trodAll_cons hA
  obtain ⟨v1, vs1, d1, ds1, p1, q1, rfl, rfl, rfl, h1, r1⟩ := trodAll_cons r0
  obtain ⟨v2, vs2, d2, ds2, p2, q2, rfl, rfl, rfl, h2, r2⟩ := trodAll_cons r1
  obtain ⟨v3, vs3, d3, ds3, p3, q3, rfl, rfl, rfl, h3, r3⟩ := trodAll_cons r2
  obtain ⟨rfl, rfl, rfl⟩ := trodAll_nil r3
  obtain rfl : args = #[v0, v1, v2, v3] := by cases args; simp_all
  obtain ⟨rfl, rfl⟩ := trodVars_none hV
  obtain ⟨mx, hmx⟩ := Go.Proofs.cell_of_shapedOpen_int (g := 0) (zero := #[.int .i64 0]) (t := 3) hsh (by decide +kernel) (by kernel_rfl) (by decide) (by kernel_rfl) (by kernel_rfl) Tryz.underlying3
  have hsz : (DataW.weightsEach Tryz.prog (Tryz.f3.params.toList ++ Rows.bundleBuildsSpec.plain.varTypes Tryz.prog) _).all (· ≤ reachBytes) = true := hsz0
  rw [Tryz.params3] at hsz
  obtain ⟨x_0, rfl, hd_0, -, wf_0⟩ := open_int Tryz.underlying22 (hval 0 22 v0 rfl rfl) h0
  obtain ⟨x_1, rfl, hd_1, -, wf_1⟩ := open_int Tryz.underlying22 (hval 1 22 v1 rfl rfl) h1
  obtain ⟨x_2, rfl, hd_2, -, wf_2⟩ := open_int Tryz.underlying3 (hval 2 3 v2 rfl rfl) h2
  obtain ⟨A_3, c_3, l_3, rfl, s_3, k_3, -, y_3⟩ := items_open (hval 3 23 v3 rfl rfl) h3 (light_arg hsz (j := 3) rfl rfl)
  have b_3 : l_3.length ≤ 9223372036854775807 := by omega
  refine (bundleBuilds_walk x_0 (u64_wf wf_0) x_1 (u64_wf wf_1) x_2 A_3 c_3 l_3 rfl b_3 W s_3 ⟨mx, hmx⟩).mono fun e W' ⟨he, hw⟩ => ?_
  subst he
  exact ⟨_, rfl, law_post (s := Rows.bundleBuildsSpec) hW' Tryz.laidOut (by kernel_rfl) rfl (by rfl) rfl Tryz.underlying4 hw⟩

theorem bundleBuilds_holds : Rows.BundleBuildsSaid :=
  OpenClaim.holds_of_cond 3 Tryz.f3 rfl rfl rfl rfl rfl rfl rfl ⟨rfl, rfl, rfl, rfl, rfl⟩ rfl rfl rfl rfl rfl (by kernel_rfl) Tryz.func3 (by kernel_rfl)
    (of_decide_eq_true (by kernel_rfl)) (by unfold Func.isWrapper; first | (rw [if_pos (by decide +kernel)]; kernel_rfl) | (rw [if_neg (by decide +kernel)]; exact ⟨rfl, rfl⟩))
    (fun os started H enc _ F => by rw [OpenClaim.pre_eq_preRow]; exact bundleBuilds_lifted os started H enc F)
theorem bundleBuilds_card : Rows.BundleBuildsCardSaid :=
  Claim7.holds_tied_plain_at .later [] _ _ _ _
    bundleBuilds_holds (fun _ h => by cases h) (by kernel_rfl) (fun _ h => by cases h) bundleBuilds_row_tie rfl ⟨rfl, rfl⟩ (by kernel_rfl) rfl
    (fun f fn hf hfn => by
      obtain rfl : f = 3 := Option.some.inj ((show Tryz.prog.funcNamed Rows.bundleBuildsRow.func = some 3 by kernel_rfl).symm.trans hf) |>.symm
      obtain rfl : fn = Tryz.f3 := (Option.some.inj (Tryz.func3.symm.trans hfn)).symm
      exact ⟨by kernel_rfl, fun j t ht => by
        rw [Tryz.params3] at ht
        have hm : t ∈ [22, 3, 23] := by simpa using Array.mem_of_getElem? ht
        have hall : ([22, 3, 23].all fun u => !Tryz.prog.wantsStandIn u) = true := by kernel_rfl
        exact (show Tryz.prog.wantsStandIn t = false by simpa using List.all_eq_true.1 hall t hm)⟩)
    (by kernel_rfl)
#print axioms bundleBuilds_card
end Go.Proofs.YtnlenappjjlbjaaGreatDoor
