/- BundleChecks: for all bytes and items the law returns true. Conditions: the library's variables lie as the row says. -/
import Derived.Test.YtnlenappjjlbjaaGreatDoorP38
namespace Go.Proofs.YtnlenappjjlbjaaGreatDoor
open Go.ChangeShapes Go.WideShapes Go.ChangeAt Go.RowKit Go.Shelf
set_option maxRecDepth 100000 in
set_option maxHeartbeats 25600000 in
theorem bundleChecks_walk (A : Option Addr) (c : Nat) (s : List Int) {n : Nat} (hn : s.length = n) (hc : n ≤ c) (hB : Bu.Byt s) (hl : n ≤ 9223372036854775807) (A2 : Option Addr) (c2 : Nat) (xs : List Rt.ItL) {k : Nat} (hk : xs.length = k) (hl2 : k ≤ 9223372036854775807) (w : World) (h : SlU w A s) (h2 : Rt.SlIt w A2 xs) (hg : Gm w) :
    Calls Tryz.prog 5 #[.slice A n c, .slice A2 k c2] w fun e w' => e = .returned (.bool true) ∧ Ext w w' := by
  have HG : Hid (∀ w', Ext w w' → Gm w') := Lib.hid (fun w' he => hg.ext he)
  clear hg
  obtain ⟨v, h_v⟩ : ∃ q, Bu.chkR s (Rt.its xs) = q := ⟨_, rfl⟩
  have K1 := Lib.hid (fun W h h2 hg => bcheck2_any A c s hn hc hB hl A2 c2 xs hk hl2 h_v W h h2 hg)
  have K2 := Lib.hid (fun W h h2 => rcheck2_any A c s hn hc hB hl A2 c2 xs hk hl2 h_v W h h2)
  have t1 : (v == v) = true := by simp
  have H := Lib.hid h
  have H2 := Lib.hid h2
  clear h h2 h_v hB hn hk
  go_enter Tryz.func5, Tryz.ntmps5
  have X_0 := Lib.hid (Ext.refl w)
  go_wp2_with fail
  with_reducible refine (K1.out w H.out H2.out (fun w' hx => HG.out w' (X_0.out.trans hx))).mono ?_
  rintro e w1 ⟨rfl, hb⟩
  have H_1 := Lib.hid (H.out.ext hb)
  have HI_1 := Lib.hid (H2.out.ext hb)
  clear H H2
  have X_1 := Lib.hid (X_0.out.trans hb)
  clear X_0
  clear hb
  go_wp2_with fail
  with_reducible refine (K2.out w1 H_1.out HI_1.out).mono ?_
  rintro e w2 ⟨rfl, hb⟩
  have H_2 := Lib.hid (H_1.out.ext hb)
  have HI_2 := Lib.hid (HI_1.out.ext hb)
  clear H_1 HI_1
  have X_2 := Lib.hid (X_1.out.trans hb)
  clear X_1
  clear hb
  go_wp2_with fail
  with_reducible refine (awake_any w2 (fun w' he => HG.out _ (X_2.out.trans he))).mono ?_
  rintro e w3 ⟨rfl, hb⟩
  have XL := Lib.hid (X_2.out.trans hb)
  clear hb
  go_wp2
  go_ret
  exact ⟨rfl, XL.out⟩
theorem bundleChecks_laid (os : Os) : laidMet Tryz.prog Rows.bundleChecksRow.laid ((laidW os).forCall (fun _ _ => 0) ⟨#[], #[.slice none 0 0, .slice none 0 0], []⟩).memory :=
  laidMet_of_run' 8 (by kernel_rfl) (by kernel_rfl)
theorem bundleChecks_reads (os : Os) {H : Type} (enc : TypeId × Value → H) : ∃ places, DataW.whole enc Tryz.prog ((laidW os).forCall (fun _ _ => 0) ⟨#[], #[.slice none 0 0, .slice none 0 0], []⟩).memory Tryz.f5.params.toList Rows.bundleChecksSpec.vars false (#[.slice none 0 0, .slice none 0 0] : Array Value).toList 8 = some ([.nil, .nil], [], places) :=
  ⟨[], by kernel_rfl⟩
set_option maxRecDepth 100000 in
theorem bundleChecks_lifted (os : Os) (started : os.Started) (H : Type) (enc : TypeId × Value → H) (F : Stop.Interp) :
    ReturnsInHanded {} Tryz.checked os 5 .any ((OpenSpec.ofChange Rows.bundleChecksSpec).preRow enc Tryz.prog Tryz.f5 Rows.bundleChecksRow.domain false Rows.bundleChecksRow.laid) (((OpenSpec.ofChange Rows.bundleChecksSpec).at F).post enc Tryz.prog Tryz.f5 false true false false) := by
  obtain ⟨places, hx⟩ := bundleChecks_reads os enc
  refine returnsInHanded_of_row (C := Tryz.checked) (s := (OpenSpec.ofChange Rows.bundleChecksSpec)) Tryz.own started (by kernel_rfl) Tryz.func5
    (witness_row_at (enc := enc) (C := Tryz.checked) false (laidW os) #[.slice none 0 0, .slice none 0 0] rfl (by kernel_rfl) (by kernel_rfl) (by kernel_rfl)
      (OpenSpec.preRow_of_cond 8 hx (by kernel_rfl) (fun k hk => by cases hk) (by kernel_rfl) (bundleChecks_laid os))) ?_
  intro W base args ds gs before hval0 hW _ hcond hsz0 hL hsh _
  have hval : ∀ (j : Nat) t v, Tryz.f5.params[j]? = some t → args[j]? = some v → Value.okWide Tryz.prog W .any base t v := hval0
  have hW' : DataW.Whole enc Tryz.prog Tryz.f5.params.toList Rows.bundleChecksSpec.vars false W args.toList ds gs before := hW
  have hW2 := hW'
  obtain ⟨p, q, hA0, hV, rfl, hfz, hnd⟩ := hW2
  have hA : DataW.TrodAll enc Tryz.prog W 0 (fun _ => true) true Tryz.f5.params.toList args.toList ds p := hA0
  rw [Tryz.params5] at hA hval
  obtain ⟨v0, vs0, d0, ds0, p0, q0, hargs, rfl, rfl, h0, r0⟩ := trodAll_cons hA
  obtain ⟨v1, vs1, d1, ds1, p1, q1, rfl, rfl, rfl, h1, r1⟩ := trodAll_cons r0
  obtain ⟨rfl, rfl, rfl⟩ := trodAll_nil r1
  obtain rfl : args = #[v0, v1] := by cases args; simp_all
  obtain ⟨rfl, rfl⟩ := trodVars_none hV
  obtain ⟨mx, hmx⟩ := Go.Proofs.cell_of_shapedOpen_int (g := 0) (zero := #[.int .i64 0]) (t := 3) hsh (by decide +kernel) (by kernel_rfl) (by decide) (by kernel_rfl) (by kernel_rfl) Tryz.underlying3
  have hsz : (DataW.weightsEach Tryz.prog (Tryz.f5.params.toList ++ Rows.bundleChecksSpec.plain.varTypes Tryz.prog) _).all (· ≤ reachBytes) = true := hsz0
  rw [Tryz.params5] at hsz
  obtain ⟨A_0, c_0, l_0, rfl, s_0, t_0, k_0, -, y_0⟩ := bytes_open (hval 0 24 v0 rfl rfl) h0 (light_arg hsz (j := 0) rfl rfl)
  have b_0 : l_0.length ≤ 9223372036854775807 := by omega
  obtain ⟨A_1, c_1, l_1, rfl, s_1, k_1, -, y_1⟩ := items_open (hval 1 23 v1 rfl rfl) h1 (light_arg hsz (j := 1) rfl rfl)
  have b_1 : l_1.length ≤ 9223372036854775807 := by omega
  refine (bundleChecks_walk A_0 c_0 l_0 rfl k_0 t_0 b_0 A_1 c_1 l_1 rfl b_1 W s_0 s_1 ⟨mx, hmx⟩).mono fun e W' ⟨he, hw⟩ => ?_
  subst he
  exact ⟨_, rfl, law_post (s := Rows.bundleChecksSpec) hW' Tryz.laidOut (by kernel_rfl) rfl (by rfl) rfl Tryz.underlying4 hw⟩

theorem bundleChecks_holds : Rows.BundleChecksSaid :=
  OpenClaim.holds_of_cond 5 Tryz.f5 rfl rfl rfl rfl rfl rfl rfl ⟨rfl, rfl, rfl, rfl, rfl⟩ rfl rfl rfl rfl rfl (by kernel_rfl) Tryz.func5 (by kernel_rfl)
    (of_decide_eq_true (by kernel_rfl)) (by unfold Func.isWrapper; first | (rw [if_pos (by decide +kernel)]; kernel_rfl) | (rw [if_neg (by decide +kernel)]; exact ⟨rfl, rfl⟩))
    (fun os started H enc _ F => by rw [OpenClaim.pre_eq_preRow]; exact bundleChecks_lifted os started H enc F)
theorem bundleChecks_card : Rows.BundleChecksCardSaid :=
  Claim7.holds_tied_plain_at .later [] _ _ _ _
    bundleChecks_holds (fun _ h => by cases h) (by kernel_rfl) (fun _ h => by cases h) bundleChecks_row_tie rfl ⟨rfl, rfl⟩ (by kernel_rfl) rfl
    (fun f fn hf hfn => by
      obtain rfl : f = 5 := Option.some.inj ((show Tryz.prog.funcNamed Rows.bundleChecksRow.func = some 5 by kernel_rfl).symm.trans hf) |>.symm
      obtain rfl : fn = Tryz.f5 := (Option.some.inj (Tryz.func5.symm.trans hfn)).symm
      exact ⟨by kernel_rfl, fun j t ht => by
        rw [Tryz.params5] at ht
        have hm : t ∈ [24, 23] := by simpa using Array.mem_of_getElem? ht
        have hall : ([24, 23].all fun u => !Tryz.prog.wantsStandIn u) = true := by kernel_rfl
        exact (show Tryz.prog.wantsStandIn t = false by simpa using List.all_eq_true.1 hall t hm)⟩)
    (by kernel_rfl)
#print axioms bundleChecks_card
end Go.Proofs.YtnlenappjjlbjaaGreatDoor
