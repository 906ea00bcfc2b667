/- IncidentChecks: for every input the law returns true. Conditions: the table of powers lies as the row says. -/
import Derived.Test.YtcpapnnghclbmaaDoorInO
import Derived.Test.YtcpapnnghclbmaaDoorInU
namespace Go.Proofs.YtcpapnnghclbmaaDoor
open Go.ChangeShapes Go.WideShapes Go.ChangeAt Go.RowKit

set_option maxRecDepth 100000 in
set_option maxHeartbeats 12800000 in
theorem incidentChecks_walk (i : In.Inc) (A : Option Addr) (c : Nat) (a : List In.Inc) (B : Option Addr) (d : Nat) (b : List In.Inc) (w : World) (h1 : (⟨A, c, a⟩ : NL).In w) (h2 : (⟨B, d, b⟩ : NL).In w) (ht : Tab w) :
    Calls Tryd.prog 3 #[In.agg i, .slice A a.length c, .slice B b.length d] w fun e w' => e = .returned (.bool true) ∧ Ext w w' := by
  unfold In.agg
  have HA := Lib.hid h1
  have HB := Lib.hid h2
  have HT := Lib.hid ht
  clear h1 h2 ht
  obtain ⟨n, hn⟩ : ∃ n, a.length = n := ⟨_, rfl⟩
  rw [hn]
  have Hn := Lib.hid hn
  clear hn
  obtain ⟨m, hm⟩ : ∃ n, b.length = n := ⟨_, rfl⟩
  rw [hm]
  have Hm := Lib.hid hm
  clear hm
  obtain ⟨e1, he1⟩ : ∃ v, In.merE a b = v := ⟨_, rfl⟩
  obtain ⟨l1, hl1⟩ : ∃ v, In.merL a b = v := ⟨_, rfl⟩
  obtain ⟨r, hr⟩ : ∃ v, l1.length = v := ⟨_, rfl⟩
  obtain ⟨v, hv⟩ : ∃ v, In.vld i = v := ⟨_, rfl⟩
  have hr3 : r ≤ 300 := by
    rw [← hr, ← hl1]
    unfold In.merL
    split
    · rename_i hz; exact (In.merE_zero.1 hz).2.2
    · simp
  have HE1 := Lib.hid he1
  have HL1 := Lib.hid hl1
  have HR := Lib.hid hr
  have HV := Lib.hid hv
  clear he1 hl1 hr hv
  obtain ⟨W1, hW1⟩ : ∃ W1, W1 = w.alloc (.cells #[.int .i64 i.1, .int .i64 i.2.1, .int .i64 i.2.2.1, .int .i64 i.2.2.2] 23) := ⟨_, rfl⟩
  have x0 : Ext w W1 := by rw [hW1]; exact (Ext.refl _).alloc _
  have hbox : BoxN W1 w.heap.size i := by rw [hW1]; unfold BoxN; simp
  have HBOX := Lib.hid hbox
  have HA0 := Lib.hid (HA.out.ext x0)
  have HB0 := Lib.hid (HB.out.ext x0)
  clear hbox
  go_enter Tryd.func3, Tryd.ntmps3
  go_wp2_with fail
  rw [← hW1]
  with_reducible refine (merge_to A c a B d b Hn.out Hm.out HL1.out HR.out HE1.out _ HA0.out HB0.out).mono ?_
  rintro e w1 ⟨X, xc, rfl, hX, hb1⟩
  have HX := Lib.hid hX
  have HA1 := Lib.hid (HA0.out.ext hb1)
  have HB1 := Lib.hid (HB0.out.ext hb1)
  clear hX
  go_wp2_with fail
  with_reducible refine (rmerge_any A c a B d b Hn.out Hm.out HL1.out HR.out HE1.out _ HA1.out HB1.out).mono ?_
  rintro e W ⟨Y, yc, rfl, hY, hb2⟩
  have xB := hb1.trans hb2
  have xW := x0.trans xB
  obtain ⟨b0, b1, b2, b3⟩ := HBOX.out
  have c0 := xB.keep b0
  have c1 := xB.keep b1
  have c2 := xB.keep b2
  have c3 := xB.keep b3
  have hdr : Ext W W.drew := (Ext.refl W).drew
  have HXW := Lib.hid ((HX.out.ext hb2).ext hdr)
  have HYW := Lib.hid (hY.ext hdr)
  clear hY b0 b1 b2 b3 hb1 hb2
  go_wp2_with fail
  go_region_held3 (fun w' => (w'.cell? ⟨w.heap.size, 0, none⟩ = some (.int .i64 i.1) ∧ w'.cell? ⟨w.heap.size, 1, none⟩ = some (.int .i64 i.2.1) ∧ w'.cell? ⟨w.heap.size, 2, none⟩ = some (.int .i64 i.2.2.1) ∧ w'.cell? ⟨w.heap.size, 3, none⟩ = some (.int .i64 i.2.2.2)) ∧ Ext W w')
    (first
      | (with_reducible exact ⟨⟨hE6.keep c0, hE6.keep c1, hE6.keep c2, hE6.keep c3⟩, hE6⟩)
      | (with_reducible exact ⟨⟨hE5.keep c0, hE5.keep c1, hE5.keep c2, hE5.keep c3⟩, hE5⟩)
      | (with_reducible exact ⟨⟨hE4.keep c0, hE4.keep c1, hE4.keep c2, hE4.keep c3⟩, hE4⟩)
      | (with_reducible exact ⟨⟨hE3.keep c0, hE3.keep c1, hE3.keep c2, hE3.keep c3⟩, hE3⟩)
      | (with_reducible exact ⟨⟨hdr.keep c0, hdr.keep c1, hdr.keep c2, hdr.keep c3⟩, hdr⟩)
      | go_keep)
    (first
      | (go_at_call 12; with_reducible refine (same_eq X xc Y yc l1 r HR.out _ HXW.out.sl HYW.out.sl (by omega)).mono ?_; rintro e w3 ⟨rfl, hb3⟩; have hE3 : Ext W w3 := hdr.trans hb3)
      | (go_at_call 13; with_reducible refine (valid_to i HV.out _).mono ?_; rintro e w4 ⟨rfl, hb4⟩; have hE4 : Ext W w4 := by first | (with_reducible exact hE5.trans hb4) | (with_reducible exact hE3.trans hb4))
      | (go_at_call 14; with_reducible refine (rvalid_to i HV.out _).mono ?_; rintro e w5 ⟨rfl, hb5⟩; have hE5 : Ext W w5 := by first | (with_reducible exact hE4.trans hb5) | (with_reducible exact hE3.trans hb5))
      | (go_at_call 15; first | (with_reducible refine (awake_any _ (HT.out.ext (xW.trans hE5))).mono ?_; rintro e w6 ⟨rfl, hb6⟩; have hE6 : Ext W w6 := hE5.trans hb6) | (with_reducible refine (awake_any _ (HT.out.ext (xW.trans hE4))).mono ?_; rintro e w6 ⟨rfl, hb6⟩; have hE6 : Ext W w6 := hE4.trans hb6)))
  all_goals
    go_wp2
    go_ret
    exact ⟨rfl, xW.trans hE6⟩


theorem incidentChecks_laid (os : Os) : laidMet Tryd.prog Rows.incidentChecksRow.laid ((laidW os).forCall (fun _ _ => 0) ⟨#[], #[.agg #[.int .i64 0, .int .i64 0, .int .i64 0, .int .i64 0], .slice none 0 0, .slice none 0 0], []⟩).memory :=
  laidMet_of_run' 8 (by kernel_rfl) (by kernel_rfl)
theorem incidentChecks_reads (os : Os) {H : Type} (enc : TypeId × Value → H) : ∃ places, DataW.whole enc Tryd.prog ((laidW os).forCall (fun _ _ => 0) ⟨#[], #[.agg #[.int .i64 0, .int .i64 0, .int .i64 0, .int .i64 0], .slice none 0 0, .slice none 0 0], []⟩).memory Tryd.f3.params.toList Rows.incidentChecksSpec.vars false (#[.agg #[.int .i64 0, .int .i64 0, .int .i64 0, .int .i64 0], .slice none 0 0, .slice none 0 0] : Array Value).toList 8 = some ([.agg [.lit (.int .i64 0), .lit (.int .i64 0), .lit (.int .i64 0), .lit (.int .i64 0)], .nil, .nil], [], places) :=
  ⟨[], by kernel_rfl⟩
set_option maxRecDepth 100000 in
theorem incidentChecks_lifted (os : Os) (started : os.Started) (H : Type) (enc : TypeId × Value → H) (F : Stop.Interp) :
    ReturnsInHanded {} Tryd.checked os 3 .any ((OpenSpec.ofChange Rows.incidentChecksSpec).preRow enc Tryd.prog Tryd.f3 Rows.incidentChecksRow.domain false Rows.incidentChecksRow.laid) (((OpenSpec.ofChange Rows.incidentChecksSpec).at F).post enc Tryd.prog Tryd.f3 false true false false) := by
  obtain ⟨places, hx⟩ := incidentChecks_reads os enc
  refine returnsInHanded_of_row (C := Tryd.checked) (s := (OpenSpec.ofChange Rows.incidentChecksSpec)) Tryd.own started (by kernel_rfl) Tryd.func3
    (witness_row_at (enc := enc) (C := Tryd.checked) false (laidW os) #[.agg #[.int .i64 0, .int .i64 0, .int .i64 0, .int .i64 0], .slice none 0 0, .slice none 0 0] rfl (by kernel_rfl) (by kernel_rfl) (by kernel_rfl)
      (OpenSpec.preRow_of_cond 8 hx (by kernel_rfl) (fun k hk => by cases hk) (by kernel_rfl) (incidentChecks_laid os))) ?_
  intro W base args ds gs before hval0 hW _ hcond hsz0 hL hsh _
  have hval : ∀ (j : Nat) t v, Tryd.f3.params[j]? = some t → args[j]? = some v → Value.okWide Tryd.prog W .any base t v := hval0
  have hW' : DataW.Whole enc Tryd.prog Tryd.f3.params.toList Rows.incidentChecksSpec.vars false W args.toList ds gs before := hW
  have hW2 := hW'
  obtain ⟨p, q, hA0, hV, rfl, hfz, hnd⟩ := hW2
  have hA : DataW.TrodAll enc Tryd.prog W 0 (fun _ => true) true Tryd.f3.params.toList args.toList ds p := hA0
  rw [Tryd.params3] at hA hval
  obtain ⟨v0, vs0, d0, ds0, p0, q0, hargs, rfl, rfl, h0, r0⟩ := trodAll_cons hA
  obtain ⟨v1, vs1, d1, ds1, p1, q1, rfl, rfl, rfl, h1, r1⟩ := trodAll_cons r0
  obtain ⟨v2, vs2, d2, ds2, p2, q2, rfl, rfl, rfl, h2, r2⟩ := trodAll_cons r1
  obtain ⟨rfl, rfl, rfl⟩ := trodAll_nil r2
  obtain rfl : args = #[v0, v1, v2] := by cases args; simp_all
  obtain ⟨rfl, rfl⟩ := trodVars_none hV
  obtain ⟨i, rfl, hR0⟩ := incv_open (hval 0 23 v0 rfl rfl) h0
  obtain ⟨A, c, a, rfl, hR1⟩ := incs_open (hval 1 24 v1 rfl rfl) h1
  obtain ⟨B, d, b, rfl, hR2⟩ := incs_open (hval 2 24 v2 rfl rfl) h2
  refine (incidentChecks_walk i A c a B d b W hR1 hR2 (tab_of hL)).mono fun e W' ⟨he, hw⟩ => ?_
  subst he
  exact ⟨_, rfl, law_post (s := Rows.incidentChecksSpec) hW' Tryd.laidOut (by kernel_rfl) rfl (by rfl) rfl Tryd.underlying4 hw⟩

theorem incidentChecks_holds : Rows.IncidentChecksSaid :=
  OpenClaim.holds_of_cond 3 Tryd.f3 rfl rfl rfl rfl rfl rfl rfl ⟨rfl, rfl, rfl, rfl, rfl⟩ rfl rfl rfl rfl rfl (by kernel_rfl) Tryd.func3 (by kernel_rfl)
    (of_decide_eq_true (by kernel_rfl)) (by unfold Func.isWrapper; first | (rw [if_pos (by decide +kernel)]; kernel_rfl) | (rw [if_neg (by decide +kernel)]; exact ⟨rfl, rfl⟩))
    (fun os started H enc _ F => by rw [OpenClaim.pre_eq_preRow]; exact incidentChecks_lifted os started H enc F)
theorem incidentChecks_card : Rows.IncidentChecksCardSaid :=
  Claim7.holds_tied_plain_at .later [] _ _ _ _
    incidentChecks_holds (fun _ h => by cases h) (by kernel_rfl) (fun _ h => by cases h) incidentChecks_row_tie rfl ⟨rfl, rfl⟩ (by kernel_rfl) rfl
    (fun f fn hf hfn => by
      obtain rfl : f = 3 := Option.some.inj ((show Tryd.prog.funcNamed Rows.incidentChecksRow.func = some 3 by kernel_rfl).symm.trans hf) |>.symm
      obtain rfl : fn = Tryd.f3 := (Option.some.inj (Tryd.func3.symm.trans hfn)).symm
      exact ⟨by kernel_rfl, fun j t ht => by
        rw [Tryd.params3] at ht
        have hm : t ∈ [23, 24, 24] := by simpa using Array.mem_of_getElem? ht
        have hall : ([23, 24, 24].all fun u => !Tryd.prog.wantsStandIn u) = true := by kernel_rfl
        exact (show Tryd.prog.wantsStandIn t = false by simpa using List.all_eq_true.1 hall t hm)⟩)
    (by kernel_rfl)
#print axioms incidentChecks_card
end Go.Proofs.YtcpapnnghclbmaaDoor
