/- IncidentLines: for every input the law returns true. Conditions: the table of powers lies as the row says. -/
import Derived.Test.YtcpapnnghclbmaaDoorInO
import Derived.Test.YtcpapnnghclbmaaDoorInR
import Derived.ChangeMaps5
namespace Go.Proofs.YtcpapnnghclbmaaDoor
open Go.ChangeShapes Go.WideShapes Go.ChangeAt Go.RowKit Go.ChangeMaps

theorem print_at (p : In.Inc) {l : List UInt8} {v : Int} (hl : In.printV p = l) (hv : In.vld p = v) (w : World) (ht : Tab w) : Calls Tryd.prog 25 #[.agg #[.int .i64 p.1, .int .i64 p.2.1, .int .i64 p.2.2.1, .int .i64 p.2.2.2]] w fun e w' => e = .returned (.tuple #[.string (In.str l), .int .i64 v]) ∧ Ext w w' := by
  subst hl hv
  exact print_any p w ht
theorem parse_at (s : ByteArray) (hs : s.size ≤ 140737488355328) {r : In.Inc} {er : Int} (hr : In.parseP (In.pcs s) = (r, er)) (w : World) :
    Calls Tryd.prog 27 #[.string s] w fun e w' => e = .returned (.tuple #[.agg #[.int .i64 r.1, .int .i64 r.2.1, .int .i64 r.2.2.1, .int .i64 r.2.2.2], .int .i64 er]) ∧ Ext w w' := parse_any s hs w hr
set_option maxRecDepth 100000 in
set_option maxHeartbeats 12800000 in
theorem incidentLines_walk (p : In.Inc) (s : ByteArray) (hs : s.size ≤ 140737488355328) (w : World) (ht : Tab w) :
    Calls Tryd.prog 8 #[In.agg p, .string s] w fun e w' => e = .returned (.bool true) ∧ Ext w w' := by
  unfold In.agg
  have HT := Lib.hid ht
  clear ht
  obtain ⟨v, hv⟩ : ∃ v, In.vld p = v := ⟨_, rfl⟩
  obtain ⟨l, hl⟩ : ∃ l, In.printV p = l := ⟨_, rfl⟩
  obtain ⟨⟨r, er⟩, hr⟩ : ∃ r, In.parseP (In.pcs s) = r := ⟨_, rfl⟩
  obtain ⟨vr, hvr⟩ : ∃ v, In.vld r = v := ⟨_, rfl⟩
  obtain ⟨lr, hlr⟩ : ∃ l, In.printV r = l := ⟨_, rfl⟩
  have HV := Lib.hid hv
  have HL := Lib.hid hl
  have HR := Lib.hid hr
  have HVR := Lib.hid hvr
  have HLR := Lib.hid hlr
  clear hv hl hr hvr hlr
  by_cases z : v = 0
  · have z' : (v == 0) = true := by rw [z]; rfl
    have HV0 : Hid (In.vld p = 0) := Lib.hid (HV.out.trans z)
    have HLL : Hid (l = In.line p) := Lib.hid (by rw [← HL.out]; unfold In.printV; rw [if_neg (by rw [HV0.out]; simp)])
    have HP : Hid (In.parseP (In.pcs (In.str l)) = (p, 0)) := Lib.hid (by rw [HLL.out]; exact In.parse_line HV0.out)
    have HSZ : Hid ((In.str l).size ≤ 140737488355328) := Lib.hid (by
      rw [In.str_size, HLL.out]
      obtain ⟨h1, h2, h3, h4⟩ := In.vld_zero.1 HV0.out
      have := In.word_len p.1
      have := In.itoa_len h2.1 h2.2
      have := In.itoa_len h3.1 (by omega)
      have := In.itoa_len h4.1 (by omega)
      unfold In.line
      simp only [List.length_append, List.length_cons, List.length_nil]
      omega)
    have hE := fun w => run_neq_inc p p (v := false) (by simp) w
    clear z
    go_enter Tryd.func8, Tryd.ntmps8
    go_wp2_with fail
    with_reducible refine (print_at p HL.out HV.out _ (HT.out.ext ((Ext.refl _).alloc _))).mono ?_
    rintro e w1 ⟨rfl, hb1⟩
    have x1 := ((Ext.refl w).alloc _).trans hb1
    obtain ⟨hc1, hf1⟩ := hb1.cells
    have hz1 := hb1.size
    simp at hz1
    have z10 : w.heap.size < w1.heap.size := by omega
    go_wp2_with fail
    with_reducible refine (parse_at (In.str l) HSZ.out HP.out _).mono ?_
    rintro e w2 ⟨rfl, hb2⟩
    have x2 := x1.trans hb2
    obtain ⟨hc2, hf2⟩ := hb2.cells
    have hz2 := hb2.size
    have z20 : w.heap.size < w2.heap.size := by omega
    go_wp2_with fail
    with_reducible refine (parse_at s hs HR.out _).mono ?_
    rintro e w3 ⟨rfl, hb3⟩
    have x3 := (x2.alloc _).trans hb3
    clear hb3
    by_cases ze : er = 0
    · have ze' : (er != 0) = false := by rw [ze]; rfl
      have HS := Lib.hid (In.line_parse (s := s) (r := r) (by rw [HR.out, ze]))
      have HVR0 : Hid (In.vld r = 0) := Lib.hid HS.out.2
      have HLR0 : Hid (In.printV r = In.line r) := Lib.hid (by unfold In.printV; rw [if_neg (by rw [HVR0.out]; simp)])
      have hqs : ((In.str (In.line r)).toList == s.toList) = true := In.eqT HS.out.1
      obtain ⟨q, hq⟩ : ∃ q, In.line r = q := ⟨_, rfl⟩
      rw [hq] at HLR0 hqs
      clear ze hq HS
      go_wp2_with fail
      with_reducible refine (print_at r HLR0.out HVR0.out _ (HT.out.ext (x3.alloc _))).mono ?_
      rintro e w4 ⟨rfl, hb4⟩
      have x4 := (x3.alloc _).trans hb4
      obtain ⟨hc4, hf4⟩ := hb4.cells
      have hz4 := hb4.size
      simp at hz4
      have z43 : w3.heap.size < w4.heap.size := by omega
      clear hb4
      go_wp2_with fail
      with_reducible refine (valid_to r HVR0.out _).mono ?_
      rintro e w5 ⟨rfl, hb5⟩
      have x5 := x4.trans hb5
      have HT5 := Lib.hid (HT.out.ext x5)
      go_wp2_with fail
      with_reducible refine (awake_any _ HT5.out).mono ?_
      rintro e w6 ⟨rfl, hb6⟩
      go_wp2
      go_ret
      exact ⟨rfl, x5.trans hb6⟩
    · have ze' : (er != 0) = true := by rw [bne_iff_ne]; exact ze
      clear ze
      have HT3 := Lib.hid (HT.out.ext (x3.alloc (.cells #[.int .i64 r.1, .int .i64 r.2.1, .int .i64 r.2.2.1, .int .i64 r.2.2.2] 23)))
      go_wp2_with fail
      with_reducible refine (awake_any _ HT3.out).mono ?_
      rintro e w4 ⟨rfl, hb4⟩
      go_wp2
      go_ret
      exact ⟨rfl, (x3.alloc _).trans hb4⟩
  · have z' : (v == 0) = false := by rw [beq_eq_false_iff_ne]; exact z
    clear z
    go_enter Tryd.func8, Tryd.ntmps8
    go_wp2_with fail
    with_reducible refine (print_at p HL.out HV.out _ (HT.out.ext ((Ext.refl _).alloc _))).mono ?_
    rintro e w1 ⟨rfl, hb1⟩
    have x1 := ((Ext.refl w).alloc _).trans hb1
    have hz1 := hb1.size
    simp at hz1
    go_wp2_with fail
    with_reducible refine (parse_at s hs HR.out _).mono ?_
    rintro e w3 ⟨rfl, hb3⟩
    have x3 := x1.trans hb3
    clear hb3
    by_cases ze : er = 0
    · have ze' : (er != 0) = false := by rw [ze]; rfl
      have HS := Lib.hid (In.line_parse (s := s) (r := r) (by rw [HR.out, ze]))
      have HVR0 : Hid (In.vld r = 0) := Lib.hid HS.out.2
      have HLR0 : Hid (In.printV r = In.line r) := Lib.hid (by unfold In.printV; rw [if_neg (by rw [HVR0.out]; simp)])
      have hqs : ((In.str (In.line r)).toList == s.toList) = true := In.eqT HS.out.1
      obtain ⟨q, hq⟩ : ∃ q, In.line r = q := ⟨_, rfl⟩
      rw [hq] at HLR0 hqs
      clear ze hq HS
      go_wp2_with fail
      with_reducible refine (print_at r HLR0.out HVR0.out _ (HT.out.ext (x3.alloc _))).mono ?_
      rintro e w4 ⟨rfl, hb4⟩
      have x4 := (x3.alloc _).trans hb4
      obtain ⟨hc4, hf4⟩ := hb4.cells
      have hz4 := hb4.size
      simp at hz4
      have z43 : w3.heap.size < w4.heap.size := by omega
      clear hb4
      go_wp2_with fail
      with_reducible refine (valid_to r HVR0.out _).mono ?_
      rintro e w5 ⟨rfl, hb5⟩
      have x5 := x4.trans hb5
      have HT5 := Lib.hid (HT.out.ext x5)
      go_wp2_with fail
      with_reducible refine (awake_any _ HT5.out).mono ?_
      rintro e w6 ⟨rfl, hb6⟩
      go_wp2
      go_ret
      exact ⟨rfl, x5.trans hb6⟩
    · have ze' : (er != 0) = true := by rw [bne_iff_ne]; exact ze
      clear ze
      have HT3 := Lib.hid (HT.out.ext (x3.alloc (.cells #[.int .i64 r.1, .int .i64 r.2.1, .int .i64 r.2.2.1, .int .i64 r.2.2.2] 23)))
      go_wp2_with fail
      with_reducible refine (awake_any _ HT3.out).mono ?_
      rintro e w4 ⟨rfl, hb4⟩
      go_wp2
      go_ret
      exact ⟨rfl, (x3.alloc _).trans hb4⟩

theorem incidentLines_laid (os : Os) : laidMet Tryd.prog Rows.incidentLinesRow.laid ((laidW os).forCall (fun _ _ => 0) ⟨#[], #[.agg #[.int .i64 0, .int .i64 0, .int .i64 0, .int .i64 0], .string ByteArray.empty], []⟩).memory :=
  laidMet_of_run' 8 (by kernel_rfl) (by kernel_rfl)
theorem incidentLines_reads (os : Os) {H : Type} (enc : TypeId × Value → H) : ∃ places, DataW.whole enc Tryd.prog ((laidW os).forCall (fun _ _ => 0) ⟨#[], #[.agg #[.int .i64 0, .int .i64 0, .int .i64 0, .int .i64 0], .string ByteArray.empty], []⟩).memory Tryd.f8.params.toList Rows.incidentLinesSpec.vars false (#[.agg #[.int .i64 0, .int .i64 0, .int .i64 0, .int .i64 0], .string ByteArray.empty] : Array Value).toList 8 = some ([.agg [.lit (.int .i64 0), .lit (.int .i64 0), .lit (.int .i64 0), .lit (.int .i64 0)], .lit (.string [])], [], places) :=
  ⟨[], by kernel_rfl⟩
set_option maxRecDepth 100000 in
theorem incidentLines_lifted (os : Os) (started : os.Started) (H : Type) (enc : TypeId × Value → H) (F : Stop.Interp) :
    ReturnsInHanded {} Tryd.checked os 8 .any ((OpenSpec.ofChange Rows.incidentLinesSpec).preRow enc Tryd.prog Tryd.f8 Rows.incidentLinesRow.domain false Rows.incidentLinesRow.laid) (((OpenSpec.ofChange Rows.incidentLinesSpec).at F).post enc Tryd.prog Tryd.f8 false true false false) := by
  obtain ⟨places, hx⟩ := incidentLines_reads os enc
  refine returnsInHanded_of_row (C := Tryd.checked) (s := (OpenSpec.ofChange Rows.incidentLinesSpec)) Tryd.own started (by kernel_rfl) Tryd.func8
    (witness_row_at (enc := enc) (C := Tryd.checked) false (laidW os) #[.agg #[.int .i64 0, .int .i64 0, .int .i64 0, .int .i64 0], .string ByteArray.empty] rfl (by kernel_rfl) (by kernel_rfl) (by kernel_rfl)
      (OpenSpec.preRow_of_cond 8 hx (by kernel_rfl) (fun k hk => by cases hk) (by kernel_rfl) (incidentLines_laid os))) ?_
  intro W base args ds gs before hval0 hW _ hcond hsz0 hL hsh _
  have hval : ∀ (j : Nat) t v, Tryd.f8.params[j]? = some t → args[j]? = some v → Value.okWide Tryd.prog W .any base t v := hval0
  have hW' : DataW.Whole enc Tryd.prog Tryd.f8.params.toList Rows.incidentLinesSpec.vars false W args.toList ds gs before := hW
  have hW2 := hW'
  obtain ⟨p, q, hA0, hV, rfl, hfz, hnd⟩ := hW2
  have hA : DataW.TrodAll enc Tryd.prog W 0 (fun _ => true) true Tryd.f8.params.toList args.toList ds p := hA0
  rw [Tryd.params8] at hA hval
  obtain ⟨v0, vs0, d0, ds0, p0, q0, hargs, rfl, rfl, h0, r0⟩ := trodAll_cons hA
  obtain ⟨v1, vs1, d1, ds1, p1, q1, rfl, rfl, rfl, h1, r1⟩ := trodAll_cons r0
  obtain ⟨rfl, rfl, rfl⟩ := trodAll_nil r1
  obtain rfl : args = #[v0, v1] := by cases args; simp_all
  obtain ⟨rfl, rfl⟩ := trodVars_none hV
  obtain ⟨q, rfl, hR1⟩ := incv_open (hval 0 23 v0 rfl rfl) h0
  obtain ⟨s, rfl, rfl, rfl, hs⟩ := open_string Tryd.underlying9 (hval 1 9 v1 rfl rfl) h1
  have hsz : (DataW.weightsEach Tryd.prog (Tryd.f8.params.toList ++ Rows.incidentLinesSpec.plain.varTypes Tryd.prog) _).all (· ≤ reachBytes) = true := hsz0
  rw [Tryd.params8] at hsz
  have hs1 := light_str (light_arg hsz (j := 1) rfl rfl)
  have hs2 : s.size ≤ 140737488355328 := by have e : s.data.toList.length = s.size := rfl; omega
  refine (incidentLines_walk q s hs2 W (tab_of hL)).mono fun e W' ⟨he, hw⟩ => ?_
  subst he
  exact ⟨_, rfl, law_post (s := Rows.incidentLinesSpec) hW' Tryd.laidOut (by kernel_rfl) rfl (by rfl) rfl Tryd.underlying4 hw⟩

theorem incidentLines_holds : Rows.IncidentLinesSaid :=
  OpenClaim.holds_of_cond 8 Tryd.f8 rfl rfl rfl rfl rfl rfl rfl ⟨rfl, rfl, rfl, rfl, rfl⟩ rfl rfl rfl rfl rfl (by kernel_rfl) Tryd.func8 (by kernel_rfl)
    (of_decide_eq_true (by kernel_rfl)) (by unfold Func.isWrapper; first | (rw [if_pos (by decide +kernel)]; kernel_rfl) | (rw [if_neg (by decide +kernel)]; exact ⟨rfl, rfl⟩))
    (fun os started H enc _ F => by rw [OpenClaim.pre_eq_preRow]; exact incidentLines_lifted os started H enc F)
theorem incidentLines_card : Rows.IncidentLinesCardSaid :=
  Claim7.holds_tied_plain_at .later [] _ _ _ _
    incidentLines_holds (fun _ h => by cases h) (by kernel_rfl) (fun _ h => by cases h) incidentLines_row_tie rfl ⟨rfl, rfl⟩ (by kernel_rfl) rfl
    (fun f fn hf hfn => by
      obtain rfl : f = 8 := Option.some.inj ((show Tryd.prog.funcNamed Rows.incidentLinesRow.func = some 8 by kernel_rfl).symm.trans hf) |>.symm
      obtain rfl : fn = Tryd.f8 := (Option.some.inj (Tryd.func8.symm.trans hfn)).symm
      exact ⟨by kernel_rfl, fun j t ht => by
        rw [Tryd.params8] at ht
        have hm : t ∈ [23, 9] := by simpa using Array.mem_of_getElem? ht
        have hall : ([23, 9].all fun u => !Tryd.prog.wantsStandIn u) = true := by kernel_rfl
        exact (show Tryd.prog.wantsStandIn t = false by simpa using List.all_eq_true.1 hall t hm)⟩)
    (by kernel_rfl)
#print axioms incidentLines_card
end Go.Proofs.YtcpapnnghclbmaaDoor
