/- IncidentTexts, where the string is of at most 1048576 bytes: the law returns true. Conditions: the table of powers lies as the row says. -/
import Derived.Test.YtcpapnnghclbmaaDoorInO
import Derived.Test.YtcpapnnghclbmaaDoorInY
import Derived.ChangeMaps5
namespace Go.Proofs.YtcpapnnghclbmaaDoor
open Go.ChangeShapes Go.WideShapes Go.ChangeAt Go.RowKit Go.ChangeMaps

theorem print_at (p : In.Inc) {l : List UInt8} {v : Int} (hl : In.printV p = l) (hv : In.vld p = v) (w : World) (ht : Tab w) : Calls Tryd.prog 25 #[.agg #[.int .i64 p.1, .int .i64 p.2.1, .int .i64 p.2.2.1, .int .i64 p.2.2.2]] w fun e w' => e = .returned (.tuple #[.string (In.str l), .int .i64 v]) ∧ Ext w w' := by
  subst hl hv
  exact print_any p w ht
theorem rprint_at (p : In.Inc) {l : List UInt8} {v : Int} (hl : In.printV p = l) (hv : In.vld p = v) (w : World) : Calls Tryd.prog 26 #[.agg #[.int .i64 p.1, .int .i64 p.2.1, .int .i64 p.2.2.1, .int .i64 p.2.2.2]] w fun e w' => e = .returned (.tuple #[.string (In.str l), .int .i64 v]) ∧ Ext w w' := by
  subst hl hv
  exact rprint_any p w
theorem parse_at (s : ByteArray) (hs : s.size ≤ 140737488355328) {r : In.Inc} {er : Int} (hr : In.parseP (In.pcs s) = (r, er)) (w : World) :
    Calls Tryd.prog 27 #[.string s] w fun e w' => e = .returned (.tuple #[.agg #[.int .i64 r.1, .int .i64 r.2.1, .int .i64 r.2.2.1, .int .i64 r.2.2.2], .int .i64 er]) ∧ Ext w w' := parse_any s hs w hr
theorem rparse_at (s : ByteArray) (hs : s.size ≤ 1048576) {r : In.Inc} {er : Int} (hr : In.parseP (In.all s) = (r, er)) (w : World) :
    Calls Tryd.prog 28 #[.string s] w fun e w' => e = .returned (.tuple #[.agg #[.int .i64 r.1, .int .i64 r.2.1, .int .i64 r.2.2.1, .int .i64 r.2.2.2], .int .i64 er]) ∧ Ext w w' := rparse_any s hs w hr
set_option maxRecDepth 100000 in
set_option maxHeartbeats 12800000 in
theorem incidentTexts_walk (p : In.Inc) (s : ByteArray) (hs : s.size ≤ 1048576) (w : World) (ht : Tab w) :
    Calls Tryd.prog 5 #[In.agg p, .string s] w fun e w' => e = .returned (.bool true) ∧ Ext w w' := by
  unfold In.agg
  have HT := Lib.hid ht
  clear ht
  obtain ⟨v, hv⟩ : ∃ v, In.vld p = v := ⟨_, rfl⟩
  obtain ⟨l, hl⟩ : ∃ l, In.printV p = l := ⟨_, rfl⟩
  obtain ⟨⟨r, er⟩, hr⟩ : ∃ r, In.parseP (In.pcs s) = r := ⟨_, rfl⟩
  have HV := Lib.hid hv
  have HL := Lib.hid hl
  have HR := Lib.hid hr
  have HR2 : Hid (In.parseP (In.all s) = (r, er)) := Lib.hid (by rw [← In.all_pcs, hr])
  clear hv hl hr
  have hE := fun w => run_eql_inc r r (v := true) (by simp) w
  go_enter Tryd.func5, Tryd.ntmps5
  go_wp2_with fail
  with_reducible refine (print_at p HL.out HV.out _ (HT.out.ext ((Ext.refl _).alloc _))).mono ?_
  rintro e w1 ⟨rfl, hb1⟩
  have x1 := ((Ext.refl w).alloc _).trans hb1
  obtain ⟨hc1, hf1⟩ := hb1.cells
  have hz1 := hb1.size
  simp at hz1
  have z10 : w.heap.size < w1.heap.size := by omega
  go_wp2_with fail
  with_reducible refine (rprint_at p HL.out HV.out _).mono ?_
  rintro e w2 ⟨rfl, hb2⟩
  have x2 := x1.trans hb2
  clear hb1 hc1 hf1 hz1
  go_wp2_with fail
  with_reducible refine (parse_at s (by omega) HR.out _).mono ?_
  rintro e w3 ⟨rfl, hb3⟩
  have x3 := x2.trans hb3
  clear hb2 hb3
  go_wp2_with fail
  with_reducible refine (rparse_at s hs HR2.out _).mono ?_
  rintro e w4 ⟨rfl, hb4⟩
  have x4 := (x3.alloc _).trans hb4
  obtain ⟨hc4, hf4⟩ := hb4.cells
  have hz4 := hb4.size
  simp at hz4
  have z43 : w3.heap.size < w4.heap.size := by omega
  have HT5 := Lib.hid (HT.out.ext (x4.alloc (.cells #[.int .i64 r.1, .int .i64 r.2.1, .int .i64 r.2.2.1, .int .i64 r.2.2.2] 23)))
  clear hb4
  go_wp2_with fail
  with_reducible refine (awake_any _ HT5.out).mono ?_
  rintro e w5 ⟨rfl, hb5⟩
  go_wp2
  go_ret
  exact ⟨rfl, (x4.alloc _).trans hb5⟩
theorem upto_string {H : Type} {d : DataW H} {bytes : List UInt8} (hk : Rows.uptoSmall H [d, .lit (.string bytes)] = true) : bytes.length ≤ 1048576 := by
  have h := of_decide_eq_true hk
  simp only [Rows.uptoBulkAll, Rows.uptoBulk] at h
  omega


theorem incidentTexts_laid (os : Os) : laidMet Tryd.prog Rows.incidentTextsUptoRow.laid ((laidW os).forCall (fun _ _ => 0) ⟨#[], #[.agg #[.int .i64 0, .int .i64 0, .int .i64 0, .int .i64 0], .string ByteArray.empty], []⟩).memory :=
  laidMet_of_run' 8 (by kernel_rfl) (by kernel_rfl)
theorem incidentTexts_reads (os : Os) {H : Type} (enc : TypeId × Value → H) : ∃ places, DataW.whole enc Tryd.prog ((laidW os).forCall (fun _ _ => 0) ⟨#[], #[.agg #[.int .i64 0, .int .i64 0, .int .i64 0, .int .i64 0], .string ByteArray.empty], []⟩).memory Tryd.f5.params.toList Rows.incidentTextsSpec.vars false (#[.agg #[.int .i64 0, .int .i64 0, .int .i64 0, .int .i64 0], .string ByteArray.empty] : Array Value).toList 8 = some ([.agg [.lit (.int .i64 0), .lit (.int .i64 0), .lit (.int .i64 0), .lit (.int .i64 0)], .lit (.string [])], [], places) :=
  ⟨[], by kernel_rfl⟩
set_option maxRecDepth 100000 in
theorem incidentTexts_lifted (os : Os) (started : os.Started) (H : Type) (enc : TypeId × Value → H) (F : Stop.Interp) :
    ReturnsInHanded {} Tryd.checked os 5 .any ((Rows.OpenSpec.upto Rows.incidentTextsSpec).preRow enc Tryd.prog Tryd.f5 Rows.incidentTextsUptoRow.domain false Rows.incidentTextsUptoRow.laid) (((Rows.OpenSpec.upto Rows.incidentTextsSpec).at F).post enc Tryd.prog Tryd.f5 false true false false) := by
  obtain ⟨places, hx⟩ := incidentTexts_reads os enc
  refine returnsInHanded_of_row (C := Tryd.checked) (s := (Rows.OpenSpec.upto Rows.incidentTextsSpec)) Tryd.own started (by kernel_rfl) Tryd.func5
    (witness_row_at (enc := enc) (C := Tryd.checked) false (laidW os) #[.agg #[.int .i64 0, .int .i64 0, .int .i64 0, .int .i64 0], .string ByteArray.empty] rfl (by kernel_rfl) (by kernel_rfl) (by kernel_rfl)
      (OpenSpec.preRow_of_cond 8 hx (by kernel_rfl) (fun k hk => by cases hk; kernel_rfl) (by kernel_rfl) (incidentTexts_laid os))) ?_
  intro W base args ds gs before hval0 hW _ hcond hsz0 hL hsh _
  have hval : ∀ (j : Nat) t v, Tryd.f5.params[j]? = some t → args[j]? = some v → Value.okWide Tryd.prog W .any base t v := hval0
  have hW' : DataW.Whole enc Tryd.prog Tryd.f5.params.toList Rows.incidentTextsSpec.vars false W args.toList ds gs before := hW
  have hW2 := hW'
  obtain ⟨p, q, hA0, hV, rfl, hfz, hnd⟩ := hW2
  have hA : DataW.TrodAll enc Tryd.prog W 0 (fun _ => true) true Tryd.f5.params.toList args.toList ds p := hA0
  rw [Tryd.params5] at hA hval
  obtain ⟨v0, vs0, d0, ds0, p0, q0, hargs, rfl, rfl, h0, r0⟩ := trodAll_cons hA
  obtain ⟨v1, vs1, d1, ds1, p1, q1, rfl, rfl, rfl, h1, r1⟩ := trodAll_cons r0
  obtain ⟨rfl, rfl, rfl⟩ := trodAll_nil r1
  obtain rfl : args = #[v0, v1] := by cases args; simp_all
  obtain ⟨rfl, rfl⟩ := trodVars_none hV
  obtain ⟨q, rfl, hR1⟩ := incv_open (hval 0 23 v0 rfl rfl) h0
  obtain ⟨s, rfl, rfl, rfl, hs⟩ := open_string Tryd.underlying9 (hval 1 9 v1 rfl rfl) h1
  have hlen : s.data.toList.length ≤ 1048576 := upto_string (hcond _ rfl)
  have hs2 : s.size ≤ 1048576 := by have e : s.data.toList.length = s.size := rfl; omega
  refine (incidentTexts_walk q s hs2 W (tab_of hL)).mono fun e W' ⟨he, hw⟩ => ?_
  subst he
  exact ⟨_, rfl, law_post (s := Rows.incidentTextsSpec) hW' Tryd.laidOut (by kernel_rfl) rfl (by rfl) rfl Tryd.underlying4 hw⟩

theorem incidentTexts_holds : Rows.IncidentTextsUptoSaid :=
  OpenClaim.holds_of_cond 5 Tryd.f5 rfl rfl rfl rfl rfl rfl rfl ⟨rfl, rfl, rfl, rfl, rfl⟩ rfl rfl rfl rfl rfl (by kernel_rfl) Tryd.func5 (by kernel_rfl)
    (of_decide_eq_true (by kernel_rfl)) (by unfold Func.isWrapper; first | (rw [if_pos (by decide +kernel)]; kernel_rfl) | (rw [if_neg (by decide +kernel)]; exact ⟨rfl, rfl⟩))
    (fun os started H enc _ F => by rw [OpenClaim.pre_eq_preRow]; exact incidentTexts_lifted os started H enc F)
theorem incidentTexts_card : Rows.IncidentTextsUptoCardSaid :=
  Claim7.holds_tied_plain_at .later [] _ _ _ _
    incidentTexts_holds (fun _ h => by cases h) (by kernel_rfl) (fun _ h => by cases h) incidentTextsUpto_row_tie rfl ⟨rfl, rfl⟩ (by kernel_rfl) rfl
    (fun f fn hf hfn => by
      obtain rfl : f = 5 := Option.some.inj ((show Tryd.prog.funcNamed Rows.incidentTextsUptoRow.func = some 5 by kernel_rfl).symm.trans hf) |>.symm
      obtain rfl : fn = Tryd.f5 := (Option.some.inj (Tryd.func5.symm.trans hfn)).symm
      exact ⟨by kernel_rfl, fun j t ht => by
        rw [Tryd.params5] at ht
        have hm : t ∈ [23, 9] := by simpa using Array.mem_of_getElem? ht
        have hall : ([23, 9].all fun u => !Tryd.prog.wantsStandIn u) = true := by kernel_rfl
        exact (show Tryd.prog.wantsStandIn t = false by simpa using List.all_eq_true.1 hall t hm)⟩)
    (by kernel_rfl)
#print axioms incidentTexts_card
end Go.Proofs.YtcpapnnghclbmaaDoor
