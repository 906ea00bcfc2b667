/- RubricChecks: validity, totals and printed marks are those of the reference, for every input. The card: tied. No conditions. -/
import Derived.Test.YthjledbomonfpaaDoorRdP
import Derived.Test.YthjledbomonfpaaDoorRdO
import Derived.Test.YthjledbomonfpaaDoorCards
import Derived.Test.YthjledbomonfpaaDoorTie
import Derived.LaidMore
import Derived.Stop.Joined
import Derived.SevenTiedAt
import Derived.Deep.RegionHeld3
namespace Go.Proofs.YthjledbomonfpaaDoor
open Go.ChangeShapes Go.WideShapes Go.ChangeAt Go.RowKit

set_option maxHeartbeats 800000 in
theorem refMost_any (id : Int) (A : Option Addr) (c : Nat) (ts : List Rub.Trait) (w : World) (h : RubIn w id A c ts) :
    Calls Tryd.prog 16 #[.agg #[.int .i64 id, .slice A ts.length c]] w fun e w' => e = .returned (.tuple #[.int .i64 (Rub.mostV id ts), .int .i64 (Rub.validE id ts)]) ∧ Ext w w' := by
  have H := Lib.hid h
  have HS := Lib.hid h.1
  unfold Rub.mostV
  clear h
  by_cases hz : Rub.validE id ts = 0
  · obtain ⟨l1, l2, hall⟩ := Rub.valid_zero hz
    have HZ := Lib.hid hz
    have HALL := Lib.hid hall
    rw [if_pos hz, hz]
    clear hz hall
    go_enter Tryd.func16, Tryd.ntmps16
    go_wp2_with fail
    refine (refValid_any id A c ts _ (H.out.ext ((Ext.refl _).alloc _))).mono ?_
    rintro e w1 ⟨rfl, hb1⟩
    rw [HZ.out]
    have bx1 : w1.cell? ⟨w.heap.size, 1, none⟩ = some (.slice A ts.length c) := hb1.keep (by simp [go_sem])
    have hz1 := hb1.size
    simp at hz1
    have z10 : w.heap.size < w1.heap.size := by omega
    go_wp2
    go_loopw [6, 5] (fun i s wr => ∃ (k : Nat) (n : Int), k ≤ ts.length ∧ i = .int .i64 k ∧ s = .int .i64 n ∧ n = Rub.most (ts.take k) ∧ 0 ≤ n ∧ n ≤ 100 * k ∧ Ext w1 wr) (fun i _ _ => ts.length - (intOf i).toNat)
    case atStart => exact ⟨0, 0, by omega, rfl, rfl, rfl, by omega, by omega, Ext.refl _⟩
    case round =>
      obtain ⟨k, n, hk, rfl, rfl, hn, hn0, hn1, he⟩ := hrel
      have HN := Lib.hid hn
      clear hn
      have hw : Ext w wr := (((Ext.refl _).alloc _).trans hb1).trans he
      by_cases hlt : k < ts.length
      · obtain ⟨t, ht⟩ : ∃ t, ts[k]? = some t := ⟨ts[k], List.getElem?_eq_getElem hlt⟩
        obtain ⟨b, off, rfl, hb, c0, c1, c2⟩ := (HS.out.ext hw).at_ ht
        have htt := HALL.out t (List.mem_of_getElem? ht)
        obtain ⟨p1, p2⟩ := Rub.mark_weight (m := t.max) (x := t.max) (by omega) (by omega) htt.2.1 htt.2.2.1 htt.2.2.2
        have HT := Lib.hid ht
        clear ht htt
        have bxr : wr.cell? ⟨w.heap.size, 1, none⟩ = some (.slice (some ⟨b, off, none⟩) ts.length c) := he.keep bx1
        have zr := he.size
        have zr0 : w.heap.size < wr.heap.size := by omega
        have hki2 : (k : Int) < (ts.length : Int) := by omega
        have hki0 : (0 : Int) ≤ (k : Int) := by omega
        go_wp2
        go_quiet (fail)
        go_wp2
        go_roundw
        case rel => exact ⟨k + 1, n + t.max * t.weight, by omega, by go_num, rfl, by rw [Rub.take_snoc HT.out, Rub.most_snoc, HN.out], by omega, by omega, he.drewN _⟩
        case measure => simp [intOf]; omega
      · have bxr : wr.cell? ⟨w.heap.size, 1, none⟩ = some (.slice A ts.length c) := he.keep bx1
        go_wp2
        go_ret2
        refine ⟨ret_two ?_ rfl, hw⟩
        rw [HN.out, List.take_of_length_le (by omega)]
  · have hz' : (Rub.validE id ts != 0) = true := by rw [bne_iff_ne]; exact hz
    rw [if_neg hz]
    clear hz
    go_enter Tryd.func16, Tryd.ntmps16
    go_wp2_with fail
    refine (refValid_any id A c ts _ (H.out.ext ((Ext.refl _).alloc _))).mono ?_
    rintro e w1 ⟨rfl, hb1⟩
    go_wp2
    go_ret2
    exact ⟨rfl, ((Ext.refl _).alloc _).trans hb1⟩

set_option maxRecDepth 100000 in
set_option maxHeartbeats 3200000 in
theorem rubricChecks_walk (id : Int) (A : Option Addr) (c : Nat) (ts : List Rub.Trait) (M : Option Addr) (d : Nat) (ms : List Int) (w : World) (h : RubIn w id A c ts) (hM : SlI w M ms) (hd : ms.length ≤ maxLen) :
    Calls Tryd.prog 4 #[.agg #[.int .i64 id, .slice A ts.length c], .slice M ms.length d] w fun e w' => e = .returned (.bool true) ∧ Ext w w' := by
  have H := Lib.hid h
  have HM := Lib.hid hM
  have HD := Lib.hid hd
  clear h hM hd
  have e0 : Ext w (w.alloc (.cells #[.int .i64 id, .slice A ts.length c] 24)) := (Ext.refl _).alloc _
  obtain ⟨v, hv⟩ : ∃ v, Rub.validE id ts = v := ⟨_, rfl⟩
  obtain ⟨x, hx⟩ : ∃ v, Rub.checkE id ts ms = v := ⟨_, rfl⟩
  obtain ⟨y, hy⟩ : ∃ v, Rub.totV id ts ms = v := ⟨_, rfl⟩
  obtain ⟨z, hz⟩ : ∃ v, Rub.mostV id ts = v := ⟨_, rfl⟩
  obtain ⟨p, hp⟩ : ∃ v, Tk.prV id ts ms = v := ⟨_, rfl⟩
  have k0 : (w.alloc (.cells #[.int .i64 id, .slice A ts.length c] 24)).cell? ⟨w.heap.size, 0, none⟩ = some (.int .i64 id) := by simp [go_sem]
  have k1 : (w.alloc (.cells #[.int .i64 id, .slice A ts.length c] 24)).cell? ⟨w.heap.size, 1, none⟩ = some (.slice A ts.length c) := by simp [go_sem]
  have HV := Lib.hid hv
  have HX := Lib.hid hx
  have HY := Lib.hid hy
  have HZ := Lib.hid hz
  have HP := Lib.hid hp
  clear hv hx hy hz hp
  go_enter Tryd.func4, Tryd.ntmps4
  go_wp2_with fail
  generalize (w.alloc (.cells #[.int .i64 id, .slice A ts.length c] 24)) = W at *
  have hdr : Ext W W.drew := (Ext.refl W).drew
  go_region_held3 (fun w' => w'.cell? ⟨w.heap.size, 0, none⟩ = some (.int .i64 id) ∧ w'.cell? ⟨w.heap.size, 1, none⟩ = some (.slice A ts.length c))
    (first
      | (with_reducible exact ⟨hdr.keep k0, hdr.keep k1⟩)
      | (with_reducible exact ⟨hE4.keep k0, hE4.keep k1⟩)
      | (with_reducible exact ⟨hE3.keep k0, hE3.keep k1⟩)
      | (with_reducible exact ⟨hE2.keep k0, hE2.keep k1⟩)
      | (with_reducible exact ⟨hE1.keep k0, hE1.keep k1⟩))
    (first
      | (have hq := hE3; go_at_call 12; clear hq; refine (refCheck_any id A c ts M d ms _ (H.out.ext (e0.trans hE3)) (HM.out.ext (e0.trans hE3)) HD.out).mono ?_; rw [HX.out]; rintro e w4 ⟨rfl, hb4⟩; have hE4 : Ext W w4 := hE3.trans hb4)
      | (have hq := hE2; go_at_call 11; clear hq; refine (check_any id A c ts M d ms _ (H.out.ext (e0.trans hE2)) (HM.out.ext (e0.trans hE2)) HD.out).mono ?_; rw [HX.out]; rintro e w3 ⟨rfl, hb3⟩; have hE3 : Ext W w3 := hE2.trans hb3)
      | (have hq := hE1; go_at_call 10; clear hq; refine (refValid_any id A c ts _ (H.out.ext (e0.trans hE1))).mono ?_; rw [HV.out]; rintro e w2 ⟨rfl, hb2⟩; have hE2 : Ext W w2 := hE1.trans hb2)
      | (go_at_call 9; refine (rubValid_any id A c ts _ (H.out.ext (e0.trans hdr))).mono ?_; rw [HV.out]; rintro e w1 ⟨rfl, hb1⟩; have hE1 : Ext W w1 := hdr.trans hb1))
  have q0 := hE4.keep k0
  have q1 := hE4.keep k1
  have x4 : Ext w w4 := e0.trans hE4
  clear k0 k1
  go_wp2_with fail
  refine (total_any id A c ts M d ms _ (H.out.ext x4) (HM.out.ext x4) HD.out).mono ?_
  rw [HX.out, HY.out]
  rintro e w5 ⟨rfl, hb5⟩
  have r0 := hb5.keep q0
  have r1 := hb5.keep q1
  have x5 := x4.trans hb5
  clear q0 q1
  go_wp2_with fail
  refine (refTotal_any id A c ts M d ms _ (H.out.ext x5) (HM.out.ext x5) HD.out).mono ?_
  rw [HX.out, HY.out]
  rintro e w6 ⟨rfl, hb6⟩
  have q0 := hb6.keep r0
  have q1 := hb6.keep r1
  have x6 := x5.trans hb6
  clear r0 r1
  go_wp2_with fail
  refine (most_any id A c ts _ (H.out.ext x6)).mono ?_
  rw [HV.out, HZ.out]
  rintro e w7 ⟨rfl, hb7⟩
  have r0 := hb7.keep q0
  have r1 := hb7.keep q1
  have x7 := x6.trans hb7
  clear q0 q1
  go_wp2_with fail
  refine (refMost_any id A c ts _ (H.out.ext x7)).mono ?_
  rw [HV.out, HZ.out]
  rintro e w8 ⟨rfl, hb8⟩
  have q0 := hb8.keep r0
  have q1 := hb8.keep r1
  have x8 := x7.trans hb8
  clear r0 r1
  go_wp2_with fail
  refine (print_any id A c ts M d ms _ (H.out.ext x8) (HM.out.ext x8) HD.out).mono ?_
  rw [HX.out, HP.out]
  rintro e w9 ⟨rfl, hb9⟩
  have r0 := hb9.keep q0
  have r1 := hb9.keep q1
  have x9 := x8.trans hb9
  clear q0 q1
  go_wp2_with fail
  refine (refPrint_any id A c ts M d ms _ (H.out.ext x9) (HM.out.ext x9) HD.out).mono ?_
  rw [HX.out, HP.out]
  rintro e w10 ⟨rfl, hb10⟩
  go_wp2
  go_ret
  exact ⟨rfl, x9.trans hb10⟩

theorem rubricChecks_door (os : Os) (args : Array Value) : laidMetH Tryd.prog Rows.rubricChecksRow.laid ((World.doorLaid Tryd.prog 400 os).forCall (fun _ _ => 0) ⟨#[], args, []⟩).memory :=
  laidMetH_of_parts3 (fuel := 8) (laidMet_of_run' 8 (by kernel_rfl) (by kernel_rfl)) (by kernel_rfl) (by kernel_rfl)
set_option maxRecDepth 100000 in
theorem rubricChecks_lifted (os : Os) (started : os.Started) (H : Type) (enc : TypeId × Value → H) :
    ReturnsInHanded {} Tryd.checked os 4 .any (fun w args => (Rows.rubricChecksSpec.pre enc Tryd.prog Tryd.f4 [] false w args ∧ laidMetH Tryd.prog Rows.rubricChecksRow.laid w) ∧ sizedMet enc Tryd.prog Tryd.f4 (OpenSpec.ofChange Rows.rubricChecksSpec) false w args)
      (Rows.rubricChecksSpec.post enc Tryd.prog Tryd.f4 false true false false) := by
  refine returnsInHanded_of_change_and (C := Tryd.checked) (X := fun w _ => laidMetH Tryd.prog Rows.rubricChecksRow.laid w) (fun _ _ _ hh h => h.of_heap hh) Tryd.own started (by kernel_rfl) Tryd.func4
    (ChangeSpec.witness_shaped (enc := enc) (C := Tryd.checked) (os := os) (X := fun w _ => laidMetH Tryd.prog Rows.rubricChecksRow.laid w) false (World.doorLaid Tryd.prog 400 os) #[.agg #[.int .i64 0, .slice none 0 0], .slice none 0 0] 8 rfl (World.shaped_of_RefB (by kernel_rfl) (by kernel_rfl)) (by kernel_rfl) (by kernel_rfl) (by kernel_rfl) (rubricChecks_door os _)) ?_
  intro W base args ds gs before hval0 hW _ hsz0 hL _
  have hval : ∀ (j : Nat) t v, Tryd.f4.params[j]? = some t → args[j]? = some v → Value.okWide Tryd.prog W .any base t v := hval0
  have hW' := hW
  obtain ⟨p, q, hA0, hV, rfl, hfz, hnd⟩ := hW
  have hA : DataW.TrodAll enc Tryd.prog W 0 (fun _ => true) true Tryd.f4.params.toList args.toList ds p := hA0
  rw [Tryd.params4] at hA hval
  obtain ⟨v0, vs0, d0, ds0, p0, q0, hargs, rfl, rfl, h0, r0⟩ := trodAll_cons hA
  obtain ⟨v1, vs1, d1, ds1, p1, q1, rfl, rfl, rfl, h1, r1⟩ := trodAll_cons r0
  obtain ⟨rfl, rfl, rfl⟩ := trodAll_nil r1
  obtain rfl : args = #[v0, v1] := by cases args; simp_all
  obtain ⟨rfl, rfl⟩ := trodVars_none hV
  obtain ⟨id, A, c, ts, rfl, hR⟩ := rub_open (hval 0 24 v0 rfl rfl) h0
  obtain ⟨M, d, ms, rfl, hM, hd⟩ := ints_open (hval 1 25 v1 rfl rfl) h1
  refine (rubricChecks_walk id A c ts M d ms W hR hM (Nat.le_trans hd.1 hd.2.1)).mono fun e W' ⟨he, hw⟩ => ?_
  subst he
  exact ⟨_, rfl, law_post hW' Tryd.laidOut (by kernel_rfl) rfl (by rfl) rfl Tryd.underlying4 hw⟩

theorem rubricChecks_holds : Rows.RubricChecksSaid :=
  OpenClaim.holds_of_wide 4 Tryd.f4 rfl rfl rfl rfl rfl rfl rfl ⟨rfl, rfl, rfl, rfl, rfl⟩ rfl rfl rfl rfl rfl (by kernel_rfl) Tryd.func4 (by kernel_rfl)
    (of_decide_eq_true (by kernel_rfl)) (by unfold Func.isWrapper; first | (rw [if_pos (by decide +kernel)]; kernel_rfl) | (rw [if_neg (by decide +kernel)]; exact ⟨rfl, rfl⟩))
    (fun os started H enc _ => rubricChecks_lifted os started H enc)
theorem rubricChecks_card : Rows.RubricChecksCardSaid :=
  Claim7.holds_tied_plain_at .later [] [.data, .data, .data] true (true, "d6a8fbf8fc736bb81b53712b9cad56261d92230e389a292c197ea5da1848dde0") false
    rubricChecks_holds (fun _ h => by cases h) (by kernel_rfl) (fun _ h => by cases h) rubricChecks_row_tie rfl ⟨rfl, rfl⟩ (by kernel_rfl) rfl
    (fun f fn hf hfn => by
      obtain rfl : f = 4 := Option.some.inj ((show Tryd.prog.funcNamed Rows.rubricChecksRow.func = some 4 by kernel_rfl).symm.trans hf) |>.symm
      obtain rfl : fn = Tryd.f4 := (Option.some.inj (Tryd.func4.symm.trans hfn)).symm
      exact ⟨by kernel_rfl, fun j t ht => by
        rw [Tryd.params4] at ht
        have hm : t ∈ [24, 25] := by simpa using Array.mem_of_getElem? ht
        have hall : ([24, 25].all fun u => !Tryd.prog.wantsStandIn u) = true := by kernel_rfl
        exact (show Tryd.prog.wantsStandIn t = false by simpa using List.all_eq_true.1 hall t hm)⟩)
    (by kernel_rfl)
#print axioms rubricChecks_card
end Go.Proofs.YthjledbomonfpaaDoor
