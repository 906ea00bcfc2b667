/- TimingClocks: the time left, printed and parsed times are those of the reference, for every input. The card: tied. No conditions. -/
import Derived.Test.YtpdboefaedocfaaDoorTkE
import Derived.Test.YtpdboefaedocfaaDoorCards
import Derived.Test.YtpdboefaedocfaaDoorTie
import Derived.LaidMore
import Derived.Stop.Joined
import Derived.SevenTiedAt
import Derived.ChangeMaps5
namespace Go.Proofs.YtpdboefaedocfaaDoor
open Go.ChangeShapes Go.WideShapes Go.ChangeAt Go.ChangeMaps Go.RowKit

theorem lit_bd {n : Int} (h : (Lit.int .i64 n).wf = true) : -9223372036854775808 ≤ n ∧ n ≤ 9223372036854775807 := by
  simp only [Lit.wf, Bool.and_eq_true, decide_eq_true_eq] at h
  exact h
theorem parseA_to (s : ByteArray) (hs : s.size ≤ maxLen) {n f : Int} (hn : Tk.parseN s = n) (hf : Tk.parseE s = f) (w : World) :
    Calls Tryd.prog 6 #[.string s] w fun e w' => e = .returned (.tuple #[.int .i64 n, .int .i64 f]) ∧ w' = w := by
  subst hn hf
  exact parse_any s hs w
theorem parseB_to (s : ByteArray) (hs : s.size ≤ maxLen) {n f : Int} (hn : Tk.parseN s = n) (hf : Tk.parseE s = f) (w : World) :
    Calls Tryd.prog 10 #[.string s] w fun e w' => e = .returned (.tuple #[.int .i64 n, .int .i64 f]) ∧ Ext w w' := by
  subst hn hf
  exact refParse_any s hs w
theorem left_to {l u r : Int} (hr : Tk.left l u = r) (w : World) (hl : -9223372036854775808 ≤ l ∧ l ≤ 9223372036854775807) (hu : -9223372036854775808 ≤ u ∧ u ≤ 9223372036854775807) :
    Calls Tryd.prog 7 #[.int .i64 l, .int .i64 u] w fun e w' => e = .returned (.int .i64 r) ∧ w' = w := by
  subst hr
  exact left_any l u w hl hu
theorem refLeft_to {l u r : Int} (hr : Tk.left l u = r) (w : World) (hl : -9223372036854775808 ≤ l ∧ l ≤ 9223372036854775807) (hu : -9223372036854775808 ≤ u ∧ u ≤ 9223372036854775807) :
    Calls Tryd.prog 8 #[.int .i64 l, .int .i64 u] w fun e w' => e = .returned (.int .i64 r) ∧ w' = w := by
  subst hr
  exact refLeft_any l u w hl hu

set_option maxRecDepth 100000 in
set_option maxHeartbeats 1600000 in
theorem timingClocks_walk (l u : Int) (s : ByteArray) (hs : s.size ≤ maxLen) (w : World) (hl : -9223372036854775808 ≤ l ∧ l ≤ 9223372036854775807) (hu : -9223372036854775808 ≤ u ∧ u ≤ 9223372036854775807) :
    Calls Tryd.prog 4 #[.int .i64 l, .int .i64 u, .string s] w fun e w' => e = .returned (.bool true) ∧ Ext w w' := by
  have HS := Lib.hid hs
  have HL := Lib.hid hl
  have HU := Lib.hid hu
  obtain ⟨r, hr⟩ : ∃ r, Tk.left l u = r := ⟨_, rfl⟩
  obtain ⟨pn, hpn⟩ : ∃ r, Tk.parseN s = r := ⟨_, rfl⟩
  obtain ⟨pe, hpe⟩ : ∃ r, Tk.parseE s = r := ⟨_, rfl⟩
  have HR := Lib.hid hr
  have HPN := Lib.hid hpn
  have HPE := Lib.hid hpe
  clear hs hr hpn hpe hl hu
  go_enter Tryd.func4, Tryd.ntmps4
  go_wp2_with fail
  refine (left_to HR.out _ HL.out HU.out).mono ?_
  rintro e w1 ⟨rfl, rfl⟩
  go_wp2_with fail
  refine (refLeft_to HR.out _ HL.out HU.out).mono ?_
  rintro e w1 ⟨rfl, rfl⟩
  by_cases hc : 0 ≤ l ∧ l ≤ 359999
  · obtain ⟨m, hm⟩ : ∃ m : Nat, l = m := ⟨l.toNat, by omega⟩
    have hm2 : m ≤ 359999 := by omega
    have HM := Lib.hid hm
    clear hm hc
    go_wp2_with fail
    refine (print_to _ m HM.out hm2 _).mono ?_
    rintro e w1 ⟨rfl, rfl⟩
    go_wp2_with fail
    refine (refPrint_to _ m HM.out hm2 _).mono ?_
    rintro e w2 ⟨rfl, hw2⟩
    generalize Tk.str (Tk.prt m) = a
    go_wp2_with fail
    refine (parseA_to s HS.out HPN.out HPE.out _).mono ?_
    rintro e w1 ⟨rfl, rfl⟩
    go_wp2_with fail
    refine (parseB_to s HS.out HPN.out HPE.out _).mono ?_
    rintro e w3 ⟨rfl, hw3⟩
    go_wp2
    go_ret
    exact ⟨rfl, hw2.trans hw3⟩
  · have hc' : l < 0 ∨ 359999 < l := by omega
    have HC := Lib.hid hc'
    clear hc hc'
    go_wp2_with fail
    refine (print_no _ HC.out _).mono ?_
    rintro e w1 ⟨rfl, rfl⟩
    go_wp2_with fail
    refine (refPrint_no _ HC.out _).mono ?_
    rintro e w2 ⟨rfl, rfl⟩
    go_wp2_with fail
    refine (parseA_to s HS.out HPN.out HPE.out _).mono ?_
    rintro e w1 ⟨rfl, rfl⟩
    go_wp2_with fail
    refine (parseB_to s HS.out HPN.out HPE.out _).mono ?_
    rintro e w3 ⟨rfl, hw3⟩
    go_wp2
    go_ret
    exact ⟨rfl, hw3⟩

theorem timingClocks_door (os : Os) (args : Array Value) : laidMetH Tryd.prog Rows.timingClocksRow.laid ((World.doorLaid Tryd.prog 400 os).forCall (fun _ _ => 0) ⟨#[], args, []⟩).memory :=
  laidMetH_of_parts3 (fuel := 8) (laidMet_of_run' 8 (by kernel_rfl) (by kernel_rfl)) (by kernel_rfl) (by kernel_rfl)
set_option maxRecDepth 100000 in
theorem timingClocks_lifted (os : Os) (started : os.Started) (H : Type) (enc : TypeId × Value → H) :
    ReturnsInHanded {} Tryd.checked os 4 .any (fun w args => (Rows.timingClocksSpec.pre enc Tryd.prog Tryd.f4 [] false w args ∧ laidMetH Tryd.prog Rows.timingClocksRow.laid w) ∧ sizedMet enc Tryd.prog Tryd.f4 (OpenSpec.ofChange Rows.timingClocksSpec) false w args)
      (Rows.timingClocksSpec.post enc Tryd.prog Tryd.f4 false true false false) := by
  refine returnsInHanded_of_change_and (C := Tryd.checked) (X := fun w _ => laidMetH Tryd.prog Rows.timingClocksRow.laid w) (fun _ _ _ hh h => h.of_heap hh) Tryd.own started (by kernel_rfl) Tryd.func4
    (ChangeSpec.witness_shaped (enc := enc) (C := Tryd.checked) (os := os) (X := fun w _ => laidMetH Tryd.prog Rows.timingClocksRow.laid w) false (World.doorLaid Tryd.prog 400 os) #[.int .i64 0, .int .i64 0, .string ByteArray.empty] 8 rfl (World.shaped_of_RefB (by kernel_rfl) (by kernel_rfl)) (by kernel_rfl) (by kernel_rfl) (by kernel_rfl) (timingClocks_door os _)) ?_
  intro W base args ds gs before hval0 hW _ hsz0 hL _
  have hval : ∀ (j : Nat) t v, Tryd.f4.params[j]? = some t → args[j]? = some v → Value.okWide Tryd.prog W .any base t v := hval0
  have hW' := hW
  obtain ⟨p, q, hA0, hV, rfl, hfz, hnd⟩ := hW
  have hA : DataW.TrodAll enc Tryd.prog W 0 (fun _ => true) true Tryd.f4.params.toList args.toList ds p := hA0
  rw [Tryd.params4] at hA hval
  obtain ⟨v0, vs0, d0, ds0, p0, q0, hargs, rfl, rfl, h0, r0⟩ := trodAll_cons hA
  obtain ⟨v1, vs1, d1, ds1, p1, q1, rfl, rfl, rfl, h1, r1⟩ := trodAll_cons r0
  obtain ⟨v2, vs2, d2, ds2, p2, q2, rfl, rfl, rfl, h2, r2⟩ := trodAll_cons r1
  obtain ⟨rfl, rfl, rfl⟩ := trodAll_nil r2
  obtain rfl : args = #[v0, v1, v2] := by cases args; simp_all
  obtain ⟨rfl, rfl⟩ := trodVars_none hV
  obtain ⟨l, rfl, hd0, rfl, b0⟩ := open_int Tryd.underlying3 (hval 0 3 v0 rfl rfl) h0
  obtain ⟨u, rfl, hd1, rfl, b1⟩ := open_int Tryd.underlying3 (hval 1 3 v1 rfl rfl) h1
  obtain ⟨s, rfl, rfl, rfl, hs⟩ := open_string Tryd.underlying9 (hval 2 9 v2 rfl rfl) h2
  refine (timingClocks_walk l u s hs W (lit_bd b0) (lit_bd b1)).mono fun e W' ⟨he, hw⟩ => ?_
  subst he
  exact ⟨_, rfl, law_post hW' Tryd.laidOut (by kernel_rfl) rfl (by rfl) rfl Tryd.underlying4 hw⟩

theorem timingClocks_holds : Rows.TimingClocksSaid :=
  OpenClaim.holds_of_wide 4 Tryd.f4 rfl rfl rfl rfl rfl rfl rfl ⟨rfl, rfl, rfl, rfl, rfl⟩ rfl rfl rfl rfl rfl (by kernel_rfl) Tryd.func4 (by kernel_rfl)
    (of_decide_eq_true (by kernel_rfl)) (by unfold Func.isWrapper; first | (rw [if_pos (by decide +kernel)]; kernel_rfl) | (rw [if_neg (by decide +kernel)]; exact ⟨rfl, rfl⟩))
    (fun os started H enc _ => timingClocks_lifted os started H enc)
theorem timingClocks_card : Rows.TimingClocksCardSaid :=
  Claim7.holds_tied_plain_at .later [] [.data, .data, .data] true (true, "f86736ffc8f95fc4439d16016ddc3a47b927c0d9bb8cf7dc4d7f17b60e097d88") false
    timingClocks_holds (fun _ h => by cases h) (by kernel_rfl) (fun _ h => by cases h) timingClocks_row_tie rfl ⟨rfl, rfl⟩ (by kernel_rfl) rfl
    (fun f fn hf hfn => by
      obtain rfl : f = 4 := Option.some.inj ((show Tryd.prog.funcNamed Rows.timingClocksRow.func = some 4 by kernel_rfl).symm.trans hf) |>.symm
      obtain rfl : fn = Tryd.f4 := (Option.some.inj (Tryd.func4.symm.trans hfn)).symm
      exact ⟨by kernel_rfl, fun j t ht => by
        rw [Tryd.params4] at ht
        have hm : t ∈ [3, 3, 9] := by simpa using Array.mem_of_getElem? ht
        have hall : ([3, 3, 9].all fun u => !Tryd.prog.wantsStandIn u) = true := by kernel_rfl
        exact (show Tryd.prog.wantsStandIn t = false by simpa using List.all_eq_true.1 hall t hm)⟩)
    (by kernel_rfl)
#print axioms timingClocks_card
end Go.Proofs.YtpdboefaedocfaaDoor
