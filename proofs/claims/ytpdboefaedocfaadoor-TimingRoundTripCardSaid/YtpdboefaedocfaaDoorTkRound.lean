/- TimingRoundTrip: parsing a printed time gives it back, and a string that is accepted is what is printed, for every input. The card: tied. No conditions. -/
import Derived.Test.YtpdboefaedocfaaDoorTkC
import Derived.Test.YtpdboefaedocfaaDoorCards
import Derived.Test.YtpdboefaedocfaaDoorTie
import Derived.LaidMore
import Derived.Stop.Joined
import Derived.SevenTiedAt
import Derived.ChangeMaps5
namespace Go.Proofs.YtpdboefaedocfaaDoor
open Go.ChangeShapes Go.WideShapes Go.ChangeAt Go.ChangeMaps Go.RowKit

namespace Tk
theorem dec_val : ∀ i : Fin 100, okD (dec i.val) = true ∧ dN (dec i.val) = (i.val : Int) := by decide +kernel
theorem dec2_val : ∀ i : Fin 100, okD (dec2 i.val) = true ∧ dN (dec2 i.val) = (i.val : Int) := by decide +kernel
theorem ext_list (l : List UInt8) (a b : Nat) : ((str l).extract a b).data.toList = (l.take b).drop a := by
  unfold str
  rw [ByteArray.data_extract, Array.toList_extract, List.extract_eq_take_drop, List.drop_take]
theorem prt_parts (n : Nat) : pH (str (prt n)) = dec (n / 3600) ∧ pM (str (prt n)) = dec2 (n / 60 % 60) ∧ pR (str (prt n)) = dec2 (n % 60) ∧ (str (prt n)).size = (dec (n / 3600)).length + 6 := by
  have hs : (str (prt n)).size = (dec (n / 3600)).length + 6 := by rw [str_size]; simp [prt, dec2]
  unfold pH pM pR
  rw [ext_list, ext_list, ext_list, hs]
  refine ⟨?_, ?_, ?_, rfl⟩
  · rw [show (dec (n / 3600)).length + 6 - 6 = (dec (n / 3600)).length by omega]
    unfold prt
    simp
  · rw [show (dec (n / 3600)).length + 6 - 5 = (dec (n / 3600)).length + 1 by omega, show (dec (n / 3600)).length + 6 - 3 = (dec (n / 3600)).length + 3 by omega]
    unfold prt
    simp [List.take_append, List.drop_append, dec2]
  · rw [show (dec (n / 3600)).length + 6 - 2 = (dec (n / 3600)).length + 4 by omega]
    unfold prt
    simp [List.take_append, List.drop_append, dec2]
theorem dec_len2 (i : Nat) : (dec i).length = 1 ∨ (dec i).length = 2 := by unfold dec; split <;> simp
theorem prt_good (n : Nat) (hn : n ≤ 359999) : Good (str (prt n)) ∧ secs (str (prt n)) = n := by
  obtain ⟨h1, h2, h3, h4⟩ := prt_parts n
  obtain ⟨a1, a2⟩ := dec_val ⟨n / 3600, by omega⟩
  obtain ⟨b1, b2⟩ := dec2_val ⟨n / 60 % 60, by omega⟩
  obtain ⟨c1, c2⟩ := dec2_val ⟨n % 60, by omega⟩
  simp only at a1 a2 b1 b2 c1 c2
  have hsec : secs (str (prt n)) = n := by
    unfold secs
    rw [h1, h2, h3, a2, b2, c2]
    omega
  refine ⟨⟨?_, by rw [h1]; exact a1, by rw [h2]; exact b1, by rw [h3]; exact c1, by rw [hsec]; omega, by rw [hsec]; rfl⟩, hsec⟩
  rw [h4]
  have := dec_len2 (n / 3600)
  omega
theorem parse_prt (n : Nat) (hn : n ≤ 359999) : parseN (str (prt n)) = n ∧ parseE (str (prt n)) = 0 ∧ 7 ≤ (str (prt n)).size ∧ (str (prt n)).size ≤ 8 := by
  obtain ⟨h1, h2⟩ := prt_good n hn
  unfold parseN parseE
  rw [if_pos h1, if_pos h1]
  have := h1.1
  exact ⟨h2, rfl, by omega, by omega⟩
theorem secs_bd {s : ByteArray} (h : s.size = 7 ∨ s.size = 8) : 0 ≤ secs s := by
  have e1 : 0 ≤ dN (pH s) := (dN_bd (by show (s.extract 0 (s.size - 6)).size ≤ 2; simp; omega)).1
  have e2 : 0 ≤ dN (pM s) := (dN_bd (by show (s.extract (s.size - 5) (s.size - 3)).size ≤ 2; simp; omega)).1
  have e3 : 0 ≤ dN (pR s) := (dN_bd (by show (s.extract (s.size - 2) s.size).size ≤ 2; simp; omega)).1
  unfold secs
  omega
/-- What is parsed: an error and 0, or a number of seconds whose printed form it is. -/
theorem parse_two (s : ByteArray) : (parseE s = 2 ∧ parseN s = 0) ∨ (parseE s = 0 ∧ ∃ n : Nat, parseN s = n ∧ n ≤ 359999 ∧ str (prt n) = s) := by
  by_cases h : Good s
  · right
    unfold parseE parseN
    rw [if_pos h, if_pos h]
    have h0 := secs_bd h.1
    have h1 := h.2.2.2.2.1
    exact ⟨rfl, (secs s).toNat, by omega, by omega, h.2.2.2.2.2⟩
  · left
    unfold parseE parseN
    rw [if_neg h, if_neg h]
    exact ⟨rfl, rfl⟩
end Tk

theorem parse_to (s : ByteArray) (hs : s.size ≤ maxLen) {n f : Int} (hn : Tk.parseN s = n) (hf : Tk.parseE s = f) (w : World) :
    Calls Tryd.prog 6 #[.string s] w fun e w' => e = .returned (.tuple #[.int .i64 n, .int .i64 f]) ∧ w' = w := by
  subst hn hf
  exact parse_any s hs w

set_option maxRecDepth 100000 in
set_option maxHeartbeats 1600000 in
theorem timingRoundTrip_walk (n : Int) (s : ByteArray) (hs : s.size ≤ maxLen) (w : World) :
    Calls Tryd.prog 3 #[.int .i64 n, .string s] w fun e w' => e = .returned (.bool true) ∧ Ext w w' := by
  have HS := Lib.hid hs
  have HP := Lib.hid (Tk.parse_two s)
  clear hs
  by_cases hr : 0 ≤ n ∧ n ≤ 359999
  · obtain ⟨m, rfl⟩ : ∃ m : Nat, n = m := ⟨n.toNat, by omega⟩
    have hm : m ≤ 359999 := by omega
    obtain ⟨p1, p2, p3, p4⟩ := Tk.parse_prt m hm
    have hE : Hid (Tk.str (Tk.prt m) = Tk.str (Tk.prt m)) := Lib.hid rfl
    obtain ⟨a, ha⟩ : ∃ a, Tk.str (Tk.prt m) = a := ⟨_, rfl⟩
    rw [ha] at p1 p2 p3 p4
    have HA := Lib.hid ha
    have P1 := Lib.hid p1
    have P2 := Lib.hid p2
    have hr2 : (m : Int) ≤ 359999 := hr.2
    have a7 : ¬ (a.size < 7) := by omega
    have aM : a.size ≤ maxLen := by unfold maxLen; omega
    have HM := Lib.hid aM
    clear ha p1 p2 hr hE aM
    go_enter Tryd.func3, Tryd.ntmps3
    go_wp2_with fail
    refine (print_ok m hm _).mono ?_
    rintro e w1 ⟨rfl, rfl⟩
    rw [HA.out]
    go_wp2_with fail
    refine (parse_to a HM.out P1.out P2.out _).mono ?_
    rintro e w1 ⟨rfl, rfl⟩
    rcases HP.out with ⟨e1, e2⟩ | ⟨e1, k, e2, hk, e3⟩
    · have E1 := Lib.hid e1
      have E2 := Lib.hid e2
      clear e1 e2 HP
      go_wp2_with fail
      refine (parse_to s HS.out E2.out E1.out _).mono ?_
      rintro e w1 ⟨rfl, rfl⟩
      go_wp2
      go_ret
      exact ⟨rfl, Ext.refl _⟩
    · have E1 := Lib.hid e1
      have E2 := Lib.hid e2
      have E3 := Lib.hid e3
      clear e1 e2 e3 HP
      go_wp2_with fail
      refine (parse_to s HS.out E2.out E1.out _).mono ?_
      rintro e w1 ⟨rfl, rfl⟩
      go_wp2_with fail
      refine (print_ok k hk _).mono ?_
      rintro e w1 ⟨rfl, rfl⟩
      rw [E3.out]
      go_wp2
      go_ret
      exact ⟨rfl, Ext.refl _⟩
  · have hn : n < 0 ∨ 359999 < n := by omega
    have HN := Lib.hid hn
    have hc : n < 0 ∨ (0 ≤ n ∧ 359999 < n) := by omega
    clear hr hn
    rcases hc with h | ⟨h, h'⟩
    all_goals
      go_enter Tryd.func3, Tryd.ntmps3
      go_wp2_with fail
      refine (print_no n HN.out _).mono ?_
      rintro e w1 ⟨rfl, rfl⟩
      rcases HP.out with ⟨e1, e2⟩ | ⟨e1, k, e2, hk, e3⟩
      · have E1 := Lib.hid e1
        have E2 := Lib.hid e2
        clear e1 e2 HP
        go_wp2_with fail
        refine (parse_to s HS.out E2.out E1.out _).mono ?_
        rintro e w1 ⟨rfl, rfl⟩
        go_wp2
        go_ret
        exact ⟨rfl, Ext.refl _⟩
      · have E1 := Lib.hid e1
        have E2 := Lib.hid e2
        have E3 := Lib.hid e3
        clear e1 e2 e3 HP
        go_wp2_with fail
        refine (parse_to s HS.out E2.out E1.out _).mono ?_
        rintro e w1 ⟨rfl, rfl⟩
        go_wp2_with fail
        refine (print_ok k hk _).mono ?_
        rintro e w1 ⟨rfl, rfl⟩
        rw [E3.out]
        go_wp2
        go_ret
        exact ⟨rfl, Ext.refl _⟩

theorem timingRoundTrip_door (os : Os) (args : Array Value) : laidMetH Tryd.prog Rows.timingRoundTripRow.laid ((World.doorLaid Tryd.prog 400 os).forCall (fun _ _ => 0) ⟨#[], args, []⟩).memory :=
  laidMetH_of_parts3 (fuel := 8) (laidMet_of_run' 8 (by kernel_rfl) (by kernel_rfl)) (by kernel_rfl) (by kernel_rfl)
set_option maxRecDepth 100000 in
theorem timingRoundTrip_lifted (os : Os) (started : os.Started) (H : Type) (enc : TypeId × Value → H) :
    ReturnsInHanded {} Tryd.checked os 3 .any (fun w args => (Rows.timingRoundTripSpec.pre enc Tryd.prog Tryd.f3 [] false w args ∧ laidMetH Tryd.prog Rows.timingRoundTripRow.laid w) ∧ sizedMet enc Tryd.prog Tryd.f3 (OpenSpec.ofChange Rows.timingRoundTripSpec) false w args)
      (Rows.timingRoundTripSpec.post enc Tryd.prog Tryd.f3 false true false false) := by
  refine returnsInHanded_of_change_and (C := Tryd.checked) (X := fun w _ => laidMetH Tryd.prog Rows.timingRoundTripRow.laid w) (fun _ _ _ hh h => h.of_heap hh) Tryd.own started (by kernel_rfl) Tryd.func3
    (ChangeSpec.witness_shaped (enc := enc) (C := Tryd.checked) (os := os) (X := fun w _ => laidMetH Tryd.prog Rows.timingRoundTripRow.laid w) false (World.doorLaid Tryd.prog 400 os) #[.int .i64 0, .string ByteArray.empty] 8 rfl (World.shaped_of_RefB (by kernel_rfl) (by kernel_rfl)) (by kernel_rfl) (by kernel_rfl) (by kernel_rfl) (timingRoundTrip_door os _)) ?_
  intro W base args ds gs before hval0 hW _ hsz0 hL _
  have hval : ∀ (j : Nat) t v, Tryd.f3.params[j]? = some t → args[j]? = some v → Value.okWide Tryd.prog W .any base t v := hval0
  have hW' := hW
  obtain ⟨p, q, hA0, hV, rfl, hfz, hnd⟩ := hW
  have hA : DataW.TrodAll enc Tryd.prog W 0 (fun _ => true) true Tryd.f3.params.toList args.toList ds p := hA0
  rw [Tryd.params3] at hA hval
  obtain ⟨v0, vs0, d0, ds0, p0, q0, hargs, rfl, rfl, h0, r0⟩ := trodAll_cons hA
  obtain ⟨v1, vs1, d1, ds1, p1, q1, rfl, rfl, rfl, h1, r1⟩ := trodAll_cons r0
  obtain ⟨rfl, rfl, rfl⟩ := trodAll_nil r1
  obtain rfl : args = #[v0, v1] := by cases args; simp_all
  obtain ⟨rfl, rfl⟩ := trodVars_none hV
  obtain ⟨n, rfl, hd0, rfl, _⟩ := open_int Tryd.underlying3 (hval 0 3 v0 rfl rfl) h0
  obtain ⟨s, rfl, rfl, rfl, hs⟩ := open_string Tryd.underlying9 (hval 1 9 v1 rfl rfl) h1
  refine (timingRoundTrip_walk n s hs W).mono fun e W' ⟨he, hw⟩ => ?_
  subst he
  exact ⟨_, rfl, law_post hW' Tryd.laidOut (by kernel_rfl) rfl (by rfl) rfl Tryd.underlying4 hw⟩

theorem timingRoundTrip_holds : Rows.TimingRoundTripSaid :=
  OpenClaim.holds_of_wide 3 Tryd.f3 rfl rfl rfl rfl rfl rfl rfl ⟨rfl, rfl, rfl, rfl, rfl⟩ rfl rfl rfl rfl rfl (by kernel_rfl) Tryd.func3 (by kernel_rfl)
    (of_decide_eq_true (by kernel_rfl)) (by unfold Func.isWrapper; first | (rw [if_pos (by decide +kernel)]; kernel_rfl) | (rw [if_neg (by decide +kernel)]; exact ⟨rfl, rfl⟩))
    (fun os started H enc _ => timingRoundTrip_lifted os started H enc)
theorem timingRoundTrip_card : Rows.TimingRoundTripCardSaid :=
  Claim7.holds_tied_plain_at .later [] [.data, .data, .data] true (true, "f86736ffc8f95fc4439d16016ddc3a47b927c0d9bb8cf7dc4d7f17b60e097d88") false
    timingRoundTrip_holds (fun _ h => by cases h) (by kernel_rfl) (fun _ h => by cases h) timingRoundTrip_row_tie rfl ⟨rfl, rfl⟩ (by kernel_rfl) rfl
    (fun f fn hf hfn => by
      obtain rfl : f = 3 := Option.some.inj ((show Tryd.prog.funcNamed Rows.timingRoundTripRow.func = some 3 by kernel_rfl).symm.trans hf) |>.symm
      obtain rfl : fn = Tryd.f3 := (Option.some.inj (Tryd.func3.symm.trans hfn)).symm
      exact ⟨by kernel_rfl, fun j t ht => by
        rw [Tryd.params3] at ht
        have hm : t ∈ [3, 9] := by simpa using Array.mem_of_getElem? ht
        have hall : ([3, 9].all fun u => !Tryd.prog.wantsStandIn u) = true := by kernel_rfl
        exact (show Tryd.prog.wantsStandIn t = false by simpa using List.all_eq_true.1 hall t hm)⟩)
    (by kernel_rfl)
#print axioms timingRoundTrip_card
end Go.Proofs.YtpdboefaedocfaaDoor
