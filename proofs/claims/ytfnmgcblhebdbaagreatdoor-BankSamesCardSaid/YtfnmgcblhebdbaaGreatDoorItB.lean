/- The two packages' rising, printable and normalized, the content package's validSegment: contracts. Conditions: those of each theorem. -/
import Derived.Test.YtfnmgcblhebdbaaGreatDoorItA
namespace Go.Proofs.YtfnmgcblhebdbaaGreatDoor
open Go.RowKit


set_option maxRecDepth 100000 in
set_option maxHeartbeats 1600000 in
theorem rising_any (A : Option Addr) (c : Nat) (l : List Int) (lo hi : Int) (w : World) (h : SlI w A l) (hl : l.length ≤ 9223372036854775807) :
    Calls Tryz.prog 105 #[.slice A l.length c, .int .i64 lo, .int .i64 hi] w fun e w' => e = .returned (.bool (It.rising l lo hi)) ∧ w = w' := by
  have H := Lib.hid h
  clear h
  obtain ⟨v, hv⟩ : ∃ v, It.rising l lo hi = v := ⟨_, rfl⟩
  have HV := Lib.hid hv
  rw [hv]
  clear hv
  go_enter Tryz.func105, Tryz.ntmps105
  go_wp2
  go_loop [11] (fun i => ∃ k : Nat, k ≤ l.length ∧ i = .int .i64 k ∧ Hid (It.allN (It.risA l lo hi) k = true)) (fun i => l.length - (intOf i).toNat)
  case atStart => exact ⟨0, by omega, rfl, Lib.hid rfl⟩
  case round =>
    obtain ⟨k, hk, rfl, HA⟩ := hrel
    by_cases hlt : k < l.length
    · obtain ⟨b, off, x, rfl, hb, hx, hc⟩ := H.out.at_ hlt
      have hxd : Hid (l.getD k 0 = x) := Lib.hid (by rw [List.getD_eq_getElem?_getD, hx]; rfl)
      clear hx
      have hend : It.risA l lo hi k = false → Hid (v = false) := fun g => Lib.hid (by rw [← HV.out]; exact It.allN_no hlt g)
      have hnext : It.risA l lo hi k = true → Hid (It.allN (It.risA l lo hi) (k + 1) = true) := fun g => Lib.hid (It.allN_next HA.out g)
      have hra : It.risA l lo hi k = (It.wi x lo hi && (decide (k = 0) || decide (l.getD (k - 1) 0 < x))) := by unfold It.risA; rw [hxd.out]
      have HR := Lib.hid hra
      have HE := Lib.hid hend
      have HN := Lib.hid hnext
      clear hra hend hnext
      obtain ⟨q, hq⟩ : ∃ q, It.wi x lo hi = q := ⟨_, rfl⟩
      have HQ := Lib.hid hq
      clear hq
      cases q with
      | false =>
        have HF := HE.out (by rw [HR.out, HQ.out]; rfl)
        go_wp2_with (go_at_call 101; refine (within_any _ _ _ _).mono ?_; rintro e w' ⟨rfl, rfl⟩; rw [HQ.out])
        go_ret
        exact ⟨ret_bool HF.out.symm, rfl⟩
      | true =>
        rcases Nat.eq_zero_or_pos k with h0 | h0
        · subst h0
          have hc0 : w.cell? ⟨b, off, none⟩ = some (.int .i64 x) := by simpa using hc
          have HF := HN.out (by rw [HR.out, HQ.out]; rfl)
          go_wp2_with (go_at_call 101; refine (within_any _ _ _ _).mono ?_; rintro e w' ⟨rfl, rfl⟩; rw [HQ.out])
          go_round
          case rel => exact ⟨0 + 1, by omega, by go_num, HF⟩
          case measure => simp [intOf]; omega
        · obtain ⟨j, rfl⟩ : ∃ j, k = j + 1 := ⟨k - 1, by omega⟩
          obtain ⟨b', off', y, e', hb', hy, hc'⟩ := H.out.at_ (i := j) (by omega)
          obtain ⟨rfl, rfl⟩ : b = b' ∧ off = off' := by cases e'; exact ⟨rfl, rfl⟩
          have hyd : Hid (l.getD (j + 1 - 1) 0 = y) := Lib.hid (by rw [Nat.add_sub_cancel, List.getD_eq_getElem?_getD, hy]; rfl)
          clear hy e'
          by_cases hxy : x ≤ y
          · have HF := HE.out (by rw [HR.out, HQ.out, hyd.out, decide_eq_false (show ¬ (j + 1 = 0) by omega), decide_eq_false (show ¬ (y < x) by omega)]; rfl)
            go_wp2_with (go_at_call 101; refine (within_any _ _ _ _).mono ?_; rintro e w' ⟨rfl, rfl⟩; rw [HQ.out])
            go_ret
            exact ⟨ret_bool HF.out.symm, rfl⟩
          · have hxy' : y < x := by omega
            have HF := HN.out (by rw [HR.out, HQ.out, hyd.out, decide_eq_true hxy', Bool.or_true]; rfl)
            clear hxy
            go_wp2_with (go_at_call 101; refine (within_any _ _ _ _).mono ?_; rintro e w' ⟨rfl, rfl⟩; rw [HQ.out])
            go_round
            case rel => exact ⟨j + 1 + 1, by omega, by go_num, HF⟩
            case measure => simp [intOf]; omega
    · have HF : Hid (v = true) := Lib.hid (by rw [← HV.out]; unfold It.rising; rw [show l.length = k by omega]; exact HA.out)
      go_wp2
      go_ret
      exact ⟨ret_bool HF.out.symm, rfl⟩


set_option maxRecDepth 100000 in
set_option maxHeartbeats 1600000 in
theorem printable_any (s : ByteArray) (most : Nat) (w : World) (hs : s.size ≤ 9223372036854775807) :
    Calls Tryz.prog 129 #[.string s, .int .i64 most] w fun e w' => e = .returned (.bool (It.prn s most false)) ∧ w = w' := by
  obtain ⟨v, hv⟩ : ∃ v, It.prn s most false = v := ⟨_, rfl⟩
  have HV := Lib.hid hv
  rw [hv]
  clear hv
  go_enter Tryz.func129, Tryz.ntmps129
  go_wp2
  go_loop [5] (fun i => ∃ k : Nat, k ≤ s.size ∧ i = .int .i64 k ∧ Hid (It.allN (fun i => It.okc false (It.by_ s i)) k = true)) (fun i => s.size - (intOf i).toNat)
  case atStart => exact ⟨0, by omega, rfl, Lib.hid rfl⟩
  case round =>
    obtain ⟨k, hk, rfl, HA⟩ := hrel
    by_cases hlt : k < s.size
    · have hby := It.by_at s hlt
      have HE : Hid ((fun i => It.okc false (It.by_ s i)) k = false → Hid (v = false)) := Lib.hid fun g => Lib.hid (by
        rw [← HV.out]; unfold It.prn; rw [It.allN_no hlt g]; simp)
      have HN : Hid ((fun i => It.okc false (It.by_ s i)) k = true → Hid (It.allN (fun i => It.okc false (It.by_ s i)) (k + 1) = true)) := Lib.hid fun g => Lib.hid (It.allN_next HA.out g)
      rcases (show ((s[k].toNat : Int) < 32) ∨ (32 ≤ (s[k].toNat : Int) ∧ 126 < (s[k].toNat : Int)) ∨ (32 ≤ (s[k].toNat : Int) ∧ (s[k].toNat : Int) ≤ 126) by omega) with h1 | ⟨h1, h2⟩ | ⟨h1, h2⟩
      · have HF := HE.out (by show It.okc false (It.by_ s k) = false; rw [hby]; unfold It.okc; simp; omega)
        clear hby
        go_wp2
        all_goals
          go_ret
          exact ⟨ret_bool HF.out.symm, rfl⟩
      · have HF := HE.out (by show It.okc false (It.by_ s k) = false; rw [hby]; unfold It.okc; simp; omega)
        clear hby
        go_wp2
        all_goals
          go_ret
          exact ⟨ret_bool HF.out.symm, rfl⟩
      · have HF := HN.out (by show It.okc false (It.by_ s k) = true; rw [hby]; unfold It.okc; simp; omega)
        clear hby
        go_wp2
        all_goals
          go_round
          case rel => exact ⟨k + 1, by omega, by go_num, HF⟩
          case measure => simp [intOf]; omega
    · obtain rfl : k = s.size := by omega
      have HF : Hid (v = (decide (1 ≤ s.size) && decide (s.size ≤ most))) := Lib.hid (by rw [← HV.out]; unfold It.prn; rw [HA.out, Bool.and_true])
      rcases (show (s.size < 1) ∨ (1 ≤ s.size ∧ most < s.size) ∨ (1 ≤ s.size ∧ s.size ≤ most) by omega) with h1 | ⟨h1, h2⟩ | ⟨h1, h2⟩
      · have HF2 : Hid (v = false) := Lib.hid (by rw [HF.out, decide_eq_false (by omega)]; rfl)
        go_wp2
        go_ret
        exact ⟨ret_bool (by first | exact HF2.out.symm | (rw [HF2.out]; exact decide_eq_false (by omega)) | (rw [HF2.out]; exact decide_eq_true (by omega))), rfl⟩
      · have HF2 : Hid (v = false) := Lib.hid (by rw [HF.out, decide_eq_false (show ¬ s.size ≤ most by omega), Bool.and_false])
        go_wp2
        go_ret
        exact ⟨ret_bool (by first | exact HF2.out.symm | (rw [HF2.out]; exact decide_eq_false (by omega)) | (rw [HF2.out]; exact decide_eq_true (by omega))), rfl⟩
      · have HF2 : Hid (v = true) := Lib.hid (by rw [HF.out, decide_eq_true h1, decide_eq_true h2]; rfl)
        go_wp2
        go_ret
        exact ⟨ret_bool (by first | exact HF2.out.symm | (rw [HF2.out]; exact decide_eq_false (by omega)) | (rw [HF2.out]; exact decide_eq_true (by omega))), rfl⟩


namespace It
/-- Capital letters and digits. -/
def cap (x : Int) : Bool := (decide (65 ≤ x) && decide (x ≤ 90)) || (decide (48 ≤ x) && decide (x ≤ 57))
/-- A segment of a content code. -/
def seg (s : ByteArray) : Bool := decide (1 ≤ s.size) && decide (s.size ≤ 8) && allN (fun i => cap (by_ s i)) s.size
end It

set_option maxRecDepth 100000 in
set_option maxHeartbeats 1600000 in
theorem validSegment_any (s : ByteArray) (w : World) (hs : s.size ≤ 9223372036854775807) :
    Calls Tryz.prog 119 #[.string s] w fun e w' => e = .returned (.bool (It.seg s)) ∧ w = w' := by
  obtain ⟨v, hv⟩ : ∃ v, It.seg s = v := ⟨_, rfl⟩
  have HV := Lib.hid hv
  rw [hv]
  clear hv
  go_enter Tryz.func119, Tryz.ntmps119
  go_wp2
  go_loop [3] (fun i => ∃ k : Nat, k ≤ s.size ∧ i = .int .i64 k ∧ Hid (It.allN (fun i => It.cap (It.by_ s i)) k = true)) (fun i => s.size - (intOf i).toNat)
  case atStart => exact ⟨0, by omega, rfl, Lib.hid rfl⟩
  case round =>
    obtain ⟨k, hk, rfl, HA⟩ := hrel
    by_cases hlt : k < s.size
    · have hby := It.by_at s hlt
      have HE : Hid ((fun i => It.cap (It.by_ s i)) k = false → Hid (v = false)) := Lib.hid fun g => Lib.hid (by
        rw [← HV.out]; unfold It.seg; rw [It.allN_no hlt g]; simp)
      have HN : Hid ((fun i => It.cap (It.by_ s i)) k = true → Hid (It.allN (fun i => It.cap (It.by_ s i)) (k + 1) = true)) := Lib.hid fun g => Lib.hid (It.allN_next HA.out g)
      rcases (show ((s[k].toNat : Int) < 65 ∧ (s[k].toNat : Int) < 48) ∨ ((s[k].toNat : Int) < 65 ∧ 48 ≤ (s[k].toNat : Int) ∧ (s[k].toNat : Int) ≤ 57) ∨ ((s[k].toNat : Int) < 65 ∧ 48 ≤ (s[k].toNat : Int) ∧ 57 < (s[k].toNat : Int)) ∨ (65 ≤ (s[k].toNat : Int) ∧ (s[k].toNat : Int) ≤ 90) ∨ (65 ≤ (s[k].toNat : Int) ∧ 90 < (s[k].toNat : Int) ∧ 48 ≤ (s[k].toNat : Int) ∧ 57 < (s[k].toNat : Int)) by omega) with ⟨h1, h2⟩ | ⟨h1, h2, h3⟩ | ⟨h1, h2, h3⟩ | ⟨h1, h2⟩ | ⟨h1, h2, h3, h4⟩
      · have HF := HE.out (by show It.cap (It.by_ s k) = false; rw [hby]; unfold It.cap; simp; omega)
        clear hby
        go_wp2
        all_goals
          go_ret
          exact ⟨ret_bool HF.out.symm, rfl⟩
      · have HF := HN.out (by show It.cap (It.by_ s k) = true; rw [hby]; unfold It.cap; simp; omega)
        clear hby
        go_wp2
        all_goals
          go_round
          case rel => exact ⟨k + 1, by omega, by go_num, HF⟩
          case measure => simp [intOf]; omega
      · have HF := HE.out (by show It.cap (It.by_ s k) = false; rw [hby]; unfold It.cap; simp; omega)
        clear hby
        go_wp2
        all_goals
          go_ret
          exact ⟨ret_bool HF.out.symm, rfl⟩
      · have HF := HN.out (by show It.cap (It.by_ s k) = true; rw [hby]; unfold It.cap; simp; omega)
        clear hby
        go_wp2
        all_goals
          go_round
          case rel => exact ⟨k + 1, by omega, by go_num, HF⟩
          case measure => simp [intOf]; omega
      · have HF := HE.out (by show It.cap (It.by_ s k) = false; rw [hby]; unfold It.cap; simp; omega)
        clear hby
        go_wp2
        all_goals
          go_ret
          exact ⟨ret_bool HF.out.symm, rfl⟩
    · obtain rfl : k = s.size := by omega
      have HF : Hid (v = (decide (1 ≤ s.size) && decide (s.size ≤ 8))) := Lib.hid (by rw [← HV.out]; unfold It.seg; rw [HA.out, Bool.and_true])
      rcases (show (s.size < 1) ∨ (1 ≤ s.size ∧ 8 < s.size) ∨ (1 ≤ s.size ∧ s.size ≤ 8) by omega) with h1 | ⟨h1, h2⟩ | ⟨h1, h2⟩
      · have HF2 : Hid (v = false) := Lib.hid (by rw [HF.out, decide_eq_false (by omega)]; rfl)
        go_wp2
        go_ret
        exact ⟨ret_bool (by first | exact HF2.out.symm | (rw [HF2.out]; exact decide_eq_false (by omega)) | (rw [HF2.out]; exact decide_eq_true (by omega))), rfl⟩
      · have HF2 : Hid (v = false) := Lib.hid (by rw [HF.out, decide_eq_false (show ¬ s.size ≤ 8 by omega), Bool.and_false])
        go_wp2
        go_ret
        exact ⟨ret_bool (by first | exact HF2.out.symm | (rw [HF2.out]; exact decide_eq_false (by omega)) | (rw [HF2.out]; exact decide_eq_true (by omega))), rfl⟩
      · have HF2 : Hid (v = true) := Lib.hid (by rw [HF.out, decide_eq_true h1, decide_eq_true h2]; rfl)
        go_wp2
        go_ret
        exact ⟨ret_bool (by first | exact HF2.out.symm | (rw [HF2.out]; exact decide_eq_false (by omega)) | (rw [HF2.out]; exact decide_eq_true (by omega))), rfl⟩


end Go.Proofs.YtfnmgcblhebdbaaGreatDoor
