/- The two packages' rising, printable and normalized, the content package's validSegment: contracts. Conditions: those of each theorem. -/
import Derived.Test.YtdaccamiipknmaaGreatDoorItA
namespace Go.Proofs.YtdaccamiipknmaaGreatDoor
open Go.RowKit


set_option maxRecDepth 100000 in
set_option maxHeartbeats 1600000 in
theorem rising_any (A : Option Addr) (c : Nat) (l : List Int) (lo hi : Int) (w : World) (h : SlI w A l) (hl : l.length ≤ 9223372036854775807) :
    Calls Tryz.prog 56 #[.slice A l.length c, .int .i64 lo, .int .i64 hi] w fun e w' => e = .returned (.bool (It.rising l lo hi)) ∧ w = w' := by
  have H := Lib.hid h
  clear h
  obtain ⟨v, hv⟩ : ∃ v, It.rising l lo hi = v := ⟨_, rfl⟩
  have HV := Lib.hid hv
  rw [hv]
  clear hv
  go_enter Tryz.func56, Tryz.ntmps56
  go_wp2
  go_loop [11] (fun i => ∃ k : Nat, k ≤ l.length ∧ i = .int .i64 k ∧ Hid (It.allN (It.risA l lo hi) k = true)) (fun i => l.length - (intOf i).toNat)
  case atStart => exact ⟨0, by omega, rfl, Lib.hid rfl⟩
  case round =>
    obtain ⟨k, hk, rfl, HA⟩ := hrel
    by_cases hlt : k < l.length
    · obtain ⟨b, off, x, rfl, hb, hx, hc⟩ := H.out.at_ hlt
      have hxd : Hid (l.getD k 0 = x) := Lib.hid (by rw [List.getD_eq_getElem?_getD, hx]; rfl)
      clear hx
      have hend : It.risA l lo hi k = false → Hid (v = false) := fun g => Lib.hid (by rw [← HV.out]; exact It.allN_no hlt g)
      have hnext : It.risA l lo hi k = true → Hid (It.allN (It.risA l lo hi) (k + 1) = true) := fun g => Lib.hid (It.allN_next HA.out g)
      have hra : It.risA l lo hi k = (It.wi x lo hi && (decide (k = 0) || decide (l.getD (k - 1) 0 < x))) := by unfold It.risA; rw [hxd.out]
      have HR := Lib.hid hra
      have HE := Lib.hid hend
      have HN := Lib.hid hnext
      clear hra hend hnext
      obtain ⟨q, hq⟩ : ∃ q, It.wi x lo hi = q := ⟨_, rfl⟩
      have HQ := Lib.hid hq
      clear hq
      cases q with
      | false =>
        have HF := HE.out (by rw [HR.out, HQ.out]; rfl)
        go_wp2_with (go_at_call 52; refine (within_any _ _ _ _).mono ?_; rintro e w' ⟨rfl, rfl⟩; rw [HQ.out])
        go_ret
        exact ⟨ret_bool HF.out.symm, rfl⟩
      | true =>
        rcases Nat.eq_zero_or_pos k with h0 | h0
        · subst h0
          have hc0 : w.cell? ⟨b, off, none⟩ = some (.int .i64 x) := by simpa using hc
          have HF := HN.out (by rw [HR.out, HQ.out]; rfl)
          go_wp2_with (go_at_call 52; refine (within_any _ _ _ _).mono ?_; rintro e w' ⟨rfl, rfl⟩; rw [HQ.out])
          go_round
          case rel => exact ⟨0 + 1, by omega, by go_num, HF⟩
          case measure => simp [intOf]; omega
        · obtain ⟨j, rfl⟩ : ∃ j, k = j + 1 := ⟨k - 1, by omega⟩
          obtain ⟨b', off', y, e', hb', hy, hc'⟩ := H.out.at_ (i := j) (by omega)
          obtain ⟨rfl, rfl⟩ : b = b' ∧ off = off' := by cases e'; exact ⟨rfl, rfl⟩
          have hyd : Hid (l.getD (j + 1 - 1) 0 = y) := Lib.hid (by rw [Nat.add_sub_cancel, List.getD_eq_getElem?_getD, hy]; rfl)
          clear hy e'
          by_cases hxy : x ≤ y
          · have HF := HE.out (by rw [HR.out, HQ.out, hyd.out, decide_eq_false (show ¬ (j + 1 = 0) by omega), decide_eq_false (show ¬ (y < x) by omega)]; rfl)
            go_wp2_with (go_at_call 52; refine (within_any _ _ _ _).mono ?_; rintro e w' ⟨rfl, rfl⟩; rw [HQ.out])
            go_ret
            exact ⟨ret_bool HF.out.symm, rfl⟩
          · have hxy' : y < x := by omega
            have HF := HN.out (by rw [HR.out, HQ.out, hyd.out, decide_eq_true hxy', Bool.or_true]; rfl)
            clear hxy
            go_wp2_with (go_at_call 52; refine (within_any _ _ _ _).mono ?_; rintro e w' ⟨rfl, rfl⟩; rw [HQ.out])
            go_round
            case rel => exact ⟨j + 1 + 1, by omega, by go_num, HF⟩
            case measure => simp [intOf]; omega
    · have HF : Hid (v = true) := Lib.hid (by rw [← HV.out]; unfold It.rising; rw [show l.length = k by omega]; exact HA.out)
      go_wp2
      go_ret
      exact ⟨ret_bool HF.out.symm, rfl⟩


set_option maxRecDepth 100000 in
set_option maxHeartbeats 1600000 in
theorem rrising_any (A : Option Addr) (c : Nat) (l : List Int) (lo hi : Int) (w : World) (h : SlI w A l) (hl : l.length ≤ 9223372036854775807) :
    Calls Tryz.prog 64 #[.slice A l.length c, .int .i64 lo, .int .i64 hi] w fun e w' => e = .returned (.bool (It.rising l lo hi)) ∧ w = w' := by
  have H := Lib.hid h
  clear h
  obtain ⟨v, hv⟩ : ∃ v, It.rising l lo hi = v := ⟨_, rfl⟩
  have HV := Lib.hid hv
  rw [hv]
  clear hv
  go_enter Tryz.func64, Tryz.ntmps64
  go_wp2
  go_loop [11] (fun i => ∃ k : Nat, k ≤ l.length ∧ i = .int .i64 k ∧ Hid (It.allN (It.risA l lo hi) k = true)) (fun i => l.length - (intOf i).toNat)
  case atStart => exact ⟨0, by omega, rfl, Lib.hid rfl⟩
  case round =>
    obtain ⟨k, hk, rfl, HA⟩ := hrel
    by_cases hlt : k < l.length
    · obtain ⟨b, off, x, rfl, hb, hx, hc⟩ := H.out.at_ hlt
      have hxd : Hid (l.getD k 0 = x) := Lib.hid (by rw [List.getD_eq_getElem?_getD, hx]; rfl)
      clear hx
      have hend : It.risA l lo hi k = false → Hid (v = false) := fun g => Lib.hid (by rw [← HV.out]; exact It.allN_no hlt g)
      have hnext : It.risA l lo hi k = true → Hid (It.allN (It.risA l lo hi) (k + 1) = true) := fun g => Lib.hid (It.allN_next HA.out g)
      have hra : It.risA l lo hi k = (It.wi x lo hi && (decide (k = 0) || decide (l.getD (k - 1) 0 < x))) := by unfold It.risA; rw [hxd.out]
      have HR := Lib.hid hra
      have HE := Lib.hid hend
      have HN := Lib.hid hnext
      clear hra hend hnext
      obtain ⟨q, hq⟩ : ∃ q, It.wi x lo hi = q := ⟨_, rfl⟩
      have HQ := Lib.hid hq
      clear hq
      cases q with
      | false =>
        have HF := HE.out (by rw [HR.out, HQ.out]; rfl)
        go_wp2_with (go_at_call 61; refine (rwithin_any _ _ _ _).mono ?_; rintro e w' ⟨rfl, rfl⟩; rw [HQ.out])
        go_ret
        exact ⟨ret_bool HF.out.symm, rfl⟩
      | true =>
        rcases Nat.eq_zero_or_pos k with h0 | h0
        · subst h0
          have hc0 : w.cell? ⟨b, off, none⟩ = some (.int .i64 x) := by simpa using hc
          have HF := HN.out (by rw [HR.out, HQ.out]; rfl)
          go_wp2_with (go_at_call 61; refine (rwithin_any _ _ _ _).mono ?_; rintro e w' ⟨rfl, rfl⟩; rw [HQ.out])
          go_round
          case rel => exact ⟨0 + 1, by omega, by go_num, HF⟩
          case measure => simp [intOf]; omega
        · obtain ⟨j, rfl⟩ : ∃ j, k = j + 1 := ⟨k - 1, by omega⟩
          obtain ⟨b', off', y, e', hb', hy, hc'⟩ := H.out.at_ (i := j) (by omega)
          obtain ⟨rfl, rfl⟩ : b = b' ∧ off = off' := by cases e'; exact ⟨rfl, rfl⟩
          have hyd : Hid (l.getD (j + 1 - 1) 0 = y) := Lib.hid (by rw [Nat.add_sub_cancel, List.getD_eq_getElem?_getD, hy]; rfl)
          clear hy e'
          by_cases hxy : x ≤ y
          · have HF := HE.out (by rw [HR.out, HQ.out, hyd.out, decide_eq_false (show ¬ (j + 1 = 0) by omega), decide_eq_false (show ¬ (y < x) by omega)]; rfl)
            go_wp2_with (go_at_call 61; refine (rwithin_any _ _ _ _).mono ?_; rintro e w' ⟨rfl, rfl⟩; rw [HQ.out])
            go_ret
            exact ⟨ret_bool HF.out.symm, rfl⟩
          · have hxy' : y < x := by omega
            have HF := HN.out (by rw [HR.out, HQ.out, hyd.out, decide_eq_true hxy', Bool.or_true]; rfl)
            clear hxy
            go_wp2_with (go_at_call 61; refine (rwithin_any _ _ _ _).mono ?_; rintro e w' ⟨rfl, rfl⟩; rw [HQ.out])
            go_round
            case rel => exact ⟨j + 1 + 1, by omega, by go_num, HF⟩
            case measure => simp [intOf]; omega
    · have HF : Hid (v = true) := Lib.hid (by rw [← HV.out]; unfold It.rising; rw [show l.length = k by omega]; exact HA.out)
      go_wp2
      go_ret
      exact ⟨ret_bool HF.out.symm, rfl⟩


set_option maxRecDepth 100000 in
set_option maxHeartbeats 1600000 in
theorem printable_any (s : ByteArray) (most : Nat) (w : World) (hs : s.size ≤ 9223372036854775807) :
    Calls Tryz.prog 71 #[.string s, .int .i64 most] w fun e w' => e = .returned (.bool (It.prn s most false)) ∧ w = w' := by
  obtain ⟨v, hv⟩ : ∃ v, It.prn s most false = v := ⟨_, rfl⟩
  have HV := Lib.hid hv
  rw [hv]
  clear hv
  go_enter Tryz.func71, Tryz.ntmps71
  go_wp2
  go_loop [5] (fun i => ∃ k : Nat, k ≤ s.size ∧ i = .int .i64 k ∧ Hid (It.allN (fun i => It.okc false (It.by_ s i)) k = true)) (fun i => s.size - (intOf i).toNat)
  case atStart => exact ⟨0, by omega, rfl, Lib.hid rfl⟩
  case round =>
    obtain ⟨k, hk, rfl, HA⟩ := hrel
    by_cases hlt : k < s.size
    · have hby := It.by_at s hlt
      have HE : Hid ((fun i => It.okc false (It.by_ s i)) k = false → Hid (v = false)) := Lib.hid fun g => Lib.hid (by
        rw [← HV.out]; unfold It.prn; rw [It.allN_no hlt g]; simp)
      have HN : Hid ((fun i => It.okc false (It.by_ s i)) k = true → Hid (It.allN (fun i => It.okc false (It.by_ s i)) (k + 1) = true)) := Lib.hid fun g => Lib.hid (It.allN_next HA.out g)
      rcases (show ((s[k].toNat : Int) < 32) ∨ (32 ≤ (s[k].toNat : Int) ∧ 126 < (s[k].toNat : Int)) ∨ (32 ≤ (s[k].toNat : Int) ∧ (s[k].toNat : Int) ≤ 126) by omega) with h1 | ⟨h1, h2⟩ | ⟨h1, h2⟩
      · have HF := HE.out (by show It.okc false (It.by_ s k) = false; rw [hby]; unfold It.okc; simp; omega)
        clear hby
        go_wp2
        all_goals
          go_ret
          exact ⟨ret_bool HF.out.symm, rfl⟩
      · have HF := HE.out (by show It.okc false (It.by_ s k) = false; rw [hby]; unfold It.okc; simp; omega)
        clear hby
        go_wp2
        all_goals
          go_ret
          exact ⟨ret_bool HF.out.symm, rfl⟩
      · have HF := HN.out (by show It.okc false (It.by_ s k) = true; rw [hby]; unfold It.okc; simp; omega)
        clear hby
        go_wp2
        all_goals
          go_round
          case rel => exact ⟨k + 1, by omega, by go_num, HF⟩
          case measure => simp [intOf]; omega
    · obtain rfl : k = s.size := by omega
      have HF : Hid (v = (decide (1 ≤ s.size) && decide (s.size ≤ most))) := Lib.hid (by rw [← HV.out]; unfold It.prn; rw [HA.out, Bool.and_true])
      rcases (show (s.size < 1) ∨ (1 ≤ s.size ∧ most < s.size) ∨ (1 ≤ s.size ∧ s.size ≤ most) by omega) with h1 | ⟨h1, h2⟩ | ⟨h1, h2⟩
      · have HF2 : Hid (v = false) := Lib.hid (by rw [HF.out, decide_eq_false (by omega)]; rfl)
        go_wp2
        go_ret
        exact ⟨ret_bool (by first | exact HF2.out.symm | (rw [HF2.out]; exact decide_eq_false (by omega)) | (rw [HF2.out]; exact decide_eq_true (by omega))), rfl⟩
      · have HF2 : Hid (v = false) := Lib.hid (by rw [HF.out, decide_eq_false (show ¬ s.size ≤ most by omega), Bool.and_false])
        go_wp2
        go_ret
        exact ⟨ret_bool (by first | exact HF2.out.symm | (rw [HF2.out]; exact decide_eq_false (by omega)) | (rw [HF2.out]; exact decide_eq_true (by omega))), rfl⟩
      · have HF2 : Hid (v = true) := Lib.hid (by rw [HF.out, decide_eq_true h1, decide_eq_true h2]; rfl)
        go_wp2
        go_ret
        exact ⟨ret_bool (by first | exact HF2.out.symm | (rw [HF2.out]; exact decide_eq_false (by omega)) | (rw [HF2.out]; exact decide_eq_true (by omega))), rfl⟩


set_option maxRecDepth 100000 in
set_option maxHeartbeats 1600000 in
theorem rprintable_false_any (s : ByteArray) (most : Nat) (w : World) (hs : s.size ≤ 9223372036854775807) :
    Calls Tryz.prog 80 #[.string s, .int .i64 most, .bool false] w fun e w' => e = .returned (.bool (It.prn s most false)) ∧ w = w' := by
  obtain ⟨v, hv⟩ : ∃ v, It.prn s most false = v := ⟨_, rfl⟩
  have HV := Lib.hid hv
  rw [hv]
  clear hv
  have hno : ¬ (1 ≤ s.size ∧ s.size ≤ most) → Hid (v = false) := fun g => Lib.hid (by rw [← HV.out]; unfold It.prn; simp; omega)
  have HNO := Lib.hid hno
  clear hno
  by_cases hz1 : 1 ≤ s.size
  case neg =>
    have hz1' : s.size < 1 := by omega
    have HF := HNO.out (by omega)
    clear hz1
    go_enter Tryz.func80, Tryz.ntmps80
    go_wp2
    go_ret
    exact ⟨ret_bool HF.out.symm, rfl⟩
  by_cases hz2 : s.size ≤ most
  case neg =>
    have hz2' : most < s.size := by omega
    have HF := HNO.out (by omega)
    clear hz2
    go_enter Tryz.func80, Tryz.ntmps80
    go_wp2
    go_ret
    exact ⟨ret_bool HF.out.symm, rfl⟩
  go_enter Tryz.func80, Tryz.ntmps80
  go_wp2
  go_loop [7] (fun i => ∃ k : Nat, k ≤ s.size ∧ i = .int .i64 k ∧ Hid (It.allN (fun i => It.okc false (It.by_ s i)) k = true)) (fun i => s.size - (intOf i).toNat)
  case atStart => exact ⟨0, by omega, rfl, Lib.hid rfl⟩
  case round =>
    obtain ⟨k, hk, rfl, HA⟩ := hrel
    by_cases hlt : k < s.size
    · have hby := It.by_at s hlt
      have HE : Hid ((fun i => It.okc false (It.by_ s i)) k = false → Hid (v = false)) := Lib.hid fun g => Lib.hid (by
        rw [← HV.out]; unfold It.prn; rw [It.allN_no hlt g]; simp)
      have HN : Hid ((fun i => It.okc false (It.by_ s i)) k = true → Hid (It.allN (fun i => It.okc false (It.by_ s i)) (k + 1) = true)) := Lib.hid fun g => Lib.hid (It.allN_next HA.out g)
      rcases (show ((s[k].toNat : Int) < 32) ∨ (32 ≤ (s[k].toNat : Int) ∧ 126 < (s[k].toNat : Int)) ∨ (32 ≤ (s[k].toNat : Int) ∧ (s[k].toNat : Int) ≤ 126) by omega) with h1 | ⟨h1, h2⟩ | ⟨h1, h2⟩
      · have HF := HE.out (by show It.okc false (It.by_ s k) = false; rw [hby]; unfold It.okc; simp; omega)
        clear hby
        go_wp2
        all_goals
          go_ret
          exact ⟨ret_bool HF.out.symm, rfl⟩
      · have HF := HE.out (by show It.okc false (It.by_ s k) = false; rw [hby]; unfold It.okc; simp; omega)
        clear hby
        go_wp2
        all_goals
          go_ret
          exact ⟨ret_bool HF.out.symm, rfl⟩
      · have HF := HN.out (by show It.okc false (It.by_ s k) = true; rw [hby]; unfold It.okc; simp; omega)
        clear hby
        go_wp2
        all_goals
          go_round
          case rel => exact ⟨k + 1, by omega, by go_num, HF⟩
          case measure => simp [intOf]; omega
    · obtain rfl : k = s.size := by omega
      have HF : Hid (v = true) := Lib.hid (by rw [← HV.out]; unfold It.prn; rw [HA.out, decide_eq_true hz1, decide_eq_true hz2]; rfl)
      go_wp2
      go_ret
      exact ⟨ret_bool HF.out.symm, rfl⟩


set_option maxRecDepth 100000 in
set_option maxHeartbeats 1600000 in
theorem rprintable_true_any (s : ByteArray) (most : Nat) (w : World) (hs : s.size ≤ 9223372036854775807) :
    Calls Tryz.prog 80 #[.string s, .int .i64 most, .bool true] w fun e w' => e = .returned (.bool (It.prn s most true)) ∧ w = w' := by
  obtain ⟨v, hv⟩ : ∃ v, It.prn s most true = v := ⟨_, rfl⟩
  have HV := Lib.hid hv
  rw [hv]
  clear hv
  have hno : ¬ (1 ≤ s.size ∧ s.size ≤ most) → Hid (v = false) := fun g => Lib.hid (by rw [← HV.out]; unfold It.prn; simp; omega)
  have HNO := Lib.hid hno
  clear hno
  by_cases hz1 : 1 ≤ s.size
  case neg =>
    have hz1' : s.size < 1 := by omega
    have HF := HNO.out (by omega)
    clear hz1
    go_enter Tryz.func80, Tryz.ntmps80
    go_wp2
    go_ret
    exact ⟨ret_bool HF.out.symm, rfl⟩
  by_cases hz2 : s.size ≤ most
  case neg =>
    have hz2' : most < s.size := by omega
    have HF := HNO.out (by omega)
    clear hz2
    go_enter Tryz.func80, Tryz.ntmps80
    go_wp2
    go_ret
    exact ⟨ret_bool HF.out.symm, rfl⟩
  go_enter Tryz.func80, Tryz.ntmps80
  go_wp2
  go_loop [7] (fun i => ∃ k : Nat, k ≤ s.size ∧ i = .int .i64 k ∧ Hid (It.allN (fun i => It.okc true (It.by_ s i)) k = true)) (fun i => s.size - (intOf i).toNat)
  case atStart => exact ⟨0, by omega, rfl, Lib.hid rfl⟩
  case round =>
    obtain ⟨k, hk, rfl, HA⟩ := hrel
    by_cases hlt : k < s.size
    · have hby := It.by_at s hlt
      have HE : Hid ((fun i => It.okc true (It.by_ s i)) k = false → Hid (v = false)) := Lib.hid fun g => Lib.hid (by
        rw [← HV.out]; unfold It.prn; rw [It.allN_no hlt g]; simp)
      have HN : Hid ((fun i => It.okc true (It.by_ s i)) k = true → Hid (It.allN (fun i => It.okc true (It.by_ s i)) (k + 1) = true)) := Lib.hid fun g => Lib.hid (It.allN_next HA.out g)
      rcases (show ((s[k].toNat : Int) < 32 ∧ ((s[k].toNat : Int) == 10) = false) ∨ ((s[k].toNat : Int) < 32 ∧ ((s[k].toNat : Int) == 10) = true) ∨ (32 ≤ (s[k].toNat : Int) ∧ 126 < (s[k].toNat : Int) ∧ ((s[k].toNat : Int) == 10) = false) ∨ (32 ≤ (s[k].toNat : Int) ∧ (s[k].toNat : Int) ≤ 126) by simp only [beq_iff_eq, beq_eq_false_iff_ne]; omega) with ⟨h1, h2⟩ | ⟨h1, h2⟩ | ⟨h1, h2, h3⟩ | ⟨h1, h2⟩
      · have HF := HE.out (by show It.okc true (It.by_ s k) = false; rw [hby]; rw [beq_eq_false_iff_ne] at h2; unfold It.okc; simp; omega)
        clear hby
        go_wp2
        all_goals
          go_ret
          exact ⟨ret_bool HF.out.symm, rfl⟩
      · have HF := HN.out (by show It.okc true (It.by_ s k) = true; rw [hby]; rw [beq_iff_eq] at h2; unfold It.okc; simp; omega)
        clear hby
        go_wp2
        all_goals
          go_round
          case rel => exact ⟨k + 1, by omega, by go_num, HF⟩
          case measure => simp [intOf]; omega
      · have HF := HE.out (by show It.okc true (It.by_ s k) = false; rw [hby]; rw [beq_eq_false_iff_ne] at h3; unfold It.okc; simp; omega)
        clear hby
        go_wp2
        all_goals
          go_ret
          exact ⟨ret_bool HF.out.symm, rfl⟩
      · have HF := HN.out (by show It.okc true (It.by_ s k) = true; rw [hby]; unfold It.okc; simp; omega)
        clear hby
        go_wp2
        all_goals
          go_round
          case rel => exact ⟨k + 1, by omega, by go_num, HF⟩
          case measure => simp [intOf]; omega
    · obtain rfl : k = s.size := by omega
      have HF : Hid (v = true) := Lib.hid (by rw [← HV.out]; unfold It.prn; rw [HA.out, decide_eq_true hz1, decide_eq_true hz2]; rfl)
      go_wp2
      go_ret
      exact ⟨ret_bool HF.out.symm, rfl⟩


namespace It
/-- Capital letters and digits. -/
def cap (x : Int) : Bool := (decide (65 ≤ x) && decide (x ≤ 90)) || (decide (48 ≤ x) && decide (x ≤ 57))
/-- A segment of a content code. -/
def seg (s : ByteArray) : Bool := decide (1 ≤ s.size) && decide (s.size ≤ 8) && allN (fun i => cap (by_ s i)) s.size
end It

set_option maxRecDepth 100000 in
set_option maxHeartbeats 1600000 in
theorem validSegment_any (s : ByteArray) (w : World) (hs : s.size ≤ 9223372036854775807) :
    Calls Tryz.prog 88 #[.string s] w fun e w' => e = .returned (.bool (It.seg s)) ∧ w = w' := by
  obtain ⟨v, hv⟩ : ∃ v, It.seg s = v := ⟨_, rfl⟩
  have HV := Lib.hid hv
  rw [hv]
  clear hv
  go_enter Tryz.func88, Tryz.ntmps88
  go_wp2
  go_loop [3] (fun i => ∃ k : Nat, k ≤ s.size ∧ i = .int .i64 k ∧ Hid (It.allN (fun i => It.cap (It.by_ s i)) k = true)) (fun i => s.size - (intOf i).toNat)
  case atStart => exact ⟨0, by omega, rfl, Lib.hid rfl⟩
  case round =>
    obtain ⟨k, hk, rfl, HA⟩ := hrel
    by_cases hlt : k < s.size
    · have hby := It.by_at s hlt
      have HE : Hid ((fun i => It.cap (It.by_ s i)) k = false → Hid (v = false)) := Lib.hid fun g => Lib.hid (by
        rw [← HV.out]; unfold It.seg; rw [It.allN_no hlt g]; simp)
      have HN : Hid ((fun i => It.cap (It.by_ s i)) k = true → Hid (It.allN (fun i => It.cap (It.by_ s i)) (k + 1) = true)) := Lib.hid fun g => Lib.hid (It.allN_next HA.out g)
      rcases (show ((s[k].toNat : Int) < 65 ∧ (s[k].toNat : Int) < 48) ∨ ((s[k].toNat : Int) < 65 ∧ 48 ≤ (s[k].toNat : Int) ∧ (s[k].toNat : Int) ≤ 57) ∨ ((s[k].toNat : Int) < 65 ∧ 48 ≤ (s[k].toNat : Int) ∧ 57 < (s[k].toNat : Int)) ∨ (65 ≤ (s[k].toNat : Int) ∧ (s[k].toNat : Int) ≤ 90) ∨ (65 ≤ (s[k].toNat : Int) ∧ 90 < (s[k].toNat : Int) ∧ 48 ≤ (s[k].toNat : Int) ∧ 57 < (s[k].toNat : Int)) by omega) with ⟨h1, h2⟩ | ⟨h1, h2, h3⟩ | ⟨h1, h2, h3⟩ | ⟨h1, h2⟩ | ⟨h1, h2, h3, h4⟩
      · have HF := HE.out (by show It.cap (It.by_ s k) = false; rw [hby]; unfold It.cap; simp; omega)
        clear hby
        go_wp2
        all_goals
          go_ret
          exact ⟨ret_bool HF.out.symm, rfl⟩
      · have HF := HN.out (by show It.cap (It.by_ s k) = true; rw [hby]; unfold It.cap; simp; omega)
        clear hby
        go_wp2
        all_goals
          go_round
          case rel => exact ⟨k + 1, by omega, by go_num, HF⟩
          case measure => simp [intOf]; omega
      · have HF := HE.out (by show It.cap (It.by_ s k) = false; rw [hby]; unfold It.cap; simp; omega)
        clear hby
        go_wp2
        all_goals
          go_ret
          exact ⟨ret_bool HF.out.symm, rfl⟩
      · have HF := HN.out (by show It.cap (It.by_ s k) = true; rw [hby]; unfold It.cap; simp; omega)
        clear hby
        go_wp2
        all_goals
          go_round
          case rel => exact ⟨k + 1, by omega, by go_num, HF⟩
          case measure => simp [intOf]; omega
      · have HF := HE.out (by show It.cap (It.by_ s k) = false; rw [hby]; unfold It.cap; simp; omega)
        clear hby
        go_wp2
        all_goals
          go_ret
          exact ⟨ret_bool HF.out.symm, rfl⟩
    · obtain rfl : k = s.size := by omega
      have HF : Hid (v = (decide (1 ≤ s.size) && decide (s.size ≤ 8))) := Lib.hid (by rw [← HV.out]; unfold It.seg; rw [HA.out, Bool.and_true])
      rcases (show (s.size < 1) ∨ (1 ≤ s.size ∧ 8 < s.size) ∨ (1 ≤ s.size ∧ s.size ≤ 8) by omega) with h1 | ⟨h1, h2⟩ | ⟨h1, h2⟩
      · have HF2 : Hid (v = false) := Lib.hid (by rw [HF.out, decide_eq_false (by omega)]; rfl)
        go_wp2
        go_ret
        exact ⟨ret_bool (by first | exact HF2.out.symm | (rw [HF2.out]; exact decide_eq_false (by omega)) | (rw [HF2.out]; exact decide_eq_true (by omega))), rfl⟩
      · have HF2 : Hid (v = false) := Lib.hid (by rw [HF.out, decide_eq_false (show ¬ s.size ≤ 8 by omega), Bool.and_false])
        go_wp2
        go_ret
        exact ⟨ret_bool (by first | exact HF2.out.symm | (rw [HF2.out]; exact decide_eq_false (by omega)) | (rw [HF2.out]; exact decide_eq_true (by omega))), rfl⟩
      · have HF2 : Hid (v = true) := Lib.hid (by rw [HF.out, decide_eq_true h1, decide_eq_true h2]; rfl)
        go_wp2
        go_ret
        exact ⟨ret_bool (by first | exact HF2.out.symm | (rw [HF2.out]; exact decide_eq_false (by omega)) | (rw [HF2.out]; exact decide_eq_true (by omega))), rfl⟩


set_option maxRecDepth 100000 in
set_option maxHeartbeats 1600000 in
theorem rnormalized_any (s : ByteArray) (w : World) (hs : s.size ≤ 9223372036854775807) :
    Calls Tryz.prog 83 #[.string s] w fun e w' => e = .returned (.bool (It.nrm s)) ∧ w = w' := by
  obtain ⟨v, hv⟩ : ∃ v, It.nrm s = v := ⟨_, rfl⟩
  have HV := Lib.hid hv
  rw [hv]
  clear hv
  go_enter Tryz.func83, Tryz.ntmps83
  go_wp2
  go_loop [3] (fun i => ∃ k : Nat, k ≤ s.size ∧ i = .int .i64 k ∧ Hid (It.allN (It.nrmA s) k = true)) (fun i => s.size - (intOf i).toNat)
  case atStart => exact ⟨0, by omega, rfl, Lib.hid rfl⟩
  case round =>
    obtain ⟨k, hk, rfl, HA⟩ := hrel
    by_cases hlt : k < s.size
    · have hby := It.by_at s hlt
      have HE : Hid ((It.nrmA s) k = false → Hid (v = false)) := Lib.hid fun g => Lib.hid (by
        rw [← HV.out]; unfold It.nrm; rw [It.allN_no hlt g]; simp)
      have HN : Hid ((It.nrmA s) k = true → Hid (It.allN (It.nrmA s) (k + 1) = true)) := Lib.hid fun g => Lib.hid (It.allN_next HA.out g)
      rcases (show (97 ≤ (s[k].toNat : Int) ∧ (s[k].toNat : Int) ≤ 122 ∧ ((s[k].toNat : Int) == 32) = false) ∨ ((s[k].toNat : Int) < 97 ∧ 48 ≤ (s[k].toNat : Int) ∧ (s[k].toNat : Int) ≤ 57 ∧ ((s[k].toNat : Int) == 32) = false) ∨ ((s[k].toNat : Int) < 97 ∧ (s[k].toNat : Int) < 48 ∧ ((s[k].toNat : Int) == 32) = false) ∨ ((s[k].toNat : Int) < 97 ∧ 48 ≤ (s[k].toNat : Int) ∧ 57 < (s[k].toNat : Int) ∧ ((s[k].toNat : Int) == 32) = false) ∨ (97 ≤ (s[k].toNat : Int) ∧ 122 < (s[k].toNat : Int) ∧ 48 ≤ (s[k].toNat : Int) ∧ 57 < (s[k].toNat : Int) ∧ ((s[k].toNat : Int) == 32) = false) ∨ ((s[k].toNat : Int) < 97 ∧ (s[k].toNat : Int) < 48 ∧ ((s[k].toNat : Int) == 32) = true) by simp only [beq_iff_eq, beq_eq_false_iff_ne]; omega) with ⟨h1, h2, h3⟩ | ⟨h1, h2, h3, h4⟩ | ⟨h1, h2, h3⟩ | ⟨h1, h2, h3, h4⟩ | ⟨h1, h2, h3, h4, h5⟩ | ⟨h1, h2, h3⟩
      · have hd122 : decide ((s[k].toNat : Int) ≤ 122) = true := decide_eq_true (by omega)
        have hne : ((s[k].toNat : Int) != 32) = true := by rw [bne, h3]; rfl
        have HF := HN.out (by rw [beq_eq_false_iff_ne] at h3; show It.nrmA s k = true; unfold It.nrmA It.ltr; rw [hby]; simp; omega)
        clear hby
        go_wp2
        all_goals
          go_round
          case rel => exact ⟨k + 1, by omega, by go_num, HF⟩
          case measure => simp [intOf]; omega
      · have hd57 : decide ((s[k].toNat : Int) ≤ 57) = true := decide_eq_true (by omega)
        have hne : ((s[k].toNat : Int) != 32) = true := by rw [bne, h4]; rfl
        have HF := HN.out (by rw [beq_eq_false_iff_ne] at h4; show It.nrmA s k = true; unfold It.nrmA It.ltr; rw [hby]; simp; omega)
        clear hby
        go_wp2
        all_goals
          go_round
          case rel => exact ⟨k + 1, by omega, by go_num, HF⟩
          case measure => simp [intOf]; omega
      · have hne : ((s[k].toNat : Int) != 32) = true := by rw [bne, h3]; rfl
        have HF := HE.out (by rw [beq_eq_false_iff_ne] at h3; show It.nrmA s k = false; unfold It.nrmA It.ltr; rw [hby]; simp; omega)
        clear hby
        go_wp2
        all_goals
          go_ret
          exact ⟨ret_bool HF.out.symm, rfl⟩
      · have hd57 : decide ((s[k].toNat : Int) ≤ 57) = false := decide_eq_false (by omega)
        have hne : ((s[k].toNat : Int) != 32) = true := by rw [bne, h4]; rfl
        have HF := HE.out (by rw [beq_eq_false_iff_ne] at h4; show It.nrmA s k = false; unfold It.nrmA It.ltr; rw [hby]; simp; omega)
        clear hby
        go_wp2
        all_goals
          go_ret
          exact ⟨ret_bool HF.out.symm, rfl⟩
      · have hd57 : decide ((s[k].toNat : Int) ≤ 57) = false := decide_eq_false (by omega)
        have hd122 : decide ((s[k].toNat : Int) ≤ 122) = false := decide_eq_false (by omega)
        have hne : ((s[k].toNat : Int) != 32) = true := by rw [bne, h5]; rfl
        have HF := HE.out (by rw [beq_eq_false_iff_ne] at h5; show It.nrmA s k = false; unfold It.nrmA It.ltr; rw [hby]; simp; omega)
        clear hby
        go_wp2
        all_goals
          go_ret
          exact ⟨ret_bool HF.out.symm, rfl⟩
      · have h32 : It.by_ s k = 32 := by rw [hby]; rw [beq_iff_eq] at h3; exact h3
        have H32 := Lib.hid h32
        have h3n : ((s[k].toNat : Int) != 32) = false := by rw [beq_iff_eq] at h3; rw [h3]; rfl
        clear h32
        rcases Nat.eq_zero_or_pos k with h0 | h0
        · have hb0 : ((k : Int) == 0) = true := by rw [h0]; rfl
          have HF := HE.out (by show It.nrmA s k = false; unfold It.nrmA; rw [H32.out, decide_eq_true h0]; simp)
          clear hby h0
          go_wp2
          go_ret
          exact ⟨ret_bool HF.out.symm, rfl⟩
        · have hb0 : ((k : Int) == 0) = false := by rw [beq_eq_false_iff_ne]; omega
          by_cases hl : k + 1 = s.size
          · have hb1 : ((k : Int) == (s.size : Int) - 1) = true := by rw [beq_iff_eq]; omega
            have HF := HE.out (by show It.nrmA s k = false; unfold It.nrmA; rw [H32.out, decide_eq_true hl]; simp)
            clear hby hl
            go_wp2
            go_ret
            exact ⟨ret_bool HF.out.symm, rfl⟩
          · obtain ⟨j, rfl⟩ : ∃ j, k = j + 1 := ⟨k - 1, by omega⟩
            have hb0' : ((j : Int) + 1 == 0) = false := by rw [beq_eq_false_iff_ne]; omega
            have hb1 : ((j : Int) + 1 == (s.size : Int) - 1) = false := by rw [beq_eq_false_iff_ne]; omega
            clear hb0
            have hj : j < s.size := by omega
            have hbj := It.by_at s hj
            by_cases hp : (s[j].toNat : Int) = 32
            · have hb2 : ((s[j].toNat : Int) == 32) = true := by rw [beq_iff_eq]; exact hp
              have HF := HE.out (by show It.nrmA s (j + 1) = false; unfold It.nrmA; rw [H32.out, Nat.add_sub_cancel, hbj, hp]; simp)
              clear hby hl hbj hp
              go_wp2
              go_ret
              exact ⟨ret_bool HF.out.symm, rfl⟩
            · have hb2 : ((s[j].toNat : Int) == 32) = false := by rw [beq_eq_false_iff_ne]; exact hp
              have HF := HN.out (by show It.nrmA s (j + 1) = true; unfold It.nrmA; rw [H32.out, Nat.add_sub_cancel, hbj]; simp; omega)
              clear hby hl hbj hp
              go_wp2
              go_round
              case rel => exact ⟨j + 1 + 1, by omega, by go_num, HF⟩
              case measure => simp [intOf]; omega
    · obtain rfl : k = s.size := by omega
      have HF : Hid (v = decide (0 < s.size)) := Lib.hid (by rw [← HV.out]; unfold It.nrm; rw [HA.out, Bool.true_and])
      rcases Nat.eq_zero_or_pos s.size with h1 | h1
      · have h1' : s.size < 1 := by omega
        have HF2 : Hid (v = false) := Lib.hid (by rw [HF.out]; exact decide_eq_false (by omega))
        clear h1
        go_wp2
        all_goals
          go_ret
          exact ⟨ret_bool (by first | exact HF2.out.symm | (rw [HF2.out]; exact decide_eq_false (by omega)) | (rw [HF2.out]; exact decide_eq_true (by omega))), rfl⟩
      · have HF2 : Hid (v = true) := Lib.hid (by rw [HF.out]; exact decide_eq_true (by omega))
        go_wp2
        all_goals
          go_ret
          exact ⟨ret_bool (by first | exact HF2.out.symm | (rw [HF2.out]; exact decide_eq_false (by omega)) | (rw [HF2.out]; exact decide_eq_true (by omega))), rfl⟩

end Go.Proofs.YtdaccamiipknmaaGreatDoor
