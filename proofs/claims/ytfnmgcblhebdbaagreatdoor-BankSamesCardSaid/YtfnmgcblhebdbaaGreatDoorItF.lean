/- The item package's normalized; segments and Valid of the content package; the reference's Valid of content codes: contracts. Conditions: those of each theorem (the library's variable MaxLen lies in memory). -/
import Derived.Test.YtfnmgcblhebdbaaGreatDoorItD
namespace Go.Proofs.YtfnmgcblhebdbaaGreatDoor
open Go.RowKit

/-- The library's variable MaxLen is a number. -/
def Gm (w : World) : Prop := ∃ m : Int, w.cell? ⟨1, 0, none⟩ = some (.int .i64 m)
theorem Gm.ext {w w' : World} (h : Gm w) (he : Ext w w') : Gm w' := by obtain ⟨m, hm⟩ := h; exact ⟨m, he.keep hm⟩
theorem hasPrefix_any (s p : ByteArray) (w : World) : Calls Tryz.prog 152 #[.string s, .string p] w fun e w' => e = .returned (.bool (Lib.hasPrefix s.data.toList p.data.toList)) ∧ w' = w := Any.strings_HasPrefix Tryz.lays99 s p w
theorem hasSuffix_any (s p : ByteArray) (w : World) (hs : s.size ≤ 9223372036854775807) : Calls Tryz.prog 153 #[.string s, .string p] w fun e w' => e = .returned (.bool (Lib.hasSuffix s.data.toList p.data.toList)) ∧ w' = w := Any.strings_HasSuffix Tryz.lays100 s p w hs
theorem contains_any (s p : ByteArray) (w : World) (hs : s.size < 4294967281) (h : Gm w) : Calls Tryz.prog 154 #[.string s, .string p] w fun e w' => e = .returned (.bool (Lib.contains s.data.toList p.data.toList)) ∧ w' = w := by
  obtain ⟨m, hm⟩ := h
  exact Any.strings_Contains Tryz.lays144 s p m w hs hm
theorem cut_any (s p : ByteArray) (w : World) (hs : s.size < 4294967281) (h : Gm w) : Calls Tryz.prog 142 #[.string s, .string p] w fun e w' => e = .returned (.tuple #[.string ⟨(Lib.cut s.data.toList p.data.toList).1.toArray⟩, .string ⟨(Lib.cut s.data.toList p.data.toList).2.1.toArray⟩, .bool (Lib.cut s.data.toList p.data.toList).2.2]) ∧ ∃ n, w' = w.drewN n := by
  obtain ⟨m, hm⟩ := h
  exact Any.strings_Cut Tryz.lays145 s p m w hs hm


set_option maxRecDepth 100000 in
set_option maxHeartbeats 1600000 in
theorem normalized_any (s : ByteArray) (w : World) (hs : s.size < 4294967281) (hg : Gm w) :
    Calls Tryz.prog 133 #[.string s] w fun e w' => e = .returned (.bool (It.nrmC s)) ∧ w = w' := by
  obtain ⟨v, hv⟩ : ∃ v, It.nrmC s = v := ⟨_, rfl⟩
  have HV := Lib.hid hv
  rw [hv]
  clear hv
  have HG := Lib.hid hg
  clear hg
  go_enter Tryz.func133, Tryz.ntmps133
  go_wp2
  go_loop [3] (fun i => ∃ k : Nat, k ≤ s.size ∧ i = .int .i64 k ∧ Hid (It.allN (fun i => It.ltr (It.by_ s i) || decide (It.by_ s i = 32)) k = true)) (fun i => s.size - (intOf i).toNat)
  case atStart => exact ⟨0, by omega, rfl, Lib.hid rfl⟩
  case round =>
    obtain ⟨k, hk, rfl, HA⟩ := hrel
    by_cases hlt : k < s.size
    · have hby := It.by_at s hlt
      have HE : Hid ((fun i => It.ltr (It.by_ s i) || decide (It.by_ s i = 32)) k = false → Hid (v = false)) := Lib.hid fun g => Lib.hid (by
        rw [← HV.out]; unfold It.nrmC; rw [It.allN_no hlt g]; simp)
      have HN : Hid ((fun i => It.ltr (It.by_ s i) || decide (It.by_ s i = 32)) k = true → Hid (It.allN (fun i => It.ltr (It.by_ s i) || decide (It.by_ s i = 32)) (k + 1) = true)) := Lib.hid fun g => Lib.hid (It.allN_next HA.out g)
      obtain ⟨q1, hq1⟩ : ∃ q, It.wi (s[k].toNat : Int) 97 122 = q := ⟨_, rfl⟩
      obtain ⟨q2, hq2⟩ : ∃ q, It.wi (s[k].toNat : Int) 48 57 = q := ⟨_, rfl⟩
      have hlt' : It.ltr (s[k].toNat : Int) = (q1 || q2) := by rw [← hq1, ← hq2]; rfl
      have HLT := Lib.hid hlt'
      have HQ1 := Lib.hid hq1
      have HQ2 := Lib.hid hq2
      have hb8 : (s[k].toNat : Int) < 256 := by have := s[k].toNat_lt; omega
      clear hlt' hq1 hq2
      by_cases h32 : (s[k].toNat : Int) = 32
      · have e1 : ((s[k].toNat : Int) != 32) = false := by rw [h32]; rfl
        have HF := HN.out (by show (It.ltr (It.by_ s k) || decide (It.by_ s k = 32)) = true; rw [hby]; rw [decide_eq_true h32, Bool.or_true])
        clear hby h32
        go_wp2_with (go_at_call 101; refine (within_any _ _ _ _).mono ?_; rintro e w' ⟨rfl, rfl⟩; first | rw [HQ1.out] | rw [HQ2.out])
        all_goals
          go_round
          case rel => exact ⟨k + 1, by omega, by go_num, HF⟩
          case measure => simp [intOf]; omega
      · have e1 : ((s[k].toNat : Int) != 32) = true := by rw [bne_iff_ne]; exact h32
        cases q1 with
        | true =>
          have HF := HN.out (by show (It.ltr (It.by_ s k) || decide (It.by_ s k = 32)) = true; rw [hby]; rw [HLT.out]; rfl)
          clear hby h32
          go_wp2_with (go_at_call 101; refine (within_any _ _ _ _).mono ?_; rintro e w' ⟨rfl, rfl⟩; first | rw [HQ1.out] | rw [HQ2.out])
          all_goals
            go_round
            case rel => exact ⟨k + 1, by omega, by go_num, HF⟩
            case measure => simp [intOf]; omega
        | false =>
          cases q2 with
          | true =>
            have HF := HN.out (by show (It.ltr (It.by_ s k) || decide (It.by_ s k = 32)) = true; rw [hby]; rw [HLT.out]; rfl)
            clear hby h32
            go_wp2_with (go_at_call 101; refine (within_any _ _ _ _).mono ?_; rintro e w' ⟨rfl, rfl⟩; first | rw [HQ1.out] | rw [HQ2.out])
            all_goals
              go_round
              case rel => exact ⟨k + 1, by omega, by go_num, HF⟩
              case measure => simp [intOf]; omega
          | false =>
            have HF := HE.out (by show (It.ltr (It.by_ s k) || decide (It.by_ s k = 32)) = false; rw [hby]; rw [HLT.out, decide_eq_false h32]; rfl)
            clear hby h32
            go_wp2_with (go_at_call 101; refine (within_any _ _ _ _).mono ?_; rintro e w' ⟨rfl, rfl⟩; first | rw [HQ1.out] | rw [HQ2.out])
            all_goals
              go_ret
              exact ⟨ret_bool HF.out.symm, rfl⟩
    · obtain rfl : k = s.size := by omega
      obtain ⟨b1, hb1⟩ : ∃ b, Lib.hasPrefix s.data.toList (⟨#[32]⟩ : ByteArray).data.toList = b := ⟨_, rfl⟩
      obtain ⟨b2, hb2⟩ : ∃ b, Lib.hasSuffix s.data.toList (⟨#[32]⟩ : ByteArray).data.toList = b := ⟨_, rfl⟩
      obtain ⟨b3, hb3⟩ : ∃ b, Lib.contains s.data.toList (⟨#[32, 32]⟩ : ByteArray).data.toList = b := ⟨_, rfl⟩
      have HF : Hid (v = (!b1 && !b2 && !b3)) := Lib.hid (by
        rw [← HV.out, It.nrmC_eq, HA.out, ← hb1, ← hb2, ← hb3]; rfl)
      have HB1 := Lib.hid hb1
      have HB2 := Lib.hid hb2
      have HB3 := Lib.hid hb3
      clear hb1 hb2 hb3
      cases b1 <;> cases b2 <;> cases b3
      all_goals
        go_wp2_with (first
          | (go_at_call 152; refine (hasPrefix_any _ _ _).mono ?_; rintro e w' ⟨rfl, rfl⟩; rw [HB1.out])
          | (go_at_call 153; refine (hasSuffix_any _ _ _ (by omega)).mono ?_; rintro e w' ⟨rfl, rfl⟩; rw [HB2.out])
          | (go_at_call 154; refine (contains_any _ _ _ hs HG.out).mono ?_; rintro e w' ⟨rfl, rfl⟩; rw [HB3.out]))
        go_ret
        exact ⟨ret_bool HF.out.symm, rfl⟩

end Go.Proofs.YtfnmgcblhebdbaaGreatDoor
