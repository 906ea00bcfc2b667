/- The laws' own among: contract for the walk. Conditions: those of the theorem. -/
import Derived.Test.YtadnjhpkenjmdaaRevH
namespace Go.Proofs.Ytadnjhpkenjmdaa
open Go.RowKit

theorem count_snoc {xs : List Int} {k : Nat} {x v : Int} (h : xs[k]? = some x) : (xs.take (k + 1)).count v = (xs.take k).count v + if x = v then 1 else 0 := by
  have hk : k < xs.length := by
    rcases Nat.lt_or_ge k xs.length with g | g
    · exact g
    · rw [List.getElem?_eq_none g] at h; cases h
  rw [List.getElem?_eq_getElem hk] at h
  injection h with h
  rw [List.take_succ_eq_append_getElem hk, List.count_append, h, List.count_singleton]
  simp

set_option maxHeartbeats 400000 in
theorem count_any (X : Option Addr) (xc : Nat) (xs : List Int) (v : Int) (w : World) (hX : SlI w X xs) (hl : xs.length ≤ maxLen) :
    Calls Try.prog 12 #[.slice X xs.length xc, .int .i64 v] w fun e w' => e = .returned (.int .i64 (xs.count v : Int)) ∧ Ext w w' := by
  have HX := Lib.hid hX
  unfold maxLen at hl
  clear hX
  go_enter Try.func12, Try.ntmps12
  go_wp2
  go_loopw [5, 6] (fun n i wr => ∃ k : Nat, k ≤ xs.length ∧ i = .int .i64 k ∧ n = .int .i64 ((xs.take k).count v : Int) ∧ Ext w wr) (fun _ i _ => xs.length - (intOf i).toNat)
  case atStart => exact ⟨0, by omega, rfl, rfl, Ext.refl _⟩
  case round =>
    obtain ⟨k, hk, rfl, rfl, he⟩ := hrel
    have hc := List.count_le_length (a := v) (l := xs.take k)
    have hc2 : (xs.take k).length ≤ k := List.length_take_le _ _
    by_cases hlt : k < xs.length
    · obtain ⟨b, off, x, rfl, hb, hx, cx⟩ := (HX.out.ext he).at_ (i := k) hlt
      have HS := Lib.hid (count_snoc (v := v) hx)
      generalize (xs.take k).count v = c at *
      clear hx
      by_cases hxv : x = v
      · have hxv' : (x == v) = true := by rw [beq_iff_eq]; exact hxv
        have HV := Lib.hid hxv
        clear hxv
        go_wp2
        go_roundw
        case rel => exact ⟨k + 1, by omega, by go_num, by rw [HS.out, if_pos HV.out]; go_num, he⟩
        case measure => simp [intOf]; omega
      · have hxv' : (x == v) = false := by rw [beq_eq_false_iff_ne]; exact hxv
        have HV := Lib.hid hxv
        clear hxv
        go_wp2
        go_roundw
        case rel => exact ⟨k + 1, by omega, by go_num, by rw [HS.out, if_neg HV.out]; go_num, he⟩
        case measure => simp [intOf]; omega
    · obtain rfl : k = xs.length := by omega
      rw [List.take_of_length_le (Nat.le_refl _)]
      go_wp2
      go_ret
      exact ⟨rfl, he⟩
end Go.Proofs.Ytadnjhpkenjmdaa
