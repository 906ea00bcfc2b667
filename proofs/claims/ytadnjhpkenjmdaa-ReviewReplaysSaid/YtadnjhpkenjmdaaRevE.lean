/- The law's own ints: two slices of integers compared. Conditions: those of the theorem. -/
import Derived.Test.YtadnjhpkenjmdaaIL
namespace Go.Proofs.Ytadnjhpkenjmdaa
open Go.RowKit

set_option maxHeartbeats 400000 in
theorem ints_any (X : Option Addr) (xc : Nat) (a : List Int) (Y : Option Addr) (yc : Nat) (b : List Int) (w : World) (ha : SlI w X a) (hb : SlI w Y b) (hal : a.length ≤ maxLen) :
    Calls Try.prog 8 #[.slice X a.length xc, .slice Y b.length yc] w fun e w' => e = .returned (.bool (decide (a = b))) ∧ Ext w w' := by
  have HA := Lib.hid ha
  have HB := Lib.hid hb
  unfold maxLen at hal
  clear ha hb
  by_cases hl : a.length = b.length
  · have hl' : ((a.length : Int) != (b.length : Int)) = false := by rw [bne_eq_false_iff_eq]; omega
    have HL := Lib.hid hl
    clear hl
    go_enter Try.func8, Try.ntmps8
    go_wp2
    go_loopw [5] (fun i wr => ∃ k : Nat, k ≤ a.length ∧ i = .int .i64 k ∧ (∀ j, j < k → a[j]? = b[j]?) ∧ Ext w wr) (fun i _ => a.length - (intOf i).toNat)
    case atStart => exact ⟨0, by omega, rfl, fun j hj => absurd hj (by omega), Ext.refl _⟩
    case round =>
      obtain ⟨k, hk, rfl, hall, he⟩ := hrel
      have HALL := Lib.hid hall
      clear hall
      by_cases hlt : k < a.length
      · obtain ⟨ba, oa, x, rfl, hba, hx, cx⟩ := (HA.out.ext he).at_ (i := k) hlt
        obtain ⟨bb, ob, y, rfl, hbb, hy, cy⟩ := (HB.out.ext he).at_ (i := k) (by rw [← HL.out]; exact hlt)
        have hki : (k : Int) < (b.length : Int) := by rw [← HL.out]; omega
        have hki2 : (k : Int) < (a.length : Int) := by omega
        have HX := Lib.hid hx
        have HY := Lib.hid hy
        clear hx hy
        by_cases hxy : x = y
        · subst hxy
          go_wp2
          go_quiet (fail)
          go_wp2
          go_roundw
          case rel =>
            refine ⟨k + 1, by omega, by go_num, fun j hj => ?_, he.drewN _⟩
            rcases Nat.lt_or_ge j k with g | g
            · exact HALL.out j g
            · obtain rfl : j = k := by omega
              rw [HX.out, HY.out]
          case measure => simp [intOf]; omega
        · have hxy' : (x != y) = true := by rw [bne_iff_ne]; exact hxy
          have HXY := Lib.hid hxy
          clear hxy
          go_wp2
          go_quiet (fail)
          go_wp2
          go_ret
          refine ⟨ret_bool ?_, he.drewN _⟩
          symm
          rw [decide_eq_false_iff_not]
          intro e
          have h1 := HX.out
          rw [e, HY.out] at h1
          injection h1 with h1
          exact HXY.out h1.symm
      · go_wp2
        go_ret
        refine ⟨ret_bool ?_, he⟩
        symm
        rw [decide_eq_true_iff]
        apply List.ext_getElem?
        intro j
        rcases Nat.lt_or_ge j k with g | g
        · exact HALL.out j g
        · rw [List.getElem?_eq_none (by omega), List.getElem?_eq_none (by rw [← HL.out]; omega)]
  · have hl' : ((a.length : Int) != (b.length : Int)) = true := by rw [bne_iff_ne]; omega
    have HL := Lib.hid hl
    clear hl
    go_enter Try.func8, Try.ntmps8
    go_wp2
    go_ret
    refine ⟨ret_bool ?_, Ext.refl _⟩
    symm
    rw [decide_eq_false_iff_not]
    intro e
    exact HL.out (by rw [e])
end Go.Proofs.Ytadnjhpkenjmdaa
