/- review.possible, review.excluded, review.Allowed and their counterparts in the reference: contracts for the walk. Conditions: those of each theorem. -/
import Derived.Test.YtadnjhpkenjmdaaIL
import Derived.Test.YtadnjhpkenjmdaaRevP
namespace Go.Proofs.Ytadnjhpkenjmdaa
open Go.RowKit

theorem beq_dec (a b : Int) : (a == b) = decide (a = b) := by
  by_cases h : a = b <;> simp [h]

set_option maxHeartbeats 1600000 in
theorem possible_any (k s : Int) (w : World) (h1 : 1 ≤ k) (h2 : k ≤ 9) :
    Calls Try.prog 22 #[.int .i64 k, .int .i64 s] w fun e w' => e = .returned (.tuple #[.int .i64 (Rev.role k s), .bool (Rev.poss k s)]) ∧ w = w' := by
  by_cases h3 : k = 3
  · subst h3
    clear h1 h2
    by_cases hs : s = 3
    · subst hs
      go_enter Try.func22, Try.ntmps22
      go_wp2
      go_ret2
      exact ⟨rfl, rfl⟩
    · have hs' : (s == 3) = false := by rw [beq_eq_false_iff_ne]; exact hs
      have HS := Lib.hid hs
      clear hs
      go_enter Try.func22, Try.ntmps22
      go_wp2
      go_ret2
      refine ⟨ret_ib ?_ ?_, rfl⟩
      · unfold Rev.role; simp [HS.out]
      · unfold Rev.poss; rw [beq_dec]; simp [HS.out]
  · have hk : k = 1 ∨ k = 2 ∨ k = 4 ∨ k = 5 ∨ k = 6 ∨ k = 7 ∨ k = 8 ∨ k = 9 := by omega
    clear h1 h2 h3
    rcases hk with rfl | rfl | rfl | rfl | rfl | rfl | rfl | rfl
    all_goals
      go_enter Try.func22, Try.ntmps22
      go_wp2
      all_goals
        go_ret2
        refine ⟨ret_ib ?_ ?_, rfl⟩
        · unfold Rev.role; simp
        · unfold Rev.poss; rw [Bool.eq_iff_iff]; simp <;> omega

set_option maxHeartbeats 1600000 in
theorem refPossible_any (k s : Int) (w : World) (h1 : 1 ≤ k) (h2 : k ≤ 9) :
    Calls Try.prog 24 #[.int .i64 k, .int .i64 s] w fun e w' => e = .returned (.bool (Rev.poss k s)) ∧ w = w' := by
  have hk : k = 1 ∨ k = 2 ∨ k = 3 ∨ k = 4 ∨ k = 5 ∨ k = 6 ∨ k = 7 ∨ k = 8 ∨ k = 9 := by omega
  clear h1 h2
  rcases hk with rfl | rfl | rfl | rfl | rfl | rfl | rfl | rfl | rfl
  all_goals
    go_enter Try.func24, Try.ntmps24
    go_wp2
    all_goals
      go_ret
      refine ⟨ret_bool ?_, rfl⟩
      unfold Rev.poss
      rw [Bool.eq_iff_iff]
      simp <;> omega

set_option maxHeartbeats 1600000 in
theorem refRole_any (k s : Int) (w : World) (h1 : 1 ≤ k) (h2 : k ≤ 9) :
    Calls Try.prog 25 #[.int .i64 k, .int .i64 s] w fun e w' => e = .returned (.int .i64 (Rev.role k s)) ∧ w' = w := by
  by_cases h3 : k = 3
  · subst h3
    clear h1 h2
    by_cases hs : s = 3
    · subst hs
      go_enter Try.func25, Try.ntmps25
      go_wp2
      go_ret
      exact ⟨rfl, rfl⟩
    · have hs' : (s == 3) = false := by rw [beq_eq_false_iff_ne]; exact hs
      have HS := Lib.hid hs
      clear hs
      go_enter Try.func25, Try.ntmps25
      go_wp2
      go_ret
      refine ⟨ret_int ?_, rfl⟩
      unfold Rev.role; simp [HS.out]
  · have hk : k = 1 ∨ k = 2 ∨ k = 4 ∨ k = 5 ∨ k = 6 ∨ k = 7 ∨ k = 8 ∨ k = 9 := by omega
    clear h1 h2 h3
    rcases hk with rfl | rfl | rfl | rfl | rfl | rfl | rfl | rfl
    all_goals
      go_enter Try.func25, Try.ntmps25
      go_wp2
      go_ret
      exact ⟨rfl, rfl⟩

/-- What slices.Index leaves: a place, or -1. -/
def IdxPost (xs : List Int) (v : Int) (w : World) (e : Ending) (w' : World) : Prop := ∃ n : Int, e = .returned (.int .i64 n) ∧ (0 ≤ n ↔ v ∈ xs) ∧ Ext w w'

set_option maxHeartbeats 400000 in
theorem index_any (X : Option Addr) (xc : Nat) (xs : List Int) (v : Int) (w : World) (hX : SlI w X xs) (hl : xs.length ≤ maxLen) :
    Calls Try.prog 30 #[.slice X xs.length xc, .int .i64 v] w (IdxPost xs v w) := by
  have HX := Lib.hid hX
  unfold maxLen at hl
  clear hX
  go_enter Try.func30, Try.ntmps30
  go_wp2
  go_loopw [8] (fun i wr => ∃ k : Nat, k ≤ xs.length ∧ i = .int .i64 k ∧ (∀ j, j < k → xs[j]? ≠ some v) ∧ Ext w wr) (fun i _ => xs.length - (intOf i).toNat)
  case atStart => exact ⟨0, by omega, rfl, fun j hj => absurd hj (by omega), Ext.refl _⟩
  case round =>
    obtain ⟨k, hk, rfl, hno, he⟩ := hrel
    have HNO := Lib.hid hno
    clear hno
    by_cases hlt : k < xs.length
    · obtain ⟨b, off, x, rfl, hb, hx, cx⟩ := (HX.out.ext he).at_ (i := k) hlt
      have HXX := Lib.hid hx
      clear hx
      by_cases hxv : v = x
      · subst hxv
        go_wp2
        go_ret
        exact ⟨_, rfl, ⟨fun _ => List.mem_of_getElem? HXX.out, fun _ => by omega⟩, he⟩
      · have hxv' : (v == x) = false := by rw [beq_eq_false_iff_ne]; exact hxv
        have HV := Lib.hid hxv
        clear hxv
        go_wp2
        go_roundw
        case rel =>
          refine ⟨k + 1, by omega, by go_num, fun j hj e => ?_, he⟩
          rcases Nat.lt_or_ge j k with g | g
          · exact HNO.out j g e
          · obtain rfl : j = k := by omega
            rw [HXX.out] at e
            injection e with e
            exact HV.out e.symm
        case measure => simp [intOf]; omega
    · go_wp2
      go_ret
      refine ⟨-1, rfl, ⟨fun h => absurd h (by omega), fun h => ?_⟩, he⟩
      obtain ⟨j, hj⟩ := List.mem_iff_getElem?.1 h
      rcases Nat.lt_or_ge j k with g | g
      · exact absurd hj (HNO.out j g)
      · rw [List.getElem?_eq_none (by omega)] at hj; cases hj

set_option maxHeartbeats 400000 in
theorem contains_any (X : Option Addr) (xc : Nat) (xs : List Int) (v : Int) (w : World) (hX : SlI w X xs) (hl : xs.length ≤ maxLen) :
    Calls Try.prog 28 #[.slice X xs.length xc, .int .i64 v] w fun e w' => e = .returned (.bool (decide (v ∈ xs))) ∧ Ext w w' := by
  have HX := Lib.hid hX
  have HL := Lib.hid hl
  clear hX hl
  go_enter Try.func28, Try.ntmps28
  go_wp2_with fail
  refine (index_any X xc xs v _ HX.out HL.out).mono ?_
  rintro e w1 ⟨n, rfl, hn, hb1⟩
  have HN := Lib.hid hn
  clear hn
  go_wp2
  go_ret
  refine ⟨ret_bool ?_, hb1⟩
  rw [decide_eq_decide]
  exact HN.out

set_option maxHeartbeats 400000 in
theorem among_any (X : Option Addr) (xc : Nat) (xs : List Int) (v : Int) (w : World) (hX : SlI w X xs) (hl : xs.length ≤ maxLen) :
    Calls Try.prog 29 #[.slice X xs.length xc, .int .i64 v] w fun e w' => e = .returned (.bool (decide (v ∈ xs))) ∧ Ext w w' := by
  have HX := Lib.hid hX
  unfold maxLen at hl
  clear hX
  go_enter Try.func29, Try.ntmps29
  go_wp2
  go_loopw [5] (fun i wr => ∃ k : Nat, k ≤ xs.length ∧ i = .int .i64 k ∧ (∀ j, j < k → xs[j]? ≠ some v) ∧ Ext w wr) (fun i _ => xs.length - (intOf i).toNat)
  case atStart => exact ⟨0, by omega, rfl, fun j hj => absurd hj (by omega), Ext.refl _⟩
  case round =>
    obtain ⟨k, hk, rfl, hno, he⟩ := hrel
    have HNO := Lib.hid hno
    clear hno
    by_cases hlt : k < xs.length
    · obtain ⟨b, off, x, rfl, hb, hx, cx⟩ := (HX.out.ext he).at_ (i := k) hlt
      have HXX := Lib.hid hx
      clear hx
      by_cases hxv : v = x
      · subst hxv
        go_wp2
        go_ret
        refine ⟨ret_bool ?_, he⟩
        symm
        rw [decide_eq_true_iff]
        exact List.mem_of_getElem? HXX.out
      · have hxv' : (x == v) = false := by rw [beq_eq_false_iff_ne]; exact fun e => hxv e.symm
        have HV := Lib.hid hxv
        clear hxv
        go_wp2
        go_roundw
        case rel =>
          refine ⟨k + 1, by omega, by go_num, fun j hj e => ?_, he⟩
          rcases Nat.lt_or_ge j k with g | g
          · exact HNO.out j g e
          · obtain rfl : j = k := by omega
            rw [HXX.out] at e
            injection e with e
            exact HV.out e.symm
        case measure => simp [intOf]; omega
    · go_wp2
      go_ret
      refine ⟨ret_bool ?_, he⟩
      symm
      rw [decide_eq_false_iff_not]
      intro h
      obtain ⟨j, hj⟩ := List.mem_iff_getElem?.1 h
      rcases Nat.lt_or_ge j k with g | g
      · exact absurd hj (HNO.out j g)
      · rw [List.getElem?_eq_none (by omega)] at hj; cases hj
end Go.Proofs.Ytadnjhpkenjmdaa
