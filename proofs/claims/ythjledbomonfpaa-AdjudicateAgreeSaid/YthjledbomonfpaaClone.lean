/- slices.Clone, Index and Contains at []int: contracts for the walk (Clone's out of the library's shelf, laid at this translation's numbers). Conditions: those of each theorem. -/
import Derived.Ground.Names2Prog
import Derived.Shelf.Slices.Clone
import Derived.Test.YthjledbomonfpaaIL
namespace Go.Proofs
open Go.Shelf
def Try.laysClone_ren : Go.Shelf.Ren := ⟨fun | 15 => 45 | n => n, fun | 22 => 25 | 3 => 3 | 4 => 4 | n => n, fun | n => n⟩
theorem Try.laysClone : Go.Proofs.Lays2.n15 Try.prog Try.laysClone_ren := {
  mixed := by kernel_rfl
  f15 := Try.func45.trans (congrArg some (by kernel_rfl))
  t3 := Try.underlying3
  a3 := Try.isAgg3
  z3 := Try.sizeOf3
  v3 := Try.zeroValue3
  t4 := Try.underlying4
  a4 := Try.isAgg4
  z4 := Try.sizeOf4
  v4 := Try.zeroValue4
  t22 := Try.underlying25
  a22 := Try.isAgg25
  z22 := Try.sizeOf25
  v22 := Try.zeroValue25
  i3 := by kernel_rfl }
namespace Ythjledbomonfpaa
open Go.RowKit

/-- An address that was not there. -/
def IsNew (A : Option Addr) (w : World) : Prop := ∀ a, A = some a → w.heap.size ≤ a.block
theorem isNew_own {w w' : World} {e : TypeId} {size n c m : Nat} {A : Option Addr} {xs : List Value} (h : w'.ownsRow w.heap.size e size (.slice A m c) n xs) : IsNew A w := by
  rintro a rfl
  exact own_ge h a.block rfl

/-- The post of a function that returns a slice of integers. -/
def RetIL (xs : List Int) (w : World) (e : Ending) (w' : World) : Prop :=
  ∃ (A : Option Addr) (c : Nat), e = .returned (.slice A xs.length c) ∧ (⟨A, c, xs⟩ : IL).In w' ∧ Ext w w' ∧ IsNew A w

theorem clone_any (X : Option Addr) (xc : Nat) (xs : List Int) (w : World) (h : (⟨X, xc, xs⟩ : IL).In w) (hbig : xs.length * 8 ≤ 140737488355328) :
    Calls Try.prog 45 #[.slice X xs.length xc] w (RetIL xs w) := by
  obtain ⟨hS, h1, h2, h3⟩ := h
  by_cases h0 : xs = []
  · subst h0
    rcases X with _ | a
    · refine (Any.slices_Clone_int_nil Try.laysClone _ _ w).mono fun e w' ⟨he, hw⟩ => ?_
      subst hw
      exact ⟨none, 0, he, ⟨SlI.nil _ _, Nat.le_refl _, Nat.zero_le _, fun x hx => by simp at hx⟩, Ext.refl _, fun a ha => by cases ha⟩
    · refine (Any.slices_Clone_int_zero Try.laysClone a xc w).mono fun e w' ⟨v', he, hown, _, hb⟩ => ?_
      obtain ⟨R, rc, hv, r1, r2, r3⟩ := SlI.of_own (xs := []) hown
      subst hv
      exact ⟨R, rc, he, ⟨r3, r1, r2, fun x hx => by simp at hx⟩, hb, isNew_own hown⟩
  · have hpos : 0 < xs.length := List.length_pos_iff.2 h0
    rcases hS with hS | ⟨b, off, rfl, hb, hc⟩
    · simp at hS; exact absurd hS h0
    · refine (Any.slices_Clone_int Try.laysClone b off xs.length xc xs w (Nat.le_refl _) hbig (fun j hj => ?_)).mono fun e w' ⟨v', he, hown, _, hb'⟩ => ?_
      · have := hc j [.int .i64 xs[j]] (by simp [hj]) 0 _ rfl
        rw [List.getD_eq_getElem?_getD, List.getElem?_eq_getElem hj]
        simpa using this
      · rw [List.take_length] at hown
        obtain ⟨R, rc, hv, r1, r2, r3⟩ := SlI.of_own hown
        subst hv
        exact ⟨R, rc, he, ⟨r3, r1, r2, h3⟩, hb', isNew_own hown⟩

/-- What slices.Index leaves: a place, or -1. -/
def IdxPost (xs : List Int) (v : Int) (w : World) (e : Ending) (w' : World) : Prop := ∃ n : Int, e = .returned (.int .i64 n) ∧ (0 ≤ n ↔ v ∈ xs) ∧ Ext w w'

set_option maxHeartbeats 400000 in
theorem index_any (X : Option Addr) (xc : Nat) (xs : List Int) (v : Int) (w : World) (hX : SlI w X xs) (hl : xs.length ≤ maxLen) :
    Calls Try.prog 48 #[.slice X xs.length xc, .int .i64 v] w (IdxPost xs v w) := by
  have HX := Lib.hid hX
  unfold maxLen at hl
  clear hX
  go_enter Try.func48, Try.ntmps48
  go_wp2
  go_loopw [8] (fun i wr => ∃ k : Nat, k ≤ xs.length ∧ i = .int .i64 k ∧ (∀ j, j < k → xs[j]? ≠ some v) ∧ Ext w wr) (fun i _ => xs.length - (intOf i).toNat)
  case atStart => exact ⟨0, by omega, rfl, fun j hj => absurd hj (by omega), Ext.refl _⟩
  case round =>
    obtain ⟨k, hk, rfl, hno, he⟩ := hrel
    have HNO := Lib.hid hno
    clear hno
    by_cases hlt : k < xs.length
    · obtain ⟨b, off, x, rfl, hb, hx, cx⟩ := (HX.out.ext he).at_ (i := k) hlt
      have HXX := Lib.hid hx
      clear hx
      by_cases hxv : v = x
      · subst hxv
        go_wp2
        go_ret
        exact ⟨_, rfl, ⟨fun _ => List.mem_of_getElem? HXX.out, fun _ => by omega⟩, he⟩
      · have hxv' : (v == x) = false := by rw [beq_eq_false_iff_ne]; exact hxv
        have HV := Lib.hid hxv
        clear hxv
        go_wp2
        go_roundw
        case rel =>
          refine ⟨k + 1, by omega, by go_num, fun j hj e => ?_, he⟩
          rcases Nat.lt_or_ge j k with g | g
          · exact HNO.out j g e
          · obtain rfl : j = k := by omega
            rw [HXX.out] at e
            injection e with e
            exact HV.out e.symm
        case measure => simp [intOf]; omega
    · go_wp2
      go_ret
      refine ⟨-1, rfl, ⟨fun h => absurd h (by omega), fun h => ?_⟩, he⟩
      obtain ⟨j, hj⟩ := List.mem_iff_getElem?.1 h
      rcases Nat.lt_or_ge j k with g | g
      · exact absurd hj (HNO.out j g)
      · rw [List.getElem?_eq_none (by omega)] at hj; cases hj

set_option maxHeartbeats 400000 in
theorem contains_any (X : Option Addr) (xc : Nat) (xs : List Int) (v : Int) (w : World) (hX : SlI w X xs) (hl : xs.length ≤ maxLen) :
    Calls Try.prog 44 #[.slice X xs.length xc, .int .i64 v] w fun e w' => e = .returned (.bool (decide (v ∈ xs))) ∧ Ext w w' := by
  have HX := Lib.hid hX
  have HL := Lib.hid hl
  clear hX hl
  go_enter Try.func44, Try.ntmps44
  go_wp2_with fail
  refine (index_any X xc xs v _ HX.out HL.out).mono ?_
  rintro e w1 ⟨n, rfl, hn, hb1⟩
  have HN := Lib.hid hn
  clear hn
  go_wp2
  go_ret
  refine ⟨ret_bool ?_, hb1⟩
  rw [decide_eq_decide]
  exact HN.out

end Ythjledbomonfpaa
end Go.Proofs
