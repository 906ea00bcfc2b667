/- slices.Clone of integers and of strings: a row of its own: contracts (out of the library's shelf, laid at this translation's numbers). Conditions: those of each theorem. -/
import Derived.Ground.Names2Prog
import Derived.Shelf.Slices.Clone
import Derived.Test.YtgaepmddbjdhfaaGreatDoorItA
namespace Go.Proofs
open Go.Shelf
def Tryz.laysCloneI_ren : Go.Shelf.Ren := ⟨fun | 15 => 76 | n => n, fun | 22 => 29 | 3 => 3 | 4 => 4 | n => n, fun | n => n⟩
theorem Tryz.laysCloneI : Go.Proofs.Lays2.n15 Tryz.prog Tryz.laysCloneI_ren := {
  mixed := by kernel_rfl
  f15 := Tryz.func76.trans (congrArg some (by kernel_rfl))
  t3 := Tryz.underlying3
  a3 := Tryz.isAgg3
  z3 := Tryz.sizeOf3
  v3 := Tryz.zeroValue3
  t4 := Tryz.underlying4
  a4 := Tryz.isAgg4
  z4 := Tryz.sizeOf4
  v4 := Tryz.zeroValue4
  t22 := Tryz.underlying29
  a22 := Tryz.isAgg29
  z22 := Tryz.sizeOf29
  v22 := Tryz.zeroValue29
  i3 := by kernel_rfl }
def Tryz.laysCloneS_ren : Go.Shelf.Ren := ⟨fun | 16 => 75 | n => n, fun | 24 => 53 | 9 => 9 | 4 => 4 | n => n, fun | n => n⟩
theorem Tryz.laysCloneS : Go.Proofs.Lays2.n16 Tryz.prog Tryz.laysCloneS_ren := {
  mixed := by kernel_rfl
  f16 := Tryz.func75.trans (congrArg some (by kernel_rfl))
  t9 := Tryz.underlying9
  a9 := Tryz.isAgg9
  z9 := Tryz.sizeOf9
  v9 := Tryz.zeroValue9
  t4 := Tryz.underlying4
  a4 := Tryz.isAgg4
  z4 := Tryz.sizeOf4
  v4 := Tryz.zeroValue4
  t24 := Tryz.underlying53
  a24 := Tryz.isAgg53
  z24 := Tryz.sizeOf53
  v24 := Tryz.zeroValue53
  i9 := by kernel_rfl }
namespace YtgaepmddbjdhfaaGreatDoor
open Go.RowKit
theorem clone_own (X : Option Addr) (xc : Nat) (xs : List Int) {n : Nat} (hn : xs.length = n) (w : World) (h : SlI w X xs) (hbig : n * 8 ≤ 140737488355328) :
    Calls Tryz.prog 76 #[.slice X n xc] w fun e w' => ∃ v', e = .returned v' ∧ w'.ownsRow w.heap.size 3 1 v' n (xs.map (Value.int .i64)) ∧ Ext w w' := by
  subst hn
  by_cases h0 : xs = []
  · subst h0
    rcases X with _ | a
    · refine (Any.slices_Clone_int_nil Tryz.laysCloneI _ _ w).mono fun e w' ⟨he, hw⟩ => ?_
      subst hw
      exact ⟨_, he, own_nil _ _ _ _, Ext.refl _⟩
    · refine (Any.slices_Clone_int_zero Tryz.laysCloneI a xc w).mono fun e w' ⟨v', he, hown, _, hb⟩ => ⟨v', he, hown, hb⟩
  · have hpos : 0 < xs.length := List.length_pos_iff.2 h0
    rcases h with hS | ⟨b, off, rfl, hb, hc⟩
    · simp at hS; exact absurd hS h0
    · refine (Any.slices_Clone_int Tryz.laysCloneI b off xs.length xc xs w (Nat.le_refl _) hbig (fun j hj => ?_)).mono fun e w' ⟨v', he, hown, _, hb'⟩ => ?_
      · have := hc j [.int .i64 xs[j]] (by simp [hj]) 0 _ rfl
        rw [List.getD_eq_getElem?_getD, List.getElem?_eq_getElem hj]
        simpa using this
      · rw [List.take_length] at hown
        exact ⟨v', he, hown, hb'⟩
theorem cloneS_own (X : Option Addr) (xc : Nat) (xs : List ByteArray) {n : Nat} (hn : xs.length = n) (w : World) (h : SlS w X xs) (hbig : n * 16 ≤ 140737488355328) :
    Calls Tryz.prog 75 #[.slice X n xc] w fun e w' => ∃ v', e = .returned v' ∧ w'.ownsRow w.heap.size 9 1 v' n (xs.map Value.string) ∧ Ext w w' := by
  subst hn
  by_cases h0 : xs = []
  · subst h0
    rcases X with _ | a
    · refine (Any.slices_Clone_string_nil Tryz.laysCloneS _ _ w).mono fun e w' ⟨he, hw⟩ => ?_
      subst hw
      exact ⟨_, he, own_nil _ _ _ _, Ext.refl _⟩
    · refine (Any.slices_Clone_string_zero Tryz.laysCloneS a xc w).mono fun e w' ⟨v', he, hown, _, hb⟩ => ⟨v', he, hown, hb⟩
  · have hpos : 0 < xs.length := List.length_pos_iff.2 h0
    rcases h with hS | ⟨b, off, rfl, hb, hc⟩
    · simp at hS; exact absurd hS h0
    · refine (Any.slices_Clone_string Tryz.laysCloneS b off xs.length xc xs w (Nat.le_refl _) hbig (fun j hj => ?_)).mono fun e w' ⟨v', he, hown, _, hb'⟩ => ?_
      · have := hc j [.string xs[j]] (by simp [hj]) 0 _ rfl
        rw [List.getD_eq_getElem?_getD, List.getElem?_eq_getElem hj]
        simpa using this
      · rw [List.take_length] at hown
        exact ⟨v', he, hown, hb'⟩
end YtgaepmddbjdhfaaGreatDoor
end Go.Proofs
