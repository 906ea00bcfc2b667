/- slices.Equal at integers and at strings; the reference's Diff and Major: contracts. Conditions: those of each theorem. -/
import Derived.Test.YtfnmgcblhebdbaaGreatDoorItC
namespace Go.Proofs.YtfnmgcblhebdbaaGreatDoor
open Go.RowKit Go.Shelf

theorem equalI_any (X : Option Addr) (xc : Nat) (Y : Option Addr) (yc : Nat) (xs ys : List Int) (w : World) (ha : SlI w X xs) (hb : SlI w Y ys) (l1 : xs.length ≤ 9223372036854775807) (l2 : ys.length ≤ 9223372036854775807) :
    Calls Tryz.prog 47 #[.slice X xs.length xc, .slice Y ys.length yc] w fun e w' => e = .returned (.bool (It.eqI xs ys)) ∧ ∃ q, w' = w.drewN q := by
  by_cases hn : xs.length = ys.length
  · rcases Nat.eq_zero_or_pos xs.length with h0 | h0
    · obtain rfl := List.eq_nil_of_length_eq_zero h0
      obtain rfl := List.eq_nil_of_length_eq_zero (l := ys) (by omega)
      refine (Any.slices_Equal_int_empty Tryz.lays111 X Y xc 0 yc w (by omega)).mono ?_
      rintro e w' ⟨rfl, rfl⟩
      exact ⟨rfl, 0, rfl⟩
    · obtain ⟨b1, o1, x0, rfl, _⟩ := ha.at_ h0
      obtain ⟨b2, o2, y0, rfl, _⟩ := hb.at_ (i := 0) (by omega)
      refine (Any.slices_Equal_int Tryz.lays111 b1 o1 xs.length xc b2 o2 ys.length yc xs ys w (Nat.le_refl _) (Nat.le_refl _) l1 l2 (fun j hj => ?_) (fun j hj => ?_)).mono ?_
      · obtain ⟨b, o, x, e, _, hx, hc⟩ := ha.at_ hj
        cases e
        rw [hc, List.getD_eq_getElem?_getD, hx]; rfl
      · obtain ⟨b, o, x, e, _, hx, hc⟩ := hb.at_ hj
        cases e
        rw [hc, List.getD_eq_getElem?_getD, hx]; rfl
      · rintro e w' ⟨rfl, hq⟩
        rw [List.take_length, List.take_length]
        exact ⟨ret_bool (by unfold It.eqI; rw [Bool.eq_iff_iff]; simp), hq⟩
  · refine (Any.slices_Equal_int_lens Tryz.lays111 X Y xs.length xc ys.length yc w hn).mono ?_
    rintro e w' ⟨rfl, rfl⟩
    exact ⟨ret_bool (by unfold It.eqI; rw [decide_eq_false (fun e => hn (by rw [e]))]), 0, rfl⟩
theorem equalS_any (X : Option Addr) (xc : Nat) (Y : Option Addr) (yc : Nat) (xs ys : List ByteArray) (w : World) (ha : SlS w X xs) (hb : SlS w Y ys) (l1 : xs.length ≤ 9223372036854775807) (l2 : ys.length ≤ 9223372036854775807) :
    Calls Tryz.prog 138 #[.slice X xs.length xc, .slice Y ys.length yc] w fun e w' => e = .returned (.bool (It.eqS xs ys)) ∧ ∃ q, w' = w.drewN q := by
  by_cases hn : xs.length = ys.length
  · rcases Nat.eq_zero_or_pos xs.length with h0 | h0
    · obtain rfl := List.eq_nil_of_length_eq_zero h0
      obtain rfl := List.eq_nil_of_length_eq_zero (l := ys) (by omega)
      refine (Any.slices_Equal_string_empty Tryz.lays193 X Y xc 0 yc w (by omega)).mono ?_
      rintro e w' ⟨rfl, rfl⟩
      exact ⟨rfl, 0, rfl⟩
    · obtain ⟨b1, o1, rfl, _⟩ := ha.at_ h0
      obtain ⟨b2, o2, rfl, _⟩ := hb.at_ (i := 0) (by omega)
      refine (Any.slices_Equal_string Tryz.lays193 b1 o1 xs.length xc b2 o2 ys.length yc xs ys w (Nat.le_refl _) (Nat.le_refl _) l1 l2 (fun j hj => ?_) (fun j hj => ?_)).mono ?_
      · obtain ⟨b, o, e, _, hc⟩ := ha.at_ hj
        cases e
        rw [hc, List.getD_eq_getElem?_getD, List.getElem?_eq_getElem hj]; rfl
      · obtain ⟨b, o, e, _, hc⟩ := hb.at_ hj
        cases e
        rw [hc, List.getD_eq_getElem?_getD, List.getElem?_eq_getElem hj]; rfl
      · rintro e w' ⟨rfl, hq⟩
        rw [List.take_length, List.take_length]
        exact ⟨ret_bool (by unfold It.eqS; rfl), hq⟩
  · refine (Any.slices_Equal_string_lens Tryz.lays193 X Y xs.length xc ys.length yc w hn).mono ?_
    rintro e w' ⟨rfl, rfl⟩
    exact ⟨ret_bool (by unfold It.eqS; rw [decide_eq_false (fun e => hn (by rw [e]))]), 0, rfl⟩
end Go.Proofs.YtfnmgcblhebdbaaGreatDoor
