/- slices.SortFunc at intervals in normal's order: its contract. Conditions: those of each theorem. -/
import Derived.Test.YtpdboefaedocfaaTmC
import Derived.Test.YtpdboefaedocfaaShSort
import Derived.Shelf.SlSortFuncK.ComposeK
namespace Go.Proofs.Ytpdboefaedocfaa
open Go.RowKit Go.Sort

namespace Tm
def lt (p q : Int × Int) : Bool := decide (cf p q < 0)
/-- The intervals in order. -/
def srt (ps : List (Int × Int)) : List (Int × Int) := ps.mergeSort fun x y => !lt y x
theorem lt_iff (p q : Int × Int) : lt p q = decide (p.1 < q.1 ∨ (p.1 = q.1 ∧ p.2 < q.2)) := by
  unfold lt cf cmpI
  rw [Bool.eq_iff_iff, decide_eq_true_iff, decide_eq_true_iff]
  constructor
  · intro h
    by_cases h1 : p.1 < q.1
    · exact Or.inl h1
    · rw [if_neg h1] at h
      by_cases h2 : q.1 < p.1
      · rw [if_pos h2] at h; simp at h
      · rw [if_neg h2] at h
        simp only [ne_eq, not_true_eq_false, if_false] at h
        by_cases h3 : p.2 < q.2
        · exact Or.inr ⟨by omega, h3⟩
        · rw [if_neg h3] at h
          split at h <;> omega
  · rintro (h | ⟨h1, h2⟩)
    · rw [if_pos h]; simp
    · simp [show ¬ p.1 < q.1 by omega, show ¬ q.1 < p.1 by omega, h2]
theorem swo : SWO lt where
  irrefl x := by rw [lt_iff]; simp
  trans x y z h1 h2 := by rw [lt_iff, decide_eq_true_iff] at *; omega
  ntrans x y z h1 h2 := by rw [lt_iff, decide_eq_false_iff_not] at *; omega
theorem lt_total (x y : Int × Int) (h1 : lt x y = false) (h2 : lt y x = false) : x = y := by
  rw [lt_iff, decide_eq_false_iff_not] at *
  exact Prod.ext (by omega) (by omega)
theorem srt_len (ps : List (Int × Int)) : (srt ps).length = ps.length := List.length_mergeSort _
theorem srt_mem {ps : List (Int × Int)} {p : Int × Int} : p ∈ srt ps ↔ p ∈ ps := List.mem_mergeSort
end Tm
theorem flat_at {ps : List (Int × Int)} {i r : Nat} {p : Int × Int} (hi : ps[i]? = some p) (hr : r < 2) : ((ps.map Tm.cells).flatten)[i * 2 + r]? = some ((Tm.cells p)[r]!) := by
  refine flatten_at (k := 2) (pair_cells ps).1 (i := i) (cs := Tm.cells p) (by simp [hi]) ?_
  match r, hr with
  | 0, _ => rfl
  | 1, _ => rfl
theorem flatK_at {ps : List (Int × Int)} {i r : Nat} {p : Int × Int} (hi : ps[i]? = some p) (hr : r < 2) : (flatK Tm.cells 2 ps.toArray)[i * 2 + r]! = (Tm.cells p)[r]! := by
  have hl : i < ps.length := by
    rcases Nat.lt_or_ge i ps.length with g | g
    · exact g
    · rw [List.getElem?_eq_none g] at hi; cases hi
  rw [get_flatK _ _ _ _ (by simp; omega), show (i * 2 + r) / 2 = i by omega, show (i * 2 + r) % 2 = r by omega]
  have : ps.toArray[i]! = p := by
    rw [getElem!_pos _ i (by simpa using hl)]
    rw [List.getElem?_eq_getElem hl] at hi
    injection hi with hi
  rw [this]
theorem sortWorld_ext {W w : World} (hW : Ext W w) (g off m : Nat) (d : Array (Int × Int)) (os : Array Obj) (hg : W.heap.size ≤ g) : Ext W (sortWorldK Tm.cells 2 w g off m d os) := by
  refine ⟨hW.os, hW.tape, hW.output, ?_, fun k hk => ?_⟩
  · refine Nat.le_trans hW.size ?_
    show _ ≤ ((w.heap.modify g _) ++ os).size
    simp
  · rw [← hW.block k hk]
    show ((w.heap.modify g _) ++ os)[k]? = _
    have := hW.size
    rw [Array.getElem?_append_left (by simp; omega), Array.getElem?_modify, if_neg (by omega)]
theorem cmp_lays (blk off size : Nat) (w : World) : CmpLays Try.prog 31 #[] Tm.cells 2 Tm.cf blk off size w :=
  fun _ _ _ _ x y => order_any x y _
theorem sort_any {W : World} (A : Option Addr) (c n : Nat) (ps : List (Int × Int)) (hn : ps.length = n) (w : World) (hW : Ext W w) (h : w.ownsRow W.heap.size 33 2 (.slice A n c) n (ps.map Tm.cells).flatten) (hb : n ≤ 1000) :
    Calls Try.prog 30 #[.slice A n c, .func (.func 31) #[] #[]] w fun e w' => e = .returned (.tuple #[]) ∧ SlP w' A (Tm.srt ps) ∧ Ext W w' := by
  subst hn
  rcases Nat.eq_zero_or_pos ps.length with h0 | h0
  · rw [h0]
    refine (AnyF.slices_SortFunc_none Try.sortP A c _ w).mono ?_
    rintro e w' ⟨rfl, rfl⟩
    have : Tm.srt ps = [] := List.eq_nil_of_length_eq_zero (by rw [Tm.srt_len]; exact h0)
    rw [this]
    exact ⟨rfl, SlP.nil _ _, hW⟩
  · rcases h.2 with ⟨-, h1⟩ | ⟨g, cap, cur, h1, h2, h3, h4, h5, h6, h7⟩
    · omega
    · injection h1 with h1 _ hc
      subst h1 hc
      have hlt : g < w.heap.size := by
        rcases Nat.lt_or_ge g w.heap.size with e | e
        · exact e
        · rw [Array.getElem?_eq_none e] at h3; cases h3
      have hH : HoldsK Tm.cells 2 w g 0 ps.toArray := fun j hj => by
        rw [size_flatK] at hj
        have hi : j / 2 < ps.length := by simp at hj; omega
        have hp := List.getElem?_eq_getElem hi
        have e1 := flatK_at hp (r := j % 2) (by omega)
        have e2 := flat_at hp (r := j % 2) (by omega)
        rw [show j / 2 * 2 + j % 2 = j by omega] at e1 e2
        rw [Nat.zero_add, e1]
        refine ⟨?_, frozen_of_row _ _ j _ _ h3⟩
        rw [cell_of_row _ _ _ _ _ _ h3]
        rw [← h7, List.getElem?_take_of_lt (by omega)] at e2
        simpa using e2
      have eg : ∀ args w, (callFunc 31 args).run Try.prog w = .ok (.enter 31 args) w := enters_of Try.func31 (by kernel_rfl) rfl
      have hcon := AnyQ.slices_SortFunc_total Try.sortP 2 Try.isAgg33 Try.sizeOf33 Tm.cells (fun _ => rfl) (fun x v hv => by simp [Tm.cells] at hv; rcases hv with rfl | rfl <;> rfl) Tm.cf Tm.swo 31 #[] g 0 c ps.toArray w eg (cmp_lays g 0 _ w) hH hlt (by simp; omega) Tm.lt_total
      refine (show Calls Try.prog 30 #[.slice (some ⟨g, 0, none⟩) ps.length c, .func (.func 31) #[] #[]] w _ from hcon).mono ?_
      rintro e w' ⟨rfl, m, os, hw'⟩
      have hH2 : HoldsK Tm.cells 2 w' g 0 (Tm.srt ps).toArray := by
        rw [hw']
        exact holdsK_sortWorldK Tm.cells 2 w g 0 m ps.toArray _ os hlt hH (by simp)
      refine ⟨rfl, Or.inr ⟨g, 0, rfl, ?_, fun i cs hi j v hv => ?_⟩, ?_⟩
      · rw [hw']; exact lt_sortWorldK Tm.cells 2 w g 0 m _ os hlt
      · rw [List.getElem?_map] at hi
        obtain ⟨p, hp, rfl⟩ := Option.map_eq_some_iff.1 hi
        have hj : j < 2 := by
          rcases Nat.lt_or_ge j 2 with e | e
          · exact e
          · rw [List.getElem?_eq_none (by simpa [Tm.cells] using e)] at hv; cases hv
        have hil : i < (Tm.srt ps).length := by
          rcases Nat.lt_or_ge i (Tm.srt ps).length with e | e
          · exact e
          · rw [List.getElem?_eq_none e] at hp; cases hp
        have := (hH2 (i * 2 + j) (by rw [size_flatK]; simp; omega)).1
        rw [flatK_at hp hj] at this
        rw [this]
        match j, hj with
        | 0, _ => simpa [Tm.cells] using hv
        | 1, _ => simpa [Tm.cells] using hv
      · rw [hw']; exact sortWorld_ext hW g 0 m _ os h2
end Go.Proofs.Ytpdboefaedocfaa
