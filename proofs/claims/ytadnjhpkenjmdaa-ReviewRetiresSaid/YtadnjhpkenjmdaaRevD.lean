/- review.Actions and its counterpart in the reference: contracts for the walk. Conditions: those of each theorem. -/
import Derived.Test.YtadnjhpkenjmdaaRevC
import Derived.Test.YtadnjhpkenjmdaaApp
namespace Go.Proofs.Ytadnjhpkenjmdaa
open Go.RowKit

/-- The post of a function that returns a slice of integers. -/
def RetInts (xs : List Int) (w : World) (e : Ending) (w' : World) : Prop :=
  ∃ (A : Option Addr) (c : Nat), e = .returned (.slice A xs.length c) ∧ (⟨A, c, xs⟩ : IL).In w' ∧ Ext w w'

namespace Rev
/-- The kinds up to j that are allowed. -/
def acts (r : Rec) (u ro t : Int) : Nat → List Int
  | 0 => []
  | j + 1 => acts r u ro t j ++ (if allowedE r ⟨(j : Int) + 1, u, ro, t⟩ = 0 then [(j : Int) + 1] else [])
theorem acts_yes (r : Rec) (u ro t : Int) (j : Nat) (h : allowedE r ⟨(j : Int) + 1, u, ro, t⟩ = 0) : acts r u ro t (j + 1) = acts r u ro t j ++ [(j : Int) + 1] := by rw [acts, if_pos h]
theorem acts_no (r : Rec) (u ro t : Int) (j : Nat) (h : allowedE r ⟨(j : Int) + 1, u, ro, t⟩ ≠ 0) : acts r u ro t (j + 1) = acts r u ro t j := by rw [acts, if_neg h, List.append_nil]
theorem acts_length (r : Rec) (u ro t : Int) : ∀ j, (acts r u ro t j).length ≤ j
  | 0 => by simp [acts]
  | j + 1 => by
    have := acts_length r u ro t j
    rw [acts, List.length_append]
    split <;> simp <;> omega
theorem acts_mem (r : Rec) (u ro t : Int) : ∀ (j : Nat) (x : Int), x ∈ acts r u ro t j → 1 ≤ x ∧ x ≤ j
  | 0, x, h => by simp [acts] at h
  | j + 1, x, h => by
    rw [acts, List.mem_append] at h
    rcases h with h | h
    · have := acts_mem r u ro t j x h; omega
    · by_cases hz : allowedE r ⟨(j : Int) + 1, u, ro, t⟩ = 0
      · rw [if_pos hz, List.mem_singleton] at h; omega
      · rw [if_neg hz] at h; cases h
end Rev

set_option maxRecDepth 100000 in
set_option maxHeartbeats 1600000 in
theorem actions_any (st au : Int) (P : Option Addr) (pc : Nat) (ap : List Int) (Q : Option Addr) (qc : Nat) (fa : List Int) (L : Option Addr) (lc : Nat) (log : List Rev.Act) (u ro t : Int) (w : World) (h : RevIn w st au P pc ap Q qc fa L lc log) :
    Calls Try.prog 9 #[.agg #[.int .i64 st, .int .i64 au, .slice P ap.length pc, .slice Q fa.length qc, .slice L log.length lc], .int .i64 u, .int .i64 ro, .int .i64 t] w (RetInts (Rev.acts ⟨st, au, ap, fa, log⟩ u ro t 9) w) := by
  have H := Lib.hid h
  clear h
  have hx0 : Ext w (w.alloc (.cells #[.int .i64 st, .int .i64 au, .slice P ap.length pc, .slice Q fa.length qc, .slice L log.length lc] 25)) := (Ext.refl _).alloc _
  obtain ⟨i0, hi0, hz0, hz1, hz2⟩ := info_parts Try.infoInt
  go_enter Try.func9, Try.ntmps9
  go_wp2
  go_loopw [10, 9] (fun i v wr => ∃ (j : Nat), j ≤ 9 ∧ i = .int .i64 (j + 1 : Nat) ∧ wr.ownsRow (w.heap.size + 1) 3 1 v (Rev.acts ⟨st, au, ap, fa, log⟩ u ro t j).length ((Rev.acts ⟨st, au, ap, fa, log⟩ u ro t j).map (Value.int .i64)) ∧ Ext (w.alloc (.cells #[.int .i64 st, .int .i64 au, .slice P ap.length pc, .slice Q fa.length qc, .slice L log.length lc] 25)) wr) (fun i _ _ => 10 - (intOf i).toNat)
  case atStart => exact ⟨0, by omega, rfl, ⟨by simp [Rev.acts], Or.inl ⟨rfl, rfl⟩⟩, Ext.refl _⟩
  case round =>
    obtain ⟨j, hj, rfl, hown, he⟩ := hrel
    have hw : Ext w wr := hx0.trans he
    have hszr := he.size
    simp at hszr
    have hal := Rev.acts_length ⟨st, au, ap, fa, log⟩ u ro t j
    rw [show ((j + 1 : Nat) : Int) = (j : Int) + 1 from by omega]
    by_cases hlt : j < 9
    · have bx0 : wr.cell? ⟨w.heap.size, 0, none⟩ = some (.int .i64 st) := he.keep (by simp [go_sem])
      have bx1 : wr.cell? ⟨w.heap.size, 1, none⟩ = some (.int .i64 au) := he.keep (by simp [go_sem])
      have bx2 : wr.cell? ⟨w.heap.size, 2, none⟩ = some (.slice P ap.length pc) := he.keep (by simp [go_sem])
      have bx3 : wr.cell? ⟨w.heap.size, 3, none⟩ = some (.slice Q fa.length qc) := he.keep (by simp [go_sem])
      have bx4 : wr.cell? ⟨w.heap.size, 4, none⟩ = some (.slice L log.length lc) := he.keep (by simp [go_sem])
      have hge := own_ge hown
      have HOWN := Lib.hid hown
      have HGE := Lib.hid hge
      clear hown hge
      go_wp2_with fail
      refine (allowed_any st au P pc ap Q qc fa L lc log ((j : Int) + 1) u ro t _ (H.out.ext hw)).mono ?_
      rintro e w1 ⟨rfl, hb1⟩
      have hsz1 := hb1.size
      by_cases hz : Rev.allowedE ⟨st, au, ap, fa, log⟩ ⟨(j : Int) + 1, u, ro, t⟩ = 0
      · have HSN := Lib.hid (Rev.acts_yes ⟨st, au, ap, fa, log⟩ u ro t j hz)
        rw [hz]
        clear hz
        have own1 := Lib.hid (own_ext HOWN.out hb1)
        go_wp2_with (at_builtin; refine wpList_append_lies _ rfl _ _ 22 rfl (w.heap.size + 1) 3 i0 (.int .i64 0) 1 8 Try.underlying22 hi0 hz0 hz1 hz2 rfl (by decide) _ _ _ rfl (own1.out.alloc _) ⟨w1.heap.size, 0, none⟩ 1 1 [.int .i64 ((j : Int) + 1)] rfl rfl (cell_one_new _ _ _) (by simp [Value.oneCell']) (by decide) (by unfold maxLen; omega) (by omega) (by simp; omega) (w1.heap.size + 1) (by simp) ?_; intro gg cap w2 hown2 hgrow2 hat hlt2)
        go_wp2
        go_roundw
        case rel =>
          refine ⟨j + 1, by omega, by go_num, ?_, ?_⟩
          · rw [HSN.out, List.map_append, List.length_append]
            exact hown2
          · exact ((he.trans hb1).alloc _).grown hgrow2 (fun q hq => by have := HGE.out q hq; simp; omega)
        case measure => simp [intOf]; omega
      · have hz' : (Rev.allowedE ⟨st, au, ap, fa, log⟩ ⟨(j : Int) + 1, u, ro, t⟩ == 0) = false := by rw [beq_eq_false_iff_ne]; exact hz
        have HSN := Lib.hid (Rev.acts_no ⟨st, au, ap, fa, log⟩ u ro t j hz)
        clear hz
        go_wp2
        go_roundw
        case rel =>
          refine ⟨j + 1, by omega, by go_num, ?_, he.trans hb1⟩
          rw [HSN.out]
          exact own_ext HOWN.out hb1
        case measure => simp [intOf]; omega
    · obtain rfl : j = 9 := by omega
      obtain ⟨R, rc, rfl, hr1, hr2, hr3⟩ := SlI.of_own hown
      clear hown
      go_wp2
      go_ret
      refine ⟨R, rc, rfl, ⟨hr3, hr1, hr2, fun x hx => ?_⟩, hw⟩
      have := Rev.acts_mem ⟨st, au, ap, fa, log⟩ u ro t 9 x hx
      exact ⟨by omega, by omega⟩

set_option maxRecDepth 100000 in
set_option maxHeartbeats 1600000 in
theorem refActions_any (st au : Int) (P : Option Addr) (pc : Nat) (ap : List Int) (Q : Option Addr) (qc : Nat) (fa : List Int) (L : Option Addr) (lc : Nat) (log : List Rev.Act) (u ro t : Int) (w : World) (h : RevIn w st au P pc ap Q qc fa L lc log) :
    Calls Try.prog 10 #[.agg #[.int .i64 st, .int .i64 au, .slice P ap.length pc, .slice Q fa.length qc, .slice L log.length lc], .int .i64 u, .int .i64 ro, .int .i64 t] w (RetInts (Rev.acts ⟨st, au, ap, fa, log⟩ u ro t 9) w) := by
  have H := Lib.hid h
  clear h
  have hx0 : Ext w (w.alloc (.cells #[.int .i64 st, .int .i64 au, .slice P ap.length pc, .slice Q fa.length qc, .slice L log.length lc] 25)) := (Ext.refl _).alloc _
  obtain ⟨i0, hi0, hz0, hz1, hz2⟩ := info_parts Try.infoInt
  go_enter Try.func10, Try.ntmps10
  go_wp2
  go_loopw [10, 9] (fun i v wr => ∃ (j : Nat), j ≤ 9 ∧ i = .int .i64 (j + 1 : Nat) ∧ wr.ownsRow (w.heap.size + 1) 3 1 v (Rev.acts ⟨st, au, ap, fa, log⟩ u ro t j).length ((Rev.acts ⟨st, au, ap, fa, log⟩ u ro t j).map (Value.int .i64)) ∧ Ext (w.alloc (.cells #[.int .i64 st, .int .i64 au, .slice P ap.length pc, .slice Q fa.length qc, .slice L log.length lc] 25)) wr) (fun i _ _ => 10 - (intOf i).toNat)
  case atStart => exact ⟨0, by omega, rfl, ⟨by simp [Rev.acts], Or.inl ⟨rfl, rfl⟩⟩, Ext.refl _⟩
  case round =>
    obtain ⟨j, hj, rfl, hown, he⟩ := hrel
    have hw : Ext w wr := hx0.trans he
    have hszr := he.size
    simp at hszr
    have hal := Rev.acts_length ⟨st, au, ap, fa, log⟩ u ro t j
    rw [show ((j + 1 : Nat) : Int) = (j : Int) + 1 from by omega]
    by_cases hlt : j < 9
    · have bx0 : wr.cell? ⟨w.heap.size, 0, none⟩ = some (.int .i64 st) := he.keep (by simp [go_sem])
      have bx1 : wr.cell? ⟨w.heap.size, 1, none⟩ = some (.int .i64 au) := he.keep (by simp [go_sem])
      have bx2 : wr.cell? ⟨w.heap.size, 2, none⟩ = some (.slice P ap.length pc) := he.keep (by simp [go_sem])
      have bx3 : wr.cell? ⟨w.heap.size, 3, none⟩ = some (.slice Q fa.length qc) := he.keep (by simp [go_sem])
      have bx4 : wr.cell? ⟨w.heap.size, 4, none⟩ = some (.slice L log.length lc) := he.keep (by simp [go_sem])
      have hge := own_ge hown
      have HOWN := Lib.hid hown
      have HGE := Lib.hid hge
      clear hown hge
      go_wp2_with fail
      refine (refAllowed_any st au P pc ap Q qc fa L lc log ((j : Int) + 1) u ro t _ (H.out.ext hw)).mono ?_
      rintro e w1 ⟨rfl, hb1⟩
      have hsz1 := hb1.size
      by_cases hz : Rev.allowedE ⟨st, au, ap, fa, log⟩ ⟨(j : Int) + 1, u, ro, t⟩ = 0
      · have HSN := Lib.hid (Rev.acts_yes ⟨st, au, ap, fa, log⟩ u ro t j hz)
        rw [hz]
        clear hz
        have own1 := Lib.hid (own_ext HOWN.out hb1)
        go_wp2_with (at_builtin; refine wpList_append_lies _ rfl _ _ 22 rfl (w.heap.size + 1) 3 i0 (.int .i64 0) 1 8 Try.underlying22 hi0 hz0 hz1 hz2 rfl (by decide) _ _ _ rfl (own1.out.alloc _) ⟨w1.heap.size, 0, none⟩ 1 1 [.int .i64 ((j : Int) + 1)] rfl rfl (cell_one_new _ _ _) (by simp [Value.oneCell']) (by decide) (by unfold maxLen; omega) (by omega) (by simp; omega) (w1.heap.size + 1) (by simp) ?_; intro gg cap w2 hown2 hgrow2 hat hlt2)
        go_wp2
        go_roundw
        case rel =>
          refine ⟨j + 1, by omega, by go_num, ?_, ?_⟩
          · rw [HSN.out, List.map_append, List.length_append]
            exact hown2
          · exact ((he.trans hb1).alloc _).grown hgrow2 (fun q hq => by have := HGE.out q hq; simp; omega)
        case measure => simp [intOf]; omega
      · have hz' : (Rev.allowedE ⟨st, au, ap, fa, log⟩ ⟨(j : Int) + 1, u, ro, t⟩ == 0) = false := by rw [beq_eq_false_iff_ne]; exact hz
        have HSN := Lib.hid (Rev.acts_no ⟨st, au, ap, fa, log⟩ u ro t j hz)
        clear hz
        go_wp2
        go_roundw
        case rel =>
          refine ⟨j + 1, by omega, by go_num, ?_, he.trans hb1⟩
          rw [HSN.out]
          exact own_ext HOWN.out hb1
        case measure => simp [intOf]; omega
    · obtain rfl : j = 9 := by omega
      obtain ⟨R, rc, rfl, hr1, hr2, hr3⟩ := SlI.of_own hown
      clear hown
      go_wp2
      go_ret
      refine ⟨R, rc, rfl, ⟨hr3, hr1, hr2, fun x hx => ?_⟩, hw⟩
      have := Rev.acts_mem ⟨st, au, ap, fa, log⟩ u ro t 9 x hx
      exact ⟨by omega, by omega⟩

end Go.Proofs.Ytadnjhpkenjmdaa
