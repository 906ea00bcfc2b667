/- AdjudicateGaps: agreement is symmetric and reflexive, and a larger gap never ends an agreement, for every input. No conditions. -/
import Derived.Test.YthjledbomonfpaaAdjI
import Derived.Test.YthjledbomonfpaaAdjO
namespace Go.Proofs.Ythjledbomonfpaa
open Go.ChangeShapes Go.WideShapes Go.ChangeAt Go.RowKit

namespace Adj
theorem agree_zero {gap rule id : Int} {ts : List Rub.Trait} {x y : List Int} (h : agreeE gap rule id ts x y = 0) : adjE gap rule = 0 ∧ Rub.checkE id ts x = 0 ∧ Rub.checkE id ts y = 0 := by
  unfold agreeE at h
  by_cases h1 : adjE gap rule = 0
  · rw [if_pos h1] at h
    exact ⟨h1, Rub.all_zero h x (by simp), Rub.all_zero h y (by simp)⟩
  · rw [if_neg h1] at h; exact absurd h h1
theorem agree_ok {gap rule id : Int} {ts : List Rub.Trait} {x y : List Int} (h1 : adjE gap rule = 0) (h2 : Rub.checkE id ts x = 0) (h3 : Rub.checkE id ts y = 0) : agreeE gap rule id ts x y = 0 ∧ agreeB gap rule id ts x y = decide (Rub.dist (x.zip y) 0 ≤ gap) := by
  have e : agreeE gap rule id ts x y = 0 := by unfold agreeE; rw [if_pos h1]; simp [Rub.checkAllE, h2, h3]
  exact ⟨e, by unfold agreeB; rw [if_pos e]⟩
theorem agree_not {gap rule id : Int} {ts : List Rub.Trait} {x y : List Int} (h : agreeE gap rule id ts x y ≠ 0) : agreeB gap rule id ts x y = false := by unfold agreeB; rw [if_neg h]
theorem agree_swap {gap rule id : Int} {ts : List Rub.Trait} {x y : List Int} (h : agreeE gap rule id ts x y ≠ 0) : agreeE gap rule id ts y x ≠ 0 := fun e => by
  obtain ⟨h1, h2, h3⟩ := agree_zero e
  exact h (agree_ok h1 h3 h2).1
theorem adj_out {gap rule : Int} (h : gap < 0 ∨ 10 < gap) : adjE gap rule = 3 := by unfold adjE; rw [if_pos h]
theorem adj_in {gap rule : Int} (h : 0 ≤ gap) (h2 : gap ≤ 10) (h3 : rule = 1 ∨ rule = 2 ∨ rule = 3) : adjE gap rule = 0 := by unfold adjE; rw [if_neg (by omega), if_pos h3]
theorem agree_adj {gap rule id : Int} {ts : List Rub.Trait} {x y : List Int} (h : adjE gap rule ≠ 0) : agreeE gap rule id ts x y = adjE gap rule ∧ agreeB gap rule id ts x y = false := by
  have e : agreeE gap rule id ts x y = adjE gap rule := by unfold agreeE; rw [if_neg h]
  exact ⟨e, agree_not (by rw [e]; exact h)⟩
end Adj

set_option maxRecDepth 100000 in
set_option maxHeartbeats 3200000 in
theorem adjudicateGaps_walk (gap rule : Int) (id : Int) (A : Option Addr) (c : Nat) (ts : List Rub.Trait) (X : Option Addr) (xc : Nat) (a : List Int) (Y : Option Addr) (yc : Nat) (b : List Int) (gap2 : Int) (w : World) (h : RubIn w id A c ts) (ha : (⟨X, xc, a⟩ : IL).In w) (hb : (⟨Y, yc, b⟩ : IL).In w) :
    Calls Try.prog 7 #[.agg #[.int .i64 gap, .int .i64 rule], .agg #[.int .i64 id, .slice A ts.length c], .slice X a.length xc, .slice Y b.length yc, .int .i64 gap2] w fun e w' => e = .returned (.bool true) ∧ Ext w w' := by
  have H := Lib.hid h
  have HA := Lib.hid ha
  have HB := Lib.hid hb
  clear h ha hb
  have hx0 : Ext w ((w.alloc (.cells #[.int .i64 gap, .int .i64 rule] 38)).alloc (.cells #[.int .i64 id, .slice A ts.length c] 24)) := ((Ext.refl _).alloc _).alloc _
  by_cases z : Adj.agreeE gap rule id ts a b = 0
  · obtain ⟨z1, z2, z3⟩ := Adj.agree_zero z
    have E1 := Lib.hid (Adj.agree_ok (id := id) z1 z2 z3).1
    have E2 := Lib.hid (Adj.agree_ok (id := id) z1 z3 z2).1
    have E3 := Lib.hid (Adj.agree_ok (id := id) z1 z2 z2).1
    have B3 : Hid (Adj.agreeB gap rule id ts a a = true) := by
      show _ = _
      rw [(Adj.agree_ok (id := id) z1 z2 z2).2, decide_eq_true_iff, (Rub.dist_zero_iff a a rfl).2 rfl]
      exact (Adj.adj_zero z1).1
    obtain ⟨g0, g10, hr⟩ := Adj.adj_zero z1
    by_cases hin : 0 ≤ gap2 ∧ gap2 ≤ 10
    · obtain ⟨i0, i1⟩ := hin
      have zz := Adj.adj_in (rule := rule) i0 i1 hr
      have E4 := Lib.hid (Adj.agree_ok (id := id) zz z2 z3).1
      have b4 := (Adj.agree_ok (id := id) zz z2 z3).2
      by_cases hd : Rub.dist (a.zip b) 0 ≤ gap
      · have B1 : Hid (Adj.agreeB gap rule id ts a b = true) := by show _ = _; rw [(Adj.agree_ok (id := id) z1 z2 z3).2]; simpa using hd
        have B2 : Hid (Adj.agreeB gap rule id ts b a = true) := by show _ = _; rw [(Adj.agree_ok (id := id) z1 z3 z2).2, Rub.dist_comm]; simpa using hd
        by_cases hg : gap2 < gap
        · have b0 : Adj.agreeB gap2 rule id ts a b = true ∨ Adj.agreeB gap2 rule id ts a b = false := by cases Adj.agreeB gap2 rule id ts a b <;> simp
          clear z z1 z2 z3 zz b4 hd hr
          rcases b0 with b0 | b0
          all_goals
            have B4 := Lib.hid b0
            clear b0
            go_enter Try.func7, Try.ntmps7
            go_wp2_with fail
            refine (agree_any gap rule id A c ts X xc a Y yc b _ (H.out.ext hx0) (HA.out.ext hx0) (HB.out.ext hx0)).mono ?_
            rintro e w1 ⟨rfl, hb1⟩
            have ax1 : w1.cell? ⟨w.heap.size, 0, none⟩ = some (.int .i64 gap) := hb1.keep (by simp [go_sem])
            have ay1 : w1.cell? ⟨w.heap.size, 1, none⟩ = some (.int .i64 rule) := hb1.keep (by simp [go_sem])
            have bx1 : w1.cell? ⟨w.heap.size + 1, 0, none⟩ = some (.int .i64 id) := hb1.keep (by simp [go_sem])
            have by1 : w1.cell? ⟨w.heap.size + 1, 1, none⟩ = some (.slice A ts.length c) := hb1.keep (by simp [go_sem])
            have hx1 := hx0.trans hb1
            rw [E1.out, B1.out]
            go_wp2_with fail
            refine (agree_any gap rule id A c ts Y yc b X xc a _ (H.out.ext hx1) (HB.out.ext hx1) (HA.out.ext hx1)).mono ?_
            rintro e w2 ⟨rfl, hb2⟩
            have ax2 : w2.cell? ⟨w.heap.size, 0, none⟩ = some (.int .i64 gap) := hb2.keep ax1
            have ay2 : w2.cell? ⟨w.heap.size, 1, none⟩ = some (.int .i64 rule) := hb2.keep ay1
            have bx2 : w2.cell? ⟨w.heap.size + 1, 0, none⟩ = some (.int .i64 id) := hb2.keep bx1
            have by2 : w2.cell? ⟨w.heap.size + 1, 1, none⟩ = some (.slice A ts.length c) := hb2.keep by1
            have hx2 := hx1.trans hb2
            clear ax1 ay1 bx1 by1
            rw [E2.out, B2.out]
            go_wp2_with fail
            refine (agree_any gap rule id A c ts X xc a X xc a _ (H.out.ext hx2) (HA.out.ext hx2) (HA.out.ext hx2)).mono ?_
            rintro e w3 ⟨rfl, hb3⟩
            have ax3 : w3.cell? ⟨w.heap.size, 0, none⟩ = some (.int .i64 gap) := hb3.keep ax2
            have ay3 : w3.cell? ⟨w.heap.size, 1, none⟩ = some (.int .i64 rule) := hb3.keep ay2
            have bx3 : w3.cell? ⟨w.heap.size + 1, 0, none⟩ = some (.int .i64 id) := hb3.keep bx2
            have by3 : w3.cell? ⟨w.heap.size + 1, 1, none⟩ = some (.slice A ts.length c) := hb3.keep by2
            have hx3 := hx2.trans hb3
            clear ax2 ay2 bx2 by2
            rw [E3.out, B3.out]
            have zq : w.heap.size + 1 < w3.heap.size := World.block_lt_of_cell? w3 _ bx3
            have zp : w.heap.size < w3.heap.size := World.block_lt_of_cell? w3 _ ax3
            go_wp2_with fail
            refine (agree_any gap2 rule id A c ts X xc a Y yc b _ (H.out.ext (hx3.alloc _)) (HA.out.ext (hx3.alloc _)) (HB.out.ext (hx3.alloc _))).mono ?_
            rintro e w4 ⟨rfl, hb4⟩
            rw [E4.out, B4.out]
            have ax4 := hb4.keep (((Ext.refl _).alloc _).keep ax3)
            have hx4 := (hx3.alloc _).trans hb4
            clear ax3 ay3 bx3 by3
            go_wp2_with fail
            refine (awake_any _).mono ?_
            rintro e w5 ⟨rfl, hb5⟩
            go_wp2_with fail
            go_ret
            first
            | exact ⟨rfl, hx4.trans hb5⟩
            | exact ⟨ret_bool (by simp; omega), hx4.trans hb5⟩
        · have hg' : gap ≤ gap2 := by omega
          have B4 : Hid (Adj.agreeB gap2 rule id ts a b = true) := by show _ = _; rw [b4, decide_eq_true_iff]; omega
          clear z z1 z2 z3 zz b4 hd hr hg
          go_enter Try.func7, Try.ntmps7
          go_wp2_with fail
          refine (agree_any gap rule id A c ts X xc a Y yc b _ (H.out.ext hx0) (HA.out.ext hx0) (HB.out.ext hx0)).mono ?_
          rintro e w1 ⟨rfl, hb1⟩
          have ax1 : w1.cell? ⟨w.heap.size, 0, none⟩ = some (.int .i64 gap) := hb1.keep (by simp [go_sem])
          have ay1 : w1.cell? ⟨w.heap.size, 1, none⟩ = some (.int .i64 rule) := hb1.keep (by simp [go_sem])
          have bx1 : w1.cell? ⟨w.heap.size + 1, 0, none⟩ = some (.int .i64 id) := hb1.keep (by simp [go_sem])
          have by1 : w1.cell? ⟨w.heap.size + 1, 1, none⟩ = some (.slice A ts.length c) := hb1.keep (by simp [go_sem])
          have hx1 := hx0.trans hb1
          rw [E1.out, B1.out]
          go_wp2_with fail
          refine (agree_any gap rule id A c ts Y yc b X xc a _ (H.out.ext hx1) (HB.out.ext hx1) (HA.out.ext hx1)).mono ?_
          rintro e w2 ⟨rfl, hb2⟩
          have ax2 : w2.cell? ⟨w.heap.size, 0, none⟩ = some (.int .i64 gap) := hb2.keep ax1
          have ay2 : w2.cell? ⟨w.heap.size, 1, none⟩ = some (.int .i64 rule) := hb2.keep ay1
          have bx2 : w2.cell? ⟨w.heap.size + 1, 0, none⟩ = some (.int .i64 id) := hb2.keep bx1
          have by2 : w2.cell? ⟨w.heap.size + 1, 1, none⟩ = some (.slice A ts.length c) := hb2.keep by1
          have hx2 := hx1.trans hb2
          clear ax1 ay1 bx1 by1
          rw [E2.out, B2.out]
          go_wp2_with fail
          refine (agree_any gap rule id A c ts X xc a X xc a _ (H.out.ext hx2) (HA.out.ext hx2) (HA.out.ext hx2)).mono ?_
          rintro e w3 ⟨rfl, hb3⟩
          have ax3 : w3.cell? ⟨w.heap.size, 0, none⟩ = some (.int .i64 gap) := hb3.keep ax2
          have ay3 : w3.cell? ⟨w.heap.size, 1, none⟩ = some (.int .i64 rule) := hb3.keep ay2
          have bx3 : w3.cell? ⟨w.heap.size + 1, 0, none⟩ = some (.int .i64 id) := hb3.keep bx2
          have by3 : w3.cell? ⟨w.heap.size + 1, 1, none⟩ = some (.slice A ts.length c) := hb3.keep by2
          have hx3 := hx2.trans hb3
          clear ax2 ay2 bx2 by2
          rw [E3.out, B3.out]
          have zq : w.heap.size + 1 < w3.heap.size := World.block_lt_of_cell? w3 _ bx3
          have zp : w.heap.size < w3.heap.size := World.block_lt_of_cell? w3 _ ax3
          go_wp2_with fail
          refine (agree_any gap2 rule id A c ts X xc a Y yc b _ (H.out.ext (hx3.alloc _)) (HA.out.ext (hx3.alloc _)) (HB.out.ext (hx3.alloc _))).mono ?_
          rintro e w4 ⟨rfl, hb4⟩
          rw [E4.out, B4.out]
          have ax4 := hb4.keep (((Ext.refl _).alloc _).keep ax3)
          have hx4 := (hx3.alloc _).trans hb4
          clear ax3 ay3 bx3 by3
          go_wp2_with fail
          refine (awake_any _).mono ?_
          rintro e w5 ⟨rfl, hb5⟩
          go_wp2_with fail
          go_ret
          first
          | exact ⟨rfl, hx4.trans hb5⟩
          | exact ⟨ret_bool (by simp; omega), hx4.trans hb5⟩
      · have B1 : Hid (Adj.agreeB gap rule id ts a b = false) := by show _ = _; rw [(Adj.agree_ok (id := id) z1 z2 z3).2]; simpa using hd
        have B2 : Hid (Adj.agreeB gap rule id ts b a = false) := by show _ = _; rw [(Adj.agree_ok (id := id) z1 z3 z2).2, Rub.dist_comm]; simpa using hd
        have b0 : Adj.agreeB gap2 rule id ts a b = true ∨ Adj.agreeB gap2 rule id ts a b = false := by cases Adj.agreeB gap2 rule id ts a b <;> simp
        have hg : gap2 < gap ∨ gap ≤ gap2 := by omega
        clear z z1 z2 z3 zz b4 hd hr
        rcases hg with hg | hg
        all_goals
          rcases b0 with b0 | b0
          all_goals
            have B4 := Lib.hid b0
            clear b0
            go_enter Try.func7, Try.ntmps7
            go_wp2_with fail
            refine (agree_any gap rule id A c ts X xc a Y yc b _ (H.out.ext hx0) (HA.out.ext hx0) (HB.out.ext hx0)).mono ?_
            rintro e w1 ⟨rfl, hb1⟩
            have ax1 : w1.cell? ⟨w.heap.size, 0, none⟩ = some (.int .i64 gap) := hb1.keep (by simp [go_sem])
            have ay1 : w1.cell? ⟨w.heap.size, 1, none⟩ = some (.int .i64 rule) := hb1.keep (by simp [go_sem])
            have bx1 : w1.cell? ⟨w.heap.size + 1, 0, none⟩ = some (.int .i64 id) := hb1.keep (by simp [go_sem])
            have by1 : w1.cell? ⟨w.heap.size + 1, 1, none⟩ = some (.slice A ts.length c) := hb1.keep (by simp [go_sem])
            have hx1 := hx0.trans hb1
            rw [E1.out, B1.out]
            go_wp2_with fail
            refine (agree_any gap rule id A c ts Y yc b X xc a _ (H.out.ext hx1) (HB.out.ext hx1) (HA.out.ext hx1)).mono ?_
            rintro e w2 ⟨rfl, hb2⟩
            have ax2 : w2.cell? ⟨w.heap.size, 0, none⟩ = some (.int .i64 gap) := hb2.keep ax1
            have ay2 : w2.cell? ⟨w.heap.size, 1, none⟩ = some (.int .i64 rule) := hb2.keep ay1
            have bx2 : w2.cell? ⟨w.heap.size + 1, 0, none⟩ = some (.int .i64 id) := hb2.keep bx1
            have by2 : w2.cell? ⟨w.heap.size + 1, 1, none⟩ = some (.slice A ts.length c) := hb2.keep by1
            have hx2 := hx1.trans hb2
            clear ax1 ay1 bx1 by1
            rw [E2.out, B2.out]
            go_wp2_with fail
            refine (agree_any gap rule id A c ts X xc a X xc a _ (H.out.ext hx2) (HA.out.ext hx2) (HA.out.ext hx2)).mono ?_
            rintro e w3 ⟨rfl, hb3⟩
            have ax3 : w3.cell? ⟨w.heap.size, 0, none⟩ = some (.int .i64 gap) := hb3.keep ax2
            have ay3 : w3.cell? ⟨w.heap.size, 1, none⟩ = some (.int .i64 rule) := hb3.keep ay2
            have bx3 : w3.cell? ⟨w.heap.size + 1, 0, none⟩ = some (.int .i64 id) := hb3.keep bx2
            have by3 : w3.cell? ⟨w.heap.size + 1, 1, none⟩ = some (.slice A ts.length c) := hb3.keep by2
            have hx3 := hx2.trans hb3
            clear ax2 ay2 bx2 by2
            rw [E3.out, B3.out]
            have zq : w.heap.size + 1 < w3.heap.size := World.block_lt_of_cell? w3 _ bx3
            have zp : w.heap.size < w3.heap.size := World.block_lt_of_cell? w3 _ ax3
            go_wp2_with fail
            refine (agree_any gap2 rule id A c ts X xc a Y yc b _ (H.out.ext (hx3.alloc _)) (HA.out.ext (hx3.alloc _)) (HB.out.ext (hx3.alloc _))).mono ?_
            rintro e w4 ⟨rfl, hb4⟩
            rw [E4.out, B4.out]
            have ax4 := hb4.keep (((Ext.refl _).alloc _).keep ax3)
            have hx4 := (hx3.alloc _).trans hb4
            clear ax3 ay3 bx3 by3
            go_wp2_with fail
            refine (awake_any _).mono ?_
            rintro e w5 ⟨rfl, hb5⟩
            go_wp2_with fail
            go_ret
            first
            | exact ⟨rfl, hx4.trans hb5⟩
            | exact ⟨ret_bool (by simp; omega), hx4.trans hb5⟩
    · have hin' : gap2 < 0 ∨ (0 ≤ gap2 ∧ 10 < gap2) := by omega
      have zz := Adj.adj_out (gap := gap2) (rule := rule) (by omega)
      have E4 : Hid (Adj.agreeE gap2 rule id ts a b = 3) := by show _ = _; rw [(Adj.agree_adj (by rw [zz]; decide)).1, zz]
      have B4 := Lib.hid (Adj.agree_adj (gap := gap2) (rule := rule) (id := id) (ts := ts) (x := a) (y := b) (by rw [zz]; decide)).2
      have b0 : Adj.agreeB gap rule id ts a b = true ∨ Adj.agreeB gap rule id ts a b = false := by cases Adj.agreeB gap rule id ts a b <;> simp
      have b1 : Adj.agreeB gap rule id ts b a = Adj.agreeB gap rule id ts a b := by rw [(Adj.agree_ok (id := id) z1 z3 z2).2, (Adj.agree_ok (id := id) z1 z2 z3).2, Rub.dist_comm]
      clear z z1 z2 z3 zz hr hin
      rcases hin' with hin | ⟨hin, hin2⟩
      all_goals
        rcases b0 with b0 | b0
        all_goals
          have B1 := Lib.hid b0
          have B2 := Lib.hid (b1.trans b0)
          clear b0 b1
          go_enter Try.func7, Try.ntmps7
          go_wp2_with fail
          refine (agree_any gap rule id A c ts X xc a Y yc b _ (H.out.ext hx0) (HA.out.ext hx0) (HB.out.ext hx0)).mono ?_
          rintro e w1 ⟨rfl, hb1⟩
          have ax1 : w1.cell? ⟨w.heap.size, 0, none⟩ = some (.int .i64 gap) := hb1.keep (by simp [go_sem])
          have ay1 : w1.cell? ⟨w.heap.size, 1, none⟩ = some (.int .i64 rule) := hb1.keep (by simp [go_sem])
          have bx1 : w1.cell? ⟨w.heap.size + 1, 0, none⟩ = some (.int .i64 id) := hb1.keep (by simp [go_sem])
          have by1 : w1.cell? ⟨w.heap.size + 1, 1, none⟩ = some (.slice A ts.length c) := hb1.keep (by simp [go_sem])
          have hx1 := hx0.trans hb1
          rw [E1.out, B1.out]
          go_wp2_with fail
          refine (agree_any gap rule id A c ts Y yc b X xc a _ (H.out.ext hx1) (HB.out.ext hx1) (HA.out.ext hx1)).mono ?_
          rintro e w2 ⟨rfl, hb2⟩
          have ax2 : w2.cell? ⟨w.heap.size, 0, none⟩ = some (.int .i64 gap) := hb2.keep ax1
          have ay2 : w2.cell? ⟨w.heap.size, 1, none⟩ = some (.int .i64 rule) := hb2.keep ay1
          have bx2 : w2.cell? ⟨w.heap.size + 1, 0, none⟩ = some (.int .i64 id) := hb2.keep bx1
          have by2 : w2.cell? ⟨w.heap.size + 1, 1, none⟩ = some (.slice A ts.length c) := hb2.keep by1
          have hx2 := hx1.trans hb2
          clear ax1 ay1 bx1 by1
          rw [E2.out, B2.out]
          go_wp2_with fail
          refine (agree_any gap rule id A c ts X xc a X xc a _ (H.out.ext hx2) (HA.out.ext hx2) (HA.out.ext hx2)).mono ?_
          rintro e w3 ⟨rfl, hb3⟩
          have ax3 : w3.cell? ⟨w.heap.size, 0, none⟩ = some (.int .i64 gap) := hb3.keep ax2
          have ay3 : w3.cell? ⟨w.heap.size, 1, none⟩ = some (.int .i64 rule) := hb3.keep ay2
          have bx3 : w3.cell? ⟨w.heap.size + 1, 0, none⟩ = some (.int .i64 id) := hb3.keep bx2
          have by3 : w3.cell? ⟨w.heap.size + 1, 1, none⟩ = some (.slice A ts.length c) := hb3.keep by2
          have hx3 := hx2.trans hb3
          clear ax2 ay2 bx2 by2
          rw [E3.out, B3.out]
          have zq : w.heap.size + 1 < w3.heap.size := World.block_lt_of_cell? w3 _ bx3
          have zp : w.heap.size < w3.heap.size := World.block_lt_of_cell? w3 _ ax3
          go_wp2_with fail
          refine (agree_any gap2 rule id A c ts X xc a Y yc b _ (H.out.ext (hx3.alloc _)) (HA.out.ext (hx3.alloc _)) (HB.out.ext (hx3.alloc _))).mono ?_
          rintro e w4 ⟨rfl, hb4⟩
          rw [E4.out, B4.out]
          have ax4 := hb4.keep (((Ext.refl _).alloc _).keep ax3)
          have hx4 := (hx3.alloc _).trans hb4
          clear ax3 ay3 bx3 by3
          go_wp2_with fail
          refine (awake_any _).mono ?_
          rintro e w5 ⟨rfl, hb5⟩
          go_wp2_with fail
          go_ret
          first
          | exact ⟨rfl, hx4.trans hb5⟩
          | exact ⟨ret_bool (by simp; omega), hx4.trans hb5⟩
  · have n1 : (Adj.agreeE gap rule id ts a b == 0) = false := by rw [beq_eq_false_iff_ne]; exact z
    have n2 : (Adj.agreeE gap rule id ts b a == 0) = false := by rw [beq_eq_false_iff_ne]; exact Adj.agree_swap z
    have n3 : (Adj.agreeE gap rule id ts a b != 0) = true := by rw [bne_iff_ne]; exact z
    have B1 := Lib.hid (Adj.agree_not z)
    have B2 := Lib.hid (Adj.agree_not (Adj.agree_swap z))
    clear z
    go_enter Try.func7, Try.ntmps7
    go_wp2_with fail
    refine (agree_any gap rule id A c ts X xc a Y yc b _ (H.out.ext hx0) (HA.out.ext hx0) (HB.out.ext hx0)).mono ?_
    rintro e w1 ⟨rfl, hb1⟩
    have ax1 : w1.cell? ⟨w.heap.size, 0, none⟩ = some (.int .i64 gap) := hb1.keep (by simp [go_sem])
    have ay1 : w1.cell? ⟨w.heap.size, 1, none⟩ = some (.int .i64 rule) := hb1.keep (by simp [go_sem])
    have bx1 : w1.cell? ⟨w.heap.size + 1, 0, none⟩ = some (.int .i64 id) := hb1.keep (by simp [go_sem])
    have by1 : w1.cell? ⟨w.heap.size + 1, 1, none⟩ = some (.slice A ts.length c) := hb1.keep (by simp [go_sem])
    have hx1 := hx0.trans hb1
    rw [B1.out]
    go_wp2_with fail
    refine (agree_any gap rule id A c ts Y yc b X xc a _ (H.out.ext hx1) (HB.out.ext hx1) (HA.out.ext hx1)).mono ?_
    rintro e w2 ⟨rfl, hb2⟩
    have ax2 : w2.cell? ⟨w.heap.size, 0, none⟩ = some (.int .i64 gap) := hb2.keep ax1
    have ay2 : w2.cell? ⟨w.heap.size, 1, none⟩ = some (.int .i64 rule) := hb2.keep ay1
    have bx2 : w2.cell? ⟨w.heap.size + 1, 0, none⟩ = some (.int .i64 id) := hb2.keep bx1
    have by2 : w2.cell? ⟨w.heap.size + 1, 1, none⟩ = some (.slice A ts.length c) := hb2.keep by1
    have hx2 := hx1.trans hb2
    clear ax1 ay1 bx1 by1
    rw [B2.out]
    go_wp2_with fail
    refine (awake_any _).mono ?_
    rintro e w5 ⟨rfl, hb5⟩
    go_wp2_with fail
    go_ret
    exact ⟨rfl, hx2.trans hb5⟩

theorem adjudicateGaps_lifted (os : Os) (started : os.Started) (H : Type) (enc : TypeId × Value → H) :
    ReturnsInHanded {} Try.checked os 7 .any (Rows.adjudicateGapsSpec.pre6 enc Try.prog Try.f7 Rows.adjudicateGapsRow.domain false) (Rows.adjudicateGapsSpec.post enc Try.prog Try.f7 false true false false) := by
  refine returnsInHanded_of_change (C := Try.checked) Try.own started (by kernel_rfl) Try.func7
    (ChangeSpec.witness6 (enc := enc) (C := Try.checked) false ⟨#[], #[.agg #[.int .i64 0, .int .i64 0], .agg #[.int .i64 0, .slice none 0 0], .slice none 0 0, .slice none 0 0, .int .i64 0], []⟩ 8 (by kernel_rfl) (by kernel_rfl) (by kernel_rfl) (by kernel_rfl)) ?_
  intro W base args ds gs before hval0 hW _ _
  have hval : ∀ (j : Nat) t v, Try.f7.params[j]? = some t → args[j]? = some v → Value.okWide Try.prog W .any base t v := hval0
  have hW' := hW
  obtain ⟨p, q, hA0, hV, rfl, hfz, hnd⟩ := hW
  have hA : DataW.TrodAll enc Try.prog W 0 (fun _ => true) true Try.f7.params.toList args.toList ds p := hA0
  rw [Try.params7] at hA hval
  obtain ⟨v0, vs0, d0, ds0, p0, q0, hargs, rfl, rfl, h0, r0⟩ := trodAll_cons hA
  obtain ⟨v1, vs1, d1, ds1, p1, q1, rfl, rfl, rfl, h1, r1⟩ := trodAll_cons r0
  obtain ⟨v2, vs2, d2, ds2, p2, q2, rfl, rfl, rfl, h2, r2⟩ := trodAll_cons r1
  obtain ⟨v3, vs3, d3, ds3, p3, q3, rfl, rfl, rfl, h3, r3⟩ := trodAll_cons r2
  obtain ⟨v4, vs4, d4, ds4, p4, q4, rfl, rfl, rfl, h4, r4⟩ := trodAll_cons r3
  obtain ⟨rfl, rfl, rfl⟩ := trodAll_nil r4
  obtain rfl : args = #[v0, v1, v2, v3, v4] := by cases args; simp_all
  obtain ⟨rfl, rfl⟩ := trodVars_none hV
  obtain ⟨gap, rule, rfl, ga1, ga2⟩ := adj_open (hval 0 38 v0 rfl rfl) h0
  obtain ⟨id, A, c, ts, rfl, g1⟩ := rub_open (hval 1 24 v1 rfl rfl) h1
  obtain ⟨X, xc, a, rfl, g2⟩ := ints_open (hval 2 25 v2 rfl rfl) h2
  obtain ⟨Y, yc, b, rfl, g3⟩ := ints_open (hval 3 25 v3 rfl rfl) h3
  obtain ⟨g, rfl, hd4, rfl, _⟩ := open_int Try.underlying3 (hval 4 3 v4 rfl rfl) h4
  refine (adjudicateGaps_walk gap rule id A c ts X xc a Y yc b g W g1 g2 g3).mono fun e W' ⟨he, hw⟩ => ?_
  subst he
  exact ⟨_, rfl, law_post hW' Try.laidOut (by kernel_rfl) rfl (by rfl) rfl Try.underlying4 hw⟩

theorem adjudicateGaps_holds : Rows.AdjudicateGapsSaid :=
  OpenClaim.holds_of_wide 7 Try.f7 rfl rfl rfl rfl rfl rfl rfl ⟨rfl, rfl, rfl, rfl, rfl⟩ rfl rfl rfl rfl rfl (by kernel_rfl) Try.func7 (by kernel_rfl)
    (of_decide_eq_true (by kernel_rfl)) (by unfold Func.isWrapper; first | (rw [if_pos (by decide +kernel)]; kernel_rfl) | (rw [if_neg (by decide +kernel)]; exact ⟨rfl, rfl⟩))
    (fun os started H enc _ => adjudicateGaps_lifted os started H enc)
#print axioms adjudicateGaps_holds
end Go.Proofs.Ythjledbomonfpaa
