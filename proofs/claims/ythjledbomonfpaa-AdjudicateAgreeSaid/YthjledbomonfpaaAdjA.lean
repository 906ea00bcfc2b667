/- adjudicate.Valid, Agree, nearer and their counterparts in the reference: contracts for the walk. Conditions: those of each theorem. -/
import Derived.Test.YthjledbomonfpaaRubO
import Derived.Test.YthjledbomonfpaaAdjP
namespace Go.Proofs.Ythjledbomonfpaa
open Go.RowKit

set_option maxHeartbeats 800000 in
theorem adjValid_any (gap rule : Int) (w : World) :
    Calls Try.prog 24 #[.agg #[.int .i64 gap, .int .i64 rule]] w fun e w' => e = .returned (.int .i64 (Adj.adjE gap rule)) ∧ Ext w w' := by
  unfold Adj.adjE
  by_cases h1 : gap < 0 ∨ 10 < gap
  · rw [if_pos h1]
    have h1' : gap < 0 ∨ (0 ≤ gap ∧ 10 < gap) := by omega
    clear h1
    rcases h1' with g | ⟨g1, g2⟩
    all_goals
      go_enter Try.func24, Try.ntmps24
      go_wp2
      go_ret
      exact ⟨rfl, (Ext.refl _).alloc _⟩
  · rw [if_neg h1]
    have g1 : 0 ≤ gap := by omega
    have g2 : gap ≤ 10 := by omega
    clear h1
    by_cases h2 : rule = 1 ∨ rule = 2 ∨ rule = 3
    · rw [if_pos h2]
      rcases h2 with rfl | rfl | rfl
      all_goals
        go_enter Try.func24, Try.ntmps24
        go_wp2
        go_ret
        exact ⟨rfl, (Ext.refl _).alloc _⟩
    · rw [if_neg h2]
      have r1 : (rule == 1) = false := by rw [beq_eq_false_iff_ne]; omega
      have r2 : (rule == 2) = false := by rw [beq_eq_false_iff_ne]; omega
      have r3 : (rule == 3) = false := by rw [beq_eq_false_iff_ne]; omega
      have s1 : (rule != 1) = true := by rw [bne_iff_ne]; omega
      have s2 : (rule != 2) = true := by rw [bne_iff_ne]; omega
      have s3 : (rule != 3) = true := by rw [bne_iff_ne]; omega
      clear h2
      go_enter Try.func24, Try.ntmps24
      go_wp2
      go_ret
      exact ⟨rfl, (Ext.refl _).alloc _⟩

set_option maxHeartbeats 800000 in
theorem refAdjValid_any (gap rule : Int) (w : World) :
    Calls Try.prog 25 #[.agg #[.int .i64 gap, .int .i64 rule]] w fun e w' => e = .returned (.int .i64 (Adj.adjE gap rule)) ∧ Ext w w' := by
  unfold Adj.adjE
  by_cases h1 : gap < 0 ∨ 10 < gap
  · rw [if_pos h1]
    have h1' : gap < 0 ∨ (0 ≤ gap ∧ 10 < gap) := by omega
    clear h1
    rcases h1' with g | ⟨g1, g2⟩
    all_goals
      go_enter Try.func25, Try.ntmps25
      go_wp2
      go_ret
      exact ⟨rfl, (Ext.refl _).alloc _⟩
  · rw [if_neg h1]
    have g1 : 0 ≤ gap := by omega
    have g2 : gap ≤ 10 := by omega
    clear h1
    by_cases h2 : rule = 1 ∨ rule = 2 ∨ rule = 3
    · rw [if_pos h2]
      rcases h2 with rfl | rfl | rfl
      all_goals
        go_enter Try.func25, Try.ntmps25
        go_wp2
        go_ret
        exact ⟨rfl, (Ext.refl _).alloc _⟩
    · rw [if_neg h2]
      have r1 : (rule == 1) = false := by rw [beq_eq_false_iff_ne]; omega
      have r2 : (rule == 2) = false := by rw [beq_eq_false_iff_ne]; omega
      have r3 : (rule == 3) = false := by rw [beq_eq_false_iff_ne]; omega
      have s1 : (rule != 1) = true := by rw [bne_iff_ne]; omega
      have s2 : (rule != 2) = true := by rw [bne_iff_ne]; omega
      have s3 : (rule != 3) = true := by rw [bne_iff_ne]; omega
      clear h2
      go_enter Try.func25, Try.ntmps25
      go_wp2
      go_ret
      exact ⟨rfl, (Ext.refl _).alloc _⟩

set_option maxHeartbeats 800000 in
theorem agree_any (gap rule : Int) (id : Int) (A : Option Addr) (c : Nat) (ts : List Rub.Trait) (X : Option Addr) (xc : Nat) (a : List Int) (Y : Option Addr) (yc : Nat) (b : List Int) (w : World) (h : RubIn w id A c ts) (ha : (⟨X, xc, a⟩ : IL).In w) (hb : (⟨Y, yc, b⟩ : IL).In w) :
    Calls Try.prog 27 #[.agg #[.int .i64 gap, .int .i64 rule], .agg #[.int .i64 id, .slice A ts.length c], .slice X a.length xc, .slice Y b.length yc] w fun e w' =>
      e = .returned (.tuple #[.bool (Adj.agreeB gap rule id ts a b), .int .i64 (Adj.agreeE gap rule id ts a b)]) ∧ Ext w w' := by
  have H := Lib.hid h
  have HA := Lib.hid ha
  have HB := Lib.hid hb
  clear h ha hb
  have hx0 : Ext w ((w.alloc (.cells #[.int .i64 gap, .int .i64 rule] 38)).alloc (.cells #[.int .i64 id, .slice A ts.length c] 24)) := ((Ext.refl _).alloc _).alloc _
  unfold Adj.agreeB Adj.agreeE
  by_cases z0 : Adj.adjE gap rule = 0
  · rw [if_pos z0]
    have Z0 := Lib.hid z0
    clear z0
    by_cases z1 : Rub.checkAllE id ts [a, b] = 0
    · rw [if_pos z1, z1]
      have Z1 := Lib.hid z1
      have AP : Hid (Rub.apartV id ts a b = Rub.dist (a.zip b) 0) := by show _ = _; unfold Rub.apartV; rw [if_pos z1]
      clear z1
      go_enter Try.func27, Try.ntmps27
      go_wp2_with fail
      refine (adjValid_any gap rule _).mono ?_
      rintro e w1 ⟨rfl, hb1⟩
      rw [Z0.out]
      have ax1 : w1.cell? ⟨w.heap.size, 0, none⟩ = some (.int .i64 gap) := hb1.keep (by simp [go_sem])
      have ay1 : w1.cell? ⟨w.heap.size, 1, none⟩ = some (.int .i64 rule) := hb1.keep (by simp [go_sem])
      have bx1 : w1.cell? ⟨w.heap.size + 1, 0, none⟩ = some (.int .i64 id) := hb1.keep (by simp [go_sem])
      have by1 : w1.cell? ⟨w.heap.size + 1, 1, none⟩ = some (.slice A ts.length c) := hb1.keep (by simp [go_sem])
      have hx1 := hx0.trans hb1
      go_wp2_with fail
      refine (apart_any id A c ts X xc a Y yc b _ (H.out.ext hx1) (HA.out.ext hx1) (HB.out.ext hx1)).mono ?_
      rintro e w2 ⟨rfl, hb2⟩
      rw [Z1.out, AP.out]
      have ax2 : w2.cell? ⟨w.heap.size, 0, none⟩ = some (.int .i64 gap) := hb2.keep ax1
      have ay2 : w2.cell? ⟨w.heap.size, 1, none⟩ = some (.int .i64 rule) := hb2.keep ay1
      have bx2 : w2.cell? ⟨w.heap.size + 1, 0, none⟩ = some (.int .i64 id) := hb2.keep bx1
      have by2 : w2.cell? ⟨w.heap.size + 1, 1, none⟩ = some (.slice A ts.length c) := hb2.keep by1
      have hx2 := hx1.trans hb2
      go_wp2
      go_ret2
      exact ⟨rfl, hx2⟩
    · rw [if_neg z1]
      have z1' : (Rub.checkAllE id ts [a, b] != 0) = true := by rw [bne_iff_ne]; exact z1
      clear z1
      go_enter Try.func27, Try.ntmps27
      go_wp2_with fail
      refine (adjValid_any gap rule _).mono ?_
      rintro e w1 ⟨rfl, hb1⟩
      rw [Z0.out]
      have ax1 : w1.cell? ⟨w.heap.size, 0, none⟩ = some (.int .i64 gap) := hb1.keep (by simp [go_sem])
      have ay1 : w1.cell? ⟨w.heap.size, 1, none⟩ = some (.int .i64 rule) := hb1.keep (by simp [go_sem])
      have bx1 : w1.cell? ⟨w.heap.size + 1, 0, none⟩ = some (.int .i64 id) := hb1.keep (by simp [go_sem])
      have by1 : w1.cell? ⟨w.heap.size + 1, 1, none⟩ = some (.slice A ts.length c) := hb1.keep (by simp [go_sem])
      have hx1 := hx0.trans hb1
      go_wp2_with fail
      refine (apart_any id A c ts X xc a Y yc b _ (H.out.ext hx1) (HA.out.ext hx1) (HB.out.ext hx1)).mono ?_
      rintro e w2 ⟨rfl, hb2⟩
      go_wp2
      go_ret2
      exact ⟨rfl, hx1.trans hb2⟩
  · rw [if_neg z0, if_neg z0]
    have z0' : (Adj.adjE gap rule != 0) = true := by rw [bne_iff_ne]; exact z0
    clear z0
    go_enter Try.func27, Try.ntmps27
    go_wp2_with fail
    refine (adjValid_any gap rule _).mono ?_
    rintro e w1 ⟨rfl, hb1⟩
    go_wp2
    go_ret2
    exact ⟨rfl, hx0.trans hb1⟩

set_option maxHeartbeats 1600000 in
theorem refAgree_any (gap rule : Int) (id : Int) (A : Option Addr) (c : Nat) (ts : List Rub.Trait) (X : Option Addr) (xc : Nat) (a : List Int) (Y : Option Addr) (yc : Nat) (b : List Int) (w : World) (h : RubIn w id A c ts) (ha : (⟨X, xc, a⟩ : IL).In w) (hb : (⟨Y, yc, b⟩ : IL).In w) :
    Calls Try.prog 28 #[.agg #[.int .i64 gap, .int .i64 rule], .agg #[.int .i64 id, .slice A ts.length c], .slice X a.length xc, .slice Y b.length yc] w fun e w' =>
      e = .returned (.tuple #[.bool (Adj.agreeB gap rule id ts a b), .int .i64 (Adj.agreeE gap rule id ts a b)]) ∧ Ext w w' := by
  have H := Lib.hid h
  have HA := Lib.hid ha
  have HB := Lib.hid hb
  clear h ha hb
  have hx0 : Ext w ((w.alloc (.cells #[.int .i64 gap, .int .i64 rule] 38)).alloc (.cells #[.int .i64 id, .slice A ts.length c] 24)) := ((Ext.refl _).alloc _).alloc _
  unfold Adj.agreeB Adj.agreeE
  by_cases z0 : Adj.adjE gap rule = 0
  · rw [if_pos z0]
    have Z0 := Lib.hid z0
    clear z0
    by_cases z1 : Rub.checkE id ts a = 0
    · by_cases z2 : Rub.checkE id ts b = 0
      · have zz : Rub.checkAllE id ts [a, b] = 0 := by simp [Rub.checkAllE, z1, z2]
        rw [if_pos zz, zz]
        have AP : Hid (Rub.apartV id ts a b = Rub.dist (a.zip b) 0) := by show _ = _; unfold Rub.apartV; rw [if_pos zz]
        have Z1 := Lib.hid z1
        have Z2 := Lib.hid z2
        have ZZ := Lib.hid zz
        clear z1 z2 zz
        go_enter Try.func28, Try.ntmps28
        go_wp2_with fail
        refine (refAdjValid_any gap rule _).mono ?_
        rintro e w1 ⟨rfl, hb1⟩
        rw [Z0.out]
        have ax1 : w1.cell? ⟨w.heap.size, 0, none⟩ = some (.int .i64 gap) := hb1.keep (by simp [go_sem])
        have ay1 : w1.cell? ⟨w.heap.size, 1, none⟩ = some (.int .i64 rule) := hb1.keep (by simp [go_sem])
        have bx1 : w1.cell? ⟨w.heap.size + 1, 0, none⟩ = some (.int .i64 id) := hb1.keep (by simp [go_sem])
        have by1 : w1.cell? ⟨w.heap.size + 1, 1, none⟩ = some (.slice A ts.length c) := hb1.keep (by simp [go_sem])
        have hx1 := hx0.trans hb1
        go_wp2_with fail
        refine (refCheck_any id A c ts X xc a _ (H.out.ext hx1) (HA.out.1.ext hx1) (Nat.le_trans HA.out.2.1 HA.out.2.2.1)).mono ?_
        rintro e w2 ⟨rfl, hb2⟩
        rw [Z1.out]
        have ax2 : w2.cell? ⟨w.heap.size, 0, none⟩ = some (.int .i64 gap) := hb2.keep ax1
        have ay2 : w2.cell? ⟨w.heap.size, 1, none⟩ = some (.int .i64 rule) := hb2.keep ay1
        have bx2 : w2.cell? ⟨w.heap.size + 1, 0, none⟩ = some (.int .i64 id) := hb2.keep bx1
        have by2 : w2.cell? ⟨w.heap.size + 1, 1, none⟩ = some (.slice A ts.length c) := hb2.keep by1
        have hx2 := hx1.trans hb2
        go_wp2_with fail
        refine (refCheck_any id A c ts Y yc b _ (H.out.ext hx2) (HB.out.1.ext hx2) (Nat.le_trans HB.out.2.1 HB.out.2.2.1)).mono ?_
        rintro e w3 ⟨rfl, hb3⟩
        rw [Z2.out]
        have ax3 : w3.cell? ⟨w.heap.size, 0, none⟩ = some (.int .i64 gap) := hb3.keep ax2
        have ay3 : w3.cell? ⟨w.heap.size, 1, none⟩ = some (.int .i64 rule) := hb3.keep ay2
        have bx3 : w3.cell? ⟨w.heap.size + 1, 0, none⟩ = some (.int .i64 id) := hb3.keep bx2
        have by3 : w3.cell? ⟨w.heap.size + 1, 1, none⟩ = some (.slice A ts.length c) := hb3.keep by2
        have hx3 := hx2.trans hb3
        go_wp2_with fail
        refine (refApart_any id A c ts X xc a Y yc b _ (H.out.ext hx3) (HA.out.ext hx3) (HB.out.ext hx3)).mono ?_
        rintro e w4 ⟨rfl, hb4⟩
        rw [AP.out]
        have ax4 : w4.cell? ⟨w.heap.size, 0, none⟩ = some (.int .i64 gap) := hb4.keep ax3
        have ay4 : w4.cell? ⟨w.heap.size, 1, none⟩ = some (.int .i64 rule) := hb4.keep ay3
        have bx4 : w4.cell? ⟨w.heap.size + 1, 0, none⟩ = some (.int .i64 id) := hb4.keep bx3
        have by4 : w4.cell? ⟨w.heap.size + 1, 1, none⟩ = some (.slice A ts.length c) := hb4.keep by3
        have hx4 := hx3.trans hb4
        go_wp2
        go_ret2
        exact ⟨rfl, hx4⟩
      · have zz : Rub.checkAllE id ts [a, b] = Rub.checkE id ts b := by simp [Rub.checkAllE, z1, z2]
        rw [zz, if_neg z2]
        have z2' : (Rub.checkE id ts b != 0) = true := by rw [bne_iff_ne]; exact z2
        have Z1 := Lib.hid z1
        clear z1 z2 zz
        go_enter Try.func28, Try.ntmps28
        go_wp2_with fail
        refine (refAdjValid_any gap rule _).mono ?_
        rintro e w1 ⟨rfl, hb1⟩
        rw [Z0.out]
        have ax1 : w1.cell? ⟨w.heap.size, 0, none⟩ = some (.int .i64 gap) := hb1.keep (by simp [go_sem])
        have ay1 : w1.cell? ⟨w.heap.size, 1, none⟩ = some (.int .i64 rule) := hb1.keep (by simp [go_sem])
        have bx1 : w1.cell? ⟨w.heap.size + 1, 0, none⟩ = some (.int .i64 id) := hb1.keep (by simp [go_sem])
        have by1 : w1.cell? ⟨w.heap.size + 1, 1, none⟩ = some (.slice A ts.length c) := hb1.keep (by simp [go_sem])
        have hx1 := hx0.trans hb1
        go_wp2_with fail
        refine (refCheck_any id A c ts X xc a _ (H.out.ext hx1) (HA.out.1.ext hx1) (Nat.le_trans HA.out.2.1 HA.out.2.2.1)).mono ?_
        rintro e w2 ⟨rfl, hb2⟩
        rw [Z1.out]
        have ax2 : w2.cell? ⟨w.heap.size, 0, none⟩ = some (.int .i64 gap) := hb2.keep ax1
        have ay2 : w2.cell? ⟨w.heap.size, 1, none⟩ = some (.int .i64 rule) := hb2.keep ay1
        have bx2 : w2.cell? ⟨w.heap.size + 1, 0, none⟩ = some (.int .i64 id) := hb2.keep bx1
        have by2 : w2.cell? ⟨w.heap.size + 1, 1, none⟩ = some (.slice A ts.length c) := hb2.keep by1
        have hx2 := hx1.trans hb2
        go_wp2_with fail
        refine (refCheck_any id A c ts Y yc b _ (H.out.ext hx2) (HB.out.1.ext hx2) (Nat.le_trans HB.out.2.1 HB.out.2.2.1)).mono ?_
        rintro e w3 ⟨rfl, hb3⟩
        have ax3 : w3.cell? ⟨w.heap.size, 0, none⟩ = some (.int .i64 gap) := hb3.keep ax2
        have ay3 : w3.cell? ⟨w.heap.size, 1, none⟩ = some (.int .i64 rule) := hb3.keep ay2
        have bx3 : w3.cell? ⟨w.heap.size + 1, 0, none⟩ = some (.int .i64 id) := hb3.keep bx2
        have by3 : w3.cell? ⟨w.heap.size + 1, 1, none⟩ = some (.slice A ts.length c) := hb3.keep by2
        have hx3 := hx2.trans hb3
        go_wp2
        go_ret2
        exact ⟨rfl, hx3⟩
    · have zz : Rub.checkAllE id ts [a, b] = Rub.checkE id ts a := by simp [Rub.checkAllE, z1]
      rw [zz, if_neg z1]
      have z1' : (Rub.checkE id ts a != 0) = true := by rw [bne_iff_ne]; exact z1
      clear z1 zz
      go_enter Try.func28, Try.ntmps28
      go_wp2_with fail
      refine (refAdjValid_any gap rule _).mono ?_
      rintro e w1 ⟨rfl, hb1⟩
      rw [Z0.out]
      have ax1 : w1.cell? ⟨w.heap.size, 0, none⟩ = some (.int .i64 gap) := hb1.keep (by simp [go_sem])
      have ay1 : w1.cell? ⟨w.heap.size, 1, none⟩ = some (.int .i64 rule) := hb1.keep (by simp [go_sem])
      have bx1 : w1.cell? ⟨w.heap.size + 1, 0, none⟩ = some (.int .i64 id) := hb1.keep (by simp [go_sem])
      have by1 : w1.cell? ⟨w.heap.size + 1, 1, none⟩ = some (.slice A ts.length c) := hb1.keep (by simp [go_sem])
      have hx1 := hx0.trans hb1
      go_wp2_with fail
      refine (refCheck_any id A c ts X xc a _ (H.out.ext hx1) (HA.out.1.ext hx1) (Nat.le_trans HA.out.2.1 HA.out.2.2.1)).mono ?_
      rintro e w2 ⟨rfl, hb2⟩
      have ax2 : w2.cell? ⟨w.heap.size, 0, none⟩ = some (.int .i64 gap) := hb2.keep ax1
      have ay2 : w2.cell? ⟨w.heap.size, 1, none⟩ = some (.int .i64 rule) := hb2.keep ay1
      have bx2 : w2.cell? ⟨w.heap.size + 1, 0, none⟩ = some (.int .i64 id) := hb2.keep bx1
      have by2 : w2.cell? ⟨w.heap.size + 1, 1, none⟩ = some (.slice A ts.length c) := hb2.keep by1
      have hx2 := hx1.trans hb2
      go_wp2
      go_ret2
      exact ⟨rfl, hx2⟩
  · rw [if_neg z0, if_neg z0]
    have z0' : (Adj.adjE gap rule != 0) = true := by rw [bne_iff_ne]; exact z0
    clear z0
    go_enter Try.func28, Try.ntmps28
    go_wp2_with fail
    refine (refAdjValid_any gap rule _).mono ?_
    rintro e w1 ⟨rfl, hb1⟩
    go_wp2
    go_ret2
    exact ⟨rfl, hx0.trans hb1⟩

set_option maxHeartbeats 400000 in
theorem nearer_any (t x y : Int) (w : World) (t0 : 0 ≤ t) (t1 : t ≤ 100000) (x0 : 0 ≤ x) (x1 : x ≤ 100000) (y0 : 0 ≤ y) (y1 : y ≤ 100000) :
    Calls Try.prog 39 #[.int .i64 t, .int .i64 x, .int .i64 y] w fun e w' => e = .returned (.int .i64 (Adj.nearer t x y)) ∧ w' = w := by
  go_enter Try.func39, Try.ntmps39
  go_wp2
  all_goals
    go_ret
    refine ⟨ret_int ?_, rfl⟩
    simp only [Rub.ite_max] at *
    unfold Adj.nearer
    first
    | rw [if_pos (by assumption)]
    | rw [if_neg (by omega)]

set_option maxHeartbeats 400000 in
theorem refApartI_any (x y : Int) (w : World) (x0 : 0 ≤ x) (x1 : x ≤ 100000) (y0 : 0 ≤ y) (y1 : y ≤ 100000) :
    Calls Try.prog 41 #[.int .i64 x, .int .i64 y] w fun e w' => e = .returned (.int .i64 (max (x - y) (y - x))) ∧ w = w' := by
  go_enter Try.func41, Try.ntmps41
  go_wp2
  all_goals
    go_ret
    refine ⟨ret_int ?_, rfl⟩
    omega

end Go.Proofs.Ythjledbomonfpaa
