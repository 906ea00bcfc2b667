/- RubricMedian: the median of three lists of marks does not depend on their order and lies between the least and the greatest mark, for every input. No conditions. -/
import Derived.Test.YthjledbomonfpaaRubO
import Derived.Test.YthjledbomonfpaaRubS
namespace Go.Proofs.Ythjledbomonfpaa
open Go.ChangeShapes Go.WideShapes Go.ChangeAt Go.RowKit

theorem med_of_not {id : Int} {ts : List Rub.Trait} {a b d : List Int} (h : Rub.checkAllE id ts [a, b, d] ≠ 0) : Rub.medV id ts a b d = [] := by unfold Rub.medV; rw [if_neg h]
theorem all3 {id : Int} {ts : List Rub.Trait} {a b d : List Int} (h1 : Rub.checkE id ts a = 0) (h2 : Rub.checkE id ts b = 0) (h3 : Rub.checkE id ts d = 0) : Rub.checkAllE id ts [a, b, d] = 0 := by simp [Rub.checkAllE, h1, h2, h3]
theorem med_of {id : Int} {ts : List Rub.Trait} {a b d : List Int} (h1 : Rub.checkE id ts a = 0) (h2 : Rub.checkE id ts b = 0) (h3 : Rub.checkE id ts d = 0) : Rub.medV id ts a b d = Rub.mids a b d := by unfold Rub.medV; rw [if_pos (all3 h1 h2 h3)]

set_option maxRecDepth 100000 in
set_option maxHeartbeats 800000 in
theorem med_bad1 (id : Int) (A : Option Addr) (c : Nat) (ts : List Rub.Trait) (X : Option Addr) (xc : Nat) (a : List Int) (Y : Option Addr) (yc : Nat) (b : List Int) (Z : Option Addr) (zc : Nat) (d : List Int) (w : World)
    (h : RubIn w id A c ts) (ha : (⟨X, xc, a⟩ : IL).In w) (hb : (⟨Y, yc, b⟩ : IL).In w) (hd : (⟨Z, zc, d⟩ : IL).In w) (z : Rub.checkE id ts a ≠ 0) :
    Calls Try.prog 3 #[.agg #[.int .i64 id, .slice A ts.length c], .slice X a.length xc, .slice Y b.length yc, .slice Z d.length zc] w fun e w' => e = .returned (.bool true) ∧ Ext w w' := by
  have H := Lib.hid h
  have HA := Lib.hid ha
  have HB := Lib.hid hb
  have HD := Lib.hid hd
  clear h ha hb hd
  have hx0 : Ext w (w.alloc (.cells #[.int .i64 id, .slice A ts.length c] 24)) := (Ext.refl _).alloc _
  have z1 : (Rub.checkE id ts a != 0) = true := by rw [bne_iff_ne]; exact z
  have hz : Rub.checkAllE id ts [a, b, d] ≠ 0 := by simp [Rub.checkAllE, z]
  have hz1 : (Rub.checkAllE id ts [a, b, d] != 0) = true := by rw [bne_iff_ne]; exact hz
  have HMV := Lib.hid (med_of_not hz)
  clear hz z
  go_enter Try.func3, Try.ntmps3
  go_wp2_with fail
  refine (median_any id A c ts X xc a Y yc b Z zc d _ (H.out.ext hx0) (HA.out.ext hx0) (HB.out.ext hx0) (HD.out.ext hx0)).mono ?_
  rintro e w1 ⟨M1, mc1, rfl, hm1, hb1⟩
  have bx1 : w1.cell? ⟨w.heap.size, 0, none⟩ = some (.int .i64 id) := hb1.keep (by simp [go_sem])
  have by1 : w1.cell? ⟨w.heap.size, 1, none⟩ = some (.slice A ts.length c) := hb1.keep (by simp [go_sem])
  have hx1 := hx0.trans hb1
  rw [HMV.out]
  go_wp2_with fail
  refine (check_any id A c ts X xc a _ (H.out.ext hx1) (HA.out.1.ext hx1) (Nat.le_trans HA.out.2.1 HA.out.2.2.1)).mono ?_
  rintro e w2 ⟨rfl, hb2⟩
  have bx2 : w2.cell? ⟨w.heap.size, 0, none⟩ = some (.int .i64 id) := hb2.keep bx1
  have by2 : w2.cell? ⟨w.heap.size, 1, none⟩ = some (.slice A ts.length c) := hb2.keep by1
  have hx2 := hx1.trans hb2
  clear bx1 by1
  go_wp2
  go_ret
  exact ⟨ret_bool (by simp [*]), hx2⟩

set_option maxRecDepth 100000 in
set_option maxHeartbeats 800000 in
theorem med_bad2 (id : Int) (A : Option Addr) (c : Nat) (ts : List Rub.Trait) (X : Option Addr) (xc : Nat) (a : List Int) (Y : Option Addr) (yc : Nat) (b : List Int) (Z : Option Addr) (zc : Nat) (d : List Int) (w : World)
    (h : RubIn w id A c ts) (ha : (⟨X, xc, a⟩ : IL).In w) (hb : (⟨Y, yc, b⟩ : IL).In w) (hd : (⟨Z, zc, d⟩ : IL).In w) (y : Rub.checkE id ts a = 0) (z : Rub.checkE id ts b ≠ 0) :
    Calls Try.prog 3 #[.agg #[.int .i64 id, .slice A ts.length c], .slice X a.length xc, .slice Y b.length yc, .slice Z d.length zc] w fun e w' => e = .returned (.bool true) ∧ Ext w w' := by
  have H := Lib.hid h
  have HA := Lib.hid ha
  have HB := Lib.hid hb
  have HD := Lib.hid hd
  clear h ha hb hd
  have hx0 : Ext w (w.alloc (.cells #[.int .i64 id, .slice A ts.length c] 24)) := (Ext.refl _).alloc _
  have y1 : (Rub.checkE id ts a != 0) = false := by rw [bne_eq_false_iff_eq]; exact y
  have z1 : (Rub.checkE id ts b != 0) = true := by rw [bne_iff_ne]; exact z
  have hz : Rub.checkAllE id ts [a, b, d] ≠ 0 := by simp [Rub.checkAllE, y, z]
  have hz1 : (Rub.checkAllE id ts [a, b, d] != 0) = true := by rw [bne_iff_ne]; exact hz
  have HMV := Lib.hid (med_of_not hz)
  clear hz z y
  go_enter Try.func3, Try.ntmps3
  go_wp2_with fail
  refine (median_any id A c ts X xc a Y yc b Z zc d _ (H.out.ext hx0) (HA.out.ext hx0) (HB.out.ext hx0) (HD.out.ext hx0)).mono ?_
  rintro e w1 ⟨M1, mc1, rfl, hm1, hb1⟩
  have bx1 : w1.cell? ⟨w.heap.size, 0, none⟩ = some (.int .i64 id) := hb1.keep (by simp [go_sem])
  have by1 : w1.cell? ⟨w.heap.size, 1, none⟩ = some (.slice A ts.length c) := hb1.keep (by simp [go_sem])
  have hx1 := hx0.trans hb1
  rw [HMV.out]
  go_wp2_with fail
  refine (check_any id A c ts X xc a _ (H.out.ext hx1) (HA.out.1.ext hx1) (Nat.le_trans HA.out.2.1 HA.out.2.2.1)).mono ?_
  rintro e w2 ⟨rfl, hb2⟩
  have bx2 : w2.cell? ⟨w.heap.size, 0, none⟩ = some (.int .i64 id) := hb2.keep bx1
  have by2 : w2.cell? ⟨w.heap.size, 1, none⟩ = some (.slice A ts.length c) := hb2.keep by1
  have hx2 := hx1.trans hb2
  clear bx1 by1
  go_wp2_with fail
  refine (check_any id A c ts Y yc b _ (H.out.ext hx2) (HB.out.1.ext hx2) (Nat.le_trans HB.out.2.1 HB.out.2.2.1)).mono ?_
  rintro e w3 ⟨rfl, hb3⟩
  have bx3 : w3.cell? ⟨w.heap.size, 0, none⟩ = some (.int .i64 id) := hb3.keep bx2
  have by3 : w3.cell? ⟨w.heap.size, 1, none⟩ = some (.slice A ts.length c) := hb3.keep by2
  have hx3 := hx2.trans hb3
  clear bx2 by2
  go_wp2
  go_ret
  exact ⟨ret_bool (by simp [*]), hx3⟩

set_option maxRecDepth 100000 in
set_option maxHeartbeats 800000 in
theorem med_bad3 (id : Int) (A : Option Addr) (c : Nat) (ts : List Rub.Trait) (X : Option Addr) (xc : Nat) (a : List Int) (Y : Option Addr) (yc : Nat) (b : List Int) (Z : Option Addr) (zc : Nat) (d : List Int) (w : World)
    (h : RubIn w id A c ts) (ha : (⟨X, xc, a⟩ : IL).In w) (hb : (⟨Y, yc, b⟩ : IL).In w) (hd : (⟨Z, zc, d⟩ : IL).In w) (y : Rub.checkE id ts a = 0) (y' : Rub.checkE id ts b = 0) (z : Rub.checkE id ts d ≠ 0) :
    Calls Try.prog 3 #[.agg #[.int .i64 id, .slice A ts.length c], .slice X a.length xc, .slice Y b.length yc, .slice Z d.length zc] w fun e w' => e = .returned (.bool true) ∧ Ext w w' := by
  have H := Lib.hid h
  have HA := Lib.hid ha
  have HB := Lib.hid hb
  have HD := Lib.hid hd
  clear h ha hb hd
  have hx0 : Ext w (w.alloc (.cells #[.int .i64 id, .slice A ts.length c] 24)) := (Ext.refl _).alloc _
  have y1 : (Rub.checkE id ts a != 0) = false := by rw [bne_eq_false_iff_eq]; exact y
  have y2 : (Rub.checkE id ts b != 0) = false := by rw [bne_eq_false_iff_eq]; exact y'
  have z1 : (Rub.checkE id ts d != 0) = true := by rw [bne_iff_ne]; exact z
  have hz : Rub.checkAllE id ts [a, b, d] ≠ 0 := by simp [Rub.checkAllE, y, y', z]
  have hz1 : (Rub.checkAllE id ts [a, b, d] != 0) = true := by rw [bne_iff_ne]; exact hz
  have HMV := Lib.hid (med_of_not hz)
  clear hz z y y'
  go_enter Try.func3, Try.ntmps3
  go_wp2_with fail
  refine (median_any id A c ts X xc a Y yc b Z zc d _ (H.out.ext hx0) (HA.out.ext hx0) (HB.out.ext hx0) (HD.out.ext hx0)).mono ?_
  rintro e w1 ⟨M1, mc1, rfl, hm1, hb1⟩
  have bx1 : w1.cell? ⟨w.heap.size, 0, none⟩ = some (.int .i64 id) := hb1.keep (by simp [go_sem])
  have by1 : w1.cell? ⟨w.heap.size, 1, none⟩ = some (.slice A ts.length c) := hb1.keep (by simp [go_sem])
  have hx1 := hx0.trans hb1
  rw [HMV.out]
  go_wp2_with fail
  refine (check_any id A c ts X xc a _ (H.out.ext hx1) (HA.out.1.ext hx1) (Nat.le_trans HA.out.2.1 HA.out.2.2.1)).mono ?_
  rintro e w2 ⟨rfl, hb2⟩
  have bx2 : w2.cell? ⟨w.heap.size, 0, none⟩ = some (.int .i64 id) := hb2.keep bx1
  have by2 : w2.cell? ⟨w.heap.size, 1, none⟩ = some (.slice A ts.length c) := hb2.keep by1
  have hx2 := hx1.trans hb2
  clear bx1 by1
  go_wp2_with fail
  refine (check_any id A c ts Y yc b _ (H.out.ext hx2) (HB.out.1.ext hx2) (Nat.le_trans HB.out.2.1 HB.out.2.2.1)).mono ?_
  rintro e w3 ⟨rfl, hb3⟩
  have bx3 : w3.cell? ⟨w.heap.size, 0, none⟩ = some (.int .i64 id) := hb3.keep bx2
  have by3 : w3.cell? ⟨w.heap.size, 1, none⟩ = some (.slice A ts.length c) := hb3.keep by2
  have hx3 := hx2.trans hb3
  clear bx2 by2
  go_wp2_with fail
  refine (check_any id A c ts Z zc d _ (H.out.ext hx3) (HD.out.1.ext hx3) (Nat.le_trans HD.out.2.1 HD.out.2.2.1)).mono ?_
  rintro e w4 ⟨rfl, hb4⟩
  have bx4 : w4.cell? ⟨w.heap.size, 0, none⟩ = some (.int .i64 id) := hb4.keep bx3
  have by4 : w4.cell? ⟨w.heap.size, 1, none⟩ = some (.slice A ts.length c) := hb4.keep by3
  have hx4 := hx3.trans hb4
  clear bx3 by3
  go_wp2
  go_ret
  exact ⟨ret_bool (by simp [*]), hx4⟩

set_option maxRecDepth 100000 in
set_option maxHeartbeats 1600000 in
theorem med_good (id : Int) (A : Option Addr) (c : Nat) (ts : List Rub.Trait) (X : Option Addr) (xc : Nat) (a : List Int) (Y : Option Addr) (yc : Nat) (b : List Int) (Z : Option Addr) (zc : Nat) (d : List Int) (w : World)
    (h : RubIn w id A c ts) (ha : (⟨X, xc, a⟩ : IL).In w) (hb : (⟨Y, yc, b⟩ : IL).In w) (hd : (⟨Z, zc, d⟩ : IL).In w)
    (z1 : Rub.checkE id ts a = 0) (z2 : Rub.checkE id ts b = 0) (z3 : Rub.checkE id ts d = 0) :
    Calls Try.prog 3 #[.agg #[.int .i64 id, .slice A ts.length c], .slice X a.length xc, .slice Y b.length yc, .slice Z d.length zc] w fun e w' => e = .returned (.bool true) ∧ Ext w w' := by
  have H := Lib.hid h
  have HA := Lib.hid ha
  have HB := Lib.hid hb
  have HD := Lib.hid hd
  clear h ha hb hd
  have hx0 : Ext w (w.alloc (.cells #[.int .i64 id, .slice A ts.length c] 24)) := (Ext.refl _).alloc _
  obtain ⟨hv, hl1, -⟩ := Rub.check_zero z1
  obtain ⟨-, hl2, -⟩ := Rub.check_zero z2
  obtain ⟨-, hl3, -⟩ := Rub.check_zero z3
  obtain ⟨l1, l2, -⟩ := Rub.valid_zero hv
  have hml : (Rub.mids a b d).length = ts.length := (Rub.mids_length a b d (by omega) (by omega)).trans hl1
  have hll : ((Rub.mids a b d).length : Int) = (ts.length : Int) := by rw [hml]
  have m6 : (Rub.mids a b d).length ≤ 6 := by omega
  have m1 : 1 ≤ (Rub.mids a b d).length := by omega
  have HLA : Hid (a.length = (Rub.mids a b d).length) := by show a.length = _; omega
  have HLB : Hid (b.length = (Rub.mids a b d).length) := by show b.length = _; omega
  have HLD : Hid (d.length = (Rub.mids a b d).length) := by show d.length = _; omega
  have hneq : (((Rub.mids a b d).length : Int) != (ts.length : Int)) = false := by rw [bne_eq_false_iff_eq]; exact hll
  have hpos : 0 < ((Rub.mids a b d).length : Int) := by omega
  have MV1 := Lib.hid (med_of z1 z2 z3)
  have E1 := Lib.hid (all3 z1 z2 z3)
  have MV2 := Lib.hid ((med_of z3 z1 z2).trans (Rub.mids_rot a b d))
  have E2 := Lib.hid (all3 z3 z1 z2)
  have MV3 := Lib.hid ((med_of z2 z1 z3).trans (Rub.mids_swap a b d))
  have E3 := Lib.hid (all3 z2 z1 z3)
  have MV4 := Lib.hid ((med_of z1 z3 z1).trans (Rub.mids_same a d (by omega)))
  have E4 := Lib.hid (all3 z1 z3 z1)
  have Z1 := Lib.hid z1
  have Z2 := Lib.hid z2
  have Z3 := Lib.hid z3
  clear z1 z2 z3 hv hl1 hl2 hl3 l1 l2 hml hll
  go_enter Try.func3, Try.ntmps3
  go_wp2_with fail
  refine (median_any id A c ts X xc a Y yc b Z zc d _ (H.out.ext hx0) (HA.out.ext hx0) (HB.out.ext hx0) (HD.out.ext hx0)).mono ?_
  rintro e w1 ⟨M1, mc1, rfl, hm1, hb1⟩
  have bx1 : w1.cell? ⟨w.heap.size, 0, none⟩ = some (.int .i64 id) := hb1.keep (by simp [go_sem])
  have by1 : w1.cell? ⟨w.heap.size, 1, none⟩ = some (.slice A ts.length c) := hb1.keep (by simp [go_sem])
  have hx1 := hx0.trans hb1
  rw [MV1.out, E1.out]
  rw [MV1.out] at hm1
  have HM1 := Lib.hid hm1
  clear hm1
  go_wp2_with fail
  refine (median_any id A c ts Z zc d X xc a Y yc b _ (H.out.ext hx1) (HD.out.ext hx1) (HA.out.ext hx1) (HB.out.ext hx1)).mono ?_
  rintro e w2 ⟨M2, mc2, rfl, hm2, hb2⟩
  have bx2 : w2.cell? ⟨w.heap.size, 0, none⟩ = some (.int .i64 id) := hb2.keep bx1
  have by2 : w2.cell? ⟨w.heap.size, 1, none⟩ = some (.slice A ts.length c) := hb2.keep by1
  have hx2 := hx1.trans hb2
  clear bx1 by1
  rw [MV2.out, E2.out]
  rw [MV2.out] at hm2
  have HM2 := Lib.hid hm2
  clear hm2
  go_wp2_with fail
  refine (median_any id A c ts Y yc b X xc a Z zc d _ (H.out.ext hx2) (HB.out.ext hx2) (HA.out.ext hx2) (HD.out.ext hx2)).mono ?_
  rintro e w3 ⟨M3, mc3, rfl, hm3, hb3⟩
  have bx3 : w3.cell? ⟨w.heap.size, 0, none⟩ = some (.int .i64 id) := hb3.keep bx2
  have by3 : w3.cell? ⟨w.heap.size, 1, none⟩ = some (.slice A ts.length c) := hb3.keep by2
  have hx3 := hx2.trans hb3
  clear bx2 by2
  rw [MV3.out, E3.out]
  rw [MV3.out] at hm3
  have HM3 := Lib.hid hm3
  clear hm3
  go_wp2_with fail
  refine (median_any id A c ts X xc a Z zc d X xc a _ (H.out.ext hx3) (HA.out.ext hx3) (HD.out.ext hx3) (HA.out.ext hx3)).mono ?_
  rintro e w4 ⟨M4, mc4, rfl, hm4, hb4⟩
  have bx4 : w4.cell? ⟨w.heap.size, 0, none⟩ = some (.int .i64 id) := hb4.keep bx3
  have by4 : w4.cell? ⟨w.heap.size, 1, none⟩ = some (.slice A ts.length c) := hb4.keep by3
  have hx4 := hx3.trans hb4
  clear bx3 by3
  rw [MV4.out, E4.out]
  rw [MV4.out] at hm4
  have HM4 := Lib.hid hm4
  clear hm4
  have e42 := hb3.trans hb4
  have e41 := hb2.trans e42
  go_wp2_with fail
  refine (ints_any M1 mc1 _ M2 mc2 _ _ (HM1.out.1.ext e41) (HM2.out.1.ext e42) (Nat.le_trans HM1.out.2.1 HM1.out.2.2.1)).mono ?_
  rintro e w5 ⟨rfl, hb5⟩
  have bx5 : w5.cell? ⟨w.heap.size, 0, none⟩ = some (.int .i64 id) := hb5.keep bx4
  have by5 : w5.cell? ⟨w.heap.size, 1, none⟩ = some (.slice A ts.length c) := hb5.keep by4
  have hx5 := hx4.trans hb5
  clear bx4 by4
  simp only [decide_true]
  go_wp2_with fail
  refine (ints_any M1 mc1 _ M3 mc3 _ _ (HM1.out.1.ext (e41.trans hb5)) (HM3.out.1.ext (hb4.trans hb5)) (Nat.le_trans HM1.out.2.1 HM1.out.2.2.1)).mono ?_
  rintro e w6 ⟨rfl, hb6⟩
  have bx6 : w6.cell? ⟨w.heap.size, 0, none⟩ = some (.int .i64 id) := hb6.keep bx5
  have by6 : w6.cell? ⟨w.heap.size, 1, none⟩ = some (.slice A ts.length c) := hb6.keep by5
  have hx6 := hx5.trans hb6
  clear bx5 by5
  simp only [decide_true]
  go_wp2_with fail
  refine (ints_any M4 mc4 _ X xc _ _ (HM4.out.1.ext (hb5.trans hb6)) (HA.out.1.ext hx6) (Nat.le_trans HM4.out.2.1 HM4.out.2.2.1)).mono ?_
  rintro e w7 ⟨rfl, hb7⟩
  have bx7 : w7.cell? ⟨w.heap.size, 0, none⟩ = some (.int .i64 id) := hb7.keep bx6
  have by7 : w7.cell? ⟨w.heap.size, 1, none⟩ = some (.slice A ts.length c) := hb7.keep by6
  have hx7 := hx6.trans hb7
  clear bx6 by6
  simp only [decide_true]
  have hM7 := Lib.hid (HM1.out.1.ext ((e41.trans hb5).trans (hb6.trans hb7)))
  go_wp2
  go_loopw [17] (fun i wr => ∃ k : Nat, k ≤ (Rub.mids a b d).length ∧ i = .int .i64 k ∧ Ext w7 wr) (fun i _ => (Rub.mids a b d).length - (intOf i).toNat)
  case atStart => exact ⟨0, by omega, rfl, Ext.refl _⟩
  case round =>
    obtain ⟨k, hk, rfl, he⟩ := hrel
    have hw : Ext w wr := hx7.trans he
    by_cases hlt : k < (Rub.mids a b d).length
    · obtain ⟨ba, oa, x, rfl, hba, hx, cx⟩ := (HA.out.1.ext hw).at_ (i := k) (by show k < a.length; rw [HLA.out]; exact hlt)
      obtain ⟨bb, ob, y, rfl, hbb, hy, cy⟩ := (HB.out.1.ext hw).at_ (i := k) (by show k < b.length; rw [HLB.out]; exact hlt)
      obtain ⟨bd, od, z, rfl, hbd, hz, cz⟩ := (HD.out.1.ext hw).at_ (i := k) (by show k < d.length; rw [HLD.out]; exact hlt)
      obtain ⟨bm, om, m, rfl, hbm, hmm, cm⟩ := (hM7.out.ext he).at_ (i := k) hlt
      have hmv : m = Rub.mid x y z := by
        have := (Rub.mids_at a b d k x y z hx hy hz).symm.trans hmm
        injection this with this
        exact this.symm
      have g1 : decide ((if (if x < y then y else x) < z then z else if x < y then y else x) < m) = false := by rw [Rub.max3, hmv]; unfold Rub.mid; simp; omega
      have g2 : decide (m < (if z < (if y < x then y else x) then z else if y < x then y else x)) = false := by rw [Rub.min3, hmv]; unfold Rub.mid; simp; omega
      have g3 : ¬ max (max x y) z < m := by rw [hmv]; unfold Rub.mid; omega
      have g4 : ¬ m < min (min x y) z := by rw [hmv]; unfold Rub.mid; omega
      have hka : (k : Int) < (a.length : Int) := by rw [HLA.out]; omega
      have hkb : (k : Int) < (b.length : Int) := by rw [HLB.out]; omega
      have hkd : (k : Int) < (d.length : Int) := by rw [HLD.out]; omega
      have hkm : (k : Int) < ((Rub.mids a b d).length : Int) := by omega
      clear hx hy hz hmm hmv
      go_wp2
      go_quiet (fail)
      go_wp2
      go_roundw
      case rel => exact ⟨k + 1, by omega, by go_num, he.drewN _⟩
      case measure => simp [intOf]; omega
    · go_wp2
      go_ret
      exact ⟨ret_bool (by simp; omega), hw⟩

theorem rubricMedian_walk (id : Int) (A : Option Addr) (c : Nat) (ts : List Rub.Trait) (X : Option Addr) (xc : Nat) (a : List Int) (Y : Option Addr) (yc : Nat) (b : List Int) (Z : Option Addr) (zc : Nat) (d : List Int) (w : World)
    (h : RubIn w id A c ts) (ha : (⟨X, xc, a⟩ : IL).In w) (hb : (⟨Y, yc, b⟩ : IL).In w) (hd : (⟨Z, zc, d⟩ : IL).In w) :
    Calls Try.prog 3 #[.agg #[.int .i64 id, .slice A ts.length c], .slice X a.length xc, .slice Y b.length yc, .slice Z d.length zc] w fun e w' => e = .returned (.bool true) ∧ Ext w w' := by
  by_cases z1 : Rub.checkE id ts a = 0
  · by_cases z2 : Rub.checkE id ts b = 0
    · by_cases z3 : Rub.checkE id ts d = 0
      · exact med_good id A c ts X xc a Y yc b Z zc d w h ha hb hd z1 z2 z3
      · exact med_bad3 id A c ts X xc a Y yc b Z zc d w h ha hb hd z1 z2 z3
    · exact med_bad2 id A c ts X xc a Y yc b Z zc d w h ha hb hd z1 z2
  · exact med_bad1 id A c ts X xc a Y yc b Z zc d w h ha hb hd z1

theorem rubricMedian_lifted (os : Os) (started : os.Started) (H : Type) (enc : TypeId × Value → H) :
    ReturnsInHanded {} Try.checked os 3 .any (Rows.rubricMedianSpec.pre6 enc Try.prog Try.f3 Rows.rubricMedianRow.domain false) (Rows.rubricMedianSpec.post enc Try.prog Try.f3 false true false false) := by
  refine returnsInHanded_of_change (C := Try.checked) Try.own started (by kernel_rfl) Try.func3
    (ChangeSpec.witness6 (enc := enc) (C := Try.checked) false ⟨#[], #[.agg #[.int .i64 0, .slice none 0 0], .slice none 0 0, .slice none 0 0, .slice none 0 0], []⟩ 8 (by kernel_rfl) (by kernel_rfl) (by kernel_rfl) (by kernel_rfl)) ?_
  intro W base args ds gs before hval0 hW _ _
  have hval : ∀ (j : Nat) t v, Try.f3.params[j]? = some t → args[j]? = some v → Value.okWide Try.prog W .any base t v := hval0
  have hW' := hW
  obtain ⟨p, q, hA0, hV, rfl, hfz, hnd⟩ := hW
  have hA : DataW.TrodAll enc Try.prog W 0 (fun _ => true) true Try.f3.params.toList args.toList ds p := hA0
  rw [Try.params3] at hA hval
  obtain ⟨v0, vs0, d0, ds0, p0, q0, hargs, rfl, rfl, h0, r0⟩ := trodAll_cons hA
  obtain ⟨v1, vs1, d1, ds1, p1, q1, rfl, rfl, rfl, h1, r1⟩ := trodAll_cons r0
  obtain ⟨v2, vs2, d2, ds2, p2, q2, rfl, rfl, rfl, h2, r2⟩ := trodAll_cons r1
  obtain ⟨v3, vs3, d3, ds3, p3, q3, rfl, rfl, rfl, h3, r3⟩ := trodAll_cons r2
  obtain ⟨rfl, rfl, rfl⟩ := trodAll_nil r3
  obtain rfl : args = #[v0, v1, v2, v3] := by cases args; simp_all
  obtain ⟨rfl, rfl⟩ := trodVars_none hV
  obtain ⟨id, A, c, ts, rfl, g0⟩ := rub_open (hval 0 24 v0 rfl rfl) h0
  obtain ⟨X, xc, a, rfl, g1⟩ := ints_open (hval 1 25 v1 rfl rfl) h1
  obtain ⟨Y, yc, b, rfl, g2⟩ := ints_open (hval 2 25 v2 rfl rfl) h2
  obtain ⟨Z, zc, d, rfl, g3⟩ := ints_open (hval 3 25 v3 rfl rfl) h3
  refine (rubricMedian_walk id A c ts X xc a Y yc b Z zc d W g0 g1 g2 g3).mono fun e W' ⟨he, hw⟩ => ?_
  subst he
  exact ⟨_, rfl, law_post hW' Try.laidOut (by kernel_rfl) rfl (by rfl) rfl Try.underlying4 hw⟩

theorem rubricMedian_holds : Rows.RubricMedianSaid :=
  OpenClaim.holds_of_wide 3 Try.f3 rfl rfl rfl rfl rfl rfl rfl ⟨rfl, rfl, rfl, rfl, rfl⟩ rfl rfl rfl rfl rfl (by kernel_rfl) Try.func3 (by kernel_rfl)
    (of_decide_eq_true (by kernel_rfl)) (by unfold Func.isWrapper; first | (rw [if_pos (by decide +kernel)]; kernel_rfl) | (rw [if_neg (by decide +kernel)]; exact ⟨rfl, rfl⟩))
    (fun os started H enc _ => rubricMedian_lifted os started H enc)
#print axioms rubricMedian_holds
end Go.Proofs.Ythjledbomonfpaa
