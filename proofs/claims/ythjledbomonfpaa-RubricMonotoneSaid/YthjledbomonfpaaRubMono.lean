/- RubricMonotone: better marks never give a lower total, totals are from 0 to the greatest one, and the distance of marks is a metric, for every input. No conditions. -/
import Derived.Test.YthjledbomonfpaaRubO
import Derived.Test.YthjledbomonfpaaRubS
namespace Go.Proofs.Ythjledbomonfpaa
open Go.ChangeShapes Go.WideShapes Go.ChangeAt Go.RowKit

theorem tot_of_not {id : Int} {ts : List Rub.Trait} {a : List Int} (h : Rub.checkE id ts a ≠ 0) : Rub.totV id ts a = 0 := by unfold Rub.totV; rw [if_neg h]
theorem tot_of {id : Int} {ts : List Rub.Trait} {a : List Int} (h : Rub.checkE id ts a = 0) : Rub.totV id ts a = Rub.tot (ts.zip a) := by unfold Rub.totV; rw [if_pos h]
theorem all2 {id : Int} {ts : List Rub.Trait} {a b : List Int} (h1 : Rub.checkE id ts a = 0) (h2 : Rub.checkE id ts b = 0) : Rub.checkAllE id ts [a, b] = 0 := by simp [Rub.checkAllE, h1, h2]
theorem apart_of {id : Int} {ts : List Rub.Trait} {a b : List Int} (h1 : Rub.checkE id ts a = 0) (h2 : Rub.checkE id ts b = 0) : Rub.apartV id ts a b = Rub.dist (a.zip b) 0 := by unfold Rub.apartV; rw [if_pos (all2 h1 h2)]

set_option maxRecDepth 100000 in
set_option maxHeartbeats 800000 in
theorem mono_bad (id : Int) (A : Option Addr) (c : Nat) (ts : List Rub.Trait) (X : Option Addr) (xc : Nat) (a : List Int) (Y : Option Addr) (yc : Nat) (b : List Int) (Z : Option Addr) (zc : Nat) (d : List Int) (w : World)
    (h : RubIn w id A c ts) (ha : (⟨X, xc, a⟩ : IL).In w) (hb : (⟨Y, yc, b⟩ : IL).In w) (hd : (⟨Z, zc, d⟩ : IL).In w) (z : Rub.validE id ts ≠ 0) :
    Calls Try.prog 5 #[.agg #[.int .i64 id, .slice A ts.length c], .slice X a.length xc, .slice Y b.length yc, .slice Z d.length zc] w fun e w' => e = .returned (.bool true) ∧ Ext w w' := by
  have H := Lib.hid h
  have HA := Lib.hid ha
  have HB := Lib.hid hb
  have HD := Lib.hid hd
  clear h ha hb hd
  have hx0 : Ext w (w.alloc (.cells #[.int .i64 id, .slice A ts.length c] 24)) := (Ext.refl _).alloc _
  have ea := Rub.check_valid (ms := a) z
  have eb := Rub.check_valid (ms := b) z
  have EA := Lib.hid ea
  have EB := Lib.hid eb
  have TA := Lib.hid (tot_of_not (a := a) (ea ▸ z))
  have TB := Lib.hid (tot_of_not (a := b) (eb ▸ z))
  have TM : Hid (Rub.mostV id ts = 0) := by show Rub.mostV id ts = 0; unfold Rub.mostV; rw [if_neg z]
  have z1 : (Rub.validE id ts != 0) = true := by rw [bne_iff_ne]; exact z
  clear z ea eb
  go_enter Try.func5, Try.ntmps5
  go_wp2_with fail
  refine (total_any id A c ts X xc a _ (H.out.ext hx0) (HA.out.1.ext hx0) (Nat.le_trans HA.out.2.1 HA.out.2.2.1)).mono ?_
  rintro e w1 ⟨rfl, hb1⟩
  have bx1 : w1.cell? ⟨w.heap.size, 0, none⟩ = some (.int .i64 id) := hb1.keep (by simp [go_sem])
  have by1 : w1.cell? ⟨w.heap.size, 1, none⟩ = some (.slice A ts.length c) := hb1.keep (by simp [go_sem])
  have hx1 := hx0.trans hb1
  rw [EA.out, TA.out]
  go_wp2_with fail
  refine (total_any id A c ts Y yc b _ (H.out.ext hx1) (HB.out.1.ext hx1) (Nat.le_trans HB.out.2.1 HB.out.2.2.1)).mono ?_
  rintro e w2 ⟨rfl, hb2⟩
  have bx2 : w2.cell? ⟨w.heap.size, 0, none⟩ = some (.int .i64 id) := hb2.keep bx1
  have by2 : w2.cell? ⟨w.heap.size, 1, none⟩ = some (.slice A ts.length c) := hb2.keep by1
  have hx2 := hx1.trans hb2
  clear bx1 by1
  rw [EB.out, TB.out]
  go_wp2_with fail
  refine (most_any id A c ts _ (H.out.ext hx2)).mono ?_
  rintro e w3 ⟨rfl, hb3⟩
  have bx3 : w3.cell? ⟨w.heap.size, 0, none⟩ = some (.int .i64 id) := hb3.keep bx2
  have by3 : w3.cell? ⟨w.heap.size, 1, none⟩ = some (.slice A ts.length c) := hb3.keep by2
  have hx3 := hx2.trans hb3
  clear bx2 by2
  rw [TM.out]
  go_wp2_with fail
  refine (rubValid_any id A c ts _ (H.out.ext hx3)).mono ?_
  rintro e w4 ⟨rfl, hb4⟩
  have bx4 : w4.cell? ⟨w.heap.size, 0, none⟩ = some (.int .i64 id) := hb4.keep bx3
  have by4 : w4.cell? ⟨w.heap.size, 1, none⟩ = some (.slice A ts.length c) := hb4.keep by3
  have hx4 := hx3.trans hb4
  clear bx3 by3
  go_wp2
  go_ret
  exact ⟨ret_bool (by simp), hx4⟩

set_option maxRecDepth 100000 in
set_option maxHeartbeats 800000 in
theorem mono_part1 (id : Int) (A : Option Addr) (c : Nat) (ts : List Rub.Trait) (X : Option Addr) (xc : Nat) (a : List Int) (Y : Option Addr) (yc : Nat) (b : List Int) (Z : Option Addr) (zc : Nat) (d : List Int) (w : World)
    (h : RubIn w id A c ts) (ha : (⟨X, xc, a⟩ : IL).In w) (hb : (⟨Y, yc, b⟩ : IL).In w) (hd : (⟨Z, zc, d⟩ : IL).In w) (hv : Rub.validE id ts = 0) (z : Rub.checkE id ts a ≠ 0) :
    Calls Try.prog 5 #[.agg #[.int .i64 id, .slice A ts.length c], .slice X a.length xc, .slice Y b.length yc, .slice Z d.length zc] w fun e w' => e = .returned (.bool true) ∧ Ext w w' := by
  have H := Lib.hid h
  have HA := Lib.hid ha
  have HB := Lib.hid hb
  have HD := Lib.hid hd
  clear h ha hb hd
  have hx0 : Ext w (w.alloc (.cells #[.int .i64 id, .slice A ts.length c] 24)) := (Ext.refl _).alloc _
  obtain ⟨l1, l2, hall⟩ := Rub.valid_zero hv
  obtain ⟨mo1, mo2⟩ := Rub.most_ge ts hall
  have TM : Hid (Rub.mostV id ts = Rub.most ts) := by show Rub.mostV id ts = Rub.most ts; unfold Rub.mostV; rw [if_pos hv]
  have V0 := Lib.hid hv
  have mo3 : ((ts.length : Nat) : Int) ≤ Rub.most ts := mo1
  have mo4 : 1 ≤ Rub.most ts := by omega
  have mo5 : Rub.most ts ≤ 600 := by omega
  have tl1 : 1 ≤ (ts.length : Int) := by omega
  have z1 : (Rub.checkE id ts a != 0) = true := by rw [bne_iff_ne]; exact z
  clear z hv hall
  go_enter Try.func5, Try.ntmps5
  go_wp2_with fail
  refine (total_any id A c ts X xc a _ (H.out.ext hx0) (HA.out.1.ext hx0) (Nat.le_trans HA.out.2.1 HA.out.2.2.1)).mono ?_
  rintro e w1 ⟨rfl, hb1⟩
  have bx1 : w1.cell? ⟨w.heap.size, 0, none⟩ = some (.int .i64 id) := hb1.keep (by simp [go_sem])
  have by1 : w1.cell? ⟨w.heap.size, 1, none⟩ = some (.slice A ts.length c) := hb1.keep (by simp [go_sem])
  have hx1 := hx0.trans hb1
  go_wp2_with fail
  refine (total_any id A c ts Y yc b _ (H.out.ext hx1) (HB.out.1.ext hx1) (Nat.le_trans HB.out.2.1 HB.out.2.2.1)).mono ?_
  rintro e w2 ⟨rfl, hb2⟩
  have bx2 : w2.cell? ⟨w.heap.size, 0, none⟩ = some (.int .i64 id) := hb2.keep bx1
  have by2 : w2.cell? ⟨w.heap.size, 1, none⟩ = some (.slice A ts.length c) := hb2.keep by1
  have hx2 := hx1.trans hb2
  clear bx1 by1
  go_wp2_with fail
  refine (most_any id A c ts _ (H.out.ext hx2)).mono ?_
  rintro e w3 ⟨rfl, hb3⟩
  have bx3 : w3.cell? ⟨w.heap.size, 0, none⟩ = some (.int .i64 id) := hb3.keep bx2
  have by3 : w3.cell? ⟨w.heap.size, 1, none⟩ = some (.slice A ts.length c) := hb3.keep by2
  have hx3 := hx2.trans hb3
  clear bx2 by2
  rw [TM.out, V0.out]
  go_wp2
  go_ret
  exact ⟨rfl, hx3⟩

set_option maxRecDepth 100000 in
set_option maxHeartbeats 800000 in
theorem mono_part2 (id : Int) (A : Option Addr) (c : Nat) (ts : List Rub.Trait) (X : Option Addr) (xc : Nat) (a : List Int) (Y : Option Addr) (yc : Nat) (b : List Int) (Z : Option Addr) (zc : Nat) (d : List Int) (w : World)
    (h : RubIn w id A c ts) (ha : (⟨X, xc, a⟩ : IL).In w) (hb : (⟨Y, yc, b⟩ : IL).In w) (hd : (⟨Z, zc, d⟩ : IL).In w) (hv : Rub.validE id ts = 0) (y : Rub.checkE id ts a = 0) (z : Rub.checkE id ts b ≠ 0) :
    Calls Try.prog 5 #[.agg #[.int .i64 id, .slice A ts.length c], .slice X a.length xc, .slice Y b.length yc, .slice Z d.length zc] w fun e w' => e = .returned (.bool true) ∧ Ext w w' := by
  have H := Lib.hid h
  have HA := Lib.hid ha
  have HB := Lib.hid hb
  have HD := Lib.hid hd
  clear h ha hb hd
  have hx0 : Ext w (w.alloc (.cells #[.int .i64 id, .slice A ts.length c] 24)) := (Ext.refl _).alloc _
  obtain ⟨l1, l2, hall⟩ := Rub.valid_zero hv
  obtain ⟨mo1, mo2⟩ := Rub.most_ge ts hall
  have TM : Hid (Rub.mostV id ts = Rub.most ts) := by show Rub.mostV id ts = Rub.most ts; unfold Rub.mostV; rw [if_pos hv]
  have V0 := Lib.hid hv
  have mo3 : ((ts.length : Nat) : Int) ≤ Rub.most ts := mo1
  have mo4 : 1 ≤ Rub.most ts := by omega
  have mo5 : Rub.most ts ≤ 600 := by omega
  have tl1 : 1 ≤ (ts.length : Int) := by omega
  have y1 : (Rub.checkE id ts a != 0) = false := by rw [bne_eq_false_iff_eq]; exact y
  have z1 : (Rub.checkE id ts b != 0) = true := by rw [bne_iff_ne]; exact z
  clear y z hv hall
  go_enter Try.func5, Try.ntmps5
  go_wp2_with fail
  refine (total_any id A c ts X xc a _ (H.out.ext hx0) (HA.out.1.ext hx0) (Nat.le_trans HA.out.2.1 HA.out.2.2.1)).mono ?_
  rintro e w1 ⟨rfl, hb1⟩
  have bx1 : w1.cell? ⟨w.heap.size, 0, none⟩ = some (.int .i64 id) := hb1.keep (by simp [go_sem])
  have by1 : w1.cell? ⟨w.heap.size, 1, none⟩ = some (.slice A ts.length c) := hb1.keep (by simp [go_sem])
  have hx1 := hx0.trans hb1
  go_wp2_with fail
  refine (total_any id A c ts Y yc b _ (H.out.ext hx1) (HB.out.1.ext hx1) (Nat.le_trans HB.out.2.1 HB.out.2.2.1)).mono ?_
  rintro e w2 ⟨rfl, hb2⟩
  have bx2 : w2.cell? ⟨w.heap.size, 0, none⟩ = some (.int .i64 id) := hb2.keep bx1
  have by2 : w2.cell? ⟨w.heap.size, 1, none⟩ = some (.slice A ts.length c) := hb2.keep by1
  have hx2 := hx1.trans hb2
  clear bx1 by1
  go_wp2_with fail
  refine (most_any id A c ts _ (H.out.ext hx2)).mono ?_
  rintro e w3 ⟨rfl, hb3⟩
  have bx3 : w3.cell? ⟨w.heap.size, 0, none⟩ = some (.int .i64 id) := hb3.keep bx2
  have by3 : w3.cell? ⟨w.heap.size, 1, none⟩ = some (.slice A ts.length c) := hb3.keep by2
  have hx3 := hx2.trans hb3
  clear bx2 by2
  rw [TM.out, V0.out]
  go_wp2
  go_ret
  exact ⟨rfl, hx3⟩

set_option maxRecDepth 100000 in
set_option maxHeartbeats 800000 in
theorem mono_part3 (id : Int) (A : Option Addr) (c : Nat) (ts : List Rub.Trait) (X : Option Addr) (xc : Nat) (a : List Int) (Y : Option Addr) (yc : Nat) (b : List Int) (Z : Option Addr) (zc : Nat) (d : List Int) (w : World)
    (h : RubIn w id A c ts) (ha : (⟨X, xc, a⟩ : IL).In w) (hb : (⟨Y, yc, b⟩ : IL).In w) (hd : (⟨Z, zc, d⟩ : IL).In w) (hv : Rub.validE id ts = 0) (y : Rub.checkE id ts a = 0) (y' : Rub.checkE id ts b = 0) (z : Rub.checkE id ts d ≠ 0) :
    Calls Try.prog 5 #[.agg #[.int .i64 id, .slice A ts.length c], .slice X a.length xc, .slice Y b.length yc, .slice Z d.length zc] w fun e w' => e = .returned (.bool true) ∧ Ext w w' := by
  have H := Lib.hid h
  have HA := Lib.hid ha
  have HB := Lib.hid hb
  have HD := Lib.hid hd
  clear h ha hb hd
  have hx0 : Ext w (w.alloc (.cells #[.int .i64 id, .slice A ts.length c] 24)) := (Ext.refl _).alloc _
  obtain ⟨l1, l2, hall⟩ := Rub.valid_zero hv
  obtain ⟨mo1, mo2⟩ := Rub.most_ge ts hall
  have TM : Hid (Rub.mostV id ts = Rub.most ts) := by show Rub.mostV id ts = Rub.most ts; unfold Rub.mostV; rw [if_pos hv]
  have V0 := Lib.hid hv
  have mo3 : ((ts.length : Nat) : Int) ≤ Rub.most ts := mo1
  have mo4 : 1 ≤ Rub.most ts := by omega
  have mo5 : Rub.most ts ≤ 600 := by omega
  have tl1 : 1 ≤ (ts.length : Int) := by omega
  have y1 : (Rub.checkE id ts a != 0) = false := by rw [bne_eq_false_iff_eq]; exact y
  have y2 : (Rub.checkE id ts b != 0) = false := by rw [bne_eq_false_iff_eq]; exact y'
  have z1 : (Rub.checkE id ts d != 0) = true := by rw [bne_iff_ne]; exact z
  clear y y' z hv hall
  go_enter Try.func5, Try.ntmps5
  go_wp2_with fail
  refine (total_any id A c ts X xc a _ (H.out.ext hx0) (HA.out.1.ext hx0) (Nat.le_trans HA.out.2.1 HA.out.2.2.1)).mono ?_
  rintro e w1 ⟨rfl, hb1⟩
  have bx1 : w1.cell? ⟨w.heap.size, 0, none⟩ = some (.int .i64 id) := hb1.keep (by simp [go_sem])
  have by1 : w1.cell? ⟨w.heap.size, 1, none⟩ = some (.slice A ts.length c) := hb1.keep (by simp [go_sem])
  have hx1 := hx0.trans hb1
  go_wp2_with fail
  refine (total_any id A c ts Y yc b _ (H.out.ext hx1) (HB.out.1.ext hx1) (Nat.le_trans HB.out.2.1 HB.out.2.2.1)).mono ?_
  rintro e w2 ⟨rfl, hb2⟩
  have bx2 : w2.cell? ⟨w.heap.size, 0, none⟩ = some (.int .i64 id) := hb2.keep bx1
  have by2 : w2.cell? ⟨w.heap.size, 1, none⟩ = some (.slice A ts.length c) := hb2.keep by1
  have hx2 := hx1.trans hb2
  clear bx1 by1
  go_wp2_with fail
  refine (most_any id A c ts _ (H.out.ext hx2)).mono ?_
  rintro e w3 ⟨rfl, hb3⟩
  have bx3 : w3.cell? ⟨w.heap.size, 0, none⟩ = some (.int .i64 id) := hb3.keep bx2
  have by3 : w3.cell? ⟨w.heap.size, 1, none⟩ = some (.slice A ts.length c) := hb3.keep by2
  have hx3 := hx2.trans hb3
  clear bx2 by2
  rw [TM.out, V0.out]
  go_wp2_with fail
  refine (check_any id A c ts Z zc d _ (H.out.ext hx3) (HD.out.1.ext hx3) (Nat.le_trans HD.out.2.1 HD.out.2.2.1)).mono ?_
  rintro e w4 ⟨rfl, hb4⟩
  have bx4 : w4.cell? ⟨w.heap.size, 0, none⟩ = some (.int .i64 id) := hb4.keep bx3
  have by4 : w4.cell? ⟨w.heap.size, 1, none⟩ = some (.slice A ts.length c) := hb4.keep by3
  have hx4 := hx3.trans hb4
  clear bx3 by3
  go_wp2
  go_ret
  exact ⟨rfl, hx4⟩

set_option maxRecDepth 100000 in
set_option maxHeartbeats 1600000 in
theorem mono_good (id : Int) (A : Option Addr) (c : Nat) (ts : List Rub.Trait) (X : Option Addr) (xc : Nat) (a : List Int) (Y : Option Addr) (yc : Nat) (b : List Int) (Z : Option Addr) (zc : Nat) (d : List Int) (w : World)
    (h : RubIn w id A c ts) (ha : (⟨X, xc, a⟩ : IL).In w) (hb : (⟨Y, yc, b⟩ : IL).In w) (hd : (⟨Z, zc, d⟩ : IL).In w)
    (z1 : Rub.checkE id ts a = 0) (z2 : Rub.checkE id ts b = 0) (z3 : Rub.checkE id ts d = 0) :
    Calls Try.prog 5 #[.agg #[.int .i64 id, .slice A ts.length c], .slice X a.length xc, .slice Y b.length yc, .slice Z d.length zc] w fun e w' => e = .returned (.bool true) ∧ Ext w w' := by
  have H := Lib.hid h
  have HA := Lib.hid ha
  have HB := Lib.hid hb
  have HD := Lib.hid hd
  clear h ha hb hd
  have hx0 : Ext w (w.alloc (.cells #[.int .i64 id, .slice A ts.length c] 24)) := (Ext.refl _).alloc _
  obtain ⟨hv, hl1, hk1⟩ := Rub.check_zero z1
  obtain ⟨-, hl2, hk2⟩ := Rub.check_zero z2
  obtain ⟨-, hl3, -⟩ := Rub.check_zero z3
  obtain ⟨l1, l2, hall⟩ := Rub.valid_zero hv
  obtain ⟨mo1, mo2⟩ := Rub.most_ge ts hall
  have TM : Hid (Rub.mostV id ts = Rub.most ts) := by show Rub.mostV id ts = Rub.most ts; unfold Rub.mostV; rw [if_pos hv]
  have V0 := Lib.hid hv
  have mo3 : ((ts.length : Nat) : Int) ≤ Rub.most ts := mo1
  have mo4 : 1 ≤ Rub.most ts := by omega
  have mo5 : Rub.most ts ≤ 600 := by omega
  have tl1 : 1 ≤ (ts.length : Int) := by omega
  have hwt : ∀ t ∈ ts, 0 ≤ t.weight := fun t ht => by have := hall t ht; omega
  obtain ⟨ta1, ta2⟩ := Rub.tot_most ts a hl1 hwt (fun j t x h1 h2 => Rub.marks_at hk1 h1 h2)
  obtain ⟨tb1, tb2⟩ := Rub.tot_most ts b hl2 hwt (fun j t x h1 h2 => Rub.marks_at hk2 h1 h2)
  have HMONO := Lib.hid (Rub.tot_mono ts a b hl1 hl2 hwt)
  have dn1 := Rub.dist_nonneg (a.zip b)
  have dn2 := Rub.dist_nonneg (b.zip d)
  have in10 : ∀ {l : List Int}, Rub.checkE id ts l = 0 → ∀ x ∈ l, 0 ≤ x ∧ x ≤ 10 := fun hz x hx => by
    obtain ⟨j, hj⟩ := List.mem_iff_getElem?.1 hx
    exact apart_bd hz hj
  have db1 := Rub.dist_le10 a b (in10 z1) (in10 z2)
  have db2 := Rub.dist_le10 b d (in10 z2) (in10 z3)
  have dtri := Rub.dist_triangle a b d (by omega) (by omega)
  have DZ : Hid (decide (Rub.dist (a.zip b) 0 = 0) = decide (a = b)) := by
    show _ = _
    rw [decide_eq_decide]
    exact Rub.dist_zero_iff a b (by omega)
  have TA := Lib.hid (tot_of z1)
  have TB := Lib.hid (tot_of z2)
  have AB := Lib.hid (apart_of z1 z2)
  have BA : Hid (Rub.apartV id ts b a = Rub.dist (a.zip b) 0) := by show _ = _; rw [apart_of z2 z1, Rub.dist_comm]
  have BC := Lib.hid (apart_of z2 z3)
  have AC := Lib.hid (apart_of z1 z3)
  have E1 := Lib.hid (all2 z1 z2)
  have E2 := Lib.hid (all2 z2 z1)
  have E3 := Lib.hid (all2 z2 z3)
  have E4 := Lib.hid (all2 z1 z3)
  have Z1 := Lib.hid z1
  have Z2 := Lib.hid z2
  have Z3 := Lib.hid z3
  have a6 : a.length ≤ 6 := by omega
  have HL : Hid (b.length = a.length) := by show b.length = a.length; omega
  clear z1 z2 z3 hv hl1 hl2 hl3 hk1 hk2 hall hwt in10
  generalize Rub.tot (ts.zip a) = ta at *
  generalize Rub.tot (ts.zip b) = tb at *
  generalize Rub.dist (a.zip b) 0 = dab at *
  generalize Rub.dist (b.zip d) 0 = dbc at *
  generalize Rub.dist (a.zip d) 0 = dac at *
  generalize Rub.most ts = mo at *
  go_enter Try.func5, Try.ntmps5
  go_wp2_with fail
  refine (total_any id A c ts X xc a _ (H.out.ext hx0) (HA.out.1.ext hx0) (Nat.le_trans HA.out.2.1 HA.out.2.2.1)).mono ?_
  rintro e w1 ⟨rfl, hb1⟩
  have bx1 : w1.cell? ⟨w.heap.size, 0, none⟩ = some (.int .i64 id) := hb1.keep (by simp [go_sem])
  have by1 : w1.cell? ⟨w.heap.size, 1, none⟩ = some (.slice A ts.length c) := hb1.keep (by simp [go_sem])
  have hx1 := hx0.trans hb1
  rw [TA.out, Z1.out]
  go_wp2_with fail
  refine (total_any id A c ts Y yc b _ (H.out.ext hx1) (HB.out.1.ext hx1) (Nat.le_trans HB.out.2.1 HB.out.2.2.1)).mono ?_
  rintro e w2 ⟨rfl, hb2⟩
  have bx2 : w2.cell? ⟨w.heap.size, 0, none⟩ = some (.int .i64 id) := hb2.keep bx1
  have by2 : w2.cell? ⟨w.heap.size, 1, none⟩ = some (.slice A ts.length c) := hb2.keep by1
  have hx2 := hx1.trans hb2
  clear bx1 by1
  rw [TB.out, Z2.out]
  go_wp2_with fail
  refine (most_any id A c ts _ (H.out.ext hx2)).mono ?_
  rintro e w3 ⟨rfl, hb3⟩
  have bx3 : w3.cell? ⟨w.heap.size, 0, none⟩ = some (.int .i64 id) := hb3.keep bx2
  have by3 : w3.cell? ⟨w.heap.size, 1, none⟩ = some (.slice A ts.length c) := hb3.keep by2
  have hx3 := hx2.trans hb3
  clear bx2 by2
  rw [TM.out, V0.out]
  go_wp2_with fail
  refine (check_any id A c ts Z zc d _ (H.out.ext hx3) (HD.out.1.ext hx3) (Nat.le_trans HD.out.2.1 HD.out.2.2.1)).mono ?_
  rintro e w4 ⟨rfl, hb4⟩
  have bx4 : w4.cell? ⟨w.heap.size, 0, none⟩ = some (.int .i64 id) := hb4.keep bx3
  have by4 : w4.cell? ⟨w.heap.size, 1, none⟩ = some (.slice A ts.length c) := hb4.keep by3
  have hx4 := hx3.trans hb4
  clear bx3 by3
  rw [Z3.out]
  go_wp2
  go_loopw [16, 15] (fun i v wr => ∃ (k : Nat) (g : Bool), k ≤ a.length ∧ i = .int .i64 k ∧ v = .bool g ∧ (g = true → ∀ (j : Nat) (x y : Int), j < k → a[j]? = some x → b[j]? = some y → x ≤ y) ∧ Ext w4 wr) (fun i _ _ => a.length - (intOf i).toNat)
  case atStart => exact ⟨0, true, by omega, rfl, rfl, fun _ j x y hj => absurd hj (by omega), Ext.refl _⟩
  case round =>
    obtain ⟨k, g, hk, rfl, rfl, hg, he⟩ := hrel
    have HG := Lib.hid hg
    clear hg
    have hw : Ext w wr := hx4.trans he
    by_cases hlt : k < a.length
    · obtain ⟨ba, oa, x, rfl, hba, hx, cx⟩ := (HA.out.1.ext hw).at_ (i := k) hlt
      obtain ⟨bb, ob, y, rfl, hbb, hy, cy⟩ := (HB.out.1.ext hw).at_ (i := k) (by show k < b.length; rw [HL.out]; exact hlt)
      have hka : (k : Int) < (a.length : Int) := by omega
      have hkb : (k : Int) < (b.length : Int) := by rw [HL.out]; omega
      have HX := Lib.hid hx
      have HY := Lib.hid hy
      clear hx hy
      have hgo : ∀ j x' y', g = true → (g = true → x ≤ y) → j < k + 1 → a[j]? = some x' → b[j]? = some y' → x' ≤ y' := by
        intro j x' y' e1 e2 hj h1 h2
        rcases Nat.lt_or_ge j k with g1 | g1
        · exact HG.out e1 j x' y' g1 h1 h2
        · obtain rfl : j = k := by omega
          rw [HX.out] at h1
          rw [HY.out] at h2
          injection h1 with h1
          injection h2 with h2
          have := e2 e1
          omega
      have HGO := Lib.hid hgo
      clear hgo
      cases g with
      | true =>
        go_wp2
        go_quiet (fail)
        go_wp2
        go_roundw
        case rel => exact ⟨k + 1, decide (x ≤ y), by omega, by go_num, rfl, fun e j x' y' hj h1 h2 => HGO.out j x' y' (by trivial) (fun _ => by simpa using e) hj h1 h2, he.drewN _⟩
        case measure => simp [intOf]; omega
      | false =>
        go_wp2
        go_quiet (fail)
        go_wp2
        go_roundw
        case rel => exact ⟨k + 1, false, by omega, by go_num, rfl, fun e => (by cases e), he.drewN _⟩
        case measure => simp [intOf]; omega
    · have hg2 : g = true → ta ≤ tb := fun e => HMONO.out (fun j x y h1 h2 => HG.out e j x y (by
        rcases Nat.lt_or_ge j a.length with g1 | g1
        · omega
        · rw [List.getElem?_eq_none g1] at h1; cases h1) h1 h2)
      have hge : (a.length : Int) ≤ (k : Int) := by omega
      have bx5 : wr.cell? ⟨w.heap.size, 0, none⟩ = some (.int .i64 id) := he.keep bx4
      have by5 : wr.cell? ⟨w.heap.size, 1, none⟩ = some (.slice A ts.length c) := he.keep by4
      have hx5 := hw
      clear bx4 by4 HG
      have hbt : g = false ∨ (g = true ∧ ta ≤ tb) := by
        cases g with
        | true => exact Or.inr ⟨rfl, hg2 rfl⟩
        | false => exact Or.inl rfl
      clear hg2
      have dz : (decide (dab = 0) == decide (a = b)) = true := by rw [DZ.out]; simp
      have dz2 : ((dab == 0) == decide (a = b)) = true := by rw [← dz]; congr 1
      rcases hbt with rfl | ⟨rfl, hle⟩
      all_goals
        go_wp2_with fail
        refine (apart_any id A c ts X xc a Y yc b _ (H.out.ext hx5) (HA.out.ext hx5) (HB.out.ext hx5)).mono ?_
        rintro e w6 ⟨rfl, hb6⟩
        have bx6 : w6.cell? ⟨w.heap.size, 0, none⟩ = some (.int .i64 id) := hb6.keep bx5
        have by6 : w6.cell? ⟨w.heap.size, 1, none⟩ = some (.slice A ts.length c) := hb6.keep by5
        have hx6 := hx5.trans hb6
        clear bx5 by5
        rw [AB.out, E1.out]
        go_wp2_with fail
        refine (apart_any id A c ts Y yc b X xc a _ (H.out.ext hx6) (HB.out.ext hx6) (HA.out.ext hx6)).mono ?_
        rintro e w7 ⟨rfl, hb7⟩
        have bx7 : w7.cell? ⟨w.heap.size, 0, none⟩ = some (.int .i64 id) := hb7.keep bx6
        have by7 : w7.cell? ⟨w.heap.size, 1, none⟩ = some (.slice A ts.length c) := hb7.keep by6
        have hx7 := hx6.trans hb7
        clear bx6 by6
        rw [BA.out, E2.out]
        go_wp2_with fail
        refine (apart_any id A c ts Y yc b Z zc d _ (H.out.ext hx7) (HB.out.ext hx7) (HD.out.ext hx7)).mono ?_
        rintro e w8 ⟨rfl, hb8⟩
        have bx8 : w8.cell? ⟨w.heap.size, 0, none⟩ = some (.int .i64 id) := hb8.keep bx7
        have by8 : w8.cell? ⟨w.heap.size, 1, none⟩ = some (.slice A ts.length c) := hb8.keep by7
        have hx8 := hx7.trans hb8
        clear bx7 by7
        rw [BC.out, E3.out]
        go_wp2_with fail
        refine (apart_any id A c ts X xc a Z zc d _ (H.out.ext hx8) (HA.out.ext hx8) (HD.out.ext hx8)).mono ?_
        rintro e w9 ⟨rfl, hb9⟩
        have bx9 : w9.cell? ⟨w.heap.size, 0, none⟩ = some (.int .i64 id) := hb9.keep bx8
        have by9 : w9.cell? ⟨w.heap.size, 1, none⟩ = some (.slice A ts.length c) := hb9.keep by8
        have hx9 := hx8.trans hb9
        clear bx8 by8
        rw [AC.out, E4.out]
        go_wp2_with fail
        refine (ints_any X xc a Y yc b _ (HA.out.1.ext hx9) (HB.out.1.ext hx9) (Nat.le_trans HA.out.2.1 HA.out.2.2.1)).mono ?_
        rintro e w10 ⟨rfl, hb10⟩
        have bx10 : w10.cell? ⟨w.heap.size, 0, none⟩ = some (.int .i64 id) := hb10.keep bx9
        have by10 : w10.cell? ⟨w.heap.size, 1, none⟩ = some (.slice A ts.length c) := hb10.keep by9
        have hx10 := hx9.trans hb10
        clear bx9 by9
        go_wp2
        go_ret
        exact ⟨ret_bool (by simp [*]), hx10⟩

theorem rubricMonotone_walk (id : Int) (A : Option Addr) (c : Nat) (ts : List Rub.Trait) (X : Option Addr) (xc : Nat) (a : List Int) (Y : Option Addr) (yc : Nat) (b : List Int) (Z : Option Addr) (zc : Nat) (d : List Int) (w : World)
    (h : RubIn w id A c ts) (ha : (⟨X, xc, a⟩ : IL).In w) (hb : (⟨Y, yc, b⟩ : IL).In w) (hd : (⟨Z, zc, d⟩ : IL).In w) :
    Calls Try.prog 5 #[.agg #[.int .i64 id, .slice A ts.length c], .slice X a.length xc, .slice Y b.length yc, .slice Z d.length zc] w fun e w' => e = .returned (.bool true) ∧ Ext w w' := by
  by_cases hv : Rub.validE id ts = 0
  · by_cases z1 : Rub.checkE id ts a = 0
    · by_cases z2 : Rub.checkE id ts b = 0
      · by_cases z3 : Rub.checkE id ts d = 0
        · exact mono_good id A c ts X xc a Y yc b Z zc d w h ha hb hd z1 z2 z3
        · exact mono_part3 id A c ts X xc a Y yc b Z zc d w h ha hb hd hv z1 z2 z3
      · exact mono_part2 id A c ts X xc a Y yc b Z zc d w h ha hb hd hv z1 z2
    · exact mono_part1 id A c ts X xc a Y yc b Z zc d w h ha hb hd hv z1
  · exact mono_bad id A c ts X xc a Y yc b Z zc d w h ha hb hd hv

theorem rubricMonotone_lifted (os : Os) (started : os.Started) (H : Type) (enc : TypeId × Value → H) :
    ReturnsInHanded {} Try.checked os 5 .any (Rows.rubricMonotoneSpec.pre6 enc Try.prog Try.f5 Rows.rubricMonotoneRow.domain false) (Rows.rubricMonotoneSpec.post enc Try.prog Try.f5 false true false false) := by
  refine returnsInHanded_of_change (C := Try.checked) Try.own started (by kernel_rfl) Try.func5
    (ChangeSpec.witness6 (enc := enc) (C := Try.checked) false ⟨#[], #[.agg #[.int .i64 0, .slice none 0 0], .slice none 0 0, .slice none 0 0, .slice none 0 0], []⟩ 8 (by kernel_rfl) (by kernel_rfl) (by kernel_rfl) (by kernel_rfl)) ?_
  intro W base args ds gs before hval0 hW _ _
  have hval : ∀ (j : Nat) t v, Try.f5.params[j]? = some t → args[j]? = some v → Value.okWide Try.prog W .any base t v := hval0
  have hW' := hW
  obtain ⟨p, q, hA0, hV, rfl, hfz, hnd⟩ := hW
  have hA : DataW.TrodAll enc Try.prog W 0 (fun _ => true) true Try.f5.params.toList args.toList ds p := hA0
  rw [Try.params5] at hA hval
  obtain ⟨v0, vs0, d0, ds0, p0, q0, hargs, rfl, rfl, h0, r0⟩ := trodAll_cons hA
  obtain ⟨v1, vs1, d1, ds1, p1, q1, rfl, rfl, rfl, h1, r1⟩ := trodAll_cons r0
  obtain ⟨v2, vs2, d2, ds2, p2, q2, rfl, rfl, rfl, h2, r2⟩ := trodAll_cons r1
  obtain ⟨v3, vs3, d3, ds3, p3, q3, rfl, rfl, rfl, h3, r3⟩ := trodAll_cons r2
  obtain ⟨rfl, rfl, rfl⟩ := trodAll_nil r3
  obtain rfl : args = #[v0, v1, v2, v3] := by cases args; simp_all
  obtain ⟨rfl, rfl⟩ := trodVars_none hV
  obtain ⟨id, A, c, ts, rfl, g0⟩ := rub_open (hval 0 24 v0 rfl rfl) h0
  obtain ⟨X, xc, a, rfl, g1⟩ := ints_open (hval 1 25 v1 rfl rfl) h1
  obtain ⟨Y, yc, b, rfl, g2⟩ := ints_open (hval 2 25 v2 rfl rfl) h2
  obtain ⟨Z, zc, d, rfl, g3⟩ := ints_open (hval 3 25 v3 rfl rfl) h3
  refine (rubricMonotone_walk id A c ts X xc a Y yc b Z zc d W g0 g1 g2 g3).mono fun e W' ⟨he, hw⟩ => ?_
  subst he
  exact ⟨_, rfl, law_post hW' Try.laidOut (by kernel_rfl) rfl (by rfl) rfl Try.underlying4 hw⟩

theorem rubricMonotone_holds : Rows.RubricMonotoneSaid :=
  OpenClaim.holds_of_wide 5 Try.f5 rfl rfl rfl rfl rfl rfl rfl ⟨rfl, rfl, rfl, rfl, rfl⟩ rfl rfl rfl rfl rfl (by kernel_rfl) Try.func5 (by kernel_rfl)
    (of_decide_eq_true (by kernel_rfl)) (by unfold Func.isWrapper; first | (rw [if_pos (by decide +kernel)]; kernel_rfl) | (rw [if_neg (by decide +kernel)]; exact ⟨rfl, rfl⟩))
    (fun os started H enc _ => rubricMonotone_lifted os started H enc)
#print axioms rubricMonotone_holds
end Go.Proofs.Ythjledbomonfpaa
