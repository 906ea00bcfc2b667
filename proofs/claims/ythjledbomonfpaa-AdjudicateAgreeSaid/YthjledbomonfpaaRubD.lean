/- rubric.Apart, Median, the reference's Apart, middle and Median, and the law's ints: contracts for the walk. Conditions: those of each theorem. -/
import Derived.Test.YthjledbomonfpaaRubC
namespace Go.Proofs.Ythjledbomonfpaa
open Go.RowKit

theorem checkAll2 (id : Int) (A : Option Addr) (c : Nat) (ts : List Rub.Trait) (X : Option Addr) (xc : Nat) (a : List Int) (Y : Option Addr) (yc : Nat) (b : List Int) (L : Option Addr) (w : World)
    (h : RubIn w id A c ts) (ha : (⟨X, xc, a⟩ : IL).In w) (hb : (⟨Y, yc, b⟩ : IL).In w) (hL : Sl w 1 L [[.slice X a.length xc], [.slice Y b.length yc]]) :
    Calls Try.prog 34 #[.agg #[.int .i64 id, .slice A ts.length c], .slice L 2 2] w fun e w' => e = .returned (.int .i64 (Rub.checkAllE id ts [a, b])) ∧ Ext w w' :=
  checkAll_any id A c ts L 2 [⟨X, xc, a⟩, ⟨Y, yc, b⟩] w h ⟨hL, fun x hx => by
    simp at hx
    rcases hx with rfl | rfl
    · exact ha
    · exact hb⟩ (by simp [maxLen])
theorem checkAll3 (id : Int) (A : Option Addr) (c : Nat) (ts : List Rub.Trait) (X : Option Addr) (xc : Nat) (a : List Int) (Y : Option Addr) (yc : Nat) (b : List Int) (Z : Option Addr) (zc : Nat) (d : List Int) (L : Option Addr) (w : World)
    (h : RubIn w id A c ts) (ha : (⟨X, xc, a⟩ : IL).In w) (hb : (⟨Y, yc, b⟩ : IL).In w) (hd : (⟨Z, zc, d⟩ : IL).In w) (hL : Sl w 1 L [[.slice X a.length xc], [.slice Y b.length yc], [.slice Z d.length zc]]) :
    Calls Try.prog 34 #[.agg #[.int .i64 id, .slice A ts.length c], .slice L 3 3] w fun e w' => e = .returned (.int .i64 (Rub.checkAllE id ts [a, b, d])) ∧ Ext w w' :=
  checkAll_any id A c ts L 3 [⟨X, xc, a⟩, ⟨Y, yc, b⟩, ⟨Z, zc, d⟩] w h ⟨hL, fun x hx => by
    simp at hx
    rcases hx with rfl | rfl | rfl
    · exact ha
    · exact hb
    · exact hd⟩ (by simp [maxLen])

theorem apart_bd {id : Int} {ts : List Rub.Trait} {ms : List Int} (h : Rub.checkE id ts ms = 0) {k : Nat} {m : Int} (hm : ms[k]? = some m) : 0 ≤ m ∧ m ≤ 10 := by
  obtain ⟨hv, hl, hmk⟩ := Rub.check_zero h
  obtain ⟨l1, l2, hall⟩ := Rub.valid_zero hv
  have hk : k < ms.length := by
    rcases Nat.lt_or_ge k ms.length with g | g
    · exact g
    · rw [List.getElem?_eq_none g] at hm; cases hm
  have ht := List.getElem?_eq_getElem (l := ts) (i := k) (by omega)
  have h1 := Rub.marks_at hmk ht hm
  have h2 := hall _ (List.mem_of_getElem? ht)
  omega

set_option maxHeartbeats 800000 in
theorem apart_any (id : Int) (A : Option Addr) (c : Nat) (ts : List Rub.Trait) (X : Option Addr) (xc : Nat) (a : List Int) (Y : Option Addr) (yc : Nat) (b : List Int) (w : World)
    (h : RubIn w id A c ts) (ha : (⟨X, xc, a⟩ : IL).In w) (hb : (⟨Y, yc, b⟩ : IL).In w) :
    Calls Try.prog 14 #[.agg #[.int .i64 id, .slice A ts.length c], .slice X a.length xc, .slice Y b.length yc] w fun e w' => e = .returned (.tuple #[.int .i64 (Rub.apartV id ts a b), .int .i64 (Rub.checkAllE id ts [a, b])]) ∧ Ext w w' := by
  have H := Lib.hid h
  have HA := Lib.hid ha
  have HB := Lib.hid hb
  clear h ha hb
  unfold Rub.apartV
  by_cases hz : Rub.checkAllE id ts [a, b] = 0
  · rw [if_pos hz, hz]
    have HZ := Lib.hid hz
    have z1 := Rub.all_zero hz a (by simp)
    have z2 := Rub.all_zero hz b (by simp)
    obtain ⟨hv, hl1, -⟩ := Rub.check_zero z1
    obtain ⟨-, hl2, -⟩ := Rub.check_zero z2
    obtain ⟨l1, l2, -⟩ := Rub.valid_zero hv
    have a6 : a.length ≤ 6 := by omega
    have HL : Hid (b.length = a.length) := by show b.length = a.length; omega
    have Z1 := Lib.hid z1
    have Z2 := Lib.hid z2
    clear z1 z2 hv hl1 hl2 l1 l2 hz
    go_enter Try.func14, Try.ntmps14
    go_wp2_with fail
    have hx2 : Ext w ((w.alloc (.cells #[.int .i64 id, .slice A ts.length c] 24)).alloc (.cells #[.slice X a.length xc, .slice Y b.length yc] 25)) := ((Ext.refl _).alloc _).alloc _
    have hsl := Sl.new_at (w.alloc (.cells #[.int .i64 id, .slice A ts.length c] 24)) [.slice X a.length xc, .slice Y b.length yc] 25 (w.heap.size + 1) (by simp)
    refine (checkAll2 id A c ts X xc a Y yc b _ _ (H.out.ext hx2) (HA.out.ext hx2) (HB.out.ext hx2) hsl).mono ?_
    rintro e w1 ⟨rfl, hb1⟩
    rw [HZ.out]
    go_wp2
    go_loopw [21, 9] (fun i s wr => ∃ (k : Nat) (n : Int), k ≤ a.length ∧ i = .int .i64 k ∧ s = .int .i64 n ∧ n = Rub.dist ((a.zip b).take k) 0 ∧ 0 ≤ n ∧ n ≤ 10 ∧ Ext w1 wr) (fun i _ _ => a.length - (intOf i).toNat)
    case atStart => exact ⟨0, 0, by omega, rfl, rfl, rfl, by omega, by omega, Ext.refl _⟩
    case round =>
      obtain ⟨k, n, hk, rfl, rfl, hn, hn0, hn1, he⟩ := hrel
      have HN := Lib.hid hn
      clear hn
      have hw : Ext w wr := (hx2.trans hb1).trans he
      by_cases hlt : k < a.length
      · obtain ⟨ba, oa, x, rfl, hba, hx, cx⟩ := (HA.out.1.ext hw).at_ (i := k) hlt
        obtain ⟨bb, ob, y, rfl, hbb, hy, cy⟩ := (HB.out.1.ext hw).at_ (i := k) (by show k < b.length; rw [HL.out]; exact hlt)
        obtain ⟨x0, x1⟩ := apart_bd Z1.out hx
        obtain ⟨y0, y1⟩ := apart_bd Z2.out hy
        have HZP : Hid ((a.zip b)[k]? = some (x, y)) := by show (a.zip b)[k]? = some (x, y); rw [List.getElem?_zip_eq_some]; exact ⟨hx, hy⟩
        have hki : (k : Int) < (b.length : Int) := by rw [HL.out]; omega
        have hki2 : (k : Int) < (a.length : Int) := by omega
        clear hx hy
        go_wp2
        go_quiet (fail)
        go_wp2
        go_roundw
        case rel =>
          refine ⟨k + 1, _, by omega, by go_num, rfl, ?_, ?_, ?_, he.drewN _⟩
          · rw [Rub.ite_max2, Rub.take_snoc HZP.out, Rub.dist_snoc, ← HN.out]
          · rw [Rub.ite_max2]; omega
          · rw [Rub.ite_max2]; omega
        case measure => simp [intOf]; omega
      · go_wp2
        go_ret2
        refine ⟨ret_two ?_ rfl, hw⟩
        rw [HN.out, List.take_of_length_le (by rw [List.length_zip, HL.out]; omega)]
  · have hz' : (Rub.checkAllE id ts [a, b] != 0) = true := by rw [bne_iff_ne]; exact hz
    rw [if_neg hz]
    clear hz
    go_enter Try.func14, Try.ntmps14
    go_wp2_with fail
    have hx2 : Ext w ((w.alloc (.cells #[.int .i64 id, .slice A ts.length c] 24)).alloc (.cells #[.slice X a.length xc, .slice Y b.length yc] 25)) := ((Ext.refl _).alloc _).alloc _
    have hsl := Sl.new_at (w.alloc (.cells #[.int .i64 id, .slice A ts.length c] 24)) [.slice X a.length xc, .slice Y b.length yc] 25 (w.heap.size + 1) (by simp)
    refine (checkAll2 id A c ts X xc a Y yc b _ _ (H.out.ext hx2) (HA.out.ext hx2) (HB.out.ext hx2) hsl).mono ?_
    rintro e w1 ⟨rfl, hb1⟩
    go_wp2
    go_ret2
    exact ⟨rfl, hx2.trans hb1⟩

set_option maxHeartbeats 800000 in
theorem refApart_any (id : Int) (A : Option Addr) (c : Nat) (ts : List Rub.Trait) (X : Option Addr) (xc : Nat) (a : List Int) (Y : Option Addr) (yc : Nat) (b : List Int) (w : World)
    (h : RubIn w id A c ts) (ha : (⟨X, xc, a⟩ : IL).In w) (hb : (⟨Y, yc, b⟩ : IL).In w) :
    Calls Try.prog 15 #[.agg #[.int .i64 id, .slice A ts.length c], .slice X a.length xc, .slice Y b.length yc] w fun e w' => e = .returned (.tuple #[.int .i64 (Rub.apartV id ts a b), .int .i64 (Rub.checkAllE id ts [a, b])]) ∧ Ext w w' := by
  have H := Lib.hid h
  have HA := Lib.hid ha
  have HB := Lib.hid hb
  clear h ha hb
  unfold Rub.apartV
  have hx1 : Ext w (w.alloc (.cells #[.int .i64 id, .slice A ts.length c] 24)) := (Ext.refl _).alloc _
  by_cases z1 : Rub.checkE id ts a = 0
  · by_cases z2 : Rub.checkE id ts b = 0
    · have hz : Rub.checkAllE id ts [a, b] = 0 := by simp [Rub.checkAllE, z1, z2]
      rw [if_pos hz, hz]
      obtain ⟨hv, hl1, -⟩ := Rub.check_zero z1
      obtain ⟨-, hl2, -⟩ := Rub.check_zero z2
      obtain ⟨l1, l2, -⟩ := Rub.valid_zero hv
      have a6 : a.length ≤ 6 := by omega
      have HL : Hid (b.length = a.length) := by show b.length = a.length; omega
      have Z1 := Lib.hid z1
      have Z2 := Lib.hid z2
      clear z1 z2 hv hl1 hl2 l1 l2 hz
      go_enter Try.func15, Try.ntmps15
      go_wp2_with fail
      refine (refCheck_any id A c ts X xc a _ (H.out.ext hx1) (HA.out.1.ext hx1) (Nat.le_trans HA.out.2.1 HA.out.2.2.1)).mono ?_
      rintro e w1 ⟨rfl, hb1⟩
      rw [Z1.out]
      have bx0 : w1.cell? ⟨w.heap.size, 0, none⟩ = some (.int .i64 id) := hb1.keep (by simp [go_sem])
      have bx1 : w1.cell? ⟨w.heap.size, 1, none⟩ = some (.slice A ts.length c) := hb1.keep (by simp [go_sem])
      have hx2 := hx1.trans hb1
      go_wp2_with fail
      refine (refCheck_any id A c ts Y yc b _ (H.out.ext hx2) (HB.out.1.ext hx2) (Nat.le_trans HB.out.2.1 HB.out.2.2.1)).mono ?_
      rintro e w2 ⟨rfl, hb2⟩
      rw [Z2.out]
      have hx3 := hx2.trans hb2
      go_wp2
      go_loopw [10, 9] (fun i s wr => ∃ (k : Nat) (n : Int), k ≤ a.length ∧ i = .int .i64 k ∧ s = .int .i64 n ∧ n = Rub.dist ((a.zip b).take k) 0 ∧ 0 ≤ n ∧ n ≤ 10 ∧ Ext w2 wr) (fun i _ _ => a.length - (intOf i).toNat)
      case atStart => exact ⟨0, 0, by omega, rfl, rfl, rfl, by omega, by omega, Ext.refl _⟩
      case round =>
        obtain ⟨k, n, hk, rfl, rfl, hn, hn0, hn1, he⟩ := hrel
        have HN := Lib.hid hn
        clear hn
        have hw : Ext w wr := hx3.trans he
        by_cases hlt : k < a.length
        · obtain ⟨ba, oa, x, rfl, hba, hx, cx⟩ := (HA.out.1.ext hw).at_ (i := k) hlt
          obtain ⟨bb, ob, y, rfl, hbb, hy, cy⟩ := (HB.out.1.ext hw).at_ (i := k) (by show k < b.length; rw [HL.out]; exact hlt)
          obtain ⟨x0, x1⟩ := apart_bd Z1.out hx
          obtain ⟨y0, y1⟩ := apart_bd Z2.out hy
          have HZP : Hid ((a.zip b)[k]? = some (x, y)) := by show (a.zip b)[k]? = some (x, y); rw [List.getElem?_zip_eq_some]; exact ⟨hx, hy⟩
          have hki : (k : Int) < (b.length : Int) := by rw [HL.out]; omega
          have hki2 : (k : Int) < (a.length : Int) := by omega
          clear hx hy
          go_wp2
          go_quiet (fail)
          go_wp2
          all_goals
            go_roundw
            case rel =>
              refine ⟨k + 1, _, by omega, by go_num, rfl, ?_, by omega, by omega, he.drewN _⟩
              rw [Rub.take_snoc HZP.out, Rub.dist_snoc, ← HN.out]
              show _ = max (max n (x - y)) (y - x)
              omega
            case measure => simp [intOf]; omega
        · go_wp2
          go_ret2
          refine ⟨ret_two ?_ rfl, hw⟩
          rw [HN.out, List.take_of_length_le (by rw [List.length_zip, HL.out]; omega)]
    · have hz : Rub.checkAllE id ts [a, b] = Rub.checkE id ts b := by simp [Rub.checkAllE, z1, z2]
      rw [hz, if_neg z2]
      have z2' : (Rub.checkE id ts b != 0) = true := by rw [bne_iff_ne]; exact z2
      have Z1 := Lib.hid z1
      clear z1 z2 hz
      go_enter Try.func15, Try.ntmps15
      go_wp2_with fail
      refine (refCheck_any id A c ts X xc a _ (H.out.ext hx1) (HA.out.1.ext hx1) (Nat.le_trans HA.out.2.1 HA.out.2.2.1)).mono ?_
      rintro e w1 ⟨rfl, hb1⟩
      rw [Z1.out]
      have bx0 : w1.cell? ⟨w.heap.size, 0, none⟩ = some (.int .i64 id) := hb1.keep (by simp [go_sem])
      have bx1 : w1.cell? ⟨w.heap.size, 1, none⟩ = some (.slice A ts.length c) := hb1.keep (by simp [go_sem])
      have hx2 := hx1.trans hb1
      go_wp2_with fail
      refine (refCheck_any id A c ts Y yc b _ (H.out.ext hx2) (HB.out.1.ext hx2) (Nat.le_trans HB.out.2.1 HB.out.2.2.1)).mono ?_
      rintro e w2 ⟨rfl, hb2⟩
      go_wp2
      go_ret2
      exact ⟨rfl, hx2.trans hb2⟩
  · have hz : Rub.checkAllE id ts [a, b] = Rub.checkE id ts a := by simp [Rub.checkAllE, z1]
    rw [hz, if_neg z1]
    have z1' : (Rub.checkE id ts a == 0) = false := by rw [beq_eq_false_iff_ne]; exact z1
    have z1'' : (Rub.checkE id ts a != 0) = true := by rw [bne_iff_ne]; exact z1
    clear z1 hz
    go_enter Try.func15, Try.ntmps15
    go_wp2_with fail
    refine (refCheck_any id A c ts X xc a _ (H.out.ext hx1) (HA.out.1.ext hx1) (Nat.le_trans HA.out.2.1 HA.out.2.2.1)).mono ?_
    rintro e w1 ⟨rfl, hb1⟩
    go_wp2
    go_ret2
    exact ⟨rfl, hx1.trans hb1⟩

set_option maxHeartbeats 400000 in
theorem middle_any (a b c : Int) (w : World) :
    Calls Try.prog 36 #[.int .i64 a, .int .i64 b, .int .i64 c] w fun e w' => e = .returned (.int .i64 (Rub.mid a b c)) ∧ w = w' := by
  go_enter Try.func36, Try.ntmps36
  go_wp2
  all_goals
    go_ret
    refine ⟨ret_int ?_, rfl⟩
    unfold Rub.mid
    omega

set_option maxHeartbeats 400000 in
theorem ints_any (X : Option Addr) (xc : Nat) (a : List Int) (Y : Option Addr) (yc : Nat) (b : List Int) (w : World) (ha : SlI w X a) (hb : SlI w Y b) (hal : a.length ≤ maxLen) :
    Calls Try.prog 13 #[.slice X a.length xc, .slice Y b.length yc] w fun e w' => e = .returned (.bool (decide (a = b))) ∧ Ext w w' := by
  have HA := Lib.hid ha
  have HB := Lib.hid hb
  unfold maxLen at hal
  clear ha hb
  by_cases hl : a.length = b.length
  · have hl' : ((a.length : Int) != (b.length : Int)) = false := by rw [bne_eq_false_iff_eq]; omega
    have HL := Lib.hid hl
    clear hl
    go_enter Try.func13, Try.ntmps13
    go_wp2
    go_loopw [5] (fun i wr => ∃ k : Nat, k ≤ a.length ∧ i = .int .i64 k ∧ (∀ j, j < k → a[j]? = b[j]?) ∧ Ext w wr) (fun i _ => a.length - (intOf i).toNat)
    case atStart => exact ⟨0, by omega, rfl, fun j hj => absurd hj (by omega), Ext.refl _⟩
    case round =>
      obtain ⟨k, hk, rfl, hall, he⟩ := hrel
      have HALL := Lib.hid hall
      clear hall
      by_cases hlt : k < a.length
      · obtain ⟨ba, oa, x, rfl, hba, hx, cx⟩ := (HA.out.ext he).at_ (i := k) hlt
        obtain ⟨bb, ob, y, rfl, hbb, hy, cy⟩ := (HB.out.ext he).at_ (i := k) (by rw [← HL.out]; exact hlt)
        have hki : (k : Int) < (b.length : Int) := by rw [← HL.out]; omega
        have hki2 : (k : Int) < (a.length : Int) := by omega
        have HX := Lib.hid hx
        have HY := Lib.hid hy
        clear hx hy
        by_cases hxy : x = y
        · subst hxy
          go_wp2
          go_quiet (fail)
          go_wp2
          go_roundw
          case rel =>
            refine ⟨k + 1, by omega, by go_num, fun j hj => ?_, he.drewN _⟩
            rcases Nat.lt_or_ge j k with g | g
            · exact HALL.out j g
            · obtain rfl : j = k := by omega
              rw [HX.out, HY.out]
          case measure => simp [intOf]; omega
        · have hxy' : (x != y) = true := by rw [bne_iff_ne]; exact hxy
          have HXY := Lib.hid hxy
          clear hxy
          go_wp2
          go_quiet (fail)
          go_wp2
          go_ret
          refine ⟨ret_bool ?_, he.drewN _⟩
          symm
          rw [decide_eq_false_iff_not]
          intro e
          have h1 := HX.out
          rw [e, HY.out] at h1
          injection h1 with h1
          exact HXY.out h1.symm
      · go_wp2
        go_ret
        refine ⟨ret_bool ?_, he⟩
        symm
        rw [decide_eq_true_iff]
        apply List.ext_getElem?
        intro j
        rcases Nat.lt_or_ge j k with g | g
        · exact HALL.out j g
        · rw [List.getElem?_eq_none (by omega), List.getElem?_eq_none (by rw [← HL.out]; omega)]
  · have hl' : ((a.length : Int) != (b.length : Int)) = true := by rw [bne_iff_ne]; omega
    have HL := Lib.hid hl
    clear hl
    go_enter Try.func13, Try.ntmps13
    go_wp2
    go_ret
    refine ⟨ret_bool ?_, Ext.refl _⟩
    symm
    rw [decide_eq_false_iff_not]
    intro e
    exact HL.out (by rw [e])
end Go.Proofs.Ythjledbomonfpaa
