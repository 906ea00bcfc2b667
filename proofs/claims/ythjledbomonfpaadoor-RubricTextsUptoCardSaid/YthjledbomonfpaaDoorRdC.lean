/- Total and Most in both, the law's ints: contracts for the walk. Conditions: those of each theorem. -/
import Derived.Test.YthjledbomonfpaaDoorRubB
import Derived.Test.YthjledbomonfpaaDoorIL
import Derived.Test.YthjledbomonfpaaDoorRubQ
namespace Go.Proofs.YthjledbomonfpaaDoor
open Go.RowKit

set_option maxHeartbeats 800000 in
theorem total_any (id : Int) (A : Option Addr) (c : Nat) (ts : List Rub.Trait) (M : Option Addr) (d : Nat) (ms : List Int) (w : World) (h : RubIn w id A c ts) (hM : SlI w M ms) (hd : ms.length ≤ maxLen) :
    Calls Tryd.prog 13 #[.agg #[.int .i64 id, .slice A ts.length c], .slice M ms.length d] w fun e w' => e = .returned (.tuple #[.int .i64 (Rub.totV id ts ms), .int .i64 (Rub.checkE id ts ms)]) ∧ Ext w w' := by
  have H := Lib.hid h
  have HS := Lib.hid h.1
  have HM := Lib.hid hM
  have HD := Lib.hid hd
  unfold Rub.totV
  clear h hM hd
  by_cases hz : Rub.checkE id ts ms = 0
  · obtain ⟨hv, hl, hmk⟩ := Rub.check_zero hz
    obtain ⟨l1, l2, hall⟩ := Rub.valid_zero hv
    have HZ := Lib.hid hz
    have HL := Lib.hid hl
    have HMK := Lib.hid hmk
    have HALL := Lib.hid hall
    rw [if_pos hz, hz]
    clear hz hv hl hmk hall
    go_enter Tryd.func13, Tryd.ntmps13
    go_wp2_with fail
    refine (check_any id A c ts M d ms _ (H.out.ext ((Ext.refl _).alloc _)) (HM.out.ext ((Ext.refl _).alloc _)) HD.out).mono ?_
    rintro e w1 ⟨rfl, hb1⟩
    rw [HZ.out]
    have bx1 : w1.cell? ⟨w.heap.size, 1, none⟩ = some (.slice A ts.length c) := hb1.keep (by simp [go_sem])
    have hz1 := hb1.size
    simp at hz1
    have z10 : w.heap.size < w1.heap.size := by omega
    go_wp2
    go_loopw [19, 7] (fun i s wr => ∃ (k : Nat) (n : Int), k ≤ ts.length ∧ i = .int .i64 k ∧ s = .int .i64 n ∧ n = Rub.tot ((ts.zip ms).take k) ∧ 0 ≤ n ∧ n ≤ 100 * k ∧ Ext w1 wr) (fun i _ _ => ts.length - (intOf i).toNat)
    case atStart => exact ⟨0, 0, by omega, rfl, rfl, rfl, by omega, by omega, Ext.refl _⟩
    case round =>
      obtain ⟨k, n, hk, rfl, rfl, hn, hn0, hn1, he⟩ := hrel
      have HN := Lib.hid hn
      clear hn
      have hw : Ext w wr := (((Ext.refl _).alloc _).trans hb1).trans he
      by_cases hlt : k < ts.length
      · obtain ⟨t, ht⟩ : ∃ t, ts[k]? = some t := ⟨ts[k], List.getElem?_eq_getElem hlt⟩
        obtain ⟨b, off, rfl, hb, c0, c1, c2⟩ := (HS.out.ext hw).at_ ht
        obtain ⟨b', off', m, rfl, hb', hm, cm⟩ := (HM.out.ext hw).at_ (i := k) (by rw [HL.out]; exact hlt)
        have hmt := Rub.marks_at HMK.out ht hm
        have htt := HALL.out t (List.mem_of_getElem? ht)
        obtain ⟨p1, p2⟩ := Rub.mark_weight hmt.1 hmt.2 htt.2.1 htt.2.2.1 htt.2.2.2
        have HZP := Lib.hid (Rub.zip_at ht hm)
        have hki : (k : Int) < (ms.length : Int) := by rw [HL.out]; omega
        clear ht hm hmt htt
        go_wp2
        go_quiet (fail)
        go_wp2
        go_roundw
        case rel => exact ⟨k + 1, n + m * t.weight, by omega, by go_num, rfl, by rw [Rub.take_snoc HZP.out, Rub.tot_snoc, HN.out], by omega, by omega, (he.alloc _).drewN _⟩
        case measure => simp [intOf]; omega
      · go_wp2
        go_ret2
        refine ⟨ret_two ?_ rfl, hw⟩
        rw [HN.out, List.take_of_length_le (by rw [List.length_zip, HL.out]; omega)]
  · have hz' : (Rub.checkE id ts ms != 0) = true := by rw [bne_iff_ne]; exact hz
    rw [if_neg hz]
    clear hz
    go_enter Tryd.func13, Tryd.ntmps13
    go_wp2_with fail
    refine (check_any id A c ts M d ms _ (H.out.ext ((Ext.refl _).alloc _)) (HM.out.ext ((Ext.refl _).alloc _)) HD.out).mono ?_
    rintro e w1 ⟨rfl, hb1⟩
    go_wp2
    go_ret2
    exact ⟨rfl, ((Ext.refl _).alloc _).trans hb1⟩
set_option maxHeartbeats 800000 in
theorem refTotal_any (id : Int) (A : Option Addr) (c : Nat) (ts : List Rub.Trait) (M : Option Addr) (d : Nat) (ms : List Int) (w : World) (h : RubIn w id A c ts) (hM : SlI w M ms) (hd : ms.length ≤ maxLen) :
    Calls Tryd.prog 14 #[.agg #[.int .i64 id, .slice A ts.length c], .slice M ms.length d] w fun e w' => e = .returned (.tuple #[.int .i64 (Rub.totV id ts ms), .int .i64 (Rub.checkE id ts ms)]) ∧ Ext w w' := by
  have H := Lib.hid h
  have HS := Lib.hid h.1
  have HM := Lib.hid hM
  have HD := Lib.hid hd
  unfold Rub.totV
  clear h hM hd
  by_cases hz : Rub.checkE id ts ms = 0
  · obtain ⟨hv, hl, hmk⟩ := Rub.check_zero hz
    obtain ⟨l1, l2, hall⟩ := Rub.valid_zero hv
    have HZ := Lib.hid hz
    have HL := Lib.hid hl
    have HMK := Lib.hid hmk
    have HALL := Lib.hid hall
    rw [if_pos hz, hz]
    clear hz hv hl hmk hall
    go_enter Tryd.func14, Tryd.ntmps14
    go_wp2_with fail
    refine (refCheck_any id A c ts M d ms _ (H.out.ext ((Ext.refl _).alloc _)) (HM.out.ext ((Ext.refl _).alloc _)) HD.out).mono ?_
    rintro e w1 ⟨rfl, hb1⟩
    rw [HZ.out]
    have bx1 : w1.cell? ⟨w.heap.size, 1, none⟩ = some (.slice A ts.length c) := hb1.keep (by simp [go_sem])
    have hz1 := hb1.size
    simp at hz1
    have z10 : w.heap.size < w1.heap.size := by omega
    go_wp2
    go_loopw [8, 7] (fun i s wr => ∃ (k : Nat) (n : Int), k ≤ ts.length ∧ i = .int .i64 k ∧ s = .int .i64 n ∧ n = Rub.tot ((ts.zip ms).take k) ∧ 0 ≤ n ∧ n ≤ 100 * k ∧ Ext w1 wr) (fun i _ _ => ts.length - (intOf i).toNat)
    case atStart => exact ⟨0, 0, by omega, rfl, rfl, rfl, by omega, by omega, Ext.refl _⟩
    case round =>
      obtain ⟨k, n, hk, rfl, rfl, hn, hn0, hn1, he⟩ := hrel
      have HN := Lib.hid hn
      clear hn
      have hw : Ext w wr := (((Ext.refl _).alloc _).trans hb1).trans he
      by_cases hlt : k < ts.length
      · obtain ⟨t, ht⟩ : ∃ t, ts[k]? = some t := ⟨ts[k], List.getElem?_eq_getElem hlt⟩
        obtain ⟨b, off, rfl, hb, c0, c1, c2⟩ := (HS.out.ext hw).at_ ht
        obtain ⟨b', off', m, rfl, hb', hm, cm⟩ := (HM.out.ext hw).at_ (i := k) (by rw [HL.out]; exact hlt)
        have hmt := Rub.marks_at HMK.out ht hm
        have htt := HALL.out t (List.mem_of_getElem? ht)
        obtain ⟨p1, p2⟩ := Rub.mark_weight hmt.1 hmt.2 htt.2.1 htt.2.2.1 htt.2.2.2
        have HZP := Lib.hid (Rub.zip_at ht hm)
        have hki : (k : Int) < (ms.length : Int) := by rw [HL.out]; omega
        clear ht hm hmt htt
        have bxr : wr.cell? ⟨w.heap.size, 1, none⟩ = some (.slice (some ⟨b, off, none⟩) ts.length c) := he.keep bx1
        have zr := he.size
        have zr0 : w.heap.size < wr.heap.size := by omega
        have hki2 : (k : Int) < (ts.length : Int) := by omega
        go_wp2
        go_quiet (fail)
        go_wp2
        go_roundw
        case rel => exact ⟨k + 1, n + m * t.weight, by omega, by go_num, rfl, by rw [Rub.take_snoc HZP.out, Rub.tot_snoc, HN.out], by omega, by omega, he.drewN _⟩
        case measure => simp [intOf]; omega
      · have hkn : (ms.length : Int) ≤ (k : Int) := by rw [HL.out]; omega
        go_wp2
        go_ret2
        refine ⟨ret_two ?_ rfl, hw⟩
        rw [HN.out, List.take_of_length_le (by rw [List.length_zip, HL.out]; omega)]
  · have hz' : (Rub.checkE id ts ms != 0) = true := by rw [bne_iff_ne]; exact hz
    rw [if_neg hz]
    clear hz
    go_enter Tryd.func14, Tryd.ntmps14
    go_wp2_with fail
    refine (refCheck_any id A c ts M d ms _ (H.out.ext ((Ext.refl _).alloc _)) (HM.out.ext ((Ext.refl _).alloc _)) HD.out).mono ?_
    rintro e w1 ⟨rfl, hb1⟩
    go_wp2
    go_ret2
    exact ⟨rfl, ((Ext.refl _).alloc _).trans hb1⟩
set_option maxHeartbeats 800000 in
theorem most_any (id : Int) (A : Option Addr) (c : Nat) (ts : List Rub.Trait) (w : World) (h : RubIn w id A c ts) :
    Calls Tryd.prog 15 #[.agg #[.int .i64 id, .slice A ts.length c]] w fun e w' => e = .returned (.tuple #[.int .i64 (Rub.mostV id ts), .int .i64 (Rub.validE id ts)]) ∧ Ext w w' := by
  have H := Lib.hid h
  have HS := Lib.hid h.1
  unfold Rub.mostV
  clear h
  by_cases hz : Rub.validE id ts = 0
  · obtain ⟨l1, l2, hall⟩ := Rub.valid_zero hz
    have HZ := Lib.hid hz
    have HALL := Lib.hid hall
    rw [if_pos hz, hz]
    clear hz hall
    go_enter Tryd.func15, Tryd.ntmps15
    go_wp2_with fail
    refine (rubValid_any id A c ts _ (H.out.ext ((Ext.refl _).alloc _))).mono ?_
    rintro e w1 ⟨rfl, hb1⟩
    rw [HZ.out]
    have bx1 : w1.cell? ⟨w.heap.size, 1, none⟩ = some (.slice A ts.length c) := hb1.keep (by simp [go_sem])
    have hz1 := hb1.size
    simp at hz1
    have z10 : w.heap.size < w1.heap.size := by omega
    go_wp2
    go_loopw [16, 5] (fun i s wr => ∃ (k : Nat) (n : Int), k ≤ ts.length ∧ i = .int .i64 k ∧ s = .int .i64 n ∧ n = Rub.most (ts.take k) ∧ 0 ≤ n ∧ n ≤ 100 * k ∧ Ext w1 wr) (fun i _ _ => ts.length - (intOf i).toNat)
    case atStart => exact ⟨0, 0, by omega, rfl, rfl, rfl, by omega, by omega, Ext.refl _⟩
    case round =>
      obtain ⟨k, n, hk, rfl, rfl, hn, hn0, hn1, he⟩ := hrel
      have HN := Lib.hid hn
      clear hn
      have hw : Ext w wr := (((Ext.refl _).alloc _).trans hb1).trans he
      by_cases hlt : k < ts.length
      · obtain ⟨t, ht⟩ : ∃ t, ts[k]? = some t := ⟨ts[k], List.getElem?_eq_getElem hlt⟩
        obtain ⟨b, off, rfl, hb, c0, c1, c2⟩ := (HS.out.ext hw).at_ ht
        have htt := HALL.out t (List.mem_of_getElem? ht)
        obtain ⟨p1, p2⟩ := Rub.mark_weight (m := t.max) (x := t.max) (by omega) (by omega) htt.2.1 htt.2.2.1 htt.2.2.2
        have HT := Lib.hid ht
        clear ht htt
        go_wp2
        go_roundw
        case rel => exact ⟨k + 1, n + t.max * t.weight, by omega, by go_num, rfl, by rw [Rub.take_snoc HT.out, Rub.most_snoc, HN.out], by omega, by omega, he.alloc _⟩
        case measure => simp [intOf]; omega
      · go_wp2
        go_ret2
        refine ⟨ret_two ?_ rfl, hw⟩
        rw [HN.out, List.take_of_length_le (by omega)]
  · have hz' : (Rub.validE id ts != 0) = true := by rw [bne_iff_ne]; exact hz
    rw [if_neg hz]
    clear hz
    go_enter Tryd.func15, Tryd.ntmps15
    go_wp2_with fail
    refine (rubValid_any id A c ts _ (H.out.ext ((Ext.refl _).alloc _))).mono ?_
    rintro e w1 ⟨rfl, hb1⟩
    go_wp2
    go_ret2
    exact ⟨rfl, ((Ext.refl _).alloc _).trans hb1⟩
set_option maxHeartbeats 400000 in
theorem ints_any (X : Option Addr) (xc : Nat) (a : List Int) (Y : Option Addr) (yc : Nat) (b : List Int) (w : World) (ha : SlI w X a) (hb : SlI w Y b) (hal : a.length ≤ maxLen) :
    Calls Tryd.prog 8 #[.slice X a.length xc, .slice Y b.length yc] w fun e w' => e = .returned (.bool (decide (a = b))) ∧ Ext w w' := by
  have HA := Lib.hid ha
  have HB := Lib.hid hb
  unfold maxLen at hal
  clear ha hb
  by_cases hl : a.length = b.length
  · have hl' : ((a.length : Int) != (b.length : Int)) = false := by rw [bne_eq_false_iff_eq]; omega
    have HL := Lib.hid hl
    clear hl
    go_enter Tryd.func8, Tryd.ntmps8
    go_wp2
    go_loopw [5] (fun i wr => ∃ k : Nat, k ≤ a.length ∧ i = .int .i64 k ∧ (∀ j, j < k → a[j]? = b[j]?) ∧ Ext w wr) (fun i _ => a.length - (intOf i).toNat)
    case atStart => exact ⟨0, by omega, rfl, fun j hj => absurd hj (by omega), Ext.refl _⟩
    case round =>
      obtain ⟨k, hk, rfl, hall, he⟩ := hrel
      have HALL := Lib.hid hall
      clear hall
      by_cases hlt : k < a.length
      · obtain ⟨ba, oa, x, rfl, hba, hx, cx⟩ := (HA.out.ext he).at_ (i := k) hlt
        obtain ⟨bb, ob, y, rfl, hbb, hy, cy⟩ := (HB.out.ext he).at_ (i := k) (by rw [← HL.out]; exact hlt)
        have hki : (k : Int) < (b.length : Int) := by rw [← HL.out]; omega
        have hki2 : (k : Int) < (a.length : Int) := by omega
        have HX := Lib.hid hx
        have HY := Lib.hid hy
        clear hx hy
        by_cases hxy : x = y
        · subst hxy
          go_wp2
          go_quiet (fail)
          go_wp2
          go_roundw
          case rel =>
            refine ⟨k + 1, by omega, by go_num, fun j hj => ?_, he.drewN _⟩
            rcases Nat.lt_or_ge j k with g | g
            · exact HALL.out j g
            · obtain rfl : j = k := by omega
              rw [HX.out, HY.out]
          case measure => simp [intOf]; omega
        · have hxy' : (x != y) = true := by rw [bne_iff_ne]; exact hxy
          have HXY := Lib.hid hxy
          clear hxy
          go_wp2
          go_quiet (fail)
          go_wp2
          go_ret
          refine ⟨ret_bool ?_, he.drewN _⟩
          symm
          rw [decide_eq_false_iff_not]
          intro e
          have h1 := HX.out
          rw [e, HY.out] at h1
          injection h1 with h1
          exact HXY.out h1.symm
      · go_wp2
        go_ret
        refine ⟨ret_bool ?_, he⟩
        symm
        rw [decide_eq_true_iff]
        apply List.ext_getElem?
        intro j
        rcases Nat.lt_or_ge j k with g | g
        · exact HALL.out j g
        · rw [List.getElem?_eq_none (by omega), List.getElem?_eq_none (by rw [← HL.out]; omega)]
  · have hl' : ((a.length : Int) != (b.length : Int)) = true := by rw [bne_iff_ne]; omega
    have HL := Lib.hid hl
    clear hl
    go_enter Tryd.func8, Tryd.ntmps8
    go_wp2
    go_ret
    refine ⟨ret_bool ?_, Ext.refl _⟩
    symm
    rw [decide_eq_false_iff_not]
    intro e
    exact HL.out (by rw [e])
end Go.Proofs.YthjledbomonfpaaDoor
