/- rubric.checkAll, Total, Most and the reference's Total: contracts for the walk. Conditions: those of each theorem. -/
import Derived.Test.YthjledbomonfpaaRubB
import Derived.Test.YthjledbomonfpaaIL
import Derived.Test.YthjledbomonfpaaRubQ
namespace Go.Proofs.Ythjledbomonfpaa
open Go.RowKit

set_option maxHeartbeats 800000 in
theorem checkAll_any (id : Int) (A : Option Addr) (c : Nat) (ts : List Rub.Trait) (L : Option Addr) (d : Nat) (ls : List IL) (w : World) (h : RubIn w id A c ts) (hL : SlL w L ls) (hd : ls.length ≤ maxLen) :
    Calls Try.prog 34 #[.agg #[.int .i64 id, .slice A ts.length c], .slice L ls.length d] w fun e w' => e = .returned (.int .i64 (Rub.checkAllE id ts (ls.map IL.xs))) ∧ Ext w w' := by
  have H := Lib.hid h
  have HL := Lib.hid hL
  unfold maxLen at hd
  clear h hL
  go_enter Try.func34, Try.ntmps34
  go_wp2
  go_loopw [10] (fun i wr => ∃ k : Nat, k ≤ ls.length ∧ i = .int .i64 k ∧ Rub.checkAllE id ts ((ls.map IL.xs).drop k) = Rub.checkAllE id ts (ls.map IL.xs) ∧ Ext (w.alloc (.cells #[.int .i64 id, .slice A ts.length c] 24)) wr) (fun i _ => ls.length - (intOf i).toNat)
  case atStart => exact ⟨0, by omega, rfl, rfl, Ext.refl _⟩
  case round =>
    obtain ⟨k, hk, rfl, hfe, he⟩ := hrel
    have HF := Lib.hid hfe
    clear hfe
    have hw : Ext w wr := ((Ext.refl _).alloc _).trans he
    by_cases hlt : k < ls.length
    · obtain ⟨x, hx⟩ : ∃ x, ls[k]? = some x := ⟨ls[k], List.getElem?_eq_getElem hlt⟩
      obtain ⟨b, off, rfl, hb, c0, hin⟩ := (HL.out.ext hw).at_ hx
      have HX := Lib.hid hx
      have HI := Lib.hid hin
      clear hx hin
      have bx0 : wr.cell? ⟨w.heap.size, 0, none⟩ = some (.int .i64 id) := he.keep (by simp [go_sem])
      have bx1 : wr.cell? ⟨w.heap.size, 1, none⟩ = some (.slice A ts.length c) := he.keep (by simp [go_sem])
      have zr := he.size
      simp at zr
      have zr0 : w.heap.size < wr.heap.size := by omega
      have HM : Hid ((ls.map IL.xs)[k]? = some x.xs) := by show (ls.map IL.xs)[k]? = some x.xs; rw [List.getElem?_map, HX.out]; rfl
      go_wp2_with fail
      refine (check_any id A c ts x.A x.c x.xs _ (H.out.ext hw) HI.out.1 (Nat.le_trans HI.out.2.1 HI.out.2.2.1)).mono ?_
      rintro e w1 ⟨rfl, hb1⟩
      by_cases hz : Rub.checkE id ts x.xs = 0
      · have HZ := Lib.hid hz
        rw [hz]
        clear hz
        go_wp2
        go_roundw
        case rel => exact ⟨k + 1, by omega, by go_num, by rw [← HF.out, Rub.all_step HM.out, if_pos HZ.out], he.trans hb1⟩
        case measure => simp [intOf]; omega
      · have hz' : (Rub.checkE id ts x.xs != 0) = true := by rw [bne_iff_ne]; exact hz
        have HZ := Lib.hid hz
        clear hz
        go_wp2
        go_ret
        refine ⟨ret_int ?_, hw.trans hb1⟩
        rw [← HF.out, Rub.all_step HM.out, if_neg HZ.out]
    · go_wp2
      go_ret
      refine ⟨ret_int ?_, hw⟩
      rw [← HF.out, List.drop_eq_nil_of_le (by simp; omega), Rub.checkAllE]

set_option maxHeartbeats 800000 in
theorem total_any (id : Int) (A : Option Addr) (c : Nat) (ts : List Rub.Trait) (M : Option Addr) (d : Nat) (ms : List Int) (w : World) (h : RubIn w id A c ts) (hM : SlI w M ms) (hd : ms.length ≤ maxLen) :
    Calls Try.prog 17 #[.agg #[.int .i64 id, .slice A ts.length c], .slice M ms.length d] w fun e w' => e = .returned (.tuple #[.int .i64 (Rub.totV id ts ms), .int .i64 (Rub.checkE id ts ms)]) ∧ Ext w w' := by
  have H := Lib.hid h
  have HS := Lib.hid h.1
  have HM := Lib.hid hM
  have HD := Lib.hid hd
  unfold Rub.totV
  clear h hM hd
  by_cases hz : Rub.checkE id ts ms = 0
  · obtain ⟨hv, hl, hmk⟩ := Rub.check_zero hz
    obtain ⟨l1, l2, hall⟩ := Rub.valid_zero hv
    have HZ := Lib.hid hz
    have HL := Lib.hid hl
    have HMK := Lib.hid hmk
    have HALL := Lib.hid hall
    rw [if_pos hz, hz]
    clear hz hv hl hmk hall
    go_enter Try.func17, Try.ntmps17
    go_wp2_with fail
    refine (check_any id A c ts M d ms _ (H.out.ext ((Ext.refl _).alloc _)) (HM.out.ext ((Ext.refl _).alloc _)) HD.out).mono ?_
    rintro e w1 ⟨rfl, hb1⟩
    rw [HZ.out]
    have bx1 : w1.cell? ⟨w.heap.size, 1, none⟩ = some (.slice A ts.length c) := hb1.keep (by simp [go_sem])
    have hz1 := hb1.size
    simp at hz1
    have z10 : w.heap.size < w1.heap.size := by omega
    go_wp2
    go_loopw [19, 7] (fun i s wr => ∃ (k : Nat) (n : Int), k ≤ ts.length ∧ i = .int .i64 k ∧ s = .int .i64 n ∧ n = Rub.tot ((ts.zip ms).take k) ∧ 0 ≤ n ∧ n ≤ 100 * k ∧ Ext w1 wr) (fun i _ _ => ts.length - (intOf i).toNat)
    case atStart => exact ⟨0, 0, by omega, rfl, rfl, rfl, by omega, by omega, Ext.refl _⟩
    case round =>
      obtain ⟨k, n, hk, rfl, rfl, hn, hn0, hn1, he⟩ := hrel
      have HN := Lib.hid hn
      clear hn
      have hw : Ext w wr := (((Ext.refl _).alloc _).trans hb1).trans he
      by_cases hlt : k < ts.length
      · obtain ⟨t, ht⟩ : ∃ t, ts[k]? = some t := ⟨ts[k], List.getElem?_eq_getElem hlt⟩
        obtain ⟨b, off, rfl, hb, c0, c1, c2⟩ := (HS.out.ext hw).at_ ht
        obtain ⟨b', off', m, rfl, hb', hm, cm⟩ := (HM.out.ext hw).at_ (i := k) (by rw [HL.out]; exact hlt)
        have hmt := Rub.marks_at HMK.out ht hm
        have htt := HALL.out t (List.mem_of_getElem? ht)
        obtain ⟨p1, p2⟩ := Rub.mark_weight hmt.1 hmt.2 htt.2.1 htt.2.2.1 htt.2.2.2
        have HZP := Lib.hid (Rub.zip_at ht hm)
        have hki : (k : Int) < (ms.length : Int) := by rw [HL.out]; omega
        clear ht hm hmt htt
        go_wp2
        go_quiet (fail)
        go_wp2
        go_roundw
        case rel => exact ⟨k + 1, n + m * t.weight, by omega, by go_num, rfl, by rw [Rub.take_snoc HZP.out, Rub.tot_snoc, HN.out], by omega, by omega, (he.alloc _).drewN _⟩
        case measure => simp [intOf]; omega
      · go_wp2
        go_ret2
        refine ⟨ret_two ?_ rfl, hw⟩
        rw [HN.out, List.take_of_length_le (by rw [List.length_zip, HL.out]; omega)]
  · have hz' : (Rub.checkE id ts ms != 0) = true := by rw [bne_iff_ne]; exact hz
    rw [if_neg hz]
    clear hz
    go_enter Try.func17, Try.ntmps17
    go_wp2_with fail
    refine (check_any id A c ts M d ms _ (H.out.ext ((Ext.refl _).alloc _)) (HM.out.ext ((Ext.refl _).alloc _)) HD.out).mono ?_
    rintro e w1 ⟨rfl, hb1⟩
    go_wp2
    go_ret2
    exact ⟨rfl, ((Ext.refl _).alloc _).trans hb1⟩
set_option maxHeartbeats 800000 in
theorem refTotal_any (id : Int) (A : Option Addr) (c : Nat) (ts : List Rub.Trait) (M : Option Addr) (d : Nat) (ms : List Int) (w : World) (h : RubIn w id A c ts) (hM : SlI w M ms) (hd : ms.length ≤ maxLen) :
    Calls Try.prog 40 #[.agg #[.int .i64 id, .slice A ts.length c], .slice M ms.length d] w fun e w' => e = .returned (.tuple #[.int .i64 (Rub.totV id ts ms), .int .i64 (Rub.checkE id ts ms)]) ∧ Ext w w' := by
  have H := Lib.hid h
  have HS := Lib.hid h.1
  have HM := Lib.hid hM
  have HD := Lib.hid hd
  unfold Rub.totV
  clear h hM hd
  by_cases hz : Rub.checkE id ts ms = 0
  · obtain ⟨hv, hl, hmk⟩ := Rub.check_zero hz
    obtain ⟨l1, l2, hall⟩ := Rub.valid_zero hv
    have HZ := Lib.hid hz
    have HL := Lib.hid hl
    have HMK := Lib.hid hmk
    have HALL := Lib.hid hall
    rw [if_pos hz, hz]
    clear hz hv hl hmk hall
    go_enter Try.func40, Try.ntmps40
    go_wp2_with fail
    refine (refCheck_any id A c ts M d ms _ (H.out.ext ((Ext.refl _).alloc _)) (HM.out.ext ((Ext.refl _).alloc _)) HD.out).mono ?_
    rintro e w1 ⟨rfl, hb1⟩
    rw [HZ.out]
    have bx1 : w1.cell? ⟨w.heap.size, 1, none⟩ = some (.slice A ts.length c) := hb1.keep (by simp [go_sem])
    have hz1 := hb1.size
    simp at hz1
    have z10 : w.heap.size < w1.heap.size := by omega
    go_wp2
    go_loopw [8, 7] (fun i s wr => ∃ (k : Nat) (n : Int), k ≤ ts.length ∧ i = .int .i64 k ∧ s = .int .i64 n ∧ n = Rub.tot ((ts.zip ms).take k) ∧ 0 ≤ n ∧ n ≤ 100 * k ∧ Ext w1 wr) (fun i _ _ => ts.length - (intOf i).toNat)
    case atStart => exact ⟨0, 0, by omega, rfl, rfl, rfl, by omega, by omega, Ext.refl _⟩
    case round =>
      obtain ⟨k, n, hk, rfl, rfl, hn, hn0, hn1, he⟩ := hrel
      have HN := Lib.hid hn
      clear hn
      have hw : Ext w wr := (((Ext.refl _).alloc _).trans hb1).trans he
      by_cases hlt : k < ts.length
      · obtain ⟨t, ht⟩ : ∃ t, ts[k]? = some t := ⟨ts[k], List.getElem?_eq_getElem hlt⟩
        obtain ⟨b, off, rfl, hb, c0, c1, c2⟩ := (HS.out.ext hw).at_ ht
        obtain ⟨b', off', m, rfl, hb', hm, cm⟩ := (HM.out.ext hw).at_ (i := k) (by rw [HL.out]; exact hlt)
        have hmt := Rub.marks_at HMK.out ht hm
        have htt := HALL.out t (List.mem_of_getElem? ht)
        obtain ⟨p1, p2⟩ := Rub.mark_weight hmt.1 hmt.2 htt.2.1 htt.2.2.1 htt.2.2.2
        have HZP := Lib.hid (Rub.zip_at ht hm)
        have hki : (k : Int) < (ms.length : Int) := by rw [HL.out]; omega
        clear ht hm hmt htt
        have bxr : wr.cell? ⟨w.heap.size, 1, none⟩ = some (.slice (some ⟨b, off, none⟩) ts.length c) := he.keep bx1
        have zr := he.size
        have zr0 : w.heap.size < wr.heap.size := by omega
        have hki2 : (k : Int) < (ts.length : Int) := by omega
        go_wp2
        go_quiet (fail)
        go_wp2
        go_roundw
        case rel => exact ⟨k + 1, n + m * t.weight, by omega, by go_num, rfl, by rw [Rub.take_snoc HZP.out, Rub.tot_snoc, HN.out], by omega, by omega, he.drewN _⟩
        case measure => simp [intOf]; omega
      · have hkn : (ms.length : Int) ≤ (k : Int) := by rw [HL.out]; omega
        go_wp2
        go_ret2
        refine ⟨ret_two ?_ rfl, hw⟩
        rw [HN.out, List.take_of_length_le (by rw [List.length_zip, HL.out]; omega)]
  · have hz' : (Rub.checkE id ts ms != 0) = true := by rw [bne_iff_ne]; exact hz
    rw [if_neg hz]
    clear hz
    go_enter Try.func40, Try.ntmps40
    go_wp2_with fail
    refine (refCheck_any id A c ts M d ms _ (H.out.ext ((Ext.refl _).alloc _)) (HM.out.ext ((Ext.refl _).alloc _)) HD.out).mono ?_
    rintro e w1 ⟨rfl, hb1⟩
    go_wp2
    go_ret2
    exact ⟨rfl, ((Ext.refl _).alloc _).trans hb1⟩
set_option maxHeartbeats 800000 in
theorem most_any (id : Int) (A : Option Addr) (c : Nat) (ts : List Rub.Trait) (w : World) (h : RubIn w id A c ts) :
    Calls Try.prog 18 #[.agg #[.int .i64 id, .slice A ts.length c]] w fun e w' => e = .returned (.tuple #[.int .i64 (Rub.mostV id ts), .int .i64 (Rub.validE id ts)]) ∧ Ext w w' := by
  have H := Lib.hid h
  have HS := Lib.hid h.1
  unfold Rub.mostV
  clear h
  by_cases hz : Rub.validE id ts = 0
  · obtain ⟨l1, l2, hall⟩ := Rub.valid_zero hz
    have HZ := Lib.hid hz
    have HALL := Lib.hid hall
    rw [if_pos hz, hz]
    clear hz hall
    go_enter Try.func18, Try.ntmps18
    go_wp2_with fail
    refine (rubValid_any id A c ts _ (H.out.ext ((Ext.refl _).alloc _))).mono ?_
    rintro e w1 ⟨rfl, hb1⟩
    rw [HZ.out]
    have bx1 : w1.cell? ⟨w.heap.size, 1, none⟩ = some (.slice A ts.length c) := hb1.keep (by simp [go_sem])
    have hz1 := hb1.size
    simp at hz1
    have z10 : w.heap.size < w1.heap.size := by omega
    go_wp2
    go_loopw [16, 5] (fun i s wr => ∃ (k : Nat) (n : Int), k ≤ ts.length ∧ i = .int .i64 k ∧ s = .int .i64 n ∧ n = Rub.most (ts.take k) ∧ 0 ≤ n ∧ n ≤ 100 * k ∧ Ext w1 wr) (fun i _ _ => ts.length - (intOf i).toNat)
    case atStart => exact ⟨0, 0, by omega, rfl, rfl, rfl, by omega, by omega, Ext.refl _⟩
    case round =>
      obtain ⟨k, n, hk, rfl, rfl, hn, hn0, hn1, he⟩ := hrel
      have HN := Lib.hid hn
      clear hn
      have hw : Ext w wr := (((Ext.refl _).alloc _).trans hb1).trans he
      by_cases hlt : k < ts.length
      · obtain ⟨t, ht⟩ : ∃ t, ts[k]? = some t := ⟨ts[k], List.getElem?_eq_getElem hlt⟩
        obtain ⟨b, off, rfl, hb, c0, c1, c2⟩ := (HS.out.ext hw).at_ ht
        have htt := HALL.out t (List.mem_of_getElem? ht)
        obtain ⟨p1, p2⟩ := Rub.mark_weight (m := t.max) (x := t.max) (by omega) (by omega) htt.2.1 htt.2.2.1 htt.2.2.2
        have HT := Lib.hid ht
        clear ht htt
        go_wp2
        go_roundw
        case rel => exact ⟨k + 1, n + t.max * t.weight, by omega, by go_num, rfl, by rw [Rub.take_snoc HT.out, Rub.most_snoc, HN.out], by omega, by omega, he.alloc _⟩
        case measure => simp [intOf]; omega
      · go_wp2
        go_ret2
        refine ⟨ret_two ?_ rfl, hw⟩
        rw [HN.out, List.take_of_length_le (by omega)]
  · have hz' : (Rub.validE id ts != 0) = true := by rw [bne_iff_ne]; exact hz
    rw [if_neg hz]
    clear hz
    go_enter Try.func18, Try.ntmps18
    go_wp2_with fail
    refine (rubValid_any id A c ts _ (H.out.ext ((Ext.refl _).alloc _))).mono ?_
    rintro e w1 ⟨rfl, hb1⟩
    go_wp2
    go_ret2
    exact ⟨rfl, ((Ext.refl _).alloc _).trans hb1⟩
end Go.Proofs.Ythjledbomonfpaa
