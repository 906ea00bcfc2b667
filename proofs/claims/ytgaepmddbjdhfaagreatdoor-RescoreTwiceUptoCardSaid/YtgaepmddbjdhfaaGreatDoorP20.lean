/- The reference's rule of an answer's choices, its unused fields, its points: contracts. Conditions: those of each theorem. Whether an answer fits an item, in the reference: contracts. Conditions: those of each theorem. Plain laws of an answer that fits its item: the bounds that its score needs. No conditions. The score of an answer, in the package: a contract. Conditions: those of each theorem. -/
import Derived.Test.YtgaepmddbjdhfaaGreatDoorP18
import Derived.Test.YtgaepmddbjdhfaaGreatDoorP19
import Derived.Test.YtgaepmddbjdhfaaGreatDoorP12
namespace Go.Proofs.YtgaepmddbjdhfaaGreatDoor
open Go.ChangeShapes Go.WideShapes Go.ChangeAt Go.RowKit
set_option maxRecDepth 100000 in
set_option maxHeartbeats 6400000 in
theorem rchoices_1 (m : Nat) (A : Option Addr) (c : Nat) (l : List Int) {n : Nat} (hn : l.length = n) (hb1 : n ≤ 17592186043904) {v : Int} (hv : Rs.cho 1 m l = v) (w : World) (h : SlI w A l) :
    Calls Tryz.prog 97 #[.int .i64 1, .int .i64 m, .slice A n c] w fun e w' => e = .returned (.int .i64 v) ∧ Ext w w' := by
  have H := Lib.hid h
  have HN := Lib.hid hn
  have HV := Lib.hid hv
  clear h hn hv
  go_enter Tryz.func97, Tryz.ntmps97
  go_wp2
  go_loop [13] (fun i => ∃ k : Nat, k ≤ n ∧ i = .int .i64 k ∧ Hid ((l.take k).all (fun x => It.wi x 0 ((m : Int) - 1)) = true)) (fun i => n - (intOf i).toNat)
  case atStart => exact ⟨0, by omega, rfl, Lib.hid rfl⟩
  case round =>
    obtain ⟨k, hkn, rfl, HA⟩ := hrel
    by_cases hlt : k < n
    · obtain ⟨b, off, x, rfl, hb, hx, hc⟩ := H.out.at_ (i := k) (by rw [HN.out]; exact hlt)
      have HX := Lib.hid hx
      clear hx
      have ki1 : (k : Int) < (n : Int) := by omega
      rcases (show x < 0 ∨ (0 ≤ x ∧ (m : Int) ≤ x) ∨ (0 ≤ x ∧ x < (m : Int)) by omega) with h1 | ⟨h1, h2⟩ | ⟨h1, h2⟩
      · have HF : Hid (v = 3) := Lib.hid (by
          rw [← HV.out]; unfold Rs.cho
          rw [if_pos (Rs.alli_no HX.out (by unfold It.wi; simp; omega))])
        go_wp2
        go_ret
        exact ⟨ret_int HF.out.symm, Ext.refl _⟩
      · have HF : Hid (v = 3) := Lib.hid (by
          rw [← HV.out]; unfold Rs.cho
          rw [if_pos (Rs.alli_no HX.out (by unfold It.wi; simp; omega))])
        go_wp2
        go_ret
        exact ⟨ret_int HF.out.symm, Ext.refl _⟩
      · have HF := Lib.hid (Rs.alli_next HX.out HA.out (by unfold It.wi; simp; omega))
        go_wp2
        go_round
        case rel => exact ⟨k + 1, by omega, by go_num, HF⟩
        case measure => simp [intOf]; omega
    · obtain rfl : k = n := by omega
      have HG : Hid (v = if Rs.fit 1 m l = true then 0 else 23) := Lib.hid (by
        rw [← HV.out]; unfold Rs.cho
        have h1 := HA.out
        rw [← HN.out, List.take_length] at h1
        rw [h1, if_neg (by simp)])
      by_cases h1 : k = 1
      · have HF : Hid (v = 0) := Lib.hid (by rw [HG.out, Rs.fit_1, HN.out]; simp [h1])
        have t1 : ((k : Int) != 1) = false := by rw [bne_eq_false_iff_eq]; omega
        have HK := Lib.hid h1
        clear h1
        go_wp2
        go_loop [44] (fun i => ∃ j : Nat, j ≤ k ∧ i = .int .i64 j) (fun i => k - (intOf i).toNat)
        case atStart => exact ⟨0, by omega, rfl⟩
        case round =>
          obtain ⟨j, hj, rfl⟩ := hrel
          by_cases hlt2 : j < k
          · obtain ⟨b, off, x, rfl, hb, hx, hc⟩ := H.out.at_ (i := j) (by rw [HN.out]; exact hlt2)
            clear hx
            have ki2 : (j : Int) < (k : Int) := by omega
            go_wp2
            go_round
            case rel => exact ⟨j + 1, by omega, by go_num⟩
            case measure => simp [intOf]; omega
          · obtain rfl : j = k := by omega
            go_wp2
            go_ret
            exact ⟨ret_int HF.out.symm, Ext.refl _⟩
      · have HF : Hid (v = 23) := Lib.hid (by rw [HG.out, Rs.fit_1, HN.out]; simp [h1])
        have t1 : ((k : Int) != 1) = true := by rw [bne_iff_ne]; omega
        clear h1
        go_wp2
        go_ret
        exact ⟨ret_int HF.out.symm, Ext.refl _⟩
set_option maxRecDepth 100000 in
set_option maxHeartbeats 6400000 in
theorem rchoices_2 (m : Nat) (A : Option Addr) (c : Nat) (l : List Int) {n : Nat} (hn : l.length = n) (hb1 : n ≤ 17592186043904) {v : Int} (hv : Rs.cho 2 m l = v) (w : World) (h : SlI w A l) :
    Calls Tryz.prog 97 #[.int .i64 2, .int .i64 m, .slice A n c] w fun e w' => e = .returned (.int .i64 v) ∧ Ext w w' := by
  have H := Lib.hid h
  have HN := Lib.hid hn
  have HV := Lib.hid hv
  clear h hn hv
  go_enter Tryz.func97, Tryz.ntmps97
  go_wp2
  go_loop [13] (fun i => ∃ k : Nat, k ≤ n ∧ i = .int .i64 k ∧ Hid ((l.take k).all (fun x => It.wi x 0 ((m : Int) - 1)) = true)) (fun i => n - (intOf i).toNat)
  case atStart => exact ⟨0, by omega, rfl, Lib.hid rfl⟩
  case round =>
    obtain ⟨k, hkn, rfl, HA⟩ := hrel
    by_cases hlt : k < n
    · obtain ⟨b, off, x, rfl, hb, hx, hc⟩ := H.out.at_ (i := k) (by rw [HN.out]; exact hlt)
      have HX := Lib.hid hx
      clear hx
      have ki1 : (k : Int) < (n : Int) := by omega
      rcases (show x < 0 ∨ (0 ≤ x ∧ (m : Int) ≤ x) ∨ (0 ≤ x ∧ x < (m : Int)) by omega) with h1 | ⟨h1, h2⟩ | ⟨h1, h2⟩
      · have HF : Hid (v = 3) := Lib.hid (by
          rw [← HV.out]; unfold Rs.cho
          rw [if_pos (Rs.alli_no HX.out (by unfold It.wi; simp; omega))])
        go_wp2
        go_ret
        exact ⟨ret_int HF.out.symm, Ext.refl _⟩
      · have HF : Hid (v = 3) := Lib.hid (by
          rw [← HV.out]; unfold Rs.cho
          rw [if_pos (Rs.alli_no HX.out (by unfold It.wi; simp; omega))])
        go_wp2
        go_ret
        exact ⟨ret_int HF.out.symm, Ext.refl _⟩
      · have HF := Lib.hid (Rs.alli_next HX.out HA.out (by unfold It.wi; simp; omega))
        go_wp2
        go_round
        case rel => exact ⟨k + 1, by omega, by go_num, HF⟩
        case measure => simp [intOf]; omega
    · obtain rfl : k = n := by omega
      have HG : Hid (v = if Rs.fit 2 m l = true then 0 else 23) := Lib.hid (by
        rw [← HV.out]; unfold Rs.cho
        have h1 := HA.out
        rw [← HN.out, List.take_length] at h1
        rw [h1, if_neg (by simp)])
      go_wp2
      go_loop [44] (fun i => ∃ j : Nat, j ≤ k ∧ i = .int .i64 j ∧ Hid (It.allN (Rs.incA l) j = true)) (fun i => k - (intOf i).toNat)
      case atStart => exact ⟨0, by omega, rfl, Lib.hid rfl⟩
      case round =>
        obtain ⟨j, hj, rfl, HA2⟩ := hrel
        by_cases hlt2 : j < k
        · obtain ⟨b, off, x, rfl, hb, hx, hc⟩ := H.out.at_ (i := j) (by rw [HN.out]; exact hlt2)
          have ki2 : (j : Int) < (k : Int) := by omega
          rcases Nat.eq_zero_or_pos j with h0 | h0
          · subst h0
            have HF := Lib.hid (It.allN_next HA2.out (show Rs.incA l 0 = true by unfold Rs.incA; simp))
            have hc0 : w.cell? ⟨b, off, none⟩ = some (.int .i64 x) := by simpa using hc
            clear hx
            go_wp2
            go_round
            case rel => exact ⟨0 + 1, by omega, by go_num, HF⟩
            case measure => simp [intOf]; omega
          · obtain ⟨i, rfl⟩ : ∃ i, j = i + 1 := ⟨j - 1, by omega⟩
            obtain ⟨b', off', y, e', hb', hy, hc'⟩ := H.out.at_ (i := i) (by rw [HN.out]; omega)
            obtain ⟨rfl, rfl⟩ : b = b' ∧ off = off' := by cases e'; exact ⟨rfl, rfl⟩
            have hra : Rs.incA l (i + 1) = decide (y < x) := by
              unfold Rs.incA
              rw [Nat.add_sub_cancel, List.getD_eq_getElem?_getD, List.getD_eq_getElem?_getD, hx, hy]
              simp
            have HR := Lib.hid hra
            clear hra hx hy e'
            by_cases hxy : x ≤ y
            · have HF : Hid (v = 23) := Lib.hid (by
                rw [HG.out, Rs.fit_2, if_neg]
                have : Rs.inc l = false := It.allN_no (k := i + 1) (by rw [HN.out]; exact hlt2) (by rw [HR.out]; simp; omega)
                rw [this]; simp)
              go_wp2
              go_ret
              exact ⟨ret_int HF.out.symm, Ext.refl _⟩
            · have HF : Hid (It.allN (Rs.incA l) (i + 1 + 1) = true) := Lib.hid (It.allN_next HA2.out (by rw [HR.out]; simp; omega))
              have hxy' : y < x := by omega
              clear hxy
              go_wp2
              go_round
              case rel => exact ⟨i + 1 + 1, by omega, by go_num, HF⟩
              case measure => simp [intOf]; omega
        · obtain rfl : j = k := by omega
          have HF : Hid (v = 0) := Lib.hid (by
            rw [HG.out, Rs.fit_2, if_pos]
            unfold Rs.inc
            rw [HN.out]
            exact HA2.out)
          go_wp2
          go_ret
          exact ⟨ret_int HF.out.symm, Ext.refl _⟩
set_option maxRecDepth 100000 in
set_option maxHeartbeats 6400000 in
theorem rchoices_3 (m : Nat) (A : Option Addr) (c : Nat) (l : List Int) {n : Nat} (hn : l.length = n) (hb1 : n ≤ 17592186043904) {v : Int} (hv : Rs.cho 3 m l = v) (w : World) (h : SlI w A l) :
    Calls Tryz.prog 97 #[.int .i64 3, .int .i64 m, .slice A n c] w fun e w' => e = .returned (.int .i64 v) ∧ Ext w w' := by
  have H := Lib.hid h
  have HN := Lib.hid hn
  have HV := Lib.hid hv
  clear h hn hv
  go_enter Tryz.func97, Tryz.ntmps97
  go_wp2
  go_loop [13] (fun i => ∃ k : Nat, k ≤ n ∧ i = .int .i64 k ∧ Hid ((l.take k).all (fun x => It.wi x 0 ((m : Int) - 1)) = true)) (fun i => n - (intOf i).toNat)
  case atStart => exact ⟨0, by omega, rfl, Lib.hid rfl⟩
  case round =>
    obtain ⟨k, hkn, rfl, HA⟩ := hrel
    by_cases hlt : k < n
    · obtain ⟨b, off, x, rfl, hb, hx, hc⟩ := H.out.at_ (i := k) (by rw [HN.out]; exact hlt)
      have HX := Lib.hid hx
      clear hx
      have ki1 : (k : Int) < (n : Int) := by omega
      rcases (show x < 0 ∨ (0 ≤ x ∧ (m : Int) ≤ x) ∨ (0 ≤ x ∧ x < (m : Int)) by omega) with h1 | ⟨h1, h2⟩ | ⟨h1, h2⟩
      · have HF : Hid (v = 3) := Lib.hid (by
          rw [← HV.out]; unfold Rs.cho
          rw [if_pos (Rs.alli_no HX.out (by unfold It.wi; simp; omega))])
        go_wp2
        go_ret
        exact ⟨ret_int HF.out.symm, Ext.refl _⟩
      · have HF : Hid (v = 3) := Lib.hid (by
          rw [← HV.out]; unfold Rs.cho
          rw [if_pos (Rs.alli_no HX.out (by unfold It.wi; simp; omega))])
        go_wp2
        go_ret
        exact ⟨ret_int HF.out.symm, Ext.refl _⟩
      · have HF := Lib.hid (Rs.alli_next HX.out HA.out (by unfold It.wi; simp; omega))
        go_wp2
        go_round
        case rel => exact ⟨k + 1, by omega, by go_num, HF⟩
        case measure => simp [intOf]; omega
    · obtain rfl : k = n := by omega
      have HG : Hid (v = if Rs.fit 3 m l = true then 0 else 23) := Lib.hid (by
        rw [← HV.out]; unfold Rs.cho
        have h1 := HA.out
        rw [← HN.out, List.take_length] at h1
        rw [h1, if_neg (by simp)])
      by_cases h1 : k = m
      · have t1 : ((k : Int) != (m : Int)) = false := by rw [bne_eq_false_iff_eq]; omega
        have HG3 : Hid (v = if Rs.uni l = true then 0 else 23) := Lib.hid (by rw [HG.out, Rs.fit_3, HN.out, decide_eq_true h1, Bool.true_and])
        clear h1
        go_wp2
        go_loop [44] (fun i => ∃ j : Nat, j ≤ k ∧ i = .int .i64 j ∧ Hid (It.allN (Rs.uniA l) j = true)) (fun i => k - (intOf i).toNat)
        case atStart => exact ⟨0, by omega, rfl, Lib.hid rfl⟩
        case round =>
          obtain ⟨j, hj, rfl, HA2⟩ := hrel
          by_cases hlt2 : j < k
          · obtain ⟨b, off, x, rfl, hb, hx, hc⟩ := H.out.at_ (i := j) (by rw [HN.out]; exact hlt2)
            have ki2 : (j : Int) < (k : Int) := by omega
            obtain ⟨r, hr⟩ : ∃ r, It.times l x = r := ⟨_, rfl⟩
            have hra : Rs.uniA l j = decide (r = 1) := by
              unfold Rs.uniA
              rw [List.getD_eq_getElem?_getD, hx]
              show decide (It.times l x = 1) = _
              rw [hr]
            have HR := Lib.hid hra
            have HRR := Lib.hid hr
            clear hra hx hr
            by_cases h1 : r = 1
            · have t2 : ((r : Int) != 1) = false := by rw [bne_eq_false_iff_eq]; omega
              have HF := Lib.hid (It.allN_next HA2.out (by rw [HR.out]; exact decide_eq_true h1))
              clear h1
              go_wp2_with (go_at_call 98; refine (rcount_any _ c l x HN.out HRR.out _ H.out (by omega)).mono ?_; rintro e w1 ⟨rfl, rfl⟩)
              go_round
              case rel => exact ⟨j + 1, by omega, by go_num, HF⟩
              case measure => simp [intOf]; omega
            · have t2 : ((r : Int) != 1) = true := by rw [bne_iff_ne]; omega
              have HF : Hid (v = 23) := Lib.hid (by
                rw [HG3.out, if_neg]
                have : Rs.uni l = false := It.allN_no (k := j) (by rw [HN.out]; exact hlt2) (by rw [HR.out]; exact decide_eq_false h1)
                rw [this]; simp)
              clear h1
              go_wp2_with (go_at_call 98; refine (rcount_any _ c l x HN.out HRR.out _ H.out (by omega)).mono ?_; rintro e w1 ⟨rfl, rfl⟩)
              go_ret
              exact ⟨ret_int HF.out.symm, Ext.refl _⟩
          · obtain rfl : j = k := by omega
            have HF : Hid (v = 0) := Lib.hid (by
              rw [HG3.out, if_pos]
              unfold Rs.uni
              rw [HN.out]
              exact HA2.out)
            go_wp2
            go_ret
            exact ⟨ret_int HF.out.symm, Ext.refl _⟩
      · have t1 : ((k : Int) != (m : Int)) = true := by rw [bne_iff_ne]; omega
        have HF : Hid (v = 23) := Lib.hid (by rw [HG.out, Rs.fit_3, HN.out, decide_eq_false h1]; rfl)
        clear h1
        go_wp2
        go_ret
        exact ⟨ret_int HF.out.symm, Ext.refl _⟩
theorem rchoices_any (kd : Int) (hk : kd = 1 ∨ kd = 2 ∨ kd = 3) (m : Nat) (A : Option Addr) (c : Nat) (l : List Int) {n : Nat} (hn : l.length = n) (hb1 : n ≤ 17592186043904) {v : Int} (hv : Rs.cho kd m l = v) (w : World) (h : SlI w A l) :
    Calls Tryz.prog 97 #[.int .i64 kd, .int .i64 m, .slice A n c] w fun e w' => e = .returned (.int .i64 v) ∧ Ext w w' := by
  rcases hk with rfl | rfl | rfl
  · exact rchoices_1 m A c l hn hb1 hv w h
  · exact rchoices_2 m A c l hn hb1 hv w h
  · exact rchoices_3 m A c l hn hb1 hv w h
set_option maxRecDepth 100000 in
set_option maxHeartbeats 6400000 in
theorem ryes_any (it : It.Item) (L : It.Loc) (q : Bool) (w : World) :
    Calls Tryz.prog 57 #[It.agg it L, .bool q] w fun e w' => e = .returned (.int .i64 (if q = true then it.pts else 0)) ∧ Ext w w' := by
  obtain ⟨CA, hca, hna, -, hka⟩ := rs_packed it L
  rw [hca]
  have a9 : (w.alloc (.cells CA 55)).cell? ⟨w.heap.size, 9, none⟩ = some (.int .i64 it.pts) := by rw [World.cell?_alloc_new, ← hka]; rfl
  clear hca hna hka
  cases q with
  | true =>
    go_enter Tryz.func57, Tryz.ntmps57
    go_wp2
    go_ret
    exact ⟨rfl, (Ext.refl _).alloc _⟩
  | false =>
    go_enter Tryz.func57, Tryz.ntmps57
    go_wp2
    go_ret
    exact ⟨rfl, (Ext.refl _).alloc _⟩
end Go.Proofs.YtgaepmddbjdhfaaGreatDoor
namespace Go.Proofs.YtgaepmddbjdhfaaGreatDoor
open Go.ChangeShapes Go.WideShapes Go.ChangeAt Go.RowKit
set_option maxRecDepth 100000 in
set_option maxHeartbeats 6400000 in
theorem rplain_any (kd : Int) (hk : kd = 1 ∨ kd = 2 ∨ kd = 3 ∨ kd = 4 ∨ kd = 5 ∨ kd = 6) (a : Rs.Ans) (M : Rs.ALoc) {q : Bool} (hq : Rs.used kd a = q) (w : World) :
    Calls Tryz.prog 95 #[.int .i64 kd, a.agg M] w fun e w' => e = .returned (.bool (!q)) ∧ Ext w w' := by
  obtain ⟨CB, hcb, -, -, hkb⟩ := Rs.Ans.packed a M
  rw [hcb]
  have jb1 : CB[1]? = some (.slice M.1 a.chs.length M.2) := by rw [← hkb]; rfl
  have jb2 : CB[2]? = some (.int .i64 a.val) := by rw [← hkb]; rfl
  have jb3 : CB[3]? = some (.string a.text) := by rw [← hkb]; rfl
  have jb4 : CB[4]? = some (.bool a.om) := by rw [← hkb]; rfl
  have b1 : (w.alloc (.cells CB 64)).cell? ⟨w.heap.size, 1, none⟩ = some (.slice M.1 a.chs.length M.2) := by rw [World.cell?_alloc_new]; exact jb1
  have b2 : (w.alloc (.cells CB 64)).cell? ⟨w.heap.size, 2, none⟩ = some (.int .i64 a.val) := by rw [World.cell?_alloc_new]; exact jb2
  have b3 : (w.alloc (.cells CB 64)).cell? ⟨w.heap.size, 3, none⟩ = some (.string a.text) := by rw [World.cell?_alloc_new]; exact jb3
  have b4 : (w.alloc (.cells CB 64)).cell? ⟨w.heap.size, 4, none⟩ = some (.bool a.om) := by rw [World.cell?_alloc_new]; exact jb4
  clear hcb hkb jb1 jb2 jb3 jb4
  unfold Rs.used at hq
  obtain ⟨ai, l, av, tx, om⟩ := a
  obtain ⟨MA, mc⟩ := M
  dsimp only at b1 b2 b3 b4 hq
  obtain ⟨n, hn⟩ : ∃ n, l.length = n := ⟨_, rfl⟩
  obtain ⟨ts, hts⟩ : ∃ ts, tx.size = ts := ⟨_, rfl⟩
  rw [hn] at b1 hq
  rw [hts] at hq
  have HQ := Lib.hid hq
  have HTS := Lib.hid hts
  clear hq hts hn
  go_enter Tryz.func95, Tryz.ntmps95
  rcases hk with rfl | rfl | rfl | rfl | rfl | rfl
  · cases om with
    | true =>
      rcases (show (0 < n) ∨ (n = 0 ∧ av ≠ 0) ∨ (n = 0 ∧ av = 0 ∧ ts ≠ 0) ∨ (n = 0 ∧ av = 0 ∧ ts = 0) by omega) with h1 | h1 | h1 | h1
      · have HF : Hid (q = true) := Lib.hid (by rw [← HQ.out, Rs.hasC_1, Rs.hasT_1]; simp <;> omega)
        have q1 : ((n : Int) == 0) = false := by rw [beq_eq_false_iff_ne]; omega
        clear h1
        go_wp2_with (first | (go_at_call 96; refine (chosen_to _ Rs.hasC_1 _).mono ?_; rintro e w' ⟨rfl, rfl⟩) | (go_at_call 119; refine (written_to _ Rs.hasT_1 _).mono ?_; rintro e w' ⟨rfl, rfl⟩))
        go_ret
        exact ⟨ret_bool (by rw [HF.out]; rfl), (Ext.refl _).alloc _⟩
      · have HF : Hid (q = true) := Lib.hid (by rw [← HQ.out, Rs.hasC_1, Rs.hasT_1]; simp <;> omega)
        have q1 : ((n : Int) == 0) = true := by rw [beq_iff_eq]; omega
        have q2 : (av == 0) = false := by rw [beq_eq_false_iff_ne]; omega
        clear h1
        go_wp2_with (first | (go_at_call 96; refine (chosen_to _ Rs.hasC_1 _).mono ?_; rintro e w' ⟨rfl, rfl⟩) | (go_at_call 119; refine (written_to _ Rs.hasT_1 _).mono ?_; rintro e w' ⟨rfl, rfl⟩))
        go_ret
        exact ⟨ret_bool (by rw [HF.out]; rfl), (Ext.refl _).alloc _⟩
      · have HF : Hid (q = true) := Lib.hid (by rw [← HQ.out, Rs.hasC_1, Rs.hasT_1]; simp <;> omega)
        have q1 : ((n : Int) == 0) = true := by rw [beq_iff_eq]; omega
        have q2 : (av == 0) = true := by rw [beq_iff_eq]; omega
        obtain ⟨q3, q4⟩ := str_some (s := tx) (by rw [HTS.out]; omega)
        clear h1
        go_wp2_with (first | (go_at_call 96; refine (chosen_to _ Rs.hasC_1 _).mono ?_; rintro e w' ⟨rfl, rfl⟩) | (go_at_call 119; refine (written_to _ Rs.hasT_1 _).mono ?_; rintro e w' ⟨rfl, rfl⟩))
        go_ret
        exact ⟨ret_bool (by rw [HF.out]; rfl), (Ext.refl _).alloc _⟩
      · have HF : Hid (q = false) := Lib.hid (by rw [← HQ.out, Rs.hasC_1, Rs.hasT_1]; simp <;> omega)
        have q1 : ((n : Int) == 0) = true := by rw [beq_iff_eq]; omega
        have q2 : (av == 0) = true := by rw [beq_iff_eq]; omega
        have q3 := str_empty (s := tx) (by rw [HTS.out]; omega)
        clear h1
        go_wp2_with (first | (go_at_call 96; refine (chosen_to _ Rs.hasC_1 _).mono ?_; rintro e w' ⟨rfl, rfl⟩) | (go_at_call 119; refine (written_to _ Rs.hasT_1 _).mono ?_; rintro e w' ⟨rfl, rfl⟩))
        go_ret
        exact ⟨ret_bool (by rw [HF.out]; rfl), (Ext.refl _).alloc _⟩
    | false =>
      rcases (show (av ≠ 0) ∨ (av = 0 ∧ ts ≠ 0) ∨ (av = 0 ∧ ts = 0) by omega) with h1 | h1 | h1
      · have HF : Hid (q = true) := Lib.hid (by rw [← HQ.out, Rs.hasC_1, Rs.hasT_1]; simp <;> omega)
        have q2 : (av == 0) = false := by rw [beq_eq_false_iff_ne]; omega
        clear h1
        go_wp2_with (first | (go_at_call 96; refine (chosen_to _ Rs.hasC_1 _).mono ?_; rintro e w' ⟨rfl, rfl⟩) | (go_at_call 119; refine (written_to _ Rs.hasT_1 _).mono ?_; rintro e w' ⟨rfl, rfl⟩))
        go_ret
        exact ⟨ret_bool (by rw [HF.out]; rfl), (Ext.refl _).alloc _⟩
      · have HF : Hid (q = true) := Lib.hid (by rw [← HQ.out, Rs.hasC_1, Rs.hasT_1]; simp <;> omega)
        have q2 : (av == 0) = true := by rw [beq_iff_eq]; omega
        obtain ⟨q3, q4⟩ := str_some (s := tx) (by rw [HTS.out]; omega)
        clear h1
        go_wp2_with (first | (go_at_call 96; refine (chosen_to _ Rs.hasC_1 _).mono ?_; rintro e w' ⟨rfl, rfl⟩) | (go_at_call 119; refine (written_to _ Rs.hasT_1 _).mono ?_; rintro e w' ⟨rfl, rfl⟩))
        go_ret
        exact ⟨ret_bool (by rw [HF.out]; rfl), (Ext.refl _).alloc _⟩
      · have HF : Hid (q = false) := Lib.hid (by rw [← HQ.out, Rs.hasC_1, Rs.hasT_1]; simp <;> omega)
        have q2 : (av == 0) = true := by rw [beq_iff_eq]; omega
        have q3 := str_empty (s := tx) (by rw [HTS.out]; omega)
        clear h1
        go_wp2_with (first | (go_at_call 96; refine (chosen_to _ Rs.hasC_1 _).mono ?_; rintro e w' ⟨rfl, rfl⟩) | (go_at_call 119; refine (written_to _ Rs.hasT_1 _).mono ?_; rintro e w' ⟨rfl, rfl⟩))
        go_ret
        exact ⟨ret_bool (by rw [HF.out]; rfl), (Ext.refl _).alloc _⟩
  · cases om with
    | true =>
      rcases (show (0 < n) ∨ (n = 0 ∧ av ≠ 0) ∨ (n = 0 ∧ av = 0 ∧ ts ≠ 0) ∨ (n = 0 ∧ av = 0 ∧ ts = 0) by omega) with h1 | h1 | h1 | h1
      · have HF : Hid (q = true) := Lib.hid (by rw [← HQ.out, Rs.hasC_2, Rs.hasT_2]; simp <;> omega)
        have q1 : ((n : Int) == 0) = false := by rw [beq_eq_false_iff_ne]; omega
        clear h1
        go_wp2_with (first | (go_at_call 96; refine (chosen_to _ Rs.hasC_2 _).mono ?_; rintro e w' ⟨rfl, rfl⟩) | (go_at_call 119; refine (written_to _ Rs.hasT_2 _).mono ?_; rintro e w' ⟨rfl, rfl⟩))
        go_ret
        exact ⟨ret_bool (by rw [HF.out]; rfl), (Ext.refl _).alloc _⟩
      · have HF : Hid (q = true) := Lib.hid (by rw [← HQ.out, Rs.hasC_2, Rs.hasT_2]; simp <;> omega)
        have q1 : ((n : Int) == 0) = true := by rw [beq_iff_eq]; omega
        have q2 : (av == 0) = false := by rw [beq_eq_false_iff_ne]; omega
        clear h1
        go_wp2_with (first | (go_at_call 96; refine (chosen_to _ Rs.hasC_2 _).mono ?_; rintro e w' ⟨rfl, rfl⟩) | (go_at_call 119; refine (written_to _ Rs.hasT_2 _).mono ?_; rintro e w' ⟨rfl, rfl⟩))
        go_ret
        exact ⟨ret_bool (by rw [HF.out]; rfl), (Ext.refl _).alloc _⟩
      · have HF : Hid (q = true) := Lib.hid (by rw [← HQ.out, Rs.hasC_2, Rs.hasT_2]; simp <;> omega)
        have q1 : ((n : Int) == 0) = true := by rw [beq_iff_eq]; omega
        have q2 : (av == 0) = true := by rw [beq_iff_eq]; omega
        obtain ⟨q3, q4⟩ := str_some (s := tx) (by rw [HTS.out]; omega)
        clear h1
        go_wp2_with (first | (go_at_call 96; refine (chosen_to _ Rs.hasC_2 _).mono ?_; rintro e w' ⟨rfl, rfl⟩) | (go_at_call 119; refine (written_to _ Rs.hasT_2 _).mono ?_; rintro e w' ⟨rfl, rfl⟩))
        go_ret
        exact ⟨ret_bool (by rw [HF.out]; rfl), (Ext.refl _).alloc _⟩
      · have HF : Hid (q = false) := Lib.hid (by rw [← HQ.out, Rs.hasC_2, Rs.hasT_2]; simp <;> omega)
        have q1 : ((n : Int) == 0) = true := by rw [beq_iff_eq]; omega
        have q2 : (av == 0) = true := by rw [beq_iff_eq]; omega
        have q3 := str_empty (s := tx) (by rw [HTS.out]; omega)
        clear h1
        go_wp2_with (first | (go_at_call 96; refine (chosen_to _ Rs.hasC_2 _).mono ?_; rintro e w' ⟨rfl, rfl⟩) | (go_at_call 119; refine (written_to _ Rs.hasT_2 _).mono ?_; rintro e w' ⟨rfl, rfl⟩))
        go_ret
        exact ⟨ret_bool (by rw [HF.out]; rfl), (Ext.refl _).alloc _⟩
    | false =>
      rcases (show (av ≠ 0) ∨ (av = 0 ∧ ts ≠ 0) ∨ (av = 0 ∧ ts = 0) by omega) with h1 | h1 | h1
      · have HF : Hid (q = true) := Lib.hid (by rw [← HQ.out, Rs.hasC_2, Rs.hasT_2]; simp <;> omega)
        have q2 : (av == 0) = false := by rw [beq_eq_false_iff_ne]; omega
        clear h1
        go_wp2_with (first | (go_at_call 96; refine (chosen_to _ Rs.hasC_2 _).mono ?_; rintro e w' ⟨rfl, rfl⟩) | (go_at_call 119; refine (written_to _ Rs.hasT_2 _).mono ?_; rintro e w' ⟨rfl, rfl⟩))
        go_ret
        exact ⟨ret_bool (by rw [HF.out]; rfl), (Ext.refl _).alloc _⟩
      · have HF : Hid (q = true) := Lib.hid (by rw [← HQ.out, Rs.hasC_2, Rs.hasT_2]; simp <;> omega)
        have q2 : (av == 0) = true := by rw [beq_iff_eq]; omega
        obtain ⟨q3, q4⟩ := str_some (s := tx) (by rw [HTS.out]; omega)
        clear h1
        go_wp2_with (first | (go_at_call 96; refine (chosen_to _ Rs.hasC_2 _).mono ?_; rintro e w' ⟨rfl, rfl⟩) | (go_at_call 119; refine (written_to _ Rs.hasT_2 _).mono ?_; rintro e w' ⟨rfl, rfl⟩))
        go_ret
        exact ⟨ret_bool (by rw [HF.out]; rfl), (Ext.refl _).alloc _⟩
      · have HF : Hid (q = false) := Lib.hid (by rw [← HQ.out, Rs.hasC_2, Rs.hasT_2]; simp <;> omega)
        have q2 : (av == 0) = true := by rw [beq_iff_eq]; omega
        have q3 := str_empty (s := tx) (by rw [HTS.out]; omega)
        clear h1
        go_wp2_with (first | (go_at_call 96; refine (chosen_to _ Rs.hasC_2 _).mono ?_; rintro e w' ⟨rfl, rfl⟩) | (go_at_call 119; refine (written_to _ Rs.hasT_2 _).mono ?_; rintro e w' ⟨rfl, rfl⟩))
        go_ret
        exact ⟨ret_bool (by rw [HF.out]; rfl), (Ext.refl _).alloc _⟩
  · cases om with
    | true =>
      rcases (show (0 < n) ∨ (n = 0 ∧ av ≠ 0) ∨ (n = 0 ∧ av = 0 ∧ ts ≠ 0) ∨ (n = 0 ∧ av = 0 ∧ ts = 0) by omega) with h1 | h1 | h1 | h1
      · have HF : Hid (q = true) := Lib.hid (by rw [← HQ.out, Rs.hasC_3, Rs.hasT_3]; simp <;> omega)
        have q1 : ((n : Int) == 0) = false := by rw [beq_eq_false_iff_ne]; omega
        clear h1
        go_wp2_with (first | (go_at_call 96; refine (chosen_to _ Rs.hasC_3 _).mono ?_; rintro e w' ⟨rfl, rfl⟩) | (go_at_call 119; refine (written_to _ Rs.hasT_3 _).mono ?_; rintro e w' ⟨rfl, rfl⟩))
        go_ret
        exact ⟨ret_bool (by rw [HF.out]; rfl), (Ext.refl _).alloc _⟩
      · have HF : Hid (q = true) := Lib.hid (by rw [← HQ.out, Rs.hasC_3, Rs.hasT_3]; simp <;> omega)
        have q1 : ((n : Int) == 0) = true := by rw [beq_iff_eq]; omega
        have q2 : (av == 0) = false := by rw [beq_eq_false_iff_ne]; omega
        clear h1
        go_wp2_with (first | (go_at_call 96; refine (chosen_to _ Rs.hasC_3 _).mono ?_; rintro e w' ⟨rfl, rfl⟩) | (go_at_call 119; refine (written_to _ Rs.hasT_3 _).mono ?_; rintro e w' ⟨rfl, rfl⟩))
        go_ret
        exact ⟨ret_bool (by rw [HF.out]; rfl), (Ext.refl _).alloc _⟩
      · have HF : Hid (q = true) := Lib.hid (by rw [← HQ.out, Rs.hasC_3, Rs.hasT_3]; simp <;> omega)
        have q1 : ((n : Int) == 0) = true := by rw [beq_iff_eq]; omega
        have q2 : (av == 0) = true := by rw [beq_iff_eq]; omega
        obtain ⟨q3, q4⟩ := str_some (s := tx) (by rw [HTS.out]; omega)
        clear h1
        go_wp2_with (first | (go_at_call 96; refine (chosen_to _ Rs.hasC_3 _).mono ?_; rintro e w' ⟨rfl, rfl⟩) | (go_at_call 119; refine (written_to _ Rs.hasT_3 _).mono ?_; rintro e w' ⟨rfl, rfl⟩))
        go_ret
        exact ⟨ret_bool (by rw [HF.out]; rfl), (Ext.refl _).alloc _⟩
      · have HF : Hid (q = false) := Lib.hid (by rw [← HQ.out, Rs.hasC_3, Rs.hasT_3]; simp <;> omega)
        have q1 : ((n : Int) == 0) = true := by rw [beq_iff_eq]; omega
        have q2 : (av == 0) = true := by rw [beq_iff_eq]; omega
        have q3 := str_empty (s := tx) (by rw [HTS.out]; omega)
        clear h1
        go_wp2_with (first | (go_at_call 96; refine (chosen_to _ Rs.hasC_3 _).mono ?_; rintro e w' ⟨rfl, rfl⟩) | (go_at_call 119; refine (written_to _ Rs.hasT_3 _).mono ?_; rintro e w' ⟨rfl, rfl⟩))
        go_ret
        exact ⟨ret_bool (by rw [HF.out]; rfl), (Ext.refl _).alloc _⟩
    | false =>
      rcases (show (av ≠ 0) ∨ (av = 0 ∧ ts ≠ 0) ∨ (av = 0 ∧ ts = 0) by omega) with h1 | h1 | h1
      · have HF : Hid (q = true) := Lib.hid (by rw [← HQ.out, Rs.hasC_3, Rs.hasT_3]; simp <;> omega)
        have q2 : (av == 0) = false := by rw [beq_eq_false_iff_ne]; omega
        clear h1
        go_wp2_with (first | (go_at_call 96; refine (chosen_to _ Rs.hasC_3 _).mono ?_; rintro e w' ⟨rfl, rfl⟩) | (go_at_call 119; refine (written_to _ Rs.hasT_3 _).mono ?_; rintro e w' ⟨rfl, rfl⟩))
        go_ret
        exact ⟨ret_bool (by rw [HF.out]; rfl), (Ext.refl _).alloc _⟩
      · have HF : Hid (q = true) := Lib.hid (by rw [← HQ.out, Rs.hasC_3, Rs.hasT_3]; simp <;> omega)
        have q2 : (av == 0) = true := by rw [beq_iff_eq]; omega
        obtain ⟨q3, q4⟩ := str_some (s := tx) (by rw [HTS.out]; omega)
        clear h1
        go_wp2_with (first | (go_at_call 96; refine (chosen_to _ Rs.hasC_3 _).mono ?_; rintro e w' ⟨rfl, rfl⟩) | (go_at_call 119; refine (written_to _ Rs.hasT_3 _).mono ?_; rintro e w' ⟨rfl, rfl⟩))
        go_ret
        exact ⟨ret_bool (by rw [HF.out]; rfl), (Ext.refl _).alloc _⟩
      · have HF : Hid (q = false) := Lib.hid (by rw [← HQ.out, Rs.hasC_3, Rs.hasT_3]; simp <;> omega)
        have q2 : (av == 0) = true := by rw [beq_iff_eq]; omega
        have q3 := str_empty (s := tx) (by rw [HTS.out]; omega)
        clear h1
        go_wp2_with (first | (go_at_call 96; refine (chosen_to _ Rs.hasC_3 _).mono ?_; rintro e w' ⟨rfl, rfl⟩) | (go_at_call 119; refine (written_to _ Rs.hasT_3 _).mono ?_; rintro e w' ⟨rfl, rfl⟩))
        go_ret
        exact ⟨ret_bool (by rw [HF.out]; rfl), (Ext.refl _).alloc _⟩
  · cases om with
    | true =>
      rcases (show (0 < n) ∨ (n = 0 ∧ av ≠ 0) ∨ (n = 0 ∧ av = 0 ∧ ts ≠ 0) ∨ (n = 0 ∧ av = 0 ∧ ts = 0) by omega) with h1 | h1 | h1 | h1
      · have HF : Hid (q = true) := Lib.hid (by rw [← HQ.out, Rs.hasC_4, Rs.hasT_4]; simp <;> omega)
        have q1 : ((n : Int) == 0) = false := by rw [beq_eq_false_iff_ne]; omega
        clear h1
        go_wp2_with (first | (go_at_call 96; refine (chosen_to _ Rs.hasC_4 _).mono ?_; rintro e w' ⟨rfl, rfl⟩) | (go_at_call 119; refine (written_to _ Rs.hasT_4 _).mono ?_; rintro e w' ⟨rfl, rfl⟩))
        go_ret
        exact ⟨ret_bool (by rw [HF.out]; rfl), (Ext.refl _).alloc _⟩
      · have HF : Hid (q = true) := Lib.hid (by rw [← HQ.out, Rs.hasC_4, Rs.hasT_4]; simp <;> omega)
        have q1 : ((n : Int) == 0) = true := by rw [beq_iff_eq]; omega
        have q2 : (av == 0) = false := by rw [beq_eq_false_iff_ne]; omega
        clear h1
        go_wp2_with (first | (go_at_call 96; refine (chosen_to _ Rs.hasC_4 _).mono ?_; rintro e w' ⟨rfl, rfl⟩) | (go_at_call 119; refine (written_to _ Rs.hasT_4 _).mono ?_; rintro e w' ⟨rfl, rfl⟩))
        go_ret
        exact ⟨ret_bool (by rw [HF.out]; rfl), (Ext.refl _).alloc _⟩
      · have HF : Hid (q = true) := Lib.hid (by rw [← HQ.out, Rs.hasC_4, Rs.hasT_4]; simp <;> omega)
        have q1 : ((n : Int) == 0) = true := by rw [beq_iff_eq]; omega
        have q2 : (av == 0) = true := by rw [beq_iff_eq]; omega
        obtain ⟨q3, q4⟩ := str_some (s := tx) (by rw [HTS.out]; omega)
        clear h1
        go_wp2_with (first | (go_at_call 96; refine (chosen_to _ Rs.hasC_4 _).mono ?_; rintro e w' ⟨rfl, rfl⟩) | (go_at_call 119; refine (written_to _ Rs.hasT_4 _).mono ?_; rintro e w' ⟨rfl, rfl⟩))
        go_ret
        exact ⟨ret_bool (by rw [HF.out]; rfl), (Ext.refl _).alloc _⟩
      · have HF : Hid (q = false) := Lib.hid (by rw [← HQ.out, Rs.hasC_4, Rs.hasT_4]; simp <;> omega)
        have q1 : ((n : Int) == 0) = true := by rw [beq_iff_eq]; omega
        have q2 : (av == 0) = true := by rw [beq_iff_eq]; omega
        have q3 := str_empty (s := tx) (by rw [HTS.out]; omega)
        clear h1
        go_wp2_with (first | (go_at_call 96; refine (chosen_to _ Rs.hasC_4 _).mono ?_; rintro e w' ⟨rfl, rfl⟩) | (go_at_call 119; refine (written_to _ Rs.hasT_4 _).mono ?_; rintro e w' ⟨rfl, rfl⟩))
        go_ret
        exact ⟨ret_bool (by rw [HF.out]; rfl), (Ext.refl _).alloc _⟩
    | false =>
      rcases (show (0 < n) ∨ (n = 0 ∧ ts ≠ 0) ∨ (n = 0 ∧ ts = 0) by omega) with h1 | h1 | h1
      · have HF : Hid (q = true) := Lib.hid (by rw [← HQ.out, Rs.hasC_4, Rs.hasT_4]; simp <;> omega)
        have q1 : ((n : Int) == 0) = false := by rw [beq_eq_false_iff_ne]; omega
        clear h1
        go_wp2_with (first | (go_at_call 96; refine (chosen_to _ Rs.hasC_4 _).mono ?_; rintro e w' ⟨rfl, rfl⟩) | (go_at_call 119; refine (written_to _ Rs.hasT_4 _).mono ?_; rintro e w' ⟨rfl, rfl⟩))
        go_ret
        exact ⟨ret_bool (by rw [HF.out]; rfl), (Ext.refl _).alloc _⟩
      · have HF : Hid (q = true) := Lib.hid (by rw [← HQ.out, Rs.hasC_4, Rs.hasT_4]; simp <;> omega)
        have q1 : ((n : Int) == 0) = true := by rw [beq_iff_eq]; omega
        obtain ⟨q3, q4⟩ := str_some (s := tx) (by rw [HTS.out]; omega)
        clear h1
        go_wp2_with (first | (go_at_call 96; refine (chosen_to _ Rs.hasC_4 _).mono ?_; rintro e w' ⟨rfl, rfl⟩) | (go_at_call 119; refine (written_to _ Rs.hasT_4 _).mono ?_; rintro e w' ⟨rfl, rfl⟩))
        go_ret
        exact ⟨ret_bool (by rw [HF.out]; rfl), (Ext.refl _).alloc _⟩
      · have HF : Hid (q = false) := Lib.hid (by rw [← HQ.out, Rs.hasC_4, Rs.hasT_4]; simp <;> omega)
        have q1 : ((n : Int) == 0) = true := by rw [beq_iff_eq]; omega
        have q3 := str_empty (s := tx) (by rw [HTS.out]; omega)
        clear h1
        go_wp2_with (first | (go_at_call 96; refine (chosen_to _ Rs.hasC_4 _).mono ?_; rintro e w' ⟨rfl, rfl⟩) | (go_at_call 119; refine (written_to _ Rs.hasT_4 _).mono ?_; rintro e w' ⟨rfl, rfl⟩))
        go_ret
        exact ⟨ret_bool (by rw [HF.out]; rfl), (Ext.refl _).alloc _⟩
  · cases om with
    | true =>
      rcases (show (0 < n) ∨ (n = 0 ∧ av ≠ 0) ∨ (n = 0 ∧ av = 0 ∧ ts ≠ 0) ∨ (n = 0 ∧ av = 0 ∧ ts = 0) by omega) with h1 | h1 | h1 | h1
      · have HF : Hid (q = true) := Lib.hid (by rw [← HQ.out, Rs.hasC_5, Rs.hasT_5]; simp <;> omega)
        have q1 : ((n : Int) == 0) = false := by rw [beq_eq_false_iff_ne]; omega
        clear h1
        go_wp2_with (first | (go_at_call 96; refine (chosen_to _ Rs.hasC_5 _).mono ?_; rintro e w' ⟨rfl, rfl⟩) | (go_at_call 119; refine (written_to _ Rs.hasT_5 _).mono ?_; rintro e w' ⟨rfl, rfl⟩))
        go_ret
        exact ⟨ret_bool (by rw [HF.out]; rfl), (Ext.refl _).alloc _⟩
      · have HF : Hid (q = true) := Lib.hid (by rw [← HQ.out, Rs.hasC_5, Rs.hasT_5]; simp <;> omega)
        have q1 : ((n : Int) == 0) = true := by rw [beq_iff_eq]; omega
        have q2 : (av == 0) = false := by rw [beq_eq_false_iff_ne]; omega
        clear h1
        go_wp2_with (first | (go_at_call 96; refine (chosen_to _ Rs.hasC_5 _).mono ?_; rintro e w' ⟨rfl, rfl⟩) | (go_at_call 119; refine (written_to _ Rs.hasT_5 _).mono ?_; rintro e w' ⟨rfl, rfl⟩))
        go_ret
        exact ⟨ret_bool (by rw [HF.out]; rfl), (Ext.refl _).alloc _⟩
      · have HF : Hid (q = true) := Lib.hid (by rw [← HQ.out, Rs.hasC_5, Rs.hasT_5]; simp <;> omega)
        have q1 : ((n : Int) == 0) = true := by rw [beq_iff_eq]; omega
        have q2 : (av == 0) = true := by rw [beq_iff_eq]; omega
        obtain ⟨q3, q4⟩ := str_some (s := tx) (by rw [HTS.out]; omega)
        clear h1
        go_wp2_with (first | (go_at_call 96; refine (chosen_to _ Rs.hasC_5 _).mono ?_; rintro e w' ⟨rfl, rfl⟩) | (go_at_call 119; refine (written_to _ Rs.hasT_5 _).mono ?_; rintro e w' ⟨rfl, rfl⟩))
        go_ret
        exact ⟨ret_bool (by rw [HF.out]; rfl), (Ext.refl _).alloc _⟩
      · have HF : Hid (q = false) := Lib.hid (by rw [← HQ.out, Rs.hasC_5, Rs.hasT_5]; simp <;> omega)
        have q1 : ((n : Int) == 0) = true := by rw [beq_iff_eq]; omega
        have q2 : (av == 0) = true := by rw [beq_iff_eq]; omega
        have q3 := str_empty (s := tx) (by rw [HTS.out]; omega)
        clear h1
        go_wp2_with (first | (go_at_call 96; refine (chosen_to _ Rs.hasC_5 _).mono ?_; rintro e w' ⟨rfl, rfl⟩) | (go_at_call 119; refine (written_to _ Rs.hasT_5 _).mono ?_; rintro e w' ⟨rfl, rfl⟩))
        go_ret
        exact ⟨ret_bool (by rw [HF.out]; rfl), (Ext.refl _).alloc _⟩
    | false =>
      rcases (show (0 < n) ∨ (n = 0 ∧ av ≠ 0) ∨ (n = 0 ∧ av = 0) by omega) with h1 | h1 | h1
      · have HF : Hid (q = true) := Lib.hid (by rw [← HQ.out, Rs.hasC_5, Rs.hasT_5]; simp <;> omega)
        have q1 : ((n : Int) == 0) = false := by rw [beq_eq_false_iff_ne]; omega
        clear h1
        go_wp2_with (first | (go_at_call 96; refine (chosen_to _ Rs.hasC_5 _).mono ?_; rintro e w' ⟨rfl, rfl⟩) | (go_at_call 119; refine (written_to _ Rs.hasT_5 _).mono ?_; rintro e w' ⟨rfl, rfl⟩))
        go_ret
        exact ⟨ret_bool (by rw [HF.out]; rfl), (Ext.refl _).alloc _⟩
      · have HF : Hid (q = true) := Lib.hid (by rw [← HQ.out, Rs.hasC_5, Rs.hasT_5]; simp <;> omega)
        have q1 : ((n : Int) == 0) = true := by rw [beq_iff_eq]; omega
        have q2 : (av == 0) = false := by rw [beq_eq_false_iff_ne]; omega
        clear h1
        go_wp2_with (first | (go_at_call 96; refine (chosen_to _ Rs.hasC_5 _).mono ?_; rintro e w' ⟨rfl, rfl⟩) | (go_at_call 119; refine (written_to _ Rs.hasT_5 _).mono ?_; rintro e w' ⟨rfl, rfl⟩))
        go_ret
        exact ⟨ret_bool (by rw [HF.out]; rfl), (Ext.refl _).alloc _⟩
      · have HF : Hid (q = false) := Lib.hid (by rw [← HQ.out, Rs.hasC_5, Rs.hasT_5]; simp <;> omega)
        have q1 : ((n : Int) == 0) = true := by rw [beq_iff_eq]; omega
        have q2 : (av == 0) = true := by rw [beq_iff_eq]; omega
        clear h1
        go_wp2_with (first | (go_at_call 96; refine (chosen_to _ Rs.hasC_5 _).mono ?_; rintro e w' ⟨rfl, rfl⟩) | (go_at_call 119; refine (written_to _ Rs.hasT_5 _).mono ?_; rintro e w' ⟨rfl, rfl⟩))
        go_ret
        exact ⟨ret_bool (by rw [HF.out]; rfl), (Ext.refl _).alloc _⟩
  · cases om with
    | true =>
      rcases (show (0 < n) ∨ (n = 0 ∧ av ≠ 0) ∨ (n = 0 ∧ av = 0 ∧ ts ≠ 0) ∨ (n = 0 ∧ av = 0 ∧ ts = 0) by omega) with h1 | h1 | h1 | h1
      · have HF : Hid (q = true) := Lib.hid (by rw [← HQ.out, Rs.hasC_6, Rs.hasT_6]; simp <;> omega)
        have q1 : ((n : Int) == 0) = false := by rw [beq_eq_false_iff_ne]; omega
        clear h1
        go_wp2_with (first | (go_at_call 96; refine (chosen_to _ Rs.hasC_6 _).mono ?_; rintro e w' ⟨rfl, rfl⟩) | (go_at_call 119; refine (written_to _ Rs.hasT_6 _).mono ?_; rintro e w' ⟨rfl, rfl⟩))
        go_ret
        exact ⟨ret_bool (by rw [HF.out]; rfl), (Ext.refl _).alloc _⟩
      · have HF : Hid (q = true) := Lib.hid (by rw [← HQ.out, Rs.hasC_6, Rs.hasT_6]; simp <;> omega)
        have q1 : ((n : Int) == 0) = true := by rw [beq_iff_eq]; omega
        have q2 : (av == 0) = false := by rw [beq_eq_false_iff_ne]; omega
        clear h1
        go_wp2_with (first | (go_at_call 96; refine (chosen_to _ Rs.hasC_6 _).mono ?_; rintro e w' ⟨rfl, rfl⟩) | (go_at_call 119; refine (written_to _ Rs.hasT_6 _).mono ?_; rintro e w' ⟨rfl, rfl⟩))
        go_ret
        exact ⟨ret_bool (by rw [HF.out]; rfl), (Ext.refl _).alloc _⟩
      · have HF : Hid (q = true) := Lib.hid (by rw [← HQ.out, Rs.hasC_6, Rs.hasT_6]; simp <;> omega)
        have q1 : ((n : Int) == 0) = true := by rw [beq_iff_eq]; omega
        have q2 : (av == 0) = true := by rw [beq_iff_eq]; omega
        obtain ⟨q3, q4⟩ := str_some (s := tx) (by rw [HTS.out]; omega)
        clear h1
        go_wp2_with (first | (go_at_call 96; refine (chosen_to _ Rs.hasC_6 _).mono ?_; rintro e w' ⟨rfl, rfl⟩) | (go_at_call 119; refine (written_to _ Rs.hasT_6 _).mono ?_; rintro e w' ⟨rfl, rfl⟩))
        go_ret
        exact ⟨ret_bool (by rw [HF.out]; rfl), (Ext.refl _).alloc _⟩
      · have HF : Hid (q = false) := Lib.hid (by rw [← HQ.out, Rs.hasC_6, Rs.hasT_6]; simp <;> omega)
        have q1 : ((n : Int) == 0) = true := by rw [beq_iff_eq]; omega
        have q2 : (av == 0) = true := by rw [beq_iff_eq]; omega
        have q3 := str_empty (s := tx) (by rw [HTS.out]; omega)
        clear h1
        go_wp2_with (first | (go_at_call 96; refine (chosen_to _ Rs.hasC_6 _).mono ?_; rintro e w' ⟨rfl, rfl⟩) | (go_at_call 119; refine (written_to _ Rs.hasT_6 _).mono ?_; rintro e w' ⟨rfl, rfl⟩))
        go_ret
        exact ⟨ret_bool (by rw [HF.out]; rfl), (Ext.refl _).alloc _⟩
    | false =>
      rcases (show (0 < n) ∨ (n = 0 ∧ av ≠ 0) ∨ (n = 0 ∧ av = 0) by omega) with h1 | h1 | h1
      · have HF : Hid (q = true) := Lib.hid (by rw [← HQ.out, Rs.hasC_6, Rs.hasT_6]; simp <;> omega)
        have q1 : ((n : Int) == 0) = false := by rw [beq_eq_false_iff_ne]; omega
        clear h1
        go_wp2_with (first | (go_at_call 96; refine (chosen_to _ Rs.hasC_6 _).mono ?_; rintro e w' ⟨rfl, rfl⟩) | (go_at_call 119; refine (written_to _ Rs.hasT_6 _).mono ?_; rintro e w' ⟨rfl, rfl⟩))
        go_ret
        exact ⟨ret_bool (by rw [HF.out]; rfl), (Ext.refl _).alloc _⟩
      · have HF : Hid (q = true) := Lib.hid (by rw [← HQ.out, Rs.hasC_6, Rs.hasT_6]; simp <;> omega)
        have q1 : ((n : Int) == 0) = true := by rw [beq_iff_eq]; omega
        have q2 : (av == 0) = false := by rw [beq_eq_false_iff_ne]; omega
        clear h1
        go_wp2_with (first | (go_at_call 96; refine (chosen_to _ Rs.hasC_6 _).mono ?_; rintro e w' ⟨rfl, rfl⟩) | (go_at_call 119; refine (written_to _ Rs.hasT_6 _).mono ?_; rintro e w' ⟨rfl, rfl⟩))
        go_ret
        exact ⟨ret_bool (by rw [HF.out]; rfl), (Ext.refl _).alloc _⟩
      · have HF : Hid (q = false) := Lib.hid (by rw [← HQ.out, Rs.hasC_6, Rs.hasT_6]; simp <;> omega)
        have q1 : ((n : Int) == 0) = true := by rw [beq_iff_eq]; omega
        have q2 : (av == 0) = true := by rw [beq_iff_eq]; omega
        clear h1
        go_wp2_with (first | (go_at_call 96; refine (chosen_to _ Rs.hasC_6 _).mono ?_; rintro e w' ⟨rfl, rfl⟩) | (go_at_call 119; refine (written_to _ Rs.hasT_6 _).mono ?_; rintro e w' ⟨rfl, rfl⟩))
        go_ret
        exact ⟨ret_bool (by rw [HF.out]; rfl), (Ext.refl _).alloc _⟩
theorem rplain_to (kd : Int) (hk : kd = 1 ∨ kd = 2 ∨ kd = 3 ∨ kd = 4 ∨ kd = 5 ∨ kd = 6) (a : Rs.Ans) (M : Rs.ALoc) {q : Bool} (hq : Rs.used kd a = q) {v : Bool} (hv : (!q) = v) (w : World) :
    Calls Tryz.prog 95 #[.int .i64 kd, a.agg M] w fun e w' => e = .returned (.bool v) ∧ Ext w w' := by subst hv; exact rplain_any kd hk a M hq w
set_option maxRecDepth 100000 in
set_option maxHeartbeats 64000000 in
theorem rvalid40_any (it : It.Item) (L : It.Loc) (a : Rs.Ans) (M : Rs.ALoc) (w : World) (h : It.In w it L) (ha : a.In w M) :
    Calls Tryz.prog 56 #[It.agg it L, a.agg M] w fun e w' => e = .returned (.int .i64 (Rs.vla it a)) ∧ Ext w w' := by
  obtain ⟨CA, hca, hna, -, hka⟩ := rs_packed it L
  obtain ⟨CB, hcb, hnb, -, hkb⟩ := Rs.Ans.packed a M
  have HV := Lib.hid (rvalid_any it L)
  have HCH := Lib.hid (fun (kd : Int) (hk : kd = 1 ∨ kd = 2 ∨ kd = 3) (m n : Nat) (hn : a.chs.length = n) => rchoices_any kd hk m M.1 M.2 a.chs hn)
  have HPL := Lib.hid (fun (kd : Int) (hk : kd = 1 ∨ kd = 2 ∨ kd = 3 ∨ kd = 4 ∨ kd = 5 ∨ kd = 6) (q v : Bool) (hq : Rs.used kd a = q) (hv : (!q) = v) => rplain_to kd hk a M hq hv)
  rw [hca] at HV
  rw [hcb] at HPL
  rw [hca, hcb]
  have HVS : Hid (It.vld it = 0 → it.kind = 1 ∨ it.kind = 2 ∨ it.kind = 3 ∨ it.kind = 4 ∨ it.kind = 5 ∨ it.kind = 6) := Lib.hid Rs.vld_kind
  have ja0 : CA[0]? = some (.int .i64 it.id) := by rw [← hka]; rfl
  have ja2 : CA[2]? = some (.int .i64 it.kind) := by rw [← hka]; rfl
  have ja4 : CA[4]? = some (.slice L.oA it.opts.length L.oc) := by rw [← hka]; rfl
  have J4 := Lib.hid ja4
  clear ja4
  have jb0 : CB[0]? = some (.int .i64 a.item) := by rw [← hkb]; rfl
  have jb1 : CB[1]? = some (.slice M.1 a.chs.length M.2) := by rw [← hkb]; rfl
  have jb2 : CB[2]? = some (.int .i64 a.val) := by rw [← hkb]; rfl
  have jb3 : CB[3]? = some (.string a.text) := by rw [← hkb]; rfl
  have jb4 : CB[4]? = some (.bool a.om) := by rw [← hkb]; rfl
  have HI := Lib.hid h
  have HA := Lib.hid ha
  have IA := Lib.hid (rs_infoItem hna)
  have IB := Lib.hid (rs_infoAns hnb)
  have htx : a.text.size ≤ 140737488351232 := ha.ok.text
  have hcl : a.chs.length ≤ 17592186043904 := ha.ok.cl
  have HS : Hid (Rs.vla it a = if It.vld it ≠ 0 then It.vld it else Rs.vlP it.id it.kind it.opts.length a.item a.chs a.val a.text a.om) := Lib.hid rfl
  have HSL : Hid (SlI w M.1 a.chs) := Lib.hid ha.c
  have J := Lib.hid (And.intro ja0 (And.intro ja2 (And.intro jb0 (And.intro jb1 (And.intro jb2 (And.intro jb3 jb4))))))
  clear hca hcb hna hnb hka hkb ja0 ja2 jb0 jb1 jb2 jb3 jb4 h ha
  obtain ⟨er, her⟩ : ∃ er, It.vld it = er := ⟨_, rfl⟩
  obtain ⟨v, hv⟩ : ∃ v, Rs.vla it a = v := ⟨_, rfl⟩
  rw [hv] at HS ⊢
  rw [her] at HS HVS HV
  clear her hv
  obtain ⟨ai, l, av, tx, om⟩ := a
  obtain ⟨MA, mc⟩ := M
  dsimp only at HS J htx hcl HSL HCH HPL
  obtain ⟨m, hm⟩ : ∃ m, it.opts.length = m := ⟨_, rfl⟩
  obtain ⟨n, hn⟩ : ∃ n, l.length = n := ⟨_, rfl⟩
  obtain ⟨kd, hkd⟩ : ∃ kd, it.kind = kd := ⟨_, rfl⟩
  obtain ⟨id, hid⟩ : ∃ id, it.id = id := ⟨_, rfl⟩
  rw [hm, hkd, hid] at HS
  rw [hm] at J4
  rw [hkd] at HVS
  rw [hn, hkd, hid] at J
  rw [hn] at hcl
  obtain ⟨ts, hts⟩ : ∃ ts, tx.size = ts := ⟨_, rfl⟩
  have HTS := Lib.hid hts
  clear hts
  have HN := Lib.hid hn
  have HM := Lib.hid hm
  have HKD := Lib.hid hkd
  clear hm hn hkd hid
  go_enter Tryz.func56, Tryz.ntmps56
  go_wp2_with (refine wpList_load_row rfl _ _ rfl w.heap.size rfl _ CA _ _ (two_fst _ _ _) Tryz.underlying55 rfl IA.out ?_)
  have X0 := ((Ext.refl w).alloc (.cells CA 55)).alloc (.cells CB 64)
  with_reducible refine (HV.out _ (HI.out.ext X0)).mono ?_
  rintro e w1 ⟨rfl, hb1⟩
  have A1 := hb1.blockAt (two_fst w (.cells CA 55) (.cells CB 64))
  have B1 := hb1.blockAt (two_snd w (.cells CA 55) (.cells CB 64))
  have a0 : w1.cell? ⟨w.heap.size, 0, none⟩ = some (.int .i64 id) := (cell_of_row _ _ 0 _ _ _ A1).trans J.out.1
  have a4 : w1.cell? ⟨w.heap.size, 4, none⟩ = some (.slice L.oA m L.oc) := (cell_of_row _ _ 4 _ _ _ A1).trans J4.out
  have a2 : w1.cell? ⟨w.heap.size, 2, none⟩ = some (.int .i64 kd) := (cell_of_row _ _ 2 _ _ _ A1).trans J.out.2.1
  have b0 : w1.cell? ⟨w.heap.size + 1, 0, none⟩ = some (.int .i64 ai) := (cell_of_row _ _ 0 _ _ _ B1).trans J.out.2.2.1
  have b1 : w1.cell? ⟨w.heap.size + 1, 1, none⟩ = some (.slice MA n mc) := (cell_of_row _ _ 1 _ _ _ B1).trans J.out.2.2.2.1
  have b2 : w1.cell? ⟨w.heap.size + 1, 2, none⟩ = some (.int .i64 av) := (cell_of_row _ _ 2 _ _ _ B1).trans J.out.2.2.2.2.1
  have b3 : w1.cell? ⟨w.heap.size + 1, 3, none⟩ = some (.string tx) := (cell_of_row _ _ 3 _ _ _ B1).trans J.out.2.2.2.2.2.1
  have b4 : w1.cell? ⟨w.heap.size + 1, 4, none⟩ = some (.bool om) := (cell_of_row _ _ 4 _ _ _ B1).trans J.out.2.2.2.2.2.2
  have X1 := Lib.hid (X0.trans hb1)
  have BB := Lib.hid B1
  clear hb1 X0 A1 B1 HV
  by_cases he : er = 0
  case neg =>
    have t0 : (er != 0) = true := by rw [bne_iff_ne]; exact he
    have HE := Lib.hid he
    clear he
    have HF : Hid (v = er) := Lib.hid (by rw [HS.out, if_pos HE.out])
    go_wp2
    go_ret
    exact ⟨ret_int HF.out.symm, X1.out⟩
  have hk := HVS.out he
  have t0 : (er != 0) = false := by rw [he]; rfl
  have HS2 : Hid (v = Rs.vlP id kd m ai l av tx om) := Lib.hid (by rw [HS.out, if_neg (fun h => h he)])
  clear he HS HVS
  by_cases hid : ai = id
  case neg =>
    have t1 : (ai != id) = true := by rw [bne_iff_ne]; exact hid
    have HF : Hid (v = 6) := Lib.hid (by rw [HS2.out]; unfold Rs.vlP; rw [if_pos hid])
    clear hid
    go_wp2
    go_ret
    exact ⟨ret_int HF.out.symm, X1.out⟩
  have t1 : (ai != id) = false := by rw [bne_eq_false_iff_eq]; exact hid
  have HID := Lib.hid hid
  clear hid
  have HUS : Hid (Rs.used kd ⟨ai, l, av, tx, om⟩ = ((decide (0 < n) && (om || !Rs.hasC kd)) || (decide (av ≠ 0) && (om || decide (kd ≠ 4))) || (decide (ts ≠ 0) && (om || !Rs.hasT kd)))) := Lib.hid (by rw [← HN.out, ← HTS.out]; rfl)
  obtain ⟨q, hq⟩ : ∃ q, Rs.used kd ⟨ai, l, av, tx, om⟩ = q := ⟨_, rfl⟩
  have HQ := Lib.hid hq
  clear hq
  have HS3 : Hid (v = if q = true then 1 else if om = true then 0 else if kd = 4 then (if It.wi av (-9999999) 9999999 = true then 0 else 3) else if kd = 5 then (if 200 < tx.size then 5 else 0) else if kd = 6 then (if 2000 < tx.size then 5 else 0) else Rs.cho kd m l) := Lib.hid (by
    rw [HS2.out]; unfold Rs.vlP
    rw [if_neg (fun h => h HID.out), ← HQ.out]; rfl)
  cases q with
  | true =>
    have HF : Hid (v = 1) := Lib.hid (by rw [HS3.out, if_pos rfl])
    go_wp2_with (with_reducible refine wpList_load_row rfl 64 (.tmp 3) rfl (w.heap.size + 1) (by with_unfolding_all rfl) _ CB _ _ BB.out Tryz.underlying64 rfl IB.out ?_)
    with_reducible refine (HPL.out kd hk true false HQ.out rfl _).mono ?_
    rintro e w2 ⟨rfl, hb2⟩
    have X2 := Lib.hid (X1.out.trans hb2)
    clear hb2
    go_wp2
    go_ret
    exact ⟨ret_int HF.out.symm, X2.out⟩
  | false =>
    go_wp2_with (with_reducible refine wpList_load_row rfl 64 (.tmp 3) rfl (w.heap.size + 1) (by with_unfolding_all rfl) _ CB _ _ BB.out Tryz.underlying64 rfl IB.out ?_)
    with_reducible refine (HPL.out kd hk false true HQ.out rfl _).mono ?_
    rintro e w2 ⟨rfl, hb2⟩
    have X2 := Lib.hid (X1.out.trans hb2)
    have c2 := hb2.keep a2
    have c4 := hb2.keep a4
    have d1 := hb2.keep b1
    have d2 := hb2.keep b2
    have d3 := hb2.keep b3
    have d4 := hb2.keep b4
    clear hb2 a0 a2 a4 b0 b1 b2 b3 b4
    cases om with
    | true =>
      have HF : Hid (v = 0) := Lib.hid (by rw [HS3.out, if_neg (by decide), if_pos rfl])
      go_wp2
      go_ret
      exact ⟨ret_int HF.out.symm, X2.out⟩
    | false =>
      rcases hk with rfl | rfl | rfl | rfl | rfl | rfl
      · go_wp2_with (go_at_call 96; refine (chosen_to _ Rs.hasC_1 _).mono ?_; rintro e w' ⟨rfl, rfl⟩)
        with_reducible refine (HCH.out 1 (by decide) m n HN.out hcl (v := v) (by rw [HS3.out, if_neg (by decide), if_neg (by decide), if_neg (by decide), if_neg (by decide), if_neg (by decide)]) _ (HSL.out.ext X2.out)).mono ?_
        rintro e w3 ⟨rfl, hb3⟩
        have X3 := Lib.hid (X2.out.trans hb3)
        clear hb3
        go_wp2
        go_ret
        exact ⟨rfl, X3.out⟩
      · go_wp2_with (go_at_call 96; refine (chosen_to _ Rs.hasC_2 _).mono ?_; rintro e w' ⟨rfl, rfl⟩)
        with_reducible refine (HCH.out 2 (by decide) m n HN.out hcl (v := v) (by rw [HS3.out, if_neg (by decide), if_neg (by decide), if_neg (by decide), if_neg (by decide), if_neg (by decide)]) _ (HSL.out.ext X2.out)).mono ?_
        rintro e w3 ⟨rfl, hb3⟩
        have X3 := Lib.hid (X2.out.trans hb3)
        clear hb3
        go_wp2
        go_ret
        exact ⟨rfl, X3.out⟩
      · go_wp2_with (go_at_call 96; refine (chosen_to _ Rs.hasC_3 _).mono ?_; rintro e w' ⟨rfl, rfl⟩)
        with_reducible refine (HCH.out 3 (by decide) m n HN.out hcl (v := v) (by rw [HS3.out, if_neg (by decide), if_neg (by decide), if_neg (by decide), if_neg (by decide), if_neg (by decide)]) _ (HSL.out.ext X2.out)).mono ?_
        rintro e w3 ⟨rfl, hb3⟩
        have X3 := Lib.hid (X2.out.trans hb3)
        clear hb3
        go_wp2
        go_ret
        exact ⟨rfl, X3.out⟩
      · rcases (show av < -9999999 ∨ (-9999999 ≤ av ∧ 9999999 < av) ∨ (-9999999 ≤ av ∧ av ≤ 9999999) by omega) with h2 | ⟨h2, h3⟩ | ⟨h2, h3⟩
        · have HF : Hid (v = 3) := Lib.hid (by rw [HS3.out, if_neg (by decide), if_neg (by decide), if_pos rfl, if_neg (by rw [It.wi_iff]; omega)])
          go_wp2_with (go_at_call 96; refine (chosen_to _ Rs.hasC_4 _).mono ?_; rintro e w' ⟨rfl, rfl⟩)
          go_ret
          exact ⟨ret_int HF.out.symm, X2.out⟩
        · have HF : Hid (v = 3) := Lib.hid (by rw [HS3.out, if_neg (by decide), if_neg (by decide), if_pos rfl, if_neg (by rw [It.wi_iff]; omega)])
          go_wp2_with (go_at_call 96; refine (chosen_to _ Rs.hasC_4 _).mono ?_; rintro e w' ⟨rfl, rfl⟩)
          go_ret
          exact ⟨ret_int HF.out.symm, X2.out⟩
        · have HF : Hid (v = 0) := Lib.hid (by rw [HS3.out, if_neg (by decide), if_neg (by decide), if_pos rfl, if_pos (by rw [It.wi_iff]; omega)])
          go_wp2_with (go_at_call 96; refine (chosen_to _ Rs.hasC_4 _).mono ?_; rintro e w' ⟨rfl, rfl⟩)
          go_ret
          exact ⟨ret_int HF.out.symm, X2.out⟩
      · by_cases h2 : 200 < tx.size
        · have HF : Hid (v = 5) := Lib.hid (by rw [HS3.out, if_neg (by decide), if_neg (by decide), if_neg (by decide), if_pos rfl, if_pos h2])
          go_wp2_with (go_at_call 96; refine (chosen_to _ Rs.hasC_5 _).mono ?_; rintro e w' ⟨rfl, rfl⟩)
          go_ret
          exact ⟨ret_int HF.out.symm, X2.out⟩
        · have HF : Hid (v = 0) := Lib.hid (by rw [HS3.out, if_neg (by decide), if_neg (by decide), if_neg (by decide), if_pos rfl, if_neg h2])
          go_wp2_with (go_at_call 96; refine (chosen_to _ Rs.hasC_5 _).mono ?_; rintro e w' ⟨rfl, rfl⟩)
          go_ret
          exact ⟨ret_int HF.out.symm, X2.out⟩
      · by_cases h2 : 2000 < tx.size
        · have HF : Hid (v = 5) := Lib.hid (by rw [HS3.out, if_neg (by decide), if_neg (by decide), if_neg (by decide), if_neg (by decide), if_pos rfl, if_pos h2])
          go_wp2_with (go_at_call 96; refine (chosen_to _ Rs.hasC_6 _).mono ?_; rintro e w' ⟨rfl, rfl⟩)
          go_ret
          exact ⟨ret_int HF.out.symm, X2.out⟩
        · have HF : Hid (v = 0) := Lib.hid (by rw [HS3.out, if_neg (by decide), if_neg (by decide), if_neg (by decide), if_neg (by decide), if_pos rfl, if_neg h2])
          go_wp2_with (go_at_call 96; refine (chosen_to _ Rs.hasC_6 _).mono ?_; rintro e w' ⟨rfl, rfl⟩)
          go_ret
          exact ⟨ret_int HF.out.symm, X2.out⟩
end Go.Proofs.YtgaepmddbjdhfaaGreatDoor
namespace Go.Proofs.YtgaepmddbjdhfaaGreatDoor
open Go.RowKit
namespace Rs
theorem vla_vld {it : It.Item} {a : Ans} (h : vla it a = 0) : It.vld it = 0 ∧ vl it a = 0 := by
  unfold vla at h
  by_cases h0 : It.vld it = 0
  · rw [if_neg (fun g => g h0)] at h; exact ⟨h0, h⟩
  · rw [if_pos h0] at h; exact absurd h h0
theorem vl_ok {it : It.Item} {a : Ans} (h : vl it a = 0) : a.item = it.id ∧ used it.kind a = false ∧ (a.om = false →
    (it.kind = 4 → It.wi a.val (-9999999) 9999999 = true) ∧ (it.kind = 5 → a.text.size ≤ 200) ∧ (it.kind = 1 ∨ it.kind = 2 ∨ it.kind = 3 → cho it.kind it.opts.length a.chs = 0)) := by
  unfold vl at h
  split at h
  · exact absurd h (by decide)
  rename_i h1
  split at h
  · exact absurd h (by decide)
  rename_i h2
  refine ⟨by omega, by simpa using h2, fun h3 => ?_⟩
  rw [if_neg (by rw [h3]; simp)] at h
  refine ⟨fun hk => ?_, fun hk => ?_, fun hk => ?_⟩
  · rw [if_pos hk] at h
    split at h
    · assumption
    · exact absurd h (by decide)
  · rw [if_neg (by omega), if_pos hk] at h
    split at h
    · exact absurd h (by decide)
    · omega
  · rw [if_neg (by omega), if_neg (by omega), if_neg (by omega)] at h
    exact h
theorem cho_ok {k : Int} {n : Nat} {l : List Int} (h : cho k n l = 0) : (l.all fun x => It.wi x 0 ((n : Int) - 1)) = true ∧ fit k n l = true := by
  unfold cho at h
  split at h
  · exact absurd h (by decide)
  rename_i h1
  split at h
  · rename_i h2; exact ⟨by simpa using h1, h2⟩
  · exact absurd h (by decide)
theorem vld_key {it : It.Item} (h : It.vld it = 0) : It.key it = true ∧ 1 ≤ it.pts ∧ it.pts ≤ 5 := by
  unfold It.vld at h
  split at h
  · exact absurd h (by decide)
  rename_i hr
  split at h
  · exact absurd h (by decide)
  split at h
  · exact absurd h (by decide)
  split at h
  · exact absurd h (by decide)
  split at h
  · exact absurd h (by decide)
  rename_i hk
  have hr : It.ranges it = true := by simpa using hr
  unfold It.ranges at hr
  simp only [Bool.and_eq_true, It.wi_iff] at hr
  exact ⟨by simpa using hk, hr.1.1.1.1.1.2.1, hr.1.1.1.1.1.2.2⟩
theorem rising_inc {l : List Int} {lo hi : Int} (h : It.rising l lo hi = true) : inc l = true := by
  unfold It.rising at h
  unfold inc
  rw [It.allN_iff] at h ⊢
  intro i hi
  have := h i hi
  unfold It.risA at this
  unfold incA
  rw [Bool.and_eq_true] at this
  exact this.2
theorem inc_rising {l : List Int} {n : Nat} (h : inc l = true) (ha : (l.all fun x => It.wi x 0 ((n : Int) - 1)) = true) : It.rising l 0 ((n : Int) - 1) = true := by
  unfold inc at h
  unfold It.rising
  rw [It.allN_iff] at h ⊢
  intro i hi
  have h1 := h i hi
  unfold incA at h1
  unfold It.risA
  rw [Bool.and_eq_true]
  refine ⟨?_, h1⟩
  rw [getD_at hi]
  exact List.all_eq_true.1 ha _ (List.getElem_mem hi)
/-- A key of a choice of one. -/
theorem key_1 {it : It.Item} (h : It.vld it = 0) (hk : it.kind = 1) : it.chs.length = 1 := by
  have h1 := (vld_key h).1
  unfold It.key It.key1 at h1
  rw [if_pos hk] at h1
  simp only [Bool.and_eq_true, decide_eq_true_eq] at h1
  exact h1.1.2
theorem key_2 {it : It.Item} (h : It.vld it = 0) (hk : it.kind = 2) : 1 ≤ it.chs.length ∧ it.chs.Nodup := by
  have h1 := (vld_key h).1
  unfold It.key It.key2 at h1
  rw [if_neg (by omega), if_pos hk] at h1
  simp only [Bool.and_eq_true, decide_eq_true_eq] at h1
  exact ⟨h1.1.2, inc_nodup (rising_inc h1.2)⟩
theorem key_3 {it : It.Item} (h : It.vld it = 0) (hk : it.kind = 3) : 2 ≤ it.opts.length := by
  have h1 := (vld_key h).1
  unfold It.key It.key3 at h1
  rw [if_neg (by omega), if_neg (by omega), if_pos hk] at h1
  simp only [Bool.and_eq_true, decide_eq_true_eq] at h1
  exact h1.1.2
theorem key_4 {it : It.Item} (h : It.vld it = 0) (hk : it.kind = 4) : -9999999 ≤ it.value ∧ it.value ≤ 9999999 ∧ 0 ≤ it.tol ∧ it.tol ≤ 9999999 := by
  have h1 := (vld_key h).1
  unfold It.key It.key4 at h1
  rw [if_neg (by omega), if_neg (by omega), if_neg (by omega), if_pos hk] at h1
  simp only [Bool.and_eq_true, It.wi_iff] at h1
  omega
/-- Answers that fit. -/
theorem ans_1 {it : It.Item} {a : Ans} (h : vla it a = 0) (hk : it.kind = 1) (ho : a.om = false) : a.chs.length = 1 := by
  obtain ⟨h1, h2⟩ := vla_vld h
  have h3 := ((vl_ok h2).2.2 ho).2.2 (Or.inl hk)
  rw [hk] at h3
  have := (cho_ok h3).2
  unfold fit at this
  rw [if_pos rfl] at this
  simpa using this
theorem ans_2 {it : It.Item} {a : Ans} (h : vla it a = 0) (hk : it.kind = 2) (ho : a.om = false) : a.chs.length ≤ 10 := by
  obtain ⟨h1, h2⟩ := vla_vld h
  have h3 := ((vl_ok h2).2.2 ho).2.2 (Or.inr (Or.inl hk))
  rw [hk] at h3
  obtain ⟨h4, h5⟩ := cho_ok h3
  unfold fit at h5
  rw [if_neg (by decide), if_pos rfl] at h5
  have h6 := It.rising_len (inc_rising h5 h4)
  have h7 := (It.vld_small h1).1
  omega
theorem ans_3 {it : It.Item} {a : Ans} (h : vla it a = 0) (hk : it.kind = 3) (ho : a.om = false) : a.chs.length ≤ 10 ∧ 2 ≤ a.chs.length := by
  obtain ⟨h1, h2⟩ := vla_vld h
  have h3 := ((vl_ok h2).2.2 ho).2.2 (Or.inr (Or.inr hk))
  rw [hk] at h3
  obtain ⟨-, h5⟩ := cho_ok h3
  unfold fit at h5
  rw [if_neg (by decide), if_neg (by decide), Bool.and_eq_true, decide_eq_true_eq] at h5
  have h7 := (It.vld_small h1).1
  have h8 := key_3 h1 hk
  omega
theorem ans_4 {it : It.Item} {a : Ans} (h : vla it a = 0) (hk : it.kind = 4) (ho : a.om = false) : -9999999 ≤ a.val ∧ a.val ≤ 9999999 := by
  obtain ⟨h1, h2⟩ := vla_vld h
  exact It.wi_iff.1 (((vl_ok h2).2.2 ho).1 hk)
theorem ans_5 {it : It.Item} {a : Ans} (h : vla it a = 0) (hk : it.kind = 5) (ho : a.om = false) : a.text.size ≤ 200 := by
  obtain ⟨h1, h2⟩ := vla_vld h
  exact ((vl_ok h2).2.2 ho).2.1 hk
end Rs
end Go.Proofs.YtgaepmddbjdhfaaGreatDoor
namespace Go.Proofs.YtgaepmddbjdhfaaGreatDoor
open Go.ChangeShapes Go.WideShapes Go.ChangeAt Go.RowKit
namespace Rs
/-- A text in normal form. -/
def nrmB (s : ByteArray) : ByteArray := ⟨(norm s).toArray⟩
theorem eqL (a b : ByteArray) : (a.toList == b.toList) = decide (a = b) := It.beqB a b
/-- A text is among texts. -/
def inL (l : List ByteArray) (x : ByteArray) : Bool := l.any fun t => decide (t = x)
theorem inL_no {l : List ByteArray} {x : ByteArray} (h : ∀ j, j < l.length → l[j]? ≠ some x) : inL l x = false := by
  unfold inL
  rw [List.any_eq_false]
  intro t ht
  obtain ⟨j, hj, rfl⟩ := List.mem_iff_getElem.1 ht
  have := h j hj
  rw [List.getElem?_eq_getElem hj] at this
  simpa using this
theorem inL_yes {l : List ByteArray} {x : ByteArray} {j : Nat} (h : l[j]? = some x) : inL l x = true := by
  unfold inL
  rw [List.any_eq_true]
  exact ⟨x, List.mem_of_getElem? h, by simp⟩
theorem eqText_mem (it : It.Item) (a : Ans) : eqText it a = inL it.texts (nrmB a.text) := by
  unfold eqText inL
  congr 1
  funext t
  rw [decide_eq_decide]
  constructor
  · intro he
    have h1 : t.data.toList = (nrmB a.text).data.toList := by rw [he]; rfl
    cases t; congr 1; exact Array.toList_inj.1 h1
  · intro h
    rw [h]; rfl
end Rs
set_option maxRecDepth 100000 in
set_option maxHeartbeats 1600000 in
theorem tindex_any (X : Option Addr) (xc : Nat) (xs : List ByteArray) (v : ByteArray) {n : Nat} (hn : xs.length = n) (w : World) (h : SlS w X xs) (hl : n ≤ 9223372036854775807) :
    Calls Tryz.prog 89 #[.slice X n xc, .string v] w fun e w' => (∃ r : Int, e = .returned (.int .i64 r) ∧ decide (0 ≤ r) = Rs.inL xs v) ∧ Ext w w' := by
  have H := Lib.hid h
  have HN := Lib.hid hn
  clear h hn
  go_enter Tryz.func89, Tryz.ntmps89
  go_wp2
  go_loop [8] (fun i => ∃ k : Nat, k ≤ n ∧ i = .int .i64 k ∧ Hid (∀ j, j < k → xs[j]? ≠ some v)) (fun i => n - (intOf i).toNat)
  case atStart => exact ⟨0, by omega, rfl, Lib.hid (fun j hj => absurd hj (by omega))⟩
  case round =>
    obtain ⟨k, hk, rfl, HNO⟩ := hrel
    by_cases hlt : k < n
    · obtain ⟨b, off, rfl, hb, cx⟩ := H.out.at_ (i := k) (by rw [HN.out]; exact hlt)
      have hx : xs[k]? = some (xs[k]'(by rw [HN.out]; exact hlt)) := List.getElem?_eq_getElem _
      generalize xs[k]'(by rw [HN.out]; exact hlt) = x at cx hx
      by_cases hxv : v = x
      · subst hxv
        have HF : Hid (decide ((0 : Int) ≤ (k : Int)) = Rs.inL xs v) := Lib.hid (by rw [Rs.inL_yes hx]; simp)
        clear hx
        go_wp2
        go_ret
        exact ⟨⟨_, rfl, HF.out⟩, Ext.refl _⟩
      · have hxv' : (v.toList == x.toList) = false := by rw [Rs.eqL]; exact decide_eq_false hxv
        have HF : Hid (∀ j, j < k + 1 → xs[j]? ≠ some v) := Lib.hid (fun j hj e => by
          rcases Nat.lt_or_ge j k with g | g
          · exact HNO.out j g e
          · obtain rfl : j = k := by omega
            rw [hx] at e
            injection e with e
            exact hxv e.symm)
        clear hxv hx
        go_wp2
        go_round
        case rel => exact ⟨k + 1, by omega, by go_num, HF⟩
        case measure => simp [intOf]; omega
    · have HF : Hid (decide ((0 : Int) ≤ -1) = Rs.inL xs v) := Lib.hid (by rw [Rs.inL_no (fun j hj => HNO.out j (by rw [HN.out] at hj; omega))]; rfl)
      go_wp2
      go_ret
      exact ⟨⟨-1, rfl, HF.out⟩, Ext.refl _⟩
set_option maxRecDepth 100000 in
set_option maxHeartbeats 1600000 in
theorem tcontains_any (X : Option Addr) (xc : Nat) (xs : List ByteArray) (v : ByteArray) {n : Nat} (hn : xs.length = n) {q : Bool} (hq : Rs.inL xs v = q) (w : World) (h : SlS w X xs) (hl : n ≤ 9223372036854775807) :
    Calls Tryz.prog 53 #[.slice X n xc, .string v] w fun e w' => e = .returned (.bool q) ∧ Ext w w' := by
  have H := Lib.hid h
  have HQ := Lib.hid hq
  have HN := Lib.hid hn
  clear h hq hn
  go_enter Tryz.func53, Tryz.ntmps53
  go_wp2_with fail
  with_reducible refine (tindex_any X xc xs v HN.out _ H.out hl).mono ?_
  rintro e w1 ⟨⟨r, rfl, hr⟩, hb1⟩
  have HF : Hid (decide (0 ≤ r) = q) := Lib.hid (hr.trans HQ.out)
  have X1 := Lib.hid hb1
  clear hr hb1
  go_wp2
  go_ret
  exact ⟨ret_bool HF.out, X1.out⟩
end Go.Proofs.YtgaepmddbjdhfaaGreatDoor
