/- rubric.Valid, Check, checkAll and their counterparts in the reference: contracts for the walk. Conditions: those of each theorem. -/
import Derived.Test.YthjledbomonfpaaDoorRubA
namespace Go.Proofs.YthjledbomonfpaaDoor
open Go.RowKit

set_option maxHeartbeats 800000 in
theorem refValid_loop (id : Int) (A : Option Addr) (c : Nat) (ts : List Rub.Trait) (w : World) (hS : SlT w A ts) (hN : ∀ t ∈ ts, t.name.size ≤ maxLen) (hlen : ts.length ≤ 6) (hlen0 : 1 ≤ ts.length) 
    (hid1 : 1 ≤ id) (hid2 : id ≤ 9999999) :
    Calls Tryd.prog 10 #[.agg #[.int .i64 id, .slice A ts.length c]] w fun e w' => e = .returned (.int .i64 (Rub.firstErr [] ts)) ∧ Ext w w' := by
  have l0 : ((ts.length : Int) == 0) = false := by rw [beq_eq_false_iff_ne]; omega
  have HN := Lib.hid hN
  clear hN
  go_enter Tryd.func10, Tryd.ntmps10
  go_wp2
  go_loopw [3] (fun i wr => ∃ k : Nat, k ≤ ts.length ∧ i = .int .i64 k ∧ Rub.firstErr (ts.take k) (ts.drop k) = Rub.firstErr [] ts ∧ Ext (w.alloc (.cells #[.int .i64 id, .slice A ts.length c] 24)) wr) (fun i _ => ts.length - (intOf i).toNat)
  case atStart => exact ⟨0, by omega, rfl, rfl, Ext.refl _⟩
  case round =>
    obtain ⟨k, hk, rfl, hfe, he⟩ := hrel
    have HF := Lib.hid hfe
    clear hfe
    have bx2 : wr.cell? ⟨w.heap.size, 1, none⟩ = some (.slice A ts.length c) := he.keep (by simp [go_sem])
    by_cases hlt : k < ts.length
    · obtain ⟨t, ht⟩ : ∃ t, ts[k]? = some t := ⟨ts[k], List.getElem?_eq_getElem hlt⟩
      have hw : Ext w wr := ((Ext.refl _).alloc _).trans he
      obtain ⟨b, off, rfl, hb, c0, c1, c2⟩ := (hS.ext hw).at_ ht
      have HT := Lib.hid ht
      clear ht bx2
      have bx1 : wr.cell? ⟨w.heap.size, 1, none⟩ = some (.slice (some ⟨b, off, none⟩) ts.length c) := he.keep (by simp [go_sem])
      have zr := he.size
      simp at zr
      have zr0 : w.heap.size < wr.heap.size := by omega
      have hki : (k : Int) < (ts.length : Int) := by omega
      go_wp2_with fail
      refine (letters_any t.name _ (HN.out t (List.mem_of_getElem? HT.out))).mono ?_
      rintro e w1 ⟨rfl, rfl⟩
      obtain ⟨wo, rfl⟩ : ∃ wo : World, wo = wr := ⟨_, rfl⟩
      by_cases hnm : Rub.named t.name = true
      · go_wp2
        go_loopw [5] (fun i wr => ∃ j : Nat, j ≤ k ∧ i = .int .i64 j ∧ (∀ j', j' < j → ∀ t', ts[j']? = some t' → (t'.name.toList == t.name.toList) = false) ∧ Ext (wo.alloc (.cells #[.string t.name, .int .i64 t.max, .int .i64 t.weight] 45)) wr) (fun i _ => k - (intOf i).toNat)
        case atStart => exact ⟨0, by omega, rfl, fun j' hj => absurd hj (by omega), Ext.refl _⟩
        case round =>
          obtain ⟨j, hj, rfl, hne, hi⟩ := hrel
          have HNE := Lib.hid hne
          clear hne
          have hwi : Ext w wr := (hw.alloc _).trans hi
          have d0 : wr.cell? ⟨wo.heap.size, 0, none⟩ = some (.string t.name) := hi.keep (by simp [go_sem])
          have d1 : wr.cell? ⟨wo.heap.size, 1, none⟩ = some (.int .i64 t.max) := hi.keep (by simp [go_sem])
          have d2 : wr.cell? ⟨wo.heap.size, 2, none⟩ = some (.int .i64 t.weight) := hi.keep (by simp [go_sem])
          have zi := hi.size
          simp at zi
          have zi0 : wo.heap.size < wr.heap.size := by omega
          by_cases hjk : j < k
          · obtain ⟨t', ht'⟩ : ∃ t', ts[j]? = some t' := ⟨ts[j], List.getElem?_eq_getElem (by omega)⟩
            obtain ⟨b', off', hA', hb', c0', c1', c2'⟩ := (hS.ext hwi).at_ ht'
            injection hA' with hA'
            injection hA' with hA1 hA2
            subst hA1 hA2
            have HT' := Lib.hid ht'
            clear ht'
            have bx1' : wr.cell? ⟨w.heap.size, 1, none⟩ = some (.slice (some ⟨b, off, none⟩) ts.length c) := (he.alloc _ |>.trans hi).keep (by simp [go_sem])
            have hji : (j : Int) < (ts.length : Int) := by omega
            go_wp2
            go_quiet (fail)
            go_wp2
            · go_ret
              refine ⟨ret_int ?_, hwi.drewN _⟩
              rw [← HF.out, Rub.first_bad HT.out (Rub.te_twice hnm (Rub.any_yes hjk HT'.out (by assumption))) (by decide)]
            · go_roundw
              case rel =>
                refine ⟨j + 1, by omega, by go_num, fun j' hj' t2 ht2 => ?_, hi.drewN _⟩
                rcases Nat.lt_or_ge j' j with g | g
                · exact HNE.out j' g t2 ht2
                · obtain rfl : j' = j := by omega
                  rw [HT'.out] at ht2
                  injection ht2 with ht2
                  subst ht2
                  assumption
              case measure => simp [intOf]; omega
          · obtain rfl : j = k := by omega
            have HA := Lib.hid (Rub.any_no HNE.out)
            go_wp2
            all_goals first
              | (go_ret
                 refine ⟨ret_int ?_, hwi⟩
                 rw [← HF.out, Rub.first_bad HT.out (Rub.te_range hnm HA.out (by omega)) (by decide)])
              | (go_roundw
                 case rel => exact ⟨j + 1, by omega, by go_num, by rw [← HF.out, Rub.first_good HT.out (Rub.te_ok hnm HA.out (by omega))], (he.alloc _).trans hi⟩
                 case measure => simp [intOf]; omega)
      · have hnm' : Rub.named t.name = false := by simpa using hnm
        go_wp2
        go_ret
        refine ⟨ret_int ?_, (hw.alloc _)⟩
        rw [← HF.out, Rub.first_bad HT.out (Rub.te_name hnm') (by decide)]
    · go_wp2
      go_ret
      refine ⟨ret_int ?_, ((Ext.refl _).alloc _).trans he⟩
      rw [← HF.out, Rub.first_end (by omega)]
/-- A rubric that came in: its traits lie at A, their names and numbers are of Go's sizes. -/
def RubIn (w : World) (id : Int) (A : Option Addr) (c : Nat) (ts : List Rub.Trait) : Prop :=
  SlT w A ts ∧ (∀ t ∈ ts, t.name.size ≤ maxLen ∧ In64 t.max ∧ In64 t.weight) ∧ ts.length ≤ c ∧ c ≤ maxLen ∧ In64 id
theorem RubIn.ext {w w' : World} {id : Int} {A : Option Addr} {c : Nat} {ts : List Rub.Trait} (h : RubIn w id A c ts) (he : Ext w w') : RubIn w' id A c ts := ⟨h.1.ext he, h.2⟩

set_option maxHeartbeats 400000 in
theorem rubValid_any (id : Int) (A : Option Addr) (c : Nat) (ts : List Rub.Trait) (w : World) (h : RubIn w id A c ts) :
    Calls Tryd.prog 9 #[.agg #[.int .i64 id, .slice A ts.length c]] w fun e w' => e = .returned (.int .i64 (Rub.validE id ts)) ∧ Ext w w' := by
  obtain ⟨hS, hT, hlc, hcm, hid⟩ := h
  unfold maxLen at hcm
  unfold Rub.validE
  by_cases h1 : id < 1 ∨ 9999999 < id
  · rw [if_pos h1]
    clear hT hS
    rcases h1 with h1 | h1
    · go_enter Tryd.func9, Tryd.ntmps9
      go_wp2
      go_ret
      exact ⟨rfl, (Ext.refl _).alloc _⟩
    · have h2 : 1 ≤ id := by omega
      go_enter Tryd.func9, Tryd.ntmps9
      go_wp2
      go_ret
      exact ⟨rfl, (Ext.refl _).alloc _⟩
  · rw [if_neg h1]
    have g1 : 1 ≤ id := by omega
    have g2 : id ≤ 9999999 := by omega
    clear h1
    by_cases h2 : 6 < ts.length
    · rw [if_pos h2]
      have h2' : 6 < (ts.length : Int) := by omega
      clear hT hS
      go_enter Tryd.func9, Tryd.ntmps9
      go_wp2
      go_ret
      exact ⟨rfl, (Ext.refl _).alloc _⟩
    · rw [if_neg h2]
      by_cases h3 : ts.length = 0
      · rw [if_pos h3]
        have h2' : (ts.length : Int) ≤ 6 := by omega
        have h3' : ((ts.length : Int) == 0) = true := by rw [beq_iff_eq]; omega
        clear hT hS h3
        go_enter Tryd.func9, Tryd.ntmps9
        go_wp2
        go_ret
        exact ⟨rfl, (Ext.refl _).alloc _⟩
      · rw [if_neg h3]
        exact rvalidR_loop id A c ts w hS (fun t ht => (hT t ht).1) (by omega) (by omega) hlc g1 g2

set_option maxHeartbeats 400000 in
theorem refValid_any (id : Int) (A : Option Addr) (c : Nat) (ts : List Rub.Trait) (w : World) (h : RubIn w id A c ts) :
    Calls Tryd.prog 10 #[.agg #[.int .i64 id, .slice A ts.length c]] w fun e w' => e = .returned (.int .i64 (Rub.validE id ts)) ∧ Ext w w' := by
  obtain ⟨hS, hT, hlc, hcm, hid⟩ := h
  unfold maxLen at hcm
  unfold Rub.validE
  by_cases h1 : id < 1 ∨ 9999999 < id
  · rw [if_pos h1]
    clear hT hS
    rcases h1 with h1 | h1
    · go_enter Tryd.func10, Tryd.ntmps10
      go_wp2
      go_ret
      exact ⟨rfl, (Ext.refl _).alloc _⟩
    · have h2 : 1 ≤ id := by omega
      go_enter Tryd.func10, Tryd.ntmps10
      go_wp2
      go_ret
      exact ⟨rfl, (Ext.refl _).alloc _⟩
  · rw [if_neg h1]
    have g1 : 1 ≤ id := by omega
    have g2 : id ≤ 9999999 := by omega
    clear h1
    by_cases h2 : 6 < ts.length
    · rw [if_pos h2]
      have h2' : 6 < (ts.length : Int) := by omega
      clear hT hS
      go_enter Tryd.func10, Tryd.ntmps10
      go_wp2
      go_ret
      exact ⟨rfl, (Ext.refl _).alloc _⟩
    · rw [if_neg h2]
      by_cases h3 : ts.length = 0
      · rw [if_pos h3]
        have h2' : (ts.length : Int) ≤ 6 := by omega
        have h3' : ((ts.length : Int) == 0) = true := by rw [beq_iff_eq]; omega
        clear hT hS h3
        go_enter Tryd.func10, Tryd.ntmps10
        go_wp2
        go_ret
        exact ⟨rfl, (Ext.refl _).alloc _⟩
      · rw [if_neg h3]
        exact refValid_loop id A c ts w hS (fun t ht => (hT t ht).1) (by omega) (by omega)  g1 g2

set_option maxHeartbeats 800000 in
theorem check_any (id : Int) (A : Option Addr) (c : Nat) (ts : List Rub.Trait) (M : Option Addr) (d : Nat) (ms : List Int) (w : World) (h : RubIn w id A c ts) (hM : SlI w M ms) (hd : ms.length ≤ maxLen) :
    Calls Tryd.prog 11 #[.agg #[.int .i64 id, .slice A ts.length c], .slice M ms.length d] w fun e w' => e = .returned (.int .i64 (Rub.checkE id ts ms)) ∧ Ext w w' := by
  have H := Lib.hid h
  obtain ⟨hS, hT, hlc, hcm, hid⟩ := h
  have HS := Lib.hid hS
  have HM := Lib.hid hM
  unfold maxLen at hcm hd
  clear hT hS hM
  by_cases hv : Rub.validE id ts = 0
  · have HV := Lib.hid hv
    clear hv
    by_cases hl : ms.length = ts.length
    · have HL := Lib.hid hl
      have hl' : ((ms.length : Int) != (ts.length : Int)) = false := by rw [bne_eq_false_iff_eq]; omega
      clear hl
      go_enter Tryd.func11, Tryd.ntmps11
      go_wp2_with fail
      refine (rubValid_any id A c ts _ (H.out.ext ((Ext.refl _).alloc _))).mono ?_
      rintro e w1 ⟨rfl, hb1⟩
      rw [HV.out]
      have bx0 : w1.cell? ⟨w.heap.size, 0, none⟩ = some (.int .i64 id) := hb1.keep (by simp [go_sem])
      have bx1 : w1.cell? ⟨w.heap.size, 1, none⟩ = some (.slice A ts.length c) := hb1.keep (by simp [go_sem])
      have hz1 := hb1.size
      simp at hz1
      have z10 : w.heap.size < w1.heap.size := by omega
      go_wp2
      go_loopw [22] (fun i wr => ∃ k : Nat, k ≤ ts.length ∧ i = .int .i64 k ∧ (∀ (j : Nat) (t : Rub.Trait) (m : Int), j < k → ts[j]? = some t → ms[j]? = some m → 0 ≤ m ∧ m ≤ t.max) ∧ Ext w1 wr) (fun i _ => ts.length - (intOf i).toNat)
      case atStart => exact ⟨0, by omega, rfl, fun j t m hj => absurd hj (by omega), Ext.refl _⟩
      case round =>
        obtain ⟨k, hk, rfl, hok, he⟩ := hrel
        have HOK := Lib.hid hok
        clear hok
        have hw : Ext w wr := (((Ext.refl _).alloc _).trans hb1).trans he
        by_cases hlt : k < ts.length
        · obtain ⟨t, ht⟩ : ∃ t, ts[k]? = some t := ⟨ts[k], List.getElem?_eq_getElem hlt⟩
          obtain ⟨b, off, rfl, hb, c0, c1, c2⟩ := (HS.out.ext hw).at_ ht
          obtain ⟨b', off', m, rfl, hb', hm, cm⟩ := (HM.out.ext hw).at_ (i := k) (by rw [HL.out]; exact hlt)
          have HT := Lib.hid ht
          have HMM := Lib.hid hm
          have hki : (k : Int) < (ms.length : Int) := by rw [HL.out]; omega
          have hki2 : (k : Int) < (ts.length : Int) := by omega
          clear ht hm
          by_cases hm0 : m < 0
          · go_wp2
            go_quiet (fail)
            go_wp2
            go_ret
            exact ⟨ret_int (Rub.check_range HV.out HL.out (Rub.marks_no HT.out HMM.out (Or.inl hm0))).symm, (hw.alloc _).drewN _⟩
          · have hm0' : decide (m < 0) = false := by simpa using hm0
            go_wp2
            go_quiet (fail)
            go_wp2
            · go_ret
              exact ⟨ret_int (Rub.check_range HV.out HL.out (Rub.marks_no HT.out HMM.out (Or.inr (by omega)))).symm, (hw.alloc _).drewN _⟩
            · go_roundw
              case rel =>
                refine ⟨k + 1, by omega, by go_num, fun j t' m' hj h1 h2 => ?_, (he.alloc _).drewN _⟩
                rcases Nat.lt_or_ge j k with g | g
                · exact HOK.out j t' m' g h1 h2
                · obtain rfl : j = k := by omega
                  rw [HT.out] at h1
                  rw [HMM.out] at h2
                  injection h1 with h1
                  injection h2 with h2
                  subst h1 h2
                  omega
              case measure => simp [intOf]; omega
        · go_wp2
          go_ret
          refine ⟨ret_int (Rub.check_ok HV.out HL.out (Rub.marks_yes fun j t m h1 h2 => HOK.out j t m ?_ h1 h2)).symm, hw⟩
          rcases Nat.lt_or_ge j k with g | g
          · exact g
          · rw [List.getElem?_eq_none (by omega)] at h1; cases h1
    · have HL := Lib.hid hl
      have hl' : ((ms.length : Int) != (ts.length : Int)) = true := by rw [bne_iff_ne]; omega
      clear hl
      go_enter Tryd.func11, Tryd.ntmps11
      go_wp2_with fail
      refine (rubValid_any id A c ts _ (H.out.ext ((Ext.refl _).alloc _))).mono ?_
      rintro e w1 ⟨rfl, hb1⟩
      rw [HV.out]
      have bx1 : w1.cell? ⟨w.heap.size, 1, none⟩ = some (.slice A ts.length c) := hb1.keep (by simp [go_sem])
      go_wp2
      go_ret
      exact ⟨ret_int (Rub.check_len HV.out HL.out).symm, ((Ext.refl _).alloc _).trans hb1⟩
  · have HV := Lib.hid hv
    have hv' : (Rub.validE id ts != 0) = true := by rw [bne_iff_ne]; exact hv
    clear hv
    go_enter Tryd.func11, Tryd.ntmps11
    go_wp2_with fail
    refine (rubValid_any id A c ts _ (H.out.ext ((Ext.refl _).alloc _))).mono ?_
    rintro e w1 ⟨rfl, hb1⟩
    go_wp2
    go_ret
    exact ⟨ret_int (Rub.check_valid HV.out).symm, ((Ext.refl _).alloc _).trans hb1⟩
set_option maxHeartbeats 800000 in
theorem refCheck_any (id : Int) (A : Option Addr) (c : Nat) (ts : List Rub.Trait) (M : Option Addr) (d : Nat) (ms : List Int) (w : World) (h : RubIn w id A c ts) (hM : SlI w M ms) (hd : ms.length ≤ maxLen) :
    Calls Tryd.prog 12 #[.agg #[.int .i64 id, .slice A ts.length c], .slice M ms.length d] w fun e w' => e = .returned (.int .i64 (Rub.checkE id ts ms)) ∧ Ext w w' := by
  have H := Lib.hid h
  obtain ⟨hS, hT, hlc, hcm, hid⟩ := h
  have HS := Lib.hid hS
  have HM := Lib.hid hM
  unfold maxLen at hcm hd
  clear hT hS hM
  by_cases hv : Rub.validE id ts = 0
  · have HV := Lib.hid hv
    clear hv
    by_cases hl : ms.length = ts.length
    · have HL := Lib.hid hl
      have hl' : ((ms.length : Int) != (ts.length : Int)) = false := by rw [bne_eq_false_iff_eq]; omega
      clear hl
      go_enter Tryd.func12, Tryd.ntmps12
      go_wp2_with fail
      refine (refValid_any id A c ts _ (H.out.ext ((Ext.refl _).alloc _))).mono ?_
      rintro e w1 ⟨rfl, hb1⟩
      rw [HV.out]
      have bx0 : w1.cell? ⟨w.heap.size, 0, none⟩ = some (.int .i64 id) := hb1.keep (by simp [go_sem])
      have bx1 : w1.cell? ⟨w.heap.size, 1, none⟩ = some (.slice A ts.length c) := hb1.keep (by simp [go_sem])
      have hz1 := hb1.size
      simp at hz1
      have z10 : w.heap.size < w1.heap.size := by omega
      go_wp2
      go_loopw [6] (fun i wr => ∃ k : Nat, k ≤ ts.length ∧ i = .int .i64 k ∧ (∀ (j : Nat) (t : Rub.Trait) (m : Int), j < k → ts[j]? = some t → ms[j]? = some m → 0 ≤ m ∧ m ≤ t.max) ∧ Ext w1 wr) (fun i _ => ts.length - (intOf i).toNat)
      case atStart => exact ⟨0, by omega, rfl, fun j t m hj => absurd hj (by omega), Ext.refl _⟩
      case round =>
        obtain ⟨k, hk, rfl, hok, he⟩ := hrel
        have HOK := Lib.hid hok
        clear hok
        have hw : Ext w wr := (((Ext.refl _).alloc _).trans hb1).trans he
        by_cases hlt : k < ts.length
        · obtain ⟨t, ht⟩ : ∃ t, ts[k]? = some t := ⟨ts[k], List.getElem?_eq_getElem hlt⟩
          obtain ⟨b, off, rfl, hb, c0, c1, c2⟩ := (HS.out.ext hw).at_ ht
          obtain ⟨b', off', m, rfl, hb', hm, cm⟩ := (HM.out.ext hw).at_ (i := k) (by rw [HL.out]; exact hlt)
          have HT := Lib.hid ht
          have HMM := Lib.hid hm
          have hki : (k : Int) < (ms.length : Int) := by rw [HL.out]; omega
          have hki2 : (k : Int) < (ts.length : Int) := by omega
          clear ht hm
          have bxr : wr.cell? ⟨w.heap.size, 1, none⟩ = some (.slice (some ⟨b, off, none⟩) ts.length c) := he.keep bx1
          have zr := he.size
          have zr0 : w.heap.size < wr.heap.size := by omega
          by_cases hm0 : m < 0
          · go_wp2
            go_quiet (fail)
            go_wp2
            go_ret
            exact ⟨ret_int (Rub.check_range HV.out HL.out (Rub.marks_no HT.out HMM.out (Or.inl hm0))).symm, hw.drewN _⟩
          · have hm0' : decide (m < 0) = false := by simpa using hm0
            go_wp2
            go_quiet (fail)
            go_wp2
            · go_ret
              exact ⟨ret_int (Rub.check_range HV.out HL.out (Rub.marks_no HT.out HMM.out (Or.inr (by omega)))).symm, hw.drewN _⟩
            · go_roundw
              case rel =>
                refine ⟨k + 1, by omega, by go_num, fun j t' m' hj h1 h2 => ?_, he.drewN _⟩
                rcases Nat.lt_or_ge j k with g | g
                · exact HOK.out j t' m' g h1 h2
                · obtain rfl : j = k := by omega
                  rw [HT.out] at h1
                  rw [HMM.out] at h2
                  injection h1 with h1
                  injection h2 with h2
                  subst h1 h2
                  omega
              case measure => simp [intOf]; omega
        · have hkn : (ms.length : Int) ≤ (k : Int) := by rw [HL.out]; omega
          go_wp2
          go_ret
          refine ⟨ret_int (Rub.check_ok HV.out HL.out (Rub.marks_yes fun j t m h1 h2 => HOK.out j t m ?_ h1 h2)).symm, hw⟩
          rcases Nat.lt_or_ge j k with g | g
          · exact g
          · rw [List.getElem?_eq_none (by omega)] at h1; cases h1
    · have HL := Lib.hid hl
      have hl' : ((ms.length : Int) != (ts.length : Int)) = true := by rw [bne_iff_ne]; omega
      clear hl
      go_enter Tryd.func12, Tryd.ntmps12
      go_wp2_with fail
      refine (refValid_any id A c ts _ (H.out.ext ((Ext.refl _).alloc _))).mono ?_
      rintro e w1 ⟨rfl, hb1⟩
      rw [HV.out]
      have bx1 : w1.cell? ⟨w.heap.size, 1, none⟩ = some (.slice A ts.length c) := hb1.keep (by simp [go_sem])
      go_wp2
      go_ret
      exact ⟨ret_int (Rub.check_len HV.out HL.out).symm, ((Ext.refl _).alloc _).trans hb1⟩
  · have HV := Lib.hid hv
    have hv' : (Rub.validE id ts != 0) = true := by rw [bne_iff_ne]; exact hv
    clear hv
    go_enter Tryd.func12, Tryd.ntmps12
    go_wp2_with fail
    refine (refValid_any id A c ts _ (H.out.ext ((Ext.refl _).alloc _))).mono ?_
    rintro e w1 ⟨rfl, hb1⟩
    go_wp2
    go_ret
    exact ⟨ret_int (Rub.check_valid HV.out).symm, ((Ext.refl _).alloc _).trans hb1⟩
end Go.Proofs.YthjledbomonfpaaDoor
