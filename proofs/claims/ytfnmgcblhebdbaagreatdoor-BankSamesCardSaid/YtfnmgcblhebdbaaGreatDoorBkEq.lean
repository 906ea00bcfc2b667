/- slices.Equal at structs: contracts. Conditions: those of each theorem. -/
import Derived.Test.YtfnmgcblhebdbaaGreatDoorBkDf
namespace Go.Proofs.YtfnmgcblhebdbaaGreatDoor
open Go.RowKit
namespace Bk
theorem sl_len63 {n c : Nat} (h : n ≤ c ∧ c ≤ maxLen) : n ≤ 9223372036854775807 := by
  have := h.2
  unfold maxLen at this
  omega
set_option maxRecDepth 100000 in
set_option maxHeartbeats 25600000 in
theorem equalPar_any (A : Option Addr) (c : Nat) (xs : List (Int × Int)) (B : Option Addr) (d : Nat) (ys : List (Int × Int)) {n m : Nat} (hn : xs.length = n) (hm : ys.length = m) {v : Bool} (hv : v = true ↔ xs = ys) (hl : n ≤ 9223372036854775807) (w : World) (ha : SlX ePar w A xs) (hb : SlX ePar w B ys) :
    Calls Tryz.prog 52 #[.slice A n c, .slice B m d] w fun e w' => e = .returned (.bool v) ∧ Ext w w' := by
  have HL1 := Lib.hid ha
  have HL2 := Lib.hid hb
  have HN := Lib.hid hn
  have HM := Lib.hid hm
  have HV := Lib.hid hv
  clear ha hb hn hm hv
  by_cases hnm : n = m
  case neg =>
    have hl' : ((n : Int) != (m : Int)) = true := by rw [bne_iff_ne]; omega
    have HF := Lib.hid (no_eq HV.out (fun e => hnm (by rw [← HN.out, ← HM.out, e])))
    clear hnm
    go_enter Tryz.func52, Tryz.ntmps52
    go_wp2
    go_ret
    exact ⟨ret_bool HF.out.symm, Ext.refl _⟩
  subst hnm
  have hl' : ((n : Int) != (n : Int)) = false := by simp
  go_enter Tryz.func52, Tryz.ntmps52
  go_wp2
  go_loopw [13] (fun i wr => ∃ k : Nat, k ≤ n ∧ i = .int .i64 k ∧ Hid (∀ j, j < k → xs[j]? = ys[j]?) ∧ Hid (Ext w wr)) (fun i _ => n - (intOf i).toNat)
  case atStart => exact ⟨0, by omega, rfl, Lib.hid (fun j hj => absurd hj (by omega)), Lib.hid (Ext.refl _)⟩
  case round =>
    obtain ⟨k, hk, rfl, HALL, HE⟩ := hrel
    by_cases hlt : k < n
    · obtain ⟨a, ha⟩ : ∃ a, xs[k]? = some a := ⟨xs[k]'(by rw [HN.out]; exact hlt), List.getElem?_eq_getElem _⟩
      obtain ⟨b, hb⟩ : ∃ a, ys[k]? = some a := ⟨ys[k]'(by rw [HM.out]; exact hlt), List.getElem?_eq_getElem _⟩
      obtain ⟨b1, o1, rfl, hb1, hc1, -⟩ := (HL1.out.ext HE.out).at_ ha
      obtain ⟨b2, o2, rfl, hb2, hc2, -⟩ := (HL2.out.ext HE.out).at_ hb
      have x0 : wr.cell? ⟨b1, o1 + k * 2, none⟩ = some (.int .i64 (a.1)) := hc1 0 _ rfl
      have x1 : wr.cell? ⟨b1, o1 + k * 2 + 1, none⟩ = some (.int .i64 (a.2)) := hc1 1 _ rfl
      have y0 : wr.cell? ⟨b2, o2 + k * 2, none⟩ = some (.int .i64 (b.1)) := hc2 0 _ rfl
      have y1 : wr.cell? ⟨b2, o2 + k * 2 + 1, none⟩ = some (.int .i64 (b.2)) := hc2 1 _ rfl
      have ki0 : (0 : Int) ≤ (k : Int) := by omega
      have ki1 : (k : Int) < (n : Int) := by omega
      have HP := Lib.hid ha
      have HQ := Lib.hid hb
      clear ha hb hc1 hc2
      by_cases h0 : a.1 = b.1
      case neg =>
        have HF := Lib.hid (no_eq HV.out (fun e => ne_at HP.out HQ.out (fun e2 => h0 (by rw [e2])) e))
        have u0 : (a.1 == b.1) = false := by rw [beq_eq_false_iff_ne]; exact h0
        clear h0
        go_wp2
        go_quiet (fail)
        go_wp2
        go_ret
        exact ⟨ret_bool HF.out.symm, HE.out.drewN _⟩
      by_cases h1 : a.2 = b.2
      case neg =>
        have HF := Lib.hid (no_eq HV.out (fun e => ne_at HP.out HQ.out (fun e2 => h1 (by rw [e2])) e))
        have u0 : (a.1 == b.1) = true := by rw [h0]; simp
        have u1 : (a.2 == b.2) = false := by rw [beq_eq_false_iff_ne]; exact h1
        clear h0 h1
        go_wp2
        go_quiet (fail)
        go_wp2
        go_ret
        exact ⟨ret_bool HF.out.symm, HE.out.drewN _⟩
      have hab : a = b := by
        cases a; cases b
        simp only at h0 h1
        rw [h0, h1]
      clear h0 h1
      have HF := Lib.hid (all_next HP.out HQ.out hab HALL.out)
      subst hab
      go_wp2
      go_quiet (fail)
      go_wp2
      go_roundw
      case rel => exact ⟨k + 1, by omega, by go_num, HF, Lib.hid (HE.out.drewN _)⟩
      case measure => simp [intOf]; omega
    · obtain rfl : k = n := by omega
      have HF : Hid (v = true) := Lib.hid (HV.out.2 (List.ext_getElem? (fun j => by
        rcases Nat.lt_or_ge j k with g | g
        · exact HALL.out j g
        · rw [List.getElem?_eq_none (by rw [HN.out]; exact g), List.getElem?_eq_none (by rw [HM.out]; exact g)])))
      go_wp2
      go_ret
      exact ⟨ret_bool HF.out.symm, HE.out⟩
set_option maxRecDepth 100000 in
set_option maxHeartbeats 25600000 in
theorem equalTpc_any (A : Option Addr) (c : Nat) (xs : List Tpc) (B : Option Addr) (d : Nat) (ys : List Tpc) {n m : Nat} (hn : xs.length = n) (hm : ys.length = m) {v : Bool} (hv : v = true ↔ xs = ys) (hl : n ≤ 9223372036854775807) (w : World) (ha : SlX eTpc w A xs) (hb : SlX eTpc w B ys) :
    Calls Tryz.prog 48 #[.slice A n c, .slice B m d] w fun e w' => e = .returned (.bool v) ∧ Ext w w' := by
  have HL1 := Lib.hid ha
  have HL2 := Lib.hid hb
  have HN := Lib.hid hn
  have HM := Lib.hid hm
  have HV := Lib.hid hv
  clear ha hb hn hm hv
  by_cases hnm : n = m
  case neg =>
    have hl' : ((n : Int) != (m : Int)) = true := by rw [bne_iff_ne]; omega
    have HF := Lib.hid (no_eq HV.out (fun e => hnm (by rw [← HN.out, ← HM.out, e])))
    clear hnm
    go_enter Tryz.func48, Tryz.ntmps48
    go_wp2
    go_ret
    exact ⟨ret_bool HF.out.symm, Ext.refl _⟩
  subst hnm
  have hl' : ((n : Int) != (n : Int)) = false := by simp
  go_enter Tryz.func48, Tryz.ntmps48
  go_wp2
  go_loopw [13] (fun i wr => ∃ k : Nat, k ≤ n ∧ i = .int .i64 k ∧ Hid (∀ j, j < k → xs[j]? = ys[j]?) ∧ Hid (Ext w wr)) (fun i _ => n - (intOf i).toNat)
  case atStart => exact ⟨0, by omega, rfl, Lib.hid (fun j hj => absurd hj (by omega)), Lib.hid (Ext.refl _)⟩
  case round =>
    obtain ⟨k, hk, rfl, HALL, HE⟩ := hrel
    by_cases hlt : k < n
    · obtain ⟨a, ha⟩ : ∃ a, xs[k]? = some a := ⟨xs[k]'(by rw [HN.out]; exact hlt), List.getElem?_eq_getElem _⟩
      obtain ⟨b, hb⟩ : ∃ a, ys[k]? = some a := ⟨ys[k]'(by rw [HM.out]; exact hlt), List.getElem?_eq_getElem _⟩
      obtain ⟨b1, o1, rfl, hb1, hc1, -⟩ := (HL1.out.ext HE.out).at_ ha
      obtain ⟨b2, o2, rfl, hb2, hc2, -⟩ := (HL2.out.ext HE.out).at_ hb
      have x0 : wr.cell? ⟨b1, o1 + k * 2, none⟩ = some (.string (a.1)) := hc1 0 _ rfl
      have x1 : wr.cell? ⟨b1, o1 + k * 2 + 1, none⟩ = some (.string (a.2)) := hc1 1 _ rfl
      have y0 : wr.cell? ⟨b2, o2 + k * 2, none⟩ = some (.string (b.1)) := hc2 0 _ rfl
      have y1 : wr.cell? ⟨b2, o2 + k * 2 + 1, none⟩ = some (.string (b.2)) := hc2 1 _ rfl
      have ki0 : (0 : Int) ≤ (k : Int) := by omega
      have ki1 : (k : Int) < (n : Int) := by omega
      have HP := Lib.hid ha
      have HQ := Lib.hid hb
      clear ha hb hc1 hc2
      by_cases h0 : a.1 = b.1
      case neg =>
        have HF := Lib.hid (no_eq HV.out (fun e => ne_at HP.out HQ.out (fun e2 => h0 (by rw [e2])) e))
        have u0 : (a.1.toList == b.1.toList) = false := strF h0
        clear h0
        go_wp2
        go_quiet (fail)
        go_wp2
        go_ret
        exact ⟨ret_bool HF.out.symm, HE.out.drewN _⟩
      by_cases h1 : a.2 = b.2
      case neg =>
        have HF := Lib.hid (no_eq HV.out (fun e => ne_at HP.out HQ.out (fun e2 => h1 (by rw [e2])) e))
        have u0 : (a.1.toList == b.1.toList) = true := strT h0
        have u1 : (a.2.toList == b.2.toList) = false := strF h1
        clear h0 h1
        go_wp2
        go_quiet (fail)
        go_wp2
        go_ret
        exact ⟨ret_bool HF.out.symm, HE.out.drewN _⟩
      have hab : a = b := by
        cases a; cases b
        simp only at h0 h1
        rw [h0, h1]
      clear h0 h1
      have HF := Lib.hid (all_next HP.out HQ.out hab HALL.out)
      subst hab
      go_wp2
      go_quiet (fail)
      go_wp2
      go_roundw
      case rel => exact ⟨k + 1, by omega, by go_num, HF, Lib.hid (HE.out.drewN _)⟩
      case measure => simp [intOf]; omega
    · obtain rfl : k = n := by omega
      have HF : Hid (v = true) := Lib.hid (HV.out.2 (List.ext_getElem? (fun j => by
        rcases Nat.lt_or_ge j k with g | g
        · exact HALL.out j g
        · rw [List.getElem?_eq_none (by rw [HN.out]; exact g), List.getElem?_eq_none (by rw [HM.out]; exact g)])))
      go_wp2
      go_ret
      exact ⟨ret_bool HF.out.symm, HE.out⟩
set_option maxRecDepth 100000 in
set_option maxHeartbeats 25600000 in
theorem equalAct_any (A : Option Addr) (c : Nat) (xs : List Rev.Act) (B : Option Addr) (d : Nat) (ys : List Rev.Act) {n m : Nat} (hn : xs.length = n) (hm : ys.length = m) {v : Bool} (hv : v = true ↔ xs = ys) (hl : n ≤ 9223372036854775807) (w : World) (ha : SlX eAct w A xs) (hb : SlX eAct w B ys) :
    Calls Tryz.prog 117 #[.slice A n c, .slice B m d] w fun e w' => e = .returned (.bool v) ∧ Ext w w' := by
  have HL1 := Lib.hid ha
  have HL2 := Lib.hid hb
  have HN := Lib.hid hn
  have HM := Lib.hid hm
  have HV := Lib.hid hv
  clear ha hb hn hm hv
  by_cases hnm : n = m
  case neg =>
    have hl' : ((n : Int) != (m : Int)) = true := by rw [bne_iff_ne]; omega
    have HF := Lib.hid (no_eq HV.out (fun e => hnm (by rw [← HN.out, ← HM.out, e])))
    clear hnm
    go_enter Tryz.func117, Tryz.ntmps117
    go_wp2
    go_ret
    exact ⟨ret_bool HF.out.symm, Ext.refl _⟩
  subst hnm
  have hl' : ((n : Int) != (n : Int)) = false := by simp
  go_enter Tryz.func117, Tryz.ntmps117
  go_wp2
  go_loopw [13] (fun i wr => ∃ k : Nat, k ≤ n ∧ i = .int .i64 k ∧ Hid (∀ j, j < k → xs[j]? = ys[j]?) ∧ Hid (Ext w wr)) (fun i _ => n - (intOf i).toNat)
  case atStart => exact ⟨0, by omega, rfl, Lib.hid (fun j hj => absurd hj (by omega)), Lib.hid (Ext.refl _)⟩
  case round =>
    obtain ⟨k, hk, rfl, HALL, HE⟩ := hrel
    by_cases hlt : k < n
    · obtain ⟨a, ha⟩ : ∃ a, xs[k]? = some a := ⟨xs[k]'(by rw [HN.out]; exact hlt), List.getElem?_eq_getElem _⟩
      obtain ⟨b, hb⟩ : ∃ a, ys[k]? = some a := ⟨ys[k]'(by rw [HM.out]; exact hlt), List.getElem?_eq_getElem _⟩
      obtain ⟨b1, o1, rfl, hb1, hc1, -⟩ := (HL1.out.ext HE.out).at_ ha
      obtain ⟨b2, o2, rfl, hb2, hc2, -⟩ := (HL2.out.ext HE.out).at_ hb
      have x0 : wr.cell? ⟨b1, o1 + k * 4, none⟩ = some (.int .i64 (a.kind)) := hc1 0 _ rfl
      have x1 : wr.cell? ⟨b1, o1 + k * 4 + 1, none⟩ = some (.int .i64 (a.user)) := hc1 1 _ rfl
      have x2 : wr.cell? ⟨b1, o1 + k * 4 + 2, none⟩ = some (.int .i64 (a.roles)) := hc1 2 _ rfl
      have x3 : wr.cell? ⟨b1, o1 + k * 4 + 3, none⟩ = some (.int .i64 (a.time)) := hc1 3 _ rfl
      have y0 : wr.cell? ⟨b2, o2 + k * 4, none⟩ = some (.int .i64 (b.kind)) := hc2 0 _ rfl
      have y1 : wr.cell? ⟨b2, o2 + k * 4 + 1, none⟩ = some (.int .i64 (b.user)) := hc2 1 _ rfl
      have y2 : wr.cell? ⟨b2, o2 + k * 4 + 2, none⟩ = some (.int .i64 (b.roles)) := hc2 2 _ rfl
      have y3 : wr.cell? ⟨b2, o2 + k * 4 + 3, none⟩ = some (.int .i64 (b.time)) := hc2 3 _ rfl
      have ki0 : (0 : Int) ≤ (k : Int) := by omega
      have ki1 : (k : Int) < (n : Int) := by omega
      have HP := Lib.hid ha
      have HQ := Lib.hid hb
      clear ha hb hc1 hc2
      by_cases h0 : a.kind = b.kind
      case neg =>
        have HF := Lib.hid (no_eq HV.out (fun e => ne_at HP.out HQ.out (fun e2 => h0 (by rw [e2])) e))
        have u0 : (a.kind == b.kind) = false := by rw [beq_eq_false_iff_ne]; exact h0
        clear h0
        go_wp2
        go_quiet (fail)
        go_wp2
        go_ret
        exact ⟨ret_bool HF.out.symm, HE.out.drewN _⟩
      by_cases h1 : a.user = b.user
      case neg =>
        have HF := Lib.hid (no_eq HV.out (fun e => ne_at HP.out HQ.out (fun e2 => h1 (by rw [e2])) e))
        have u0 : (a.kind == b.kind) = true := by rw [h0]; simp
        have u1 : (a.user == b.user) = false := by rw [beq_eq_false_iff_ne]; exact h1
        clear h0 h1
        go_wp2
        go_quiet (fail)
        go_wp2
        go_ret
        exact ⟨ret_bool HF.out.symm, HE.out.drewN _⟩
      by_cases h2 : a.roles = b.roles
      case neg =>
        have HF := Lib.hid (no_eq HV.out (fun e => ne_at HP.out HQ.out (fun e2 => h2 (by rw [e2])) e))
        have u0 : (a.kind == b.kind) = true := by rw [h0]; simp
        have u1 : (a.user == b.user) = true := by rw [h1]; simp
        have u2 : (a.roles == b.roles) = false := by rw [beq_eq_false_iff_ne]; exact h2
        clear h0 h1 h2
        go_wp2
        go_quiet (fail)
        go_wp2
        go_ret
        exact ⟨ret_bool HF.out.symm, HE.out.drewN _⟩
      by_cases h3 : a.time = b.time
      case neg =>
        have HF := Lib.hid (no_eq HV.out (fun e => ne_at HP.out HQ.out (fun e2 => h3 (by rw [e2])) e))
        have u0 : (a.kind == b.kind) = true := by rw [h0]; simp
        have u1 : (a.user == b.user) = true := by rw [h1]; simp
        have u2 : (a.roles == b.roles) = true := by rw [h2]; simp
        have u3 : (a.time == b.time) = false := by rw [beq_eq_false_iff_ne]; exact h3
        clear h0 h1 h2 h3
        go_wp2
        go_quiet (fail)
        go_wp2
        go_ret
        exact ⟨ret_bool HF.out.symm, HE.out.drewN _⟩
      have hab : a = b := by
        cases a; cases b
        simp only at h0 h1 h2 h3
        rw [h0, h1, h2, h3]
      clear h0 h1 h2 h3
      have HF := Lib.hid (all_next HP.out HQ.out hab HALL.out)
      subst hab
      go_wp2
      go_quiet (fail)
      go_wp2
      go_roundw
      case rel => exact ⟨k + 1, by omega, by go_num, HF, Lib.hid (HE.out.drewN _)⟩
      case measure => simp [intOf]; omega
    · obtain rfl : k = n := by omega
      have HF : Hid (v = true) := Lib.hid (HV.out.2 (List.ext_getElem? (fun j => by
        rcases Nat.lt_or_ge j k with g | g
        · exact HALL.out j g
        · rw [List.getElem?_eq_none (by rw [HN.out]; exact g), List.getElem?_eq_none (by rw [HM.out]; exact g)])))
      go_wp2
      go_ret
      exact ⟨ret_bool HF.out.symm, HE.out⟩
set_option maxRecDepth 100000 in
set_option maxHeartbeats 25600000 in
theorem equalAst_any (A : Option Addr) (c : Nat) (xs : List Ast) (B : Option Addr) (d : Nat) (ys : List Ast) {n m : Nat} (hn : xs.length = n) (hm : ys.length = m) {v : Bool} (hv : v = true ↔ xs = ys) (hl : n ≤ 9223372036854775807) (w : World) (ha : SlX eAst w A xs) (hb : SlX eAst w B ys) :
    Calls Tryz.prog 49 #[.slice A n c, .slice B m d] w fun e w' => e = .returned (.bool v) ∧ Ext w w' := by
  have HL1 := Lib.hid ha
  have HL2 := Lib.hid hb
  have HN := Lib.hid hn
  have HM := Lib.hid hm
  have HV := Lib.hid hv
  clear ha hb hn hm hv
  by_cases hnm : n = m
  case neg =>
    have hl' : ((n : Int) != (m : Int)) = true := by rw [bne_iff_ne]; omega
    have HF := Lib.hid (no_eq HV.out (fun e => hnm (by rw [← HN.out, ← HM.out, e])))
    clear hnm
    go_enter Tryz.func49, Tryz.ntmps49
    go_wp2
    go_ret
    exact ⟨ret_bool HF.out.symm, Ext.refl _⟩
  subst hnm
  have hl' : ((n : Int) != (n : Int)) = false := by simp
  go_enter Tryz.func49, Tryz.ntmps49
  go_wp2
  go_loopw [13] (fun i wr => ∃ k : Nat, k ≤ n ∧ i = .int .i64 k ∧ Hid (∀ j, j < k → xs[j]? = ys[j]?) ∧ Hid (Ext w wr)) (fun i _ => n - (intOf i).toNat)
  case atStart => exact ⟨0, by omega, rfl, Lib.hid (fun j hj => absurd hj (by omega)), Lib.hid (Ext.refl _)⟩
  case round =>
    obtain ⟨k, hk, rfl, HALL, HE⟩ := hrel
    by_cases hlt : k < n
    · obtain ⟨a, ha⟩ : ∃ a, xs[k]? = some a := ⟨xs[k]'(by rw [HN.out]; exact hlt), List.getElem?_eq_getElem _⟩
      obtain ⟨b, hb⟩ : ∃ a, ys[k]? = some a := ⟨ys[k]'(by rw [HM.out]; exact hlt), List.getElem?_eq_getElem _⟩
      obtain ⟨b1, o1, rfl, hb1, hc1, -⟩ := (HL1.out.ext HE.out).at_ ha
      obtain ⟨b2, o2, rfl, hb2, hc2, -⟩ := (HL2.out.ext HE.out).at_ hb
      have x0 : wr.cell? ⟨b1, o1 + k * 5, none⟩ = some (.int .i64 (a.id)) := hc1 0 _ rfl
      have x1 : wr.cell? ⟨b1, o1 + k * 5 + 1, none⟩ = some (.int .i64 (a.bytes)) := hc1 1 _ rfl
      have x2 : wr.cell? ⟨b1, o1 + k * 5 + 2, none⟩ = some (.string (a.alt)) := hc1 2 _ rfl
      have x3 : wr.cell? ⟨b1, o1 + k * 5 + 3, none⟩ = some (.int .i64 (a.frm)) := hc1 3 _ rfl
      have x4 : wr.cell? ⟨b1, o1 + k * 5 + 4, none⟩ = some (.int .i64 (a.unt)) := hc1 4 _ rfl
      have y0 : wr.cell? ⟨b2, o2 + k * 5, none⟩ = some (.int .i64 (b.id)) := hc2 0 _ rfl
      have y1 : wr.cell? ⟨b2, o2 + k * 5 + 1, none⟩ = some (.int .i64 (b.bytes)) := hc2 1 _ rfl
      have y2 : wr.cell? ⟨b2, o2 + k * 5 + 2, none⟩ = some (.string (b.alt)) := hc2 2 _ rfl
      have y3 : wr.cell? ⟨b2, o2 + k * 5 + 3, none⟩ = some (.int .i64 (b.frm)) := hc2 3 _ rfl
      have y4 : wr.cell? ⟨b2, o2 + k * 5 + 4, none⟩ = some (.int .i64 (b.unt)) := hc2 4 _ rfl
      have ki0 : (0 : Int) ≤ (k : Int) := by omega
      have ki1 : (k : Int) < (n : Int) := by omega
      have HP := Lib.hid ha
      have HQ := Lib.hid hb
      clear ha hb hc1 hc2
      by_cases h0 : a.id = b.id
      case neg =>
        have HF := Lib.hid (no_eq HV.out (fun e => ne_at HP.out HQ.out (fun e2 => h0 (by rw [e2])) e))
        have u0 : (a.id == b.id) = false := by rw [beq_eq_false_iff_ne]; exact h0
        clear h0
        go_wp2
        go_quiet (fail)
        go_wp2
        go_ret
        exact ⟨ret_bool HF.out.symm, HE.out.drewN _⟩
      by_cases h1 : a.bytes = b.bytes
      case neg =>
        have HF := Lib.hid (no_eq HV.out (fun e => ne_at HP.out HQ.out (fun e2 => h1 (by rw [e2])) e))
        have u0 : (a.id == b.id) = true := by rw [h0]; simp
        have u1 : (a.bytes == b.bytes) = false := by rw [beq_eq_false_iff_ne]; exact h1
        clear h0 h1
        go_wp2
        go_quiet (fail)
        go_wp2
        go_ret
        exact ⟨ret_bool HF.out.symm, HE.out.drewN _⟩
      by_cases h2 : a.alt = b.alt
      case neg =>
        have HF := Lib.hid (no_eq HV.out (fun e => ne_at HP.out HQ.out (fun e2 => h2 (by rw [e2])) e))
        have u0 : (a.id == b.id) = true := by rw [h0]; simp
        have u1 : (a.bytes == b.bytes) = true := by rw [h1]; simp
        have u2 : (a.alt.toList == b.alt.toList) = false := strF h2
        clear h0 h1 h2
        go_wp2
        go_quiet (fail)
        go_wp2
        go_ret
        exact ⟨ret_bool HF.out.symm, HE.out.drewN _⟩
      by_cases h3 : a.frm = b.frm
      case neg =>
        have HF := Lib.hid (no_eq HV.out (fun e => ne_at HP.out HQ.out (fun e2 => h3 (by rw [e2])) e))
        have u0 : (a.id == b.id) = true := by rw [h0]; simp
        have u1 : (a.bytes == b.bytes) = true := by rw [h1]; simp
        have u2 : (a.alt.toList == b.alt.toList) = true := strT h2
        have u3 : (a.frm == b.frm) = false := by rw [beq_eq_false_iff_ne]; exact h3
        clear h0 h1 h2 h3
        go_wp2
        go_quiet (fail)
        go_wp2
        go_ret
        exact ⟨ret_bool HF.out.symm, HE.out.drewN _⟩
      by_cases h4 : a.unt = b.unt
      case neg =>
        have HF := Lib.hid (no_eq HV.out (fun e => ne_at HP.out HQ.out (fun e2 => h4 (by rw [e2])) e))
        have u0 : (a.id == b.id) = true := by rw [h0]; simp
        have u1 : (a.bytes == b.bytes) = true := by rw [h1]; simp
        have u2 : (a.alt.toList == b.alt.toList) = true := strT h2
        have u3 : (a.frm == b.frm) = true := by rw [h3]; simp
        have u4 : (a.unt == b.unt) = false := by rw [beq_eq_false_iff_ne]; exact h4
        clear h0 h1 h2 h3 h4
        go_wp2
        go_quiet (fail)
        go_wp2
        go_ret
        exact ⟨ret_bool HF.out.symm, HE.out.drewN _⟩
      have hab : a = b := by
        cases a; cases b
        simp only at h0 h1 h2 h3 h4
        rw [h0, h1, h2, h3, h4]
      clear h0 h1 h2 h3 h4
      have HF := Lib.hid (all_next HP.out HQ.out hab HALL.out)
      subst hab
      go_wp2
      go_quiet (fail)
      go_wp2
      go_roundw
      case rel => exact ⟨k + 1, by omega, by go_num, HF, Lib.hid (HE.out.drewN _)⟩
      case measure => simp [intOf]; omega
    · obtain rfl : k = n := by omega
      have HF : Hid (v = true) := Lib.hid (HV.out.2 (List.ext_getElem? (fun j => by
        rcases Nat.lt_or_ge j k with g | g
        · exact HALL.out j g
        · rw [List.getElem?_eq_none (by rw [HN.out]; exact g), List.getElem?_eq_none (by rw [HM.out]; exact g)])))
      go_wp2
      go_ret
      exact ⟨ret_bool HF.out.symm, HE.out⟩
end Bk
end Go.Proofs.YtfnmgcblhebdbaaGreatDoor
