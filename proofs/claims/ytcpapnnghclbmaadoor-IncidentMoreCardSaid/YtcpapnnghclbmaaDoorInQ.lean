/- The law's has and within: contracts. Conditions: those of each theorem. -/
import Derived.Test.YtcpapnnghclbmaaDoorInM
namespace Go.Proofs.YtcpapnnghclbmaaDoor
open Go.RowKit

theorem NL.In.sl {w : World} {h : NL} (hi : h.In w) : SlN w h.A h.xs := hi.1
/-- The cells of an incident in a block of its own. -/
def BoxN (w : World) (b : Nat) (x : In.Inc) : Prop :=
  w.cell? ⟨b, 0, none⟩ = some (.int .i64 x.1) ∧ w.cell? ⟨b, 1, none⟩ = some (.int .i64 x.2.1) ∧ w.cell? ⟨b, 2, none⟩ = some (.int .i64 x.2.2.1) ∧ w.cell? ⟨b, 3, none⟩ = some (.int .i64 x.2.2.2)

theorem has_no {ps : List In.Inc} {k : Nat} {p x : In.Inc} (h : ps[k]? = some p) (hno : x ∉ ps.take k) (hne : decide (p = x) = false) : x ∉ ps.take (k + 1) := by
  have hne' : p ≠ x := of_decide_eq_false hne
  rw [List.take_add_one, h, List.mem_append]
  rintro (g | g)
  · exact hno g
  · simp at g; exact hne' g.symm
set_option maxRecDepth 100000 in
set_option maxHeartbeats 3200000 in
theorem has_any (A : Option Addr) (c : Nat) (ps : List In.Inc) (x : In.Inc) (n : Nat) (hn : ps.length = n) {r : Bool} (hr : decide (x ∈ ps) = r) (w : World) (h : SlN w A ps) (hl : n ≤ maxLen) :
    Calls Tryd.prog 30 #[.slice A n c, .agg #[.int .i64 x.1, .int .i64 x.2.1, .int .i64 x.2.2.1, .int .i64 x.2.2.2]] w fun e w' => e = .returned (.bool r) ∧ Ext w w' := by
  have HA := Lib.hid h
  have HN := Lib.hid hn
  have HR := Lib.hid hr
  unfold maxLen at hl
  clear h hn hr
  go_enter Tryd.func30, Tryd.ntmps30
  go_wp2
  go_loopw [5] (fun i wr => ∃ k : Nat, k ≤ n ∧ i = .int .i64 k ∧ x ∉ ps.take k ∧ BoxN wr w.heap.size x ∧ w.heap.size < wr.heap.size ∧ Ext w wr) (fun i _ => n - (intOf i).toNat)
  case atStart => exact ⟨0, by omega, rfl, by simp, by unfold BoxN; simp, by simp, (Ext.refl _).alloc _⟩
  case round =>
    obtain ⟨k, hk, rfl, hno, ⟨b0, b1, b2, b3⟩, hsz, he⟩ := hrel
    have HNO := Lib.hid hno
    clear hno
    by_cases hlt : k < n
    · obtain ⟨p, hp⟩ : ∃ p, ps[k]? = some p := ⟨ps[k]'(by rw [HN.out]; exact hlt), List.getElem?_eq_getElem _⟩
      obtain ⟨gb, go, rfl, hgb, x0, x1, x2, x3⟩ := (HA.out.ext he).at_ hp
      have ki0 : (0 : Int) ≤ (k : Int) := by omega
      have ki1 : (k : Int) < (n : Int) := by omega
      have HP := Lib.hid hp
      clear hp
      obtain ⟨v, hv⟩ : ∃ v, decide (p = x) = v := ⟨_, rfl⟩
      have hE := fun w => run_eql_inc p x hv w
      have HV := Lib.hid hv
      clear hv
      cases v with
      | true =>
        have HS : Hid (r = true) := Lib.hid (by
          rw [← HR.out, decide_eq_true_eq]
          have e : p = x := of_decide_eq_true HV.out
          rw [← e]
          exact List.mem_of_getElem? HP.out)
        go_wp2
        go_quiet (fail)
        go_wp2
        go_ret
        exact ⟨ret_bool HS.out.symm, he.drewN _⟩
      | false =>
        have HS : Hid (x ∉ ps.take (k + 1)) := Lib.hid (has_no HP.out HNO.out HV.out)
        go_wp2
        go_quiet (fail)
        go_wp2
        go_roundw
        case rel => exact ⟨k + 1, by omega, by go_num, HS.out, ⟨b0, b1, b2, b3⟩, hsz, he.drewN _⟩
        case measure => simp [intOf]; omega
    · have HS : Hid (r = false) := Lib.hid (by
        rw [← HR.out, decide_eq_false_iff_not]
        have := HNO.out
        rw [List.take_of_length_le (by rw [HN.out]; omega)] at this
        exact this)
      go_wp2
      go_ret
      exact ⟨ret_bool HS.out.symm, he⟩
set_option maxRecDepth 100000 in
set_option maxHeartbeats 3200000 in
/-- within, where all are there. -/
theorem within_all (A : Option Addr) (c : Nat) (ps : List In.Inc) (B : Option Addr) (d : Nat) (qs : List In.Inc) (n m : Nat) (hn : ps.length = n) (hm : qs.length = m) (hall : ∀ p ∈ ps, p ∈ qs) (w : World) (h : SlN w A ps) (h2 : SlN w B qs) (hl : n ≤ maxLen) (hl2 : m ≤ maxLen) :
    Calls Tryd.prog 29 #[.slice A n c, .slice B m d] w fun e w' => e = .returned (.bool true) ∧ Ext w w' := by
  have HA := Lib.hid h
  have HB := Lib.hid h2
  have HN := Lib.hid hn
  have HM := Lib.hid hm
  have HALL := Lib.hid hall
  have HL2 := Lib.hid hl2
  unfold maxLen at hl
  clear h h2 hn hm hall hl2
  go_enter Tryd.func29, Tryd.ntmps29
  go_wp2
  go_loopw [5] (fun i wr => ∃ k : Nat, k ≤ n ∧ i = .int .i64 k ∧ Ext w wr) (fun i _ => n - (intOf i).toNat)
  case atStart => exact ⟨0, by omega, rfl, Ext.refl _⟩
  case round =>
    obtain ⟨k, hk, rfl, he⟩ := hrel
    by_cases hlt : k < n
    · obtain ⟨p, hp⟩ : ∃ p, ps[k]? = some p := ⟨ps[k]'(by rw [HN.out]; exact hlt), List.getElem?_eq_getElem _⟩
      obtain ⟨gb, go, rfl, hgb, x0, x1, x2, x3⟩ := (HA.out.ext he).at_ hp
      have ki0 : (0 : Int) ≤ (k : Int) := by omega
      have ki1 : (k : Int) < (n : Int) := by omega
      have HP : Hid (decide (p ∈ qs) = true) := Lib.hid (by rw [decide_eq_true_eq]; exact HALL.out p (List.mem_of_getElem? hp))
      clear hp
      have HB1 := Lib.hid (HB.out.ext he)
      go_wp2_with ((with_reducible refine (has_any B d qs p m HM.out HP.out _ HB1.out HL2.out).mono ?_); rintro e w1 ⟨rfl, hb1⟩)
      go_roundw
      case rel => exact ⟨k + 1, by omega, by go_num, he.trans hb1⟩
      case measure => simp [intOf]; omega
    · go_wp2
      go_ret
      exact ⟨rfl, he⟩
end Go.Proofs.YtcpapnnghclbmaaDoor
