/- The reference's Same and SameInts, the law's has and within: contracts. Conditions: those of each theorem. -/
import Derived.Test.YtcpapnnghclbmaaDoorInF
import Derived.Deep.QuietTactic
import Derived.BigQuiet
namespace Go.Proofs.YtcpapnnghclbmaaDoor
open Go.RowKit

set_option maxHeartbeats 1600000 in
theorem same_eq (X : Option Addr) (xc : Nat) (Y : Option Addr) (yc : Nat) (ps : List In.Inc) (n : Nat) (hn : ps.length = n) (w : World) (ha : SlN w X ps) (hb : SlN w Y ps) (hl1 : n ≤ 1000000) :
    Calls Tryd.prog 12 #[.slice X n xc, .slice Y n yc] w fun e w' => e = .returned (.bool true) ∧ Ext w w' := by
  have HA := Lib.hid ha
  have HB := Lib.hid hb
  have HN := Lib.hid hn
  clear ha hb hn
  go_enter Tryd.func12, Tryd.ntmps12
  go_wp2
  go_loopw [5] (fun i wr => ∃ k : Nat, k ≤ n ∧ i = .int .i64 k ∧ Ext w wr) (fun i _ => n - (intOf i).toNat)
  case atStart => exact ⟨0, by omega, rfl, Ext.refl _⟩
  case round =>
    obtain ⟨k, hk, rfl, he⟩ := hrel
    by_cases hlt : k < n
    · obtain ⟨p, hp⟩ : ∃ p, ps[k]? = some p := ⟨ps[k]'(by rw [HN.out]; exact hlt), List.getElem?_eq_getElem _⟩
      obtain ⟨gb, go, rfl, hgb, x0, x1, x2, x3⟩ := (HA.out.ext he).at_ hp
      obtain ⟨fb, fo, rfl, hfb, y0, y1, y2, y3⟩ := (HB.out.ext he).at_ hp
      have ki0 : (0 : Int) ≤ (k : Int) := by omega
      have ki1 : (k : Int) < (n : Int) := by omega
      clear hp
      go_wp2
      go_quiet (fail)
      go_wp2
      go_roundw
      case rel => exact ⟨k + 1, by omega, by go_num, he.drewN _⟩
      case measure => simp [intOf]; omega
    · go_wp2
      go_ret
      exact ⟨rfl, he⟩
set_option maxHeartbeats 1600000 in
theorem sameInts_eq (X : Option Addr) (xc : Nat) (Y : Option Addr) (yc : Nat) (xs : List Int) (n : Nat) (hn : xs.length = n) (w : World) (ha : SlI w X xs) (hb : SlI w Y xs) (hl1 : n ≤ 1000000) :
    Calls Tryd.prog 24 #[.slice X n xc, .slice Y n yc] w fun e w' => e = .returned (.bool true) ∧ Ext w w' := by
  have HA := Lib.hid ha
  have HB := Lib.hid hb
  have HN := Lib.hid hn
  clear ha hb hn
  go_enter Tryd.func24, Tryd.ntmps24
  go_wp2
  go_loopw [5] (fun i wr => ∃ k : Nat, k ≤ n ∧ i = .int .i64 k ∧ Ext w wr) (fun i _ => n - (intOf i).toNat)
  case atStart => exact ⟨0, by omega, rfl, Ext.refl _⟩
  case round =>
    obtain ⟨k, hk, rfl, he⟩ := hrel
    by_cases hlt : k < n
    · have hlx : k < xs.length := by rw [HN.out]; exact hlt
      obtain ⟨gb, go, x, rfl, hgb, hx, x0⟩ := (HA.out.ext he).at_ hlx
      obtain ⟨fb, fo, y, rfl, hfb, hy, y0⟩ := (HB.out.ext he).at_ hlx
      obtain rfl : x = y := by rw [hx] at hy; injection hy
      have ki0 : (0 : Int) ≤ (k : Int) := by omega
      have ki1 : (k : Int) < (n : Int) := by omega
      clear hx hy hlx
      go_wp2
      go_quiet (fail)
      go_wp2
      go_roundw
      case rel => exact ⟨k + 1, by omega, by go_num, he.drewN _⟩
      case measure => simp [intOf]; omega
    · go_wp2
      go_ret
      exact ⟨rfl, he⟩
end Go.Proofs.YtcpapnnghclbmaaDoor
