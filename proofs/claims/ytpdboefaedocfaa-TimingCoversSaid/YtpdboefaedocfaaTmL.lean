/- The law's own pairs, covers and normal: contracts; how a list of intervals comes out of a row's reading. Conditions: those of each theorem. -/
import Derived.Test.YtpdboefaedocfaaTmM
import Derived.Test.YtpdboefaedocfaaTmT
import Derived.Test.YtpdboefaedocfaaW
namespace Go.Proofs.Ytpdboefaedocfaa
open Go.ChangeShapes Go.WideShapes Go.ChangeAt Go.RowKit

theorem pair_open {H : Type} {enc : TypeId × Value → H} {W : World} (n : Nat) (cs : List Value) (y : DataW H × List MemPlace)
    (h : DataW.trod enc Try.prog W 0 (fun _ => true) true n 33 cs = some y) : ∃ p : Int × Int, cs = Tm.cells p ∧ (In64 p.1 ∧ In64 p.2) := by
  obtain ⟨y0, y1, m, _, hl, h0, h1⟩ := trod_struct2 Try.underlying33 h
  have hl2 := hl.trans (show Try.prog.cellsOf 33 = 2 by kernel_rfl)
  match cs, hl2 with
  | [c0, c1], _ =>
    have k3 : Try.prog.cellsOf 3 = 1 := by kernel_rfl
    simp only [k3, List.drop_zero, List.take_succ_cons, List.take_zero, List.drop_succ_cons] at h0 h1
    obtain ⟨a, e0, -, wa⟩ := DataW.trod_int Try.underlying3 h0
    obtain ⟨b, e1, -, wb⟩ := DataW.trod_int Try.underlying3 h1
    simp at e0 e1
    subst e0 e1
    exact ⟨(a, b), rfl, in64_of_wf wa, in64_of_wf wb⟩
theorem pairs_open {H : Type} {enc : TypeId × Value → H} {W : World} {base : Nat} {v : Value} {d : DataW H} {p : List MemPlace} (hv : Value.okWide Try.prog W .any base 31 v)
    (h : DataW.Trod enc Try.prog W 0 (fun _ => true) true 31 v d p) : ∃ (L : Option Addr) (lc : Nat) (ps : List (Int × Int)), v = .slice L ps.length lc ∧ (⟨L, lc, ps⟩ : PL).In W := by
  obtain ⟨A0, n0, c0, rfl⟩ := okWide_slice Try.underlying31 hv
  obtain ⟨fuel, hf⟩ := h
  obtain ⟨L, ps, lc, e, h2, h3, h4, h5⟩ := open_sl Tm.cells (fun p => In64 p.1 ∧ In64 p.2) Try.underlying31 (by kernel_rfl) (k := 2) (by omega) pair_open hf
  simp [Value.cells] at e
  obtain ⟨rfl, rfl, rfl⟩ := e
  exact ⟨_, _, ps, rfl, h5, h2, h3, h4⟩

set_option maxHeartbeats 800000 in
theorem pairs_eq (X : Option Addr) (xc : Nat) (Y : Option Addr) (yc : Nat) (ps : List (Int × Int)) (w : World) (ha : SlP w X ps) (hb : SlP w Y ps) (hl1 : ps.length ≤ maxLen) :
    Calls Try.prog 16 #[.slice X ps.length xc, .slice Y ps.length yc] w fun e w' => e = .returned (.bool true) ∧ Ext w w' := by
  have HA := Lib.hid ha
  have HB := Lib.hid hb
  unfold maxLen at hl1
  clear ha hb
  go_enter Try.func16, Try.ntmps16
  go_wp2
  go_loopw [5] (fun i wr => ∃ k : Nat, k ≤ ps.length ∧ i = .int .i64 k ∧ Ext w wr) (fun i _ => ps.length - (intOf i).toNat)
  case atStart => exact ⟨0, by omega, rfl, Ext.refl _⟩
  case round =>
    obtain ⟨k, hk, rfl, he⟩ := hrel
    by_cases hlt : k < ps.length
    · obtain ⟨p, hp⟩ : ∃ p, ps[k]? = some p := ⟨ps[k], List.getElem?_eq_getElem hlt⟩
      obtain ⟨gb, go, rfl, hgb, x0, x1⟩ := (HA.out.ext he).at_ hp
      obtain ⟨fb, fo, rfl, hfb, y0, y1⟩ := (HB.out.ext he).at_ hp
      have ki0 : (0 : Int) ≤ (k : Int) := by omega
      have ki1 : (k : Int) < (ps.length : Int) := by omega
      clear hp
      go_wp2
      go_quiet (fail)
      go_wp2
      go_roundw
      case rel => exact ⟨k + 1, by omega, by go_num, he.drewN _⟩
      case measure => simp [intOf]; omega
    · go_wp2
      go_ret
      exact ⟨rfl, he⟩

set_option maxHeartbeats 800000 in
theorem covers_any (X : Option Addr) (xc : Nat) (ps : List (Int × Int)) (x : Int) (w : World) (ha : SlP w X ps) (hl1 : ps.length ≤ maxLen) :
    Calls Try.prog 23 #[.slice X ps.length xc, .int .i64 x] w fun e w' => e = .returned (.bool (Tm.cov ps x)) ∧ Ext w w' := by
  have HA := Lib.hid ha
  unfold maxLen at hl1
  clear ha
  go_enter Try.func23, Try.ntmps23
  go_wp2
  go_loopw [5] (fun i wr => ∃ k : Nat, k ≤ ps.length ∧ i = .int .i64 k ∧ Tm.cov (ps.take k) x = false ∧ Ext w wr) (fun i _ => ps.length - (intOf i).toNat)
  case atStart => exact ⟨0, by omega, rfl, rfl, Ext.refl _⟩
  case round =>
    obtain ⟨k, hk, rfl, hno, he⟩ := hrel
    have HNO := Lib.hid hno
    clear hno
    by_cases hlt : k < ps.length
    · obtain ⟨p, hp⟩ : ∃ p, ps[k]? = some p := ⟨ps[k], List.getElem?_eq_getElem hlt⟩
      obtain ⟨gb, go, rfl, hgb, x0, x1⟩ := (HA.out.ext he).at_ hp
      obtain ⟨p1, p2⟩ := p
      simp only at x0 x1
      have ki0 : (0 : Int) ≤ (k : Int) := by omega
      have ki1 : (k : Int) < (ps.length : Int) := by omega
      have HP := Lib.hid hp
      clear hp
      by_cases h1 : p1 ≤ x
      · by_cases h2 : x < p2
        · have HR : Hid (Tm.cov ps x = true) := Lib.hid (Tm.any_yes HP.out (by simp only [decide_eq_true_eq]; exact ⟨h1, h2⟩))
          go_wp2
          go_ret
          exact ⟨ret_bool HR.out.symm, he⟩
        · have HR : Hid (decide ((p1, p2).1 ≤ x ∧ x < (p1, p2).2) = false) := Lib.hid (by rw [decide_eq_false_iff_not]; exact fun g => h2 g.2)
          go_wp2
          go_roundw
          case rel => exact ⟨k + 1, by omega, by go_num, by unfold Tm.cov; rw [Tm.any_step HP.out]; have e := HNO.out; unfold Tm.cov at e; rw [e, HR.out]; rfl, he⟩
          case measure => simp [intOf]; omega
      · have HR : Hid (decide ((p1, p2).1 ≤ x ∧ x < (p1, p2).2) = false) := Lib.hid (by rw [decide_eq_false_iff_not]; exact fun g => h1 g.1)
        go_wp2
        go_roundw
        case rel => exact ⟨k + 1, by omega, by go_num, by unfold Tm.cov; rw [Tm.any_step HP.out]; have e := HNO.out; unfold Tm.cov at e; rw [e, HR.out]; rfl, he⟩
        case measure => simp [intOf]; omega
    · have HE : Hid (Tm.cov ps x = false) := Lib.hid (Tm.any_end (by omega) HNO.out)
      go_wp2
      go_ret
      exact ⟨ret_bool HE.out.symm, he⟩

theorem norm_at {ps : List (Int × Int)} (h : Tm.Norm ps) {i : Nat} {p q : Int × Int} (hp : ps[i]? = some p) (hq : ps[i + 1]? = some q) : p.2 < q.1 := by
  obtain ⟨hi, rfl⟩ := List.getElem?_eq_some_iff.1 hp
  obtain ⟨hj, rfl⟩ := List.getElem?_eq_some_iff.1 hq
  exact List.pairwise_iff_getElem.1 h.2 i (i + 1) hi hj (by omega)
set_option maxHeartbeats 3200000 in
theorem isnormal_eq (X : Option Addr) (xc : Nat) (ps : List (Int × Int)) (w : World) (ha : SlP w X ps) (hl1 : ps.length ≤ maxLen) (hn : Tm.Norm ps) :
    Calls Try.prog 22 #[.slice X ps.length xc] w fun e w' => e = .returned (.bool true) ∧ Ext w w' := by
  have HA := Lib.hid ha
  have HN := Lib.hid hn
  unfold maxLen at hl1
  clear ha hn
  go_enter Try.func22, Try.ntmps22
  go_wp2
  go_loopw [3] (fun i wr => ∃ k : Nat, k ≤ ps.length ∧ i = .int .i64 k ∧ Ext w wr) (fun i _ => ps.length - (intOf i).toNat)
  case atStart => exact ⟨0, by omega, rfl, Ext.refl _⟩
  case round =>
    obtain ⟨k, hk, rfl, he⟩ := hrel
    by_cases hlt : k < ps.length
    · obtain ⟨p, hp⟩ : ∃ p, ps[k]? = some p := ⟨ps[k], List.getElem?_eq_getElem hlt⟩
      obtain ⟨gb, go, rfl, hgb, x0, x1⟩ := (HA.out.ext he).at_ hp
      obtain ⟨p1, p2⟩ := p
      simp only at x0 x1
      have hp12 : p1 < p2 := HN.out.1 _ (List.mem_of_getElem? hp)
      have hp12' : ¬ p2 ≤ p1 := by omega
      have hp12d : decide (p2 ≤ p1) = false := by simp; omega
      have ki0 : (0 : Int) ≤ (k : Int) := by omega
      have ki1 : (k : Int) < (ps.length : Int) := by omega
      have HP := Lib.hid hp
      clear hp
      rcases Nat.eq_zero_or_pos k with hk0 | hk0
      · have kz : decide ((0 : Int) < (k : Int)) = false := by simp; omega
        have kzm : decide (0 < k) = false := by simp; omega
        have kzn : ¬ 0 < k := by omega
        clear hk0
        go_wp2
        go_quiet (fail)
        go_wp2
        go_roundw
        case rel => exact ⟨k + 1, by omega, by go_num, he.drewN _⟩
        case measure => simp [intOf]; omega
      · obtain ⟨q, hq⟩ : ∃ q, ps[k - 1]? = some q := ⟨ps[k - 1], List.getElem?_eq_getElem (by omega)⟩
        obtain ⟨gb2, go2, hA2, hgb2, y0, y1⟩ := (HA.out.ext he).at_ hq
        injection hA2 with hA2
        injection hA2 with hA2 hA3
        subst hA2 hA3
        obtain ⟨q1, q2⟩ := q
        simp only at y0 y1
        have hqp : q2 < p1 := norm_at HN.out hq (by rw [Nat.sub_add_cancel hk0]; exact HP.out)
        have hqp' : ¬ p1 ≤ q2 := by omega
        have hqpd : decide (p1 ≤ q2) = false := by simp; omega
        have kpd : decide ((0 : Int) < (k : Int)) = true := by simp; omega
        have kpm : decide (0 < k) = true := by simp; omega
        have kp : (0 : Int) < (k : Int) := by omega
        have i1 : (k : Int) - 1 < (ps.length : Int) := by omega
        have i2 : (0 : Int) ≤ (k : Int) - 1 := by omega
        have i3 : 1 ≤ (k : Int) := by omega
        have hwr : IntKind.i64.wrap ((k : Int) - 1) = (k : Int) - 1 := IntWalk.i64_in _ (by omega)
        have e1 : ((k : Int) - 1).toNat = k - 1 := by omega
        clear hq
        go_wp2
        go_quiet (fail)
        go_wp2
        go_roundw
        case rel => exact ⟨k + 1, by omega, by go_num, he.drewN _⟩
        case measure => simp [intOf]; omega
    · go_wp2
      go_ret
      exact ⟨rfl, he⟩
end Go.Proofs.Ytpdboefaedocfaa
