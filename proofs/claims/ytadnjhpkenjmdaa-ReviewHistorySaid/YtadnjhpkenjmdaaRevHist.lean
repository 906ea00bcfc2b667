/- ReviewHistory: a record is what replaying its log leads to, and its times do not fall, for every input. No conditions. -/
import Derived.Test.YtadnjhpkenjmdaaRevDuties
import Derived.Test.YtadnjhpkenjmdaaRevJ
namespace Go.Proofs.Ytadnjhpkenjmdaa
open Go.ChangeShapes Go.WideShapes Go.ChangeAt Go.RowKit

theorem replay_to {r : Rev.Rec} {n : Nat} {er : Int} (au : Int) (G : Option Addr) (gc : Nat) (log : List Rev.Act) (hx : Rev.replayR au log = (r, n, er)) (w : World) (hG : SlA w G log) (hlen : log.length ≤ maxLen) (hin : ∀ a ∈ log, a.In) :
    Calls Try.prog 15 #[.int .i64 au, .slice G log.length gc] w fun e w' => ∃ (P : Option Addr) (pc : Nat) (Q : Option Addr) (qc : Nat) (L : Option Addr) (lc : Nat), e = .returned (.tuple #[.agg #[.int .i64 r.st, .int .i64 r.au, .slice P r.ap.length pc, .slice Q r.fa.length qc, .slice L r.log.length lc], .int .i64 n, .int .i64 er]) ∧ RevIn w' r.st r.au P pc r.ap Q qc r.fa L lc r.log ∧ Ext w w' := by
  have h := replay_any au G gc log w hG hlen hin
  rw [hx] at h
  exact h

set_option maxRecDepth 100000 in
set_option maxHeartbeats 3200000 in
theorem reviewHistory_walk (au : Int) (G : Option Addr) (gc : Nat) (log : List Rev.Act) (w : World) (hG : SlA w G log) (hlen : log.length ≤ maxLen) (hin : ∀ a ∈ log, a.In) :
    Calls Try.prog 7 #[.int .i64 au, .slice G log.length gc] w fun e w' => e = .returned (.bool true) ∧ Ext w w' := by
  have HG := Lib.hid hG
  have HIN := Lib.hid hin
  have HLEN := Lib.hid hlen
  clear hG hin hlen
  by_cases hau : au < 1 ∨ 9999999 < au
  · have HAU := Lib.hid hau
    have hau' : au < 1 ∨ (1 ≤ au ∧ 9999999 < au) := by omega
    clear hau
    rcases hau' with h | ⟨h, h'⟩
    all_goals
      go_enter Try.func7, Try.ntmps7
      go_wp2_with fail
      refine (new_bad au _ HAU.out).mono ?_
      rintro e w1 ⟨rfl, hb1⟩
      go_wp2
      go_ret
      exact ⟨rfl, hb1.alloc _⟩
  · have h1 : 1 ≤ au := by omega
    have h2 : au ≤ 9999999 := by omega
    have hE : Rev.newE au = 0 := by unfold Rev.newE; rw [if_neg hau]
    clear hau
    have hrp : Rev.replayR au (Rev.perform au log).log = _ := (show _ = Rev.goR (Rev.start au) 0 _ by unfold Rev.replayR; rw [if_pos hE]).trans (Rev.perform_replay au log)
    have hri := Rev.perform_rising au log
    have hlr := Rev.perform_len au log
    obtain ⟨r, hr⟩ : ∃ r, Rev.perform au log = r := ⟨_, rfl⟩
    rw [hr] at hrp hri hlr
    have HR := Lib.hid hr
    have HRP := Lib.hid hrp
    have HRI := Lib.hid hri
    clear hr hrp hri hE
    go_enter Try.func7, Try.ntmps7
    go_wp2_with fail
    refine (perform_to au G gc log HR.out _ h1 h2 HG.out HLEN.out HIN.out).mono ?_
    rintro e w1 ⟨P, pc, Q, qc, L, lc, rfl, hrv, hb1, -, -, -⟩
    have eb : Ext w1 (w1.alloc (.cells #[.int .i64 r.st, .int .i64 r.au, .slice P r.ap.length pc, .slice Q r.fa.length qc, .slice L r.log.length lc] 25)) := (Ext.refl _).alloc _
    have HRV := Lib.hid (hrv.ext eb)
    clear hrv
    go_wp2_with fail
    have k0 : (w1.alloc (.cells #[.int .i64 r.st, .int .i64 r.au, .slice P r.ap.length pc, .slice Q r.fa.length qc, .slice L r.log.length lc] 25)).cell? ⟨w1.heap.size, 0, none⟩ = some (.int .i64 r.st) := by simp [go_sem]
    have K0 := Lib.hid k0
    have k1 : (w1.alloc (.cells #[.int .i64 r.st, .int .i64 r.au, .slice P r.ap.length pc, .slice Q r.fa.length qc, .slice L r.log.length lc] 25)).cell? ⟨w1.heap.size, 1, none⟩ = some (.int .i64 r.au) := by simp [go_sem]
    have K1 := Lib.hid k1
    have k2 : (w1.alloc (.cells #[.int .i64 r.st, .int .i64 r.au, .slice P r.ap.length pc, .slice Q r.fa.length qc, .slice L r.log.length lc] 25)).cell? ⟨w1.heap.size, 2, none⟩ = some (.slice P r.ap.length pc) := by simp [go_sem]
    have K2 := Lib.hid k2
    have k3 : (w1.alloc (.cells #[.int .i64 r.st, .int .i64 r.au, .slice P r.ap.length pc, .slice Q r.fa.length qc, .slice L r.log.length lc] 25)).cell? ⟨w1.heap.size, 3, none⟩ = some (.slice Q r.fa.length qc) := by simp [go_sem]
    have K3 := Lib.hid k3
    have k4 : (w1.alloc (.cells #[.int .i64 r.st, .int .i64 r.au, .slice P r.ap.length pc, .slice Q r.fa.length qc, .slice L r.log.length lc] 25)).cell? ⟨w1.heap.size, 4, none⟩ = some (.slice L r.log.length lc) := by simp [go_sem]
    have K4 := Lib.hid k4
    clear k0 k1 k2 k3 k4
    have ew : Ext w (w1.alloc (.cells #[.int .i64 r.st, .int .i64 r.au, .slice P r.ap.length pc, .slice Q r.fa.length qc, .slice L r.log.length lc] 25)) := hb1.trans eb
    generalize (w1.alloc (.cells #[.int .i64 r.st, .int .i64 r.au, .slice P r.ap.length pc, .slice Q r.fa.length qc, .slice L r.log.length lc] 25)) = W at *
    go_loopw [9] (fun i wr => ∃ k : Nat, 1 ≤ k ∧ i = .int .i64 k ∧ k ≤ 201 ∧ Ext W wr) (fun i _ => 202 - (intOf i).toNat)
    case atStart => exact ⟨1, by omega, rfl, by omega, Ext.refl _⟩
    case round =>
      obtain ⟨k, hk, rfl, hk2, he⟩ := hrel
      obtain ⟨wo, rfl⟩ : ∃ wo : World, wo = wr := ⟨_, rfl⟩
      have k4 := he.keep K4.out
      by_cases hlt : k < r.log.length
      · obtain ⟨a, ha⟩ : ∃ a, r.log[k]? = some a := ⟨r.log[k], List.getElem?_eq_getElem hlt⟩
        obtain ⟨b, hb⟩ : ∃ b, r.log[k - 1]? = some b := ⟨r.log[k - 1], List.getElem?_eq_getElem (by omega)⟩
        have hle := HRI.out (k - 1) b a hb (by rw [show k - 1 + 1 = k by omega]; exact ha)
        obtain ⟨gb, go, rfl, hgb, -, -, -, x3⟩ := (HRV.out.2.2.1.ext he).at_ ha
        obtain ⟨fb, fo, hL, hfb, -, -, -, y3⟩ := (HRV.out.2.2.1.ext he).at_ hb
        injection hL with hL
        injection hL with hL1 hL2
        subst hL1 hL2
        have ki0 : (0 : Int) ≤ (k : Int) := by omega
        have ki1 : (k : Int) < (r.log.length : Int) := by omega
        have kj0 : (0 : Int) ≤ (k : Int) - 1 := by omega
        have kj1 : (k : Int) - 1 < (r.log.length : Int) := by omega
        have kj2 : 1 ≤ (k : Int) := by omega
        have hwr : IntKind.i64.wrap ((k : Int) - 1) = (k : Int) - 1 := IntWalk.i64_in _ (by omega)
        have e1 : ((k : Int) - 1).toNat = k - 1 := by omega
        have hcmp : decide (a.time < b.time) = false := by simp; omega
        have hcmp2 : ¬ a.time < b.time := by omega
        clear ha hb hle
        go_wp2
        go_quiet (fail)
        go_wp2
        go_roundw
        case rel => exact ⟨k + 1, by omega, by go_num, by omega, he.drewN _⟩
        case measure => simp [intOf]; omega
      · have k0 := he.keep K0.out
        have k1 := he.keep K1.out
        have k2 := he.keep K2.out
        have k3 := he.keep K3.out
        have hll : r.log.length ≤ maxLen := by unfold maxLen; omega
        go_wp2_with fail
        refine (replay_to au L lc r.log HRP.out _ (HRV.out.2.2.1.ext he) hll HRV.out.2.2.2.2.2.1).mono ?_
        rintro e w2 ⟨P2, pc2, Q2, qc2, L2, lc2, rfl, hr2, hb2⟩
        have q0 := hb2.keep k0
        have q1 := hb2.keep k1
        have q2 := hb2.keep k2
        have q3 := hb2.keep k3
        have q4 := hb2.keep k4
        have hsz : w1.heap.size < w2.heap.size := World.block_lt_of_cell? w2 _ q0
        have hne : w1.heap.size ≠ w2.heap.size := by omega
        have hne' : w2.heap.size ≠ w1.heap.size := by omega
        have e3 : Ext w2 (w2.alloc (.cells #[.int .i64 r.st, .int .i64 r.au, .slice P2 r.ap.length pc2, .slice Q2 r.fa.length qc2, .slice L2 r.log.length lc2] 25)) := (Ext.refl _).alloc _
        have HR2 := Lib.hid (hr2.ext e3)
        have HR3 := Lib.hid (HRV.out.ext (he.trans (hb2.trans e3)))
        clear k0 k1 k2 k3 k4 hr2
        go_wp2_with fail
        refine (same_eq r P2 pc2 Q2 qc2 L2 lc2 P pc Q qc L lc _ HR2.out HR3.out).mono ?_
        rintro e w3 ⟨rfl, hb3⟩
        go_wp2
        go_ret
        exact ⟨rfl, ew.trans (he.trans (hb2.trans (e3.trans hb3)))⟩

theorem reviewHistory_lifted (os : Os) (started : os.Started) (H : Type) (enc : TypeId × Value → H) :
    ReturnsInHanded {} Try.checked os 7 .any (Rows.reviewHistorySpec.pre6 enc Try.prog Try.f7 Rows.reviewHistoryRow.domain false) (Rows.reviewHistorySpec.post enc Try.prog Try.f7 false true false false) := by
  refine returnsInHanded_of_change (C := Try.checked) Try.own started (by kernel_rfl) Try.func7
    (ChangeSpec.witness6 (enc := enc) (C := Try.checked) false ⟨#[], #[.int .i64 0, .slice none 0 0], []⟩ 8 (by kernel_rfl) (by kernel_rfl) (by kernel_rfl) (by kernel_rfl)) ?_
  intro W base args ds gs before hval0 hW _ _
  have hval : ∀ (j : Nat) t v, Try.f7.params[j]? = some t → args[j]? = some v → Value.okWide Try.prog W .any base t v := hval0
  have hW' := hW
  obtain ⟨p, q, hA0, hV, rfl, hfz, hnd⟩ := hW
  have hA : DataW.TrodAll enc Try.prog W 0 (fun _ => true) true Try.f7.params.toList args.toList ds p := hA0
  rw [Try.params7] at hA hval
  obtain ⟨v0, vs0, d0, ds0, p0, q0, hargs, rfl, rfl, h0, r0⟩ := trodAll_cons hA
  obtain ⟨v1, vs1, d1, ds1, p1, q1, rfl, rfl, rfl, h1, r1⟩ := trodAll_cons r0
  obtain ⟨rfl, rfl, rfl⟩ := trodAll_nil r1
  obtain rfl : args = #[v0, v1] := by cases args; simp_all
  obtain ⟨rfl, rfl⟩ := trodVars_none hV
  obtain ⟨au, rfl, hd0, rfl, _⟩ := open_int Try.underlying3 (hval 0 3 v0 rfl rfl) h0
  obtain ⟨G, gc, log, rfl, g1, gl, gm, g3⟩ := log_open (hval 1 23 v1 rfl rfl) h1; have g2 := Nat.le_trans gl gm
  refine (reviewHistory_walk au G gc log W g1 g2 g3).mono fun e W' ⟨he, hw⟩ => ?_
  subst he
  exact ⟨_, rfl, law_post hW' Try.laidOut (by kernel_rfl) rfl (by rfl) rfl Try.underlying4 hw⟩

theorem reviewHistory_holds : Rows.ReviewHistorySaid :=
  OpenClaim.holds_of_wide 7 Try.f7 rfl rfl rfl rfl rfl rfl rfl ⟨rfl, rfl, rfl, rfl, rfl⟩ rfl rfl rfl rfl rfl (by kernel_rfl) Try.func7 (by kernel_rfl)
    (of_decide_eq_true (by kernel_rfl)) (by unfold Func.isWrapper; first | (rw [if_pos (by decide +kernel)]; kernel_rfl) | (rw [if_neg (by decide +kernel)]; exact ⟨rfl, rfl⟩))
    (fun os started H enc _ => reviewHistory_lifted os started H enc)
#print axioms reviewHistory_holds
end Go.Proofs.Ytadnjhpkenjmdaa
