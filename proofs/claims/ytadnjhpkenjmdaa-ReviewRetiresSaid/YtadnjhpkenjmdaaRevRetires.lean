/- ReviewRetires: the chief may retire every item that is not retired, and then nothing may be done with it, for every input. No conditions. -/
import Derived.Test.YtadnjhpkenjmdaaRevDuties
import Derived.Test.YtadnjhpkenjmdaaRevS
namespace Go.Proofs.Ytadnjhpkenjmdaa
open Go.ChangeShapes Go.WideShapes Go.ChangeAt Go.RowKit

theorem actions_to {r : Rev.Rec} {u ro t : Int} {l : List Int} (hl : Rev.acts r u ro t 9 = l) (P : Option Addr) (pc : Nat) (Q : Option Addr) (qc : Nat) (L : Option Addr) (lc : Nat) (w : World) (h : RevIn w r.st r.au P pc r.ap Q qc r.fa L lc r.log) :
    Calls Try.prog 9 #[.agg #[.int .i64 r.st, .int .i64 r.au, .slice P r.ap.length pc, .slice Q r.fa.length qc, .slice L r.log.length lc], .int .i64 u, .int .i64 ro, .int .i64 t] w (RetInts l w) := by
  subst hl
  exact actions_any r.st r.au P pc r.ap Q qc r.fa L lc r.log u ro t w h

set_option maxRecDepth 100000 in
set_option maxHeartbeats 3200000 in
theorem reviewRetires_walk (au : Int) (G : Option Addr) (gc : Nat) (log : List Rev.Act) (u ro tm : Int) (w : World) (hG : SlA w G log) (hlen : log.length ≤ maxLen) (hin : ∀ a ∈ log, a.In) :
    Calls Try.prog 5 #[.int .i64 au, .slice G log.length gc, .int .i64 u, .int .i64 ro, .int .i64 tm] w fun e w' => e = .returned (.bool true) ∧ Ext w w' := by
  have HG := Lib.hid hG
  have HIN := Lib.hid hin
  have HLEN := Lib.hid hlen
  clear hG hin hlen
  by_cases hau : au < 1 ∨ 9999999 < au
  · have hau' : au < 1 ∨ (1 ≤ au ∧ 9999999 < au) := by omega
    clear hau
    rcases hau' with h | ⟨h, h'⟩
    all_goals
      go_enter Try.func5, Try.ntmps5
      go_wp2
      go_ret
      exact ⟨rfl, Ext.refl _⟩
  · have h1 : 1 ≤ au := by omega
    have h2 : au ≤ 9999999 := by omega
    clear hau
    have hi := Rev.perform_inv au log
    have hsm := Rev.perform_small au log
    have hti := Rev.perform_times au log
    have hfa := Rev.first_acts au h1 h2
    obtain ⟨r, hr⟩ : ∃ r, Rev.perform au log = r := ⟨_, rfl⟩
    rw [hr] at hi hsm hti
    have HR := Lib.hid hr
    have HFA := Lib.hid hfa
    clear hr hfa
    by_cases hl : 200 ≤ r.log.length
    · have hl' : 200 ≤ (r.log.length : Int) := by omega
      clear hi hsm hti
      go_enter Try.func5, Try.ntmps5
      go_wp2_with fail
      refine (perform_to au G gc log HR.out _ h1 h2 HG.out HLEN.out HIN.out).mono ?_
      rintro e w1 ⟨P, pc, Q, qc, L, lc, rfl, hrv, hb1, -, -, -⟩
      clear hrv
      go_wp2
      go_ret
      exact ⟨rfl, hb1.alloc _⟩
    · have hl' : (r.log.length : Int) < 200 := by omega
      have hl2 : r.log.length < 200 := by omega
      obtain ⟨sm1, sm2⟩ := hsm
      clear hl
      rcases List.eq_nil_or_concat r.log with hnil | ⟨l0, a0, hcat⟩
      · have hlt0 : Rev.lastTime r.log = 0 := by rw [hnil]; rfl
        have hz0 : r.log.length = 0 := by rw [hnil]; rfl
        have hpos : decide (0 < (r.log.length : Int)) = false := by simp; omega
        have hposN : decide (0 < r.log.length) = false := by simp; omega
        have hpos2 : ¬ 0 < r.log.length := by omega
        have HLT := Lib.hid hlt0
        clear hlt0 hnil hz0
        by_cases h7 : r.st = 7
        · have h7' : (r.st != 7) = false := by rw [h7]; rfl
          have HD := Lib.hid (Rev.dead_acts h7 u ro tm 9 (by omega))
          clear h7 hi hti
          go_enter Try.func5, Try.ntmps5
          go_wp2_with fail
          refine (perform_to au G gc log HR.out _ h1 h2 HG.out HLEN.out HIN.out).mono ?_
          rintro e w1 ⟨P, pc, Q, qc, L, lc, rfl, hrv, hb1, -, -, -⟩
          have HRV := Lib.hid hrv
          have eb : Ext w1 (w1.alloc (.cells #[.int .i64 r.st, .int .i64 r.au, .slice P r.ap.length pc, .slice Q r.fa.length qc, .slice L r.log.length lc] 25)) := (Ext.refl _).alloc _
          clear hrv
          go_wp2_with fail
          refine (actions_to HD.out P pc Q qc L lc _ (HRV.out.ext eb)).mono ?_
          rintro e w3 ⟨M1, mc1, rfl, hm1, hb3⟩
          clear hm1
          go_wp2_with fail
          refine (new_ok au _ h1 h2).mono ?_
          rintro e w4 ⟨rfl, hb4⟩
          go_wp2_with fail
          refine (actions_to (r := Rev.start au) HFA.out none 0 none 0 none 0 _ (rev_nil _ 1 au ⟨by decide, by decide⟩ ⟨by omega, by omega⟩)).mono ?_
          rintro e w5 ⟨M2, mc2, rfl, hm2, hb5⟩
          obtain ⟨mb, mo, mx, rfl, hmb, hmx, cm⟩ := hm2.1.at_ (i := 0) (by simp)
          simp at hmx
          subst hmx
          rw [Nat.add_zero] at cm
          clear hm2
          go_wp2
          go_ret
          exact ⟨rfl, (((hb1.trans (eb.trans hb3)).trans hb4).alloc _).trans hb5⟩
        · have h7' : (r.st != 7) = true := by rw [bne_iff_ne]; exact h7
          have hok := Rev.retire_ok hi.bd h7 hl2 hti
          rw [HLT.out] at hok
          obtain ⟨r2, hr2⟩ : ∃ r2, Rev.applyR r ⟨8, 1, 16, 0⟩ = r2 := ⟨_, rfl⟩
          have hr2n : r2 = Rev.next r ⟨8, 1, 16, 0⟩ := by rw [← hr2]; unfold Rev.applyR; rw [if_pos hok]
          have hst2 : r2.st = 7 := by rw [hr2n, Rev.next_8]
          have st2 : (r2.st != 7) = false := by rw [hst2]; rfl
          have HD := Lib.hid (Rev.dead_acts hst2 u ro tm 9 (by omega))
          have HOK := Lib.hid hok
          have HR2 := Lib.hid hr2
          have HTB : Hid (In64 (0)) := Lib.hid (by have := Rev.last_bd hti; rw [HLT.out] at this; exact ⟨by omega, by omega⟩)
          have HTA : Hid (Rev.Act.In ⟨8, 1, 16, 0⟩) := Lib.hid ⟨⟨by simp, by simp⟩, ⟨by simp, by simp⟩, ⟨by simp, by simp⟩, HTB.out⟩
          clear h7 hi hti hok hr2 hr2n hst2
          go_enter Try.func5, Try.ntmps5
          go_wp2_with fail
          refine (perform_to au G gc log HR.out _ h1 h2 HG.out HLEN.out HIN.out).mono ?_
          rintro e w1 ⟨P, pc, Q, qc, L, lc, rfl, hrv, hb1, -, -, -⟩
          have HRV := Lib.hid hrv
          have eb : Ext w1 (w1.alloc (.cells #[.int .i64 r.st, .int .i64 r.au, .slice P r.ap.length pc, .slice Q r.fa.length qc, .slice L r.log.length lc] 25)) := (Ext.refl _).alloc _
          clear hrv
          have k0 : (w1.alloc (.cells #[.int .i64 r.st, .int .i64 r.au, .slice P r.ap.length pc, .slice Q r.fa.length qc, .slice L r.log.length lc] 25)).cell? ⟨w1.heap.size, 0, none⟩ = some (.int .i64 r.st) := by simp [go_sem]
          have k1 : (w1.alloc (.cells #[.int .i64 r.st, .int .i64 r.au, .slice P r.ap.length pc, .slice Q r.fa.length qc, .slice L r.log.length lc] 25)).cell? ⟨w1.heap.size, 1, none⟩ = some (.int .i64 r.au) := by simp [go_sem]
          have k2 : (w1.alloc (.cells #[.int .i64 r.st, .int .i64 r.au, .slice P r.ap.length pc, .slice Q r.fa.length qc, .slice L r.log.length lc] 25)).cell? ⟨w1.heap.size, 2, none⟩ = some (.slice P r.ap.length pc) := by simp [go_sem]
          have k3 : (w1.alloc (.cells #[.int .i64 r.st, .int .i64 r.au, .slice P r.ap.length pc, .slice Q r.fa.length qc, .slice L r.log.length lc] 25)).cell? ⟨w1.heap.size, 3, none⟩ = some (.slice Q r.fa.length qc) := by simp [go_sem]
          have k4 : (w1.alloc (.cells #[.int .i64 r.st, .int .i64 r.au, .slice P r.ap.length pc, .slice Q r.fa.length qc, .slice L r.log.length lc] 25)).cell? ⟨w1.heap.size, 4, none⟩ = some (.slice L r.log.length lc) := by simp [go_sem]
          have kb : (w1.alloc (.cells #[.int .i64 r.st, .int .i64 r.au, .slice P r.ap.length pc, .slice Q r.fa.length qc, .slice L r.log.length lc] 25)).heap[w1.heap.size]? = some (.cells #[.int .i64 r.st, .int .i64 r.au, .slice P r.ap.length pc, .slice Q r.fa.length qc, .slice L r.log.length lc] 25 (0, 0)) := heap_alloc_new _ _
          have KB := Lib.hid kb
          clear kb
          go_wp2_with fail
          refine (apply_to HR2.out HOK.out P pc Q qc L lc _ (HRV.out.ext eb) (by omega) (by omega) HTA.out).mono ?_
          rintro e w2 ⟨P2, pc2, Q2, qc2, L2, lc2, rfl, hr2, hb2, hP2, hQ2, hL2⟩
          have HRV2 := Lib.hid hr2
          have t0 := hb2.keep k0
          have t1 := hb2.keep k1
          have t2 := hb2.keep k2
          have t3 := hb2.keep k3
          have t4 := hb2.keep k4
          have kb2 := hb2.blockAt KB.out
          have v0 := frozen_of_row _ _ 0 _ _ kb2
          have v1 := frozen_of_row _ _ 1 _ _ kb2
          have v2 := frozen_of_row _ _ 2 _ _ kb2
          have v3 := frozen_of_row _ _ 3 _ _ kb2
          have v4 := frozen_of_row _ _ 4 _ _ kb2
          have hlt2 : w1.heap.size < w2.heap.size := World.block_lt_of_cell? w2 _ t0
          have hbs : w1.heap.size < (w1.alloc (.cells #[.int .i64 r.st, .int .i64 r.au, .slice P r.ap.length pc, .slice Q r.fa.length qc, .slice L r.log.length lc] 25)).heap.size := World.block_lt_of_cell? _ _ k0
          have o1 := Lib.hid (Off.of_fresh (n := r2.ap.length) hP2 hbs)
          have o2 := Lib.hid (Off.of_fresh (n := r2.fa.length) hQ2 hbs)
          have o3 := Lib.hid (Off.of_fresh (n := r2.log.length) hL2 hbs)
          have hw1 := hb1.size
          have hne : w1.heap.size ≠ w2.heap.size := by omega
          have hne' : w2.heap.size ≠ w1.heap.size := by omega
          clear k0 k1 k2 k3 k4 kb2 hr2 hP2 hQ2 hL2
          go_wp2_with fail
          refine (actions_to HD.out P2 pc2 Q2 qc2 L2 lc2 _ ((put5_rev HRV2.out o1.out o2.out o3.out).ext ((Ext.refl _).alloc _))).mono ?_
          rintro e w3 ⟨M1, mc1, rfl, hm1, hb3⟩
          clear hm1
          go_wp2_with fail
          refine (new_ok au _ h1 h2).mono ?_
          rintro e w4 ⟨rfl, hb4⟩
          go_wp2_with fail
          refine (actions_to (r := Rev.start au) HFA.out none 0 none 0 none 0 _ (rev_nil _ 1 au ⟨by decide, by decide⟩ ⟨by omega, by omega⟩)).mono ?_
          rintro e w5 ⟨M2, mc2, rfl, hm2, hb5⟩
          obtain ⟨mb, mo, mx, rfl, hmb, hmx, cm⟩ := hm2.1.at_ (i := 0) (by simp)
          simp at hmx
          subst hmx
          rw [Nat.add_zero] at cm
          clear hm2
          go_wp2
          go_ret
          exact ⟨rfl, (((((put5_ext (hb1.trans (eb.trans hb2)) hw1).alloc _).trans hb3).trans hb4).alloc _).trans hb5⟩
      · have hll : r.log.length = l0.length + 1 := by rw [hcat]; simp
        have hat : r.log[l0.length]? = some a0 := by rw [hcat]; simp
        have hlt0 : Rev.lastTime r.log = a0.time := by unfold Rev.lastTime; rw [hcat]; simp
        have hpos : decide (0 < (r.log.length : Int)) = true := by simp; omega
        have hposN : decide (0 < r.log.length) = true := by simp; omega
        have hposM : 0 < r.log.length := by omega
        have hidx1 : 1 ≤ (r.log.length : Int) := by omega
        have hidx : (r.log.length : Int) - 1 < (r.log.length : Int) := by omega
        have hidx0 : 0 ≤ (r.log.length : Int) - 1 := by omega
        have hwr : IntKind.i64.wrap ((r.log.length : Int) - 1) = (r.log.length : Int) - 1 := IntWalk.i64_in _ (by omega)
        have e1 : ((r.log.length : Int) - 1).toNat = r.log.length - 1 := by omega
        have HLL := Lib.hid hll
        have HAT := Lib.hid hat
        have HLT := Lib.hid hlt0
        clear hll hat hlt0 hcat
        by_cases h7 : r.st = 7
        · have h7' : (r.st != 7) = false := by rw [h7]; rfl
          have HD := Lib.hid (Rev.dead_acts h7 u ro tm 9 (by omega))
          clear h7 hi hti
          go_enter Try.func5, Try.ntmps5
          go_wp2_with fail
          refine (perform_to au G gc log HR.out _ h1 h2 HG.out HLEN.out HIN.out).mono ?_
          rintro e w1 ⟨P, pc, Q, qc, L, lc, rfl, hrv, hb1, -, -, -⟩
          have HRV := Lib.hid hrv
          have eb : Ext w1 (w1.alloc (.cells #[.int .i64 r.st, .int .i64 r.au, .slice P r.ap.length pc, .slice Q r.fa.length qc, .slice L r.log.length lc] 25)) := (Ext.refl _).alloc _
          clear hrv
          obtain ⟨b, off, hL, hb, g0, g1, g2, g3⟩ := HRV.out.2.2.1.at_ HAT.out
          subst hL
          have g4 : w1.cell? ⟨b, off + (r.log.length - 1) * 4 + 3, none⟩ = some (.int .i64 a0.time) := by
            rw [show r.log.length - 1 = l0.length by have := HLL.out; omega]; exact g3
          clear g0 g1 g2 g3
          go_wp2_with fail
          refine (actions_to HD.out P pc Q qc (some ⟨b, off, none⟩) lc _ (HRV.out.ext eb)).mono ?_
          rintro e w3 ⟨M1, mc1, rfl, hm1, hb3⟩
          clear hm1
          go_wp2_with fail
          refine (new_ok au _ h1 h2).mono ?_
          rintro e w4 ⟨rfl, hb4⟩
          go_wp2_with fail
          refine (actions_to (r := Rev.start au) HFA.out none 0 none 0 none 0 _ (rev_nil _ 1 au ⟨by decide, by decide⟩ ⟨by omega, by omega⟩)).mono ?_
          rintro e w5 ⟨M2, mc2, rfl, hm2, hb5⟩
          obtain ⟨mb, mo, mx, rfl, hmb, hmx, cm⟩ := hm2.1.at_ (i := 0) (by simp)
          simp at hmx
          subst hmx
          rw [Nat.add_zero] at cm
          clear hm2
          go_wp2
          go_ret
          exact ⟨rfl, (((hb1.trans (eb.trans hb3)).trans hb4).alloc _).trans hb5⟩
        · have h7' : (r.st != 7) = true := by rw [bne_iff_ne]; exact h7
          have hok := Rev.retire_ok hi.bd h7 hl2 hti
          rw [HLT.out] at hok
          obtain ⟨r2, hr2⟩ : ∃ r2, Rev.applyR r ⟨8, 1, 16, a0.time⟩ = r2 := ⟨_, rfl⟩
          have hr2n : r2 = Rev.next r ⟨8, 1, 16, a0.time⟩ := by rw [← hr2]; unfold Rev.applyR; rw [if_pos hok]
          have hst2 : r2.st = 7 := by rw [hr2n, Rev.next_8]
          have st2 : (r2.st != 7) = false := by rw [hst2]; rfl
          have HD := Lib.hid (Rev.dead_acts hst2 u ro tm 9 (by omega))
          have HOK := Lib.hid hok
          have HR2 := Lib.hid hr2
          have HTB : Hid (In64 (a0.time)) := Lib.hid (by have := Rev.last_bd hti; rw [HLT.out] at this; exact ⟨by omega, by omega⟩)
          have HTA : Hid (Rev.Act.In ⟨8, 1, 16, a0.time⟩) := Lib.hid ⟨⟨by simp, by simp⟩, ⟨by simp, by simp⟩, ⟨by simp, by simp⟩, HTB.out⟩
          clear h7 hi hti hok hr2 hr2n hst2
          go_enter Try.func5, Try.ntmps5
          go_wp2_with fail
          refine (perform_to au G gc log HR.out _ h1 h2 HG.out HLEN.out HIN.out).mono ?_
          rintro e w1 ⟨P, pc, Q, qc, L, lc, rfl, hrv, hb1, -, -, -⟩
          have HRV := Lib.hid hrv
          have eb : Ext w1 (w1.alloc (.cells #[.int .i64 r.st, .int .i64 r.au, .slice P r.ap.length pc, .slice Q r.fa.length qc, .slice L r.log.length lc] 25)) := (Ext.refl _).alloc _
          clear hrv
          obtain ⟨b, off, hL, hb, g0, g1, g2, g3⟩ := HRV.out.2.2.1.at_ HAT.out
          subst hL
          have g4 : w1.cell? ⟨b, off + (r.log.length - 1) * 4 + 3, none⟩ = some (.int .i64 a0.time) := by
            rw [show r.log.length - 1 = l0.length by have := HLL.out; omega]; exact g3
          clear g0 g1 g2 g3
          have k0 : (w1.alloc (.cells #[.int .i64 r.st, .int .i64 r.au, .slice P r.ap.length pc, .slice Q r.fa.length qc, .slice (some ⟨b, off, none⟩) r.log.length lc] 25)).cell? ⟨w1.heap.size, 0, none⟩ = some (.int .i64 r.st) := by simp [go_sem]
          have k1 : (w1.alloc (.cells #[.int .i64 r.st, .int .i64 r.au, .slice P r.ap.length pc, .slice Q r.fa.length qc, .slice (some ⟨b, off, none⟩) r.log.length lc] 25)).cell? ⟨w1.heap.size, 1, none⟩ = some (.int .i64 r.au) := by simp [go_sem]
          have k2 : (w1.alloc (.cells #[.int .i64 r.st, .int .i64 r.au, .slice P r.ap.length pc, .slice Q r.fa.length qc, .slice (some ⟨b, off, none⟩) r.log.length lc] 25)).cell? ⟨w1.heap.size, 2, none⟩ = some (.slice P r.ap.length pc) := by simp [go_sem]
          have k3 : (w1.alloc (.cells #[.int .i64 r.st, .int .i64 r.au, .slice P r.ap.length pc, .slice Q r.fa.length qc, .slice (some ⟨b, off, none⟩) r.log.length lc] 25)).cell? ⟨w1.heap.size, 3, none⟩ = some (.slice Q r.fa.length qc) := by simp [go_sem]
          have k4 : (w1.alloc (.cells #[.int .i64 r.st, .int .i64 r.au, .slice P r.ap.length pc, .slice Q r.fa.length qc, .slice (some ⟨b, off, none⟩) r.log.length lc] 25)).cell? ⟨w1.heap.size, 4, none⟩ = some (.slice (some ⟨b, off, none⟩) r.log.length lc) := by simp [go_sem]
          have kb : (w1.alloc (.cells #[.int .i64 r.st, .int .i64 r.au, .slice P r.ap.length pc, .slice Q r.fa.length qc, .slice (some ⟨b, off, none⟩) r.log.length lc] 25)).heap[w1.heap.size]? = some (.cells #[.int .i64 r.st, .int .i64 r.au, .slice P r.ap.length pc, .slice Q r.fa.length qc, .slice (some ⟨b, off, none⟩) r.log.length lc] 25 (0, 0)) := heap_alloc_new _ _
          have KB := Lib.hid kb
          clear kb
          go_wp2_with fail
          refine (apply_to HR2.out HOK.out P pc Q qc (some ⟨b, off, none⟩) lc _ (HRV.out.ext eb) (by omega) (by omega) HTA.out).mono ?_
          rintro e w2 ⟨P2, pc2, Q2, qc2, L2, lc2, rfl, hr2, hb2, hP2, hQ2, hL2⟩
          have HRV2 := Lib.hid hr2
          have t0 := hb2.keep k0
          have t1 := hb2.keep k1
          have t2 := hb2.keep k2
          have t3 := hb2.keep k3
          have t4 := hb2.keep k4
          have kb2 := hb2.blockAt KB.out
          have v0 := frozen_of_row _ _ 0 _ _ kb2
          have v1 := frozen_of_row _ _ 1 _ _ kb2
          have v2 := frozen_of_row _ _ 2 _ _ kb2
          have v3 := frozen_of_row _ _ 3 _ _ kb2
          have v4 := frozen_of_row _ _ 4 _ _ kb2
          have hlt2 : w1.heap.size < w2.heap.size := World.block_lt_of_cell? w2 _ t0
          have hbs : w1.heap.size < (w1.alloc (.cells #[.int .i64 r.st, .int .i64 r.au, .slice P r.ap.length pc, .slice Q r.fa.length qc, .slice (some ⟨b, off, none⟩) r.log.length lc] 25)).heap.size := World.block_lt_of_cell? _ _ k0
          have o1 := Lib.hid (Off.of_fresh (n := r2.ap.length) hP2 hbs)
          have o2 := Lib.hid (Off.of_fresh (n := r2.fa.length) hQ2 hbs)
          have o3 := Lib.hid (Off.of_fresh (n := r2.log.length) hL2 hbs)
          have hw1 := hb1.size
          have hne : w1.heap.size ≠ w2.heap.size := by omega
          have hne' : w2.heap.size ≠ w1.heap.size := by omega
          clear k0 k1 k2 k3 k4 kb2 hr2 hP2 hQ2 hL2
          go_wp2_with fail
          refine (actions_to HD.out P2 pc2 Q2 qc2 L2 lc2 _ ((put5_rev HRV2.out o1.out o2.out o3.out).ext ((Ext.refl _).alloc _))).mono ?_
          rintro e w3 ⟨M1, mc1, rfl, hm1, hb3⟩
          clear hm1
          go_wp2_with fail
          refine (new_ok au _ h1 h2).mono ?_
          rintro e w4 ⟨rfl, hb4⟩
          go_wp2_with fail
          refine (actions_to (r := Rev.start au) HFA.out none 0 none 0 none 0 _ (rev_nil _ 1 au ⟨by decide, by decide⟩ ⟨by omega, by omega⟩)).mono ?_
          rintro e w5 ⟨M2, mc2, rfl, hm2, hb5⟩
          obtain ⟨mb, mo, mx, rfl, hmb, hmx, cm⟩ := hm2.1.at_ (i := 0) (by simp)
          simp at hmx
          subst hmx
          rw [Nat.add_zero] at cm
          clear hm2
          go_wp2
          go_ret
          exact ⟨rfl, (((((put5_ext (hb1.trans (eb.trans hb2)) hw1).alloc _).trans hb3).trans hb4).alloc _).trans hb5⟩

theorem reviewRetires_lifted (os : Os) (started : os.Started) (H : Type) (enc : TypeId × Value → H) :
    ReturnsInHanded {} Try.checked os 5 .any (Rows.reviewRetiresSpec.pre6 enc Try.prog Try.f5 Rows.reviewRetiresRow.domain false) (Rows.reviewRetiresSpec.post enc Try.prog Try.f5 false true false false) := by
  refine returnsInHanded_of_change (C := Try.checked) Try.own started (by kernel_rfl) Try.func5
    (ChangeSpec.witness6 (enc := enc) (C := Try.checked) false ⟨#[], #[.int .i64 0, .slice none 0 0, .int .i64 0, .int .i64 0, .int .i64 0], []⟩ 8 (by kernel_rfl) (by kernel_rfl) (by kernel_rfl) (by kernel_rfl)) ?_
  intro W base args ds gs before hval0 hW _ _
  have hval : ∀ (j : Nat) t v, Try.f5.params[j]? = some t → args[j]? = some v → Value.okWide Try.prog W .any base t v := hval0
  have hW' := hW
  obtain ⟨p, q, hA0, hV, rfl, hfz, hnd⟩ := hW
  have hA : DataW.TrodAll enc Try.prog W 0 (fun _ => true) true Try.f5.params.toList args.toList ds p := hA0
  rw [Try.params5] at hA hval
  obtain ⟨v0, vs0, d0, ds0, p0, q0, hargs, rfl, rfl, h0, r0⟩ := trodAll_cons hA
  obtain ⟨v1, vs1, d1, ds1, p1, q1, rfl, rfl, rfl, h1, r1⟩ := trodAll_cons r0
  obtain ⟨v2, vs2, d2, ds2, p2, q2, rfl, rfl, rfl, h2, r2⟩ := trodAll_cons r1
  obtain ⟨v3, vs3, d3, ds3, p3, q3, rfl, rfl, rfl, h3, r3⟩ := trodAll_cons r2
  obtain ⟨v4, vs4, d4, ds4, p4, q4, rfl, rfl, rfl, h4, r4⟩ := trodAll_cons r3
  obtain ⟨rfl, rfl, rfl⟩ := trodAll_nil r4
  obtain rfl : args = #[v0, v1, v2, v3, v4] := by cases args; simp_all
  obtain ⟨rfl, rfl⟩ := trodVars_none hV
  obtain ⟨au, rfl, hd0, rfl, _⟩ := open_int Try.underlying3 (hval 0 3 v0 rfl rfl) h0
  obtain ⟨G, gc, log, rfl, g1, gl, gm, g3⟩ := log_open (hval 1 23 v1 rfl rfl) h1; have g2 := Nat.le_trans gl gm
  obtain ⟨u, rfl, hd2, rfl, _⟩ := open_int Try.underlying3 (hval 2 3 v2 rfl rfl) h2
  obtain ⟨ro, rfl, hd3, rfl, _⟩ := open_int Try.underlying3 (hval 3 3 v3 rfl rfl) h3
  obtain ⟨tm, rfl, hd4, rfl, _⟩ := open_int Try.underlying3 (hval 4 3 v4 rfl rfl) h4
  refine (reviewRetires_walk au G gc log u ro tm W g1 g2 g3).mono fun e W' ⟨he, hw⟩ => ?_
  subst he
  exact ⟨_, rfl, law_post hW' Try.laidOut (by kernel_rfl) rfl (by rfl) rfl Try.underlying4 hw⟩

theorem reviewRetires_holds : Rows.ReviewRetiresSaid :=
  OpenClaim.holds_of_wide 5 Try.f5 rfl rfl rfl rfl rfl rfl rfl ⟨rfl, rfl, rfl, rfl, rfl⟩ rfl rfl rfl rfl rfl (by kernel_rfl) Try.func5 (by kernel_rfl)
    (of_decide_eq_true (by kernel_rfl)) (by unfold Func.isWrapper; first | (rw [if_pos (by decide +kernel)]; kernel_rfl) | (rw [if_neg (by decide +kernel)]; exact ⟨rfl, rfl⟩))
    (fun os started H enc _ => reviewRetires_lifted os started H enc)
#print axioms reviewRetires_holds
end Go.Proofs.Ytadnjhpkenjmdaa
