/- Contracts of review.Replay and of the law's same. Conditions: those of each theorem. -/
import Derived.Test.YtadnjhpkenjmdaaRevH
import Derived.Test.YtadnjhpkenjmdaaRevE
namespace Go.Proofs.Ytadnjhpkenjmdaa
open Go.RowKit

/-- The post of a replay: the record, how many actions were performed, the error. -/
def RetReplay (x : Rev.Rec × Nat × Int) (w : World) (e : Ending) (w' : World) : Prop :=
  ∃ (P : Option Addr) (pc : Nat) (Q : Option Addr) (qc : Nat) (L : Option Addr) (lc : Nat), e = .returned (.tuple #[.agg #[.int .i64 x.1.st, .int .i64 x.1.au, .slice P x.1.ap.length pc, .slice Q x.1.fa.length qc, .slice L x.1.log.length lc], .int .i64 x.2.1, .int .i64 x.2.2]) ∧ RevIn w' x.1.st x.1.au P pc x.1.ap Q qc x.1.fa L lc x.1.log ∧ Ext w w'
theorem rev_zero (w : World) : RevIn w Rev.zero.st Rev.zero.au none 0 Rev.zero.ap none 0 Rev.zero.fa none 0 Rev.zero.log := rev_nil _ _ _ (by unfold In64; decide) (by unfold In64; decide)

set_option maxHeartbeats 800000 in
theorem new_bad (au : Int) (w : World) (h : au < 1 ∨ 9999999 < au) : Calls Try.prog 14 #[.int .i64 au] w fun e w' => e = .returned (.tuple #[.agg #[.int .i64 0, .int .i64 0, .slice none 0 0, .slice none 0 0, .slice none 0 0], .int .i64 3]) ∧ Ext w w' := by
  have h' : au < 1 ∨ (1 ≤ au ∧ 9999999 < au) := by omega
  clear h
  rcases h' with h | ⟨h1, h2⟩
  all_goals
    go_enter Try.func14, Try.ntmps14
    go_wp2
    exact bodyPost_ret (v := .tuple #[.agg #[.int .i64 0, .int .i64 0, .slice none 0 0, .slice none 0 0, .slice none 0 0], .int .i64 3]) (by simp [results, Try.results14, go_sem]) rfl ⟨rfl, (Ext.refl _).alloc _⟩

set_option maxRecDepth 100000 in
set_option maxHeartbeats 2000000 in
theorem replay_any (au : Int) (G : Option Addr) (gc : Nat) (log : List Rev.Act) (w : World) (hG : SlA w G log) (hlen : log.length ≤ maxLen) (hin : ∀ a ∈ log, a.In) :
    Calls Try.prog 15 #[.int .i64 au, .slice G log.length gc] w (RetReplay (Rev.replayR au log) w) := by
  have HG := Lib.hid hG
  have HIN := Lib.hid hin
  unfold maxLen at hlen
  clear hG hin
  by_cases hau : au < 1 ∨ 9999999 < au
  · have hE : Rev.newE au = 3 := by unfold Rev.newE; rw [if_pos hau]
    have hRR : Rev.replayR au log = (Rev.zero, 0, 3) := by unfold Rev.replayR; rw [hE]; rfl
    rw [hRR]
    clear hE hRR
    go_enter Try.func15, Try.ntmps15
    go_wp2_with fail
    have e0 : Ext w (w.alloc (.cells #[.int .i64 0, .int .i64 0, .slice none 0 0, .slice none 0 0, .slice none 0 0] 25)) := (Ext.refl _).alloc _
    have z0 : (w.alloc (.cells #[.int .i64 0, .int .i64 0, .slice none 0 0, .slice none 0 0, .slice none 0 0] 25)).cell? ⟨w.heap.size, 0, none⟩ = some (.int .i64 0) := by simp [go_sem]
    have y0 : (w.alloc (.cells #[.int .i64 0, .int .i64 0, .slice none 0 0, .slice none 0 0, .slice none 0 0] 25)).frozen? ⟨w.heap.size, 0, none⟩ = false := by simp [go_sem]
    have z1 : (w.alloc (.cells #[.int .i64 0, .int .i64 0, .slice none 0 0, .slice none 0 0, .slice none 0 0] 25)).cell? ⟨w.heap.size, 1, none⟩ = some (.int .i64 0) := by simp [go_sem]
    have y1 : (w.alloc (.cells #[.int .i64 0, .int .i64 0, .slice none 0 0, .slice none 0 0, .slice none 0 0] 25)).frozen? ⟨w.heap.size, 1, none⟩ = false := by simp [go_sem]
    have z2 : (w.alloc (.cells #[.int .i64 0, .int .i64 0, .slice none 0 0, .slice none 0 0, .slice none 0 0] 25)).cell? ⟨w.heap.size, 2, none⟩ = some (.slice none 0 0) := by simp [go_sem]
    have y2 : (w.alloc (.cells #[.int .i64 0, .int .i64 0, .slice none 0 0, .slice none 0 0, .slice none 0 0] 25)).frozen? ⟨w.heap.size, 2, none⟩ = false := by simp [go_sem]
    have z3 : (w.alloc (.cells #[.int .i64 0, .int .i64 0, .slice none 0 0, .slice none 0 0, .slice none 0 0] 25)).cell? ⟨w.heap.size, 3, none⟩ = some (.slice none 0 0) := by simp [go_sem]
    have y3 : (w.alloc (.cells #[.int .i64 0, .int .i64 0, .slice none 0 0, .slice none 0 0, .slice none 0 0] 25)).frozen? ⟨w.heap.size, 3, none⟩ = false := by simp [go_sem]
    have z4 : (w.alloc (.cells #[.int .i64 0, .int .i64 0, .slice none 0 0, .slice none 0 0, .slice none 0 0] 25)).cell? ⟨w.heap.size, 4, none⟩ = some (.slice none 0 0) := by simp [go_sem]
    have y4 : (w.alloc (.cells #[.int .i64 0, .int .i64 0, .slice none 0 0, .slice none 0 0, .slice none 0 0] 25)).frozen? ⟨w.heap.size, 4, none⟩ = false := by simp [go_sem]
    generalize (w.alloc (.cells #[.int .i64 0, .int .i64 0, .slice none 0 0, .slice none 0 0, .slice none 0 0] 25)) = w0 at *
    have Z0 := Lib.hid z0
    have Y0 := Lib.hid y0
    have Z1 := Lib.hid z1
    have Y1 := Lib.hid y1
    have Z2 := Lib.hid z2
    have Y2 := Lib.hid y2
    have Z3 := Lib.hid z3
    have Y3 := Lib.hid y3
    have Z4 := Lib.hid z4
    have Y4 := Lib.hid y4
    clear z0 y0 z1 y1 z2 y2 z3 y3 z4 y4
    have hw0 : w.heap.size < w0.heap.size := World.block_lt_of_cell? w0 _ Z0.out
    refine (new_bad au _ hau).mono ?_
    rintro e w1 ⟨rfl, hb1⟩
    have h01 := hb1.size
    have hne : w.heap.size ≠ w1.heap.size := by omega
    have hne' : w1.heap.size ≠ w.heap.size := by omega
    have hlt1 : w.heap.size < w1.heap.size := by omega
    have eW : Ext w0 (w1.alloc (.cells #[.int .i64 0, .int .i64 0, .slice none 0 0, .slice none 0 0, .slice none 0 0] 25)) := hb1.alloc _
    have z0 := eW.keep Z0.out
    have y0 := eW.free Z0.out Y0.out
    have z1 := eW.keep Z1.out
    have y1 := eW.free Z1.out Y1.out
    have z2 := eW.keep Z2.out
    have y2 := eW.free Z2.out Y2.out
    have z3 := eW.keep Z3.out
    have y3 := eW.free Z3.out Y3.out
    have z4 := eW.keep Z4.out
    have y4 := eW.free Z4.out Y4.out
    have eW' : Ext w (w1.alloc (.cells #[.int .i64 0, .int .i64 0, .slice none 0 0, .slice none 0 0, .slice none 0 0] 25)) := e0.trans eW
    clear hau
    go_upto_region 3 with fail
    generalize w1.alloc (.cells #[.int .i64 0, .int .i64 0, .slice none 0 0, .slice none 0 0, .slice none 0 0] 25) = W2 at *
    go_wp2
    refine bodyPost_ret (v := .tuple #[.agg #[.int .i64 0, .int .i64 0, .slice none 0 0, .slice none 0 0, .slice none 0 0], .int .i64 0, .int .i64 3]) (by simp [results, Try.results15, go_sem, z0, z1, z2, z3, z4]) rfl ?_
    exact ⟨none, 0, none, 0, none, 0, rfl, rev_zero _, put5_ext eW' (Nat.le_refl _)⟩
  · have h1 : 1 ≤ au := by omega
    have h2 : au ≤ 9999999 := by omega
    have hE : Rev.newE au = 0 := by unfold Rev.newE; rw [if_neg hau]
    have hRR : Rev.replayR au log = Rev.goR (Rev.start au) 0 log := by unfold Rev.replayR; rw [if_pos hE]
    rw [hRR]
    clear hE hRR hau
    go_enter Try.func15, Try.ntmps15
    go_wp2_with fail
    have e0 : Ext w (w.alloc (.cells #[.int .i64 0, .int .i64 0, .slice none 0 0, .slice none 0 0, .slice none 0 0] 25)) := (Ext.refl _).alloc _
    have z0 : (w.alloc (.cells #[.int .i64 0, .int .i64 0, .slice none 0 0, .slice none 0 0, .slice none 0 0] 25)).cell? ⟨w.heap.size, 0, none⟩ = some (.int .i64 0) := by simp [go_sem]
    have y0 : (w.alloc (.cells #[.int .i64 0, .int .i64 0, .slice none 0 0, .slice none 0 0, .slice none 0 0] 25)).frozen? ⟨w.heap.size, 0, none⟩ = false := by simp [go_sem]
    have z1 : (w.alloc (.cells #[.int .i64 0, .int .i64 0, .slice none 0 0, .slice none 0 0, .slice none 0 0] 25)).cell? ⟨w.heap.size, 1, none⟩ = some (.int .i64 0) := by simp [go_sem]
    have y1 : (w.alloc (.cells #[.int .i64 0, .int .i64 0, .slice none 0 0, .slice none 0 0, .slice none 0 0] 25)).frozen? ⟨w.heap.size, 1, none⟩ = false := by simp [go_sem]
    have z2 : (w.alloc (.cells #[.int .i64 0, .int .i64 0, .slice none 0 0, .slice none 0 0, .slice none 0 0] 25)).cell? ⟨w.heap.size, 2, none⟩ = some (.slice none 0 0) := by simp [go_sem]
    have y2 : (w.alloc (.cells #[.int .i64 0, .int .i64 0, .slice none 0 0, .slice none 0 0, .slice none 0 0] 25)).frozen? ⟨w.heap.size, 2, none⟩ = false := by simp [go_sem]
    have z3 : (w.alloc (.cells #[.int .i64 0, .int .i64 0, .slice none 0 0, .slice none 0 0, .slice none 0 0] 25)).cell? ⟨w.heap.size, 3, none⟩ = some (.slice none 0 0) := by simp [go_sem]
    have y3 : (w.alloc (.cells #[.int .i64 0, .int .i64 0, .slice none 0 0, .slice none 0 0, .slice none 0 0] 25)).frozen? ⟨w.heap.size, 3, none⟩ = false := by simp [go_sem]
    have z4 : (w.alloc (.cells #[.int .i64 0, .int .i64 0, .slice none 0 0, .slice none 0 0, .slice none 0 0] 25)).cell? ⟨w.heap.size, 4, none⟩ = some (.slice none 0 0) := by simp [go_sem]
    have y4 : (w.alloc (.cells #[.int .i64 0, .int .i64 0, .slice none 0 0, .slice none 0 0, .slice none 0 0] 25)).frozen? ⟨w.heap.size, 4, none⟩ = false := by simp [go_sem]
    generalize (w.alloc (.cells #[.int .i64 0, .int .i64 0, .slice none 0 0, .slice none 0 0, .slice none 0 0] 25)) = w0 at *
    have Z0 := Lib.hid z0
    have Y0 := Lib.hid y0
    have Z1 := Lib.hid z1
    have Y1 := Lib.hid y1
    have Z2 := Lib.hid z2
    have Y2 := Lib.hid y2
    have Z3 := Lib.hid z3
    have Y3 := Lib.hid y3
    have Z4 := Lib.hid z4
    have Y4 := Lib.hid y4
    clear z0 y0 z1 y1 z2 y2 z3 y3 z4 y4
    have hw0 : w.heap.size < w0.heap.size := World.block_lt_of_cell? w0 _ Z0.out
    refine (new_ok au _ h1 h2).mono ?_
    rintro e w1 ⟨rfl, hb1⟩
    have h01 := hb1.size
    go_wp2_with fail
    have HS : RecAt (w1.alloc (.cells #[.int .i64 1, .int .i64 au, .slice none 0 0, .slice none 0 0, .slice none 0 0] 25)) w1.heap.size (Rev.start au) none 0 none 0 none 0 := ⟨heap_alloc_new _ _, rev_nil _ 1 au ⟨by decide, by decide⟩ ⟨by omega, by omega⟩, Or.inl rfl, Or.inl rfl, Or.inl rfl⟩
    have e2 : Ext w0 (w1.alloc (.cells #[.int .i64 1, .int .i64 au, .slice none 0 0, .slice none 0 0, .slice none 0 0] 25)) := hb1.alloc _
    generalize w1.alloc (.cells #[.int .i64 1, .int .i64 au, .slice none 0 0, .slice none 0 0, .slice none 0 0] 25) = W2 at *
    have HS' := Lib.hid HS
    clear HS
    go_loopw [22] (fun i wr => ∃ (k : Nat) (r : Rev.Rec) (P : Option Addr) (pc : Nat) (Q : Option Addr) (qc : Nat) (L : Option Addr) (lc : Nat), k ≤ log.length ∧ k ≤ 200 ∧ i = .int .i64 k ∧ Rev.goR r k (log.drop k) = Rev.goR (Rev.start au) 0 log ∧ RecAt wr w1.heap.size r P pc Q qc L lc ∧ r.ap.length ≤ k ∧ r.fa.length ≤ k ∧ r.log.length = k ∧ Ext w0 wr ∧ Fresh P w0 ∧ Fresh Q w0 ∧ Fresh L w0) (fun i _ => log.length - (intOf i).toNat)
    case atStart => exact ⟨0, Rev.start au, none, 0, none, 0, none, 0, by omega, by omega, rfl, rfl, HS'.out, by simp [Rev.start], by simp [Rev.start], by simp [Rev.start], e2, Fresh.none _, Fresh.none _, Fresh.none _⟩
    case round =>
      obtain ⟨k, r, P, pc, Q, qc, L, lc, hk, hk2, rfl, hpf, hrec, ha1, ha2, ha3, hex, hP, hQ, hL⟩ := hrel
      obtain ⟨wo, rfl⟩ : ∃ wo : World, wo = wr := ⟨_, rfl⟩
      have HPF := Lib.hid hpf
      have HREC := Lib.hid hrec
      have HP := Lib.hid hP
      have HQ := Lib.hid hQ
      have HL := Lib.hid hL
      obtain ⟨c0, c1, c2, c3, c4, j0, j1, j2, j3, j4⟩ := hrec.cells
      have hlt6 := hrec.lt
      have hexs := hex.size
      have hne : w1.heap.size ≠ w.heap.size := by omega
      have hne' : w.heap.size ≠ w1.heap.size := by omega
      have HA3 := Lib.hid ha3
      clear hpf hrec hP hQ hL ha3
      by_cases hlt : k < log.length
      · obtain ⟨a, ha⟩ : ∃ a, log[k]? = some a := ⟨log[k], List.getElem?_eq_getElem hlt⟩
        have hain := HIN.out a (List.mem_of_getElem? ha)
        have HAIN := Lib.hid hain
        obtain ⟨gb, go, rfl, hgb, d0, d1, d2, d3⟩ := ((HG.out.ext e0).ext hex).at_ ha
        have hdrop : log.drop k = a :: log.drop (k + 1) := by
          rw [List.drop_eq_getElem_cons hlt]
          rw [List.getElem?_eq_getElem hlt] at ha
          injection ha with ha
          rw [ha]
        have HDR := Lib.hid hdrop
        clear ha hain hdrop
        have ki0 : (0 : Int) ≤ (k : Int) := by omega
        have ki1 : (k : Int) < (log.length : Int) := by omega
        obtain ⟨r2, hr2⟩ : ∃ r2, Rev.applyR r a = r2 := ⟨_, rfl⟩
        obtain ⟨er, her⟩ : ∃ er, Rev.allowedE r a = er := ⟨_, rfl⟩
        have HR2 := Lib.hid hr2
        have HER := Lib.hid her
        clear hr2 her
        go_wp2_with fail
        have hxp : Ext wo (wo.alloc (.cells #[.int .i64 a.kind, .int .i64 a.user, .int .i64 a.roles, .int .i64 a.time] 34)) := (Ext.refl _).alloc _
        refine (apply_to HR2.out HER.out P pc Q qc L lc _ (HREC.out.2.1.ext hxp) (by omega) (by omega) HAIN.out).mono ?_
        rintro e w2 ⟨P2, pc2, Q2, qc2, L2, lc2, rfl, hr2, hb2, hP2, hQ2, hL2⟩
        have hx2 : Ext wo w2 := hxp.trans hb2
        have HRV2 := Lib.hid hr2
        have HP2 := Lib.hid hP2
        have HQ2 := Lib.hid hQ2
        have HL2 := Lib.hid hL2
        have t0 := hx2.keep c0
        have t1 := hx2.keep c1
        have t2 := hx2.keep c2
        have t3 := hx2.keep c3
        have t4 := hx2.keep c4
        have v0 := hx2.free c0 j0
        have v1 := hx2.free c1 j1
        have v2 := hx2.free c2 j2
        have v3 := hx2.free c3 j3
        have v4 := hx2.free c4 j4
        clear hr2 hP2 hQ2 hL2 c0 c1 c2 c3 c4 j0 j1 j2 j3 j4 d0 d1 d2 d3
        by_cases hz : er = 0
        · subst hz
          obtain ⟨-, -, hlog⟩ := Rev.allowed_zero HER.out
          have hr2e : r2 = Rev.next r a := by rw [← HR2.out]; unfold Rev.applyR; rw [if_pos HER.out]
          have hla := Rev.next_len r a
          have hll := Rev.next_log r a
          rw [← hr2e] at hla hll
          have HLA : Hid (r2.ap.length ≤ k + 1 ∧ r2.fa.length ≤ k + 1 ∧ r2.log.length = k + 1) := Lib.hid ⟨by omega, by omega, by rw [hll]; simp [HA3.out]⟩
          have HNX := Lib.hid hr2e
          have hk3 : k + 1 ≤ 200 := by have := HA3.out; omega
          clear hr2e hla hll hlog
          go_wp2
          go_roundw
          case rel =>
            have hx3 : Ext w0 w2 := hex.trans hx2
            have hr3 := HREC.out.ext hx2
            refine ⟨k + 1, r2, P2, pc2, Q2, qc2, L2, lc2, by omega, hk3, by go_num, ?_, ⟨put5_block hr3.1, put5_rev HRV2.out ?_ ?_ ?_, ?_, ?_, ?_⟩, HLA.out.1, HLA.out.2.1, HLA.out.2.2, put5_ext hx3 h01, HP2.out.mono (hex.trans hxp), HQ2.out.mono (hex.trans hxp), HL2.out.mono (hex.trans hxp)⟩
            · rw [← HPF.out, HDR.out, Rev.goR_yes HER.out, HNX.out]
            all_goals first | exact Off.of_fresh (HP2.out.mono hxp) hlt6 | exact Off.of_fresh (HQ2.out.mono hxp) hlt6 | exact Off.of_fresh (HL2.out.mono hxp) hlt6
          case measure => simp [intOf]; omega
        · have hz' : (er != 0) = true := by rw [bne_iff_ne]; exact hz
          have HRES : Hid (Rev.goR (Rev.start au) 0 log = (Rev.zero, k, er)) := Lib.hid (by rw [← HPF.out, HDR.out, Rev.goR_no (by rw [HER.out]; exact hz), HER.out])
          clear hz
          have z0 := (hex.trans hx2).keep Z0.out
          have y0 := (hex.trans hx2).free Z0.out Y0.out
          have z1 := (hex.trans hx2).keep Z1.out
          have y1 := (hex.trans hx2).free Z1.out Y1.out
          have z2 := (hex.trans hx2).keep Z2.out
          have y2 := (hex.trans hx2).free Z2.out Y2.out
          have z3 := (hex.trans hx2).keep Z3.out
          have y3 := (hex.trans hx2).free Z3.out Y3.out
          have z4 := (hex.trans hx2).keep Z4.out
          have y4 := (hex.trans hx2).free Z4.out Y4.out
          go_wp2
          rw [HRES.out]
          refine bodyPost_ret (v := .tuple #[.agg #[.int .i64 0, .int .i64 0, .slice none 0 0, .slice none 0 0, .slice none 0 0], .int .i64 k, .int .i64 er]) (by simp [results, Try.results15, go_sem, z0, z1, z2, z3, z4]) rfl ?_
          exact ⟨none, 0, none, 0, none, 0, rfl, rev_zero _, put5_ext (put5_ext (e0.trans (hex.trans hx2)) (by omega)) (Nat.le_refl _)⟩
      · have hnil : log.drop k = [] := by rw [List.drop_eq_nil_iff]; omega
        have hkl : k = log.length := by omega
        have HRES : Hid (Rev.goR (Rev.start au) 0 log = (r, log.length, 0)) := Lib.hid (by rw [← HPF.out, hnil, Rev.goR, hkl])
        have z0 := hex.keep Z0.out
        have y0 := hex.free Z0.out Y0.out
        have z1 := hex.keep Z1.out
        have y1 := hex.free Z1.out Y1.out
        have z2 := hex.keep Z2.out
        have y2 := hex.free Z2.out Y2.out
        have z3 := hex.keep Z3.out
        have y3 := hex.free Z3.out Y3.out
        have z4 := hex.keep Z4.out
        have y4 := hex.free Z4.out Y4.out
        clear hnil
        go_wp2
        rw [HRES.out]
        refine bodyPost_ret (v := .tuple #[.agg #[.int .i64 r.st, .int .i64 r.au, .slice P r.ap.length pc, .slice Q r.fa.length qc, .slice L r.log.length lc], .int .i64 log.length, .int .i64 0]) (by simp [results, Try.results15, go_sem, z0, z1, z2, z3, z4]) rfl ?_
        exact ⟨P, pc, Q, qc, L, lc, rfl, put5_rev HREC.out.2.1 (Off.of_fresh HP.out hw0) (Off.of_fresh HQ.out hw0) (Off.of_fresh HL.out hw0), put5_ext (e0.trans hex) (Nat.le_refl _)⟩

theorem ints_eq (X : Option Addr) (xc : Nat) (a : List Int) (Y : Option Addr) (yc : Nat) (w : World) (ha : SlI w X a) (hb : SlI w Y a) (hal : a.length ≤ maxLen) :
    Calls Try.prog 8 #[.slice X a.length xc, .slice Y a.length yc] w fun e w' => e = .returned (.bool true) ∧ Ext w w' := by
  refine (ints_any X xc a Y yc a w ha hb hal).mono ?_
  rintro e w' ⟨rfl, h⟩
  exact ⟨by simp, h⟩
set_option maxRecDepth 100000 in
set_option maxHeartbeats 2000000 in
theorem same_eq (r : Rev.Rec) (P : Option Addr) (pc : Nat) (Q : Option Addr) (qc : Nat) (L : Option Addr) (lc : Nat) (P2 : Option Addr) (pc2 : Nat) (Q2 : Option Addr) (qc2 : Nat) (L2 : Option Addr) (lc2 : Nat) (w : World) (h : RevIn w r.st r.au P pc r.ap Q qc r.fa L lc r.log) (h2 : RevIn w r.st r.au P2 pc2 r.ap Q2 qc2 r.fa L2 lc2 r.log) :
    Calls Try.prog 17 #[.agg #[.int .i64 r.st, .int .i64 r.au, .slice P r.ap.length pc, .slice Q r.fa.length qc, .slice L r.log.length lc], .agg #[.int .i64 r.st, .int .i64 r.au, .slice P2 r.ap.length pc2, .slice Q2 r.fa.length qc2, .slice L2 r.log.length lc2]] w fun e w' => e = .returned (.bool true) ∧ Ext w w' := by
  have hl1 : r.log.length ≤ maxLen := Nat.le_trans h.2.2.2.1 h.2.2.2.2.1
  unfold maxLen at hl1
  have H := Lib.hid h
  have H2 := Lib.hid h2
  clear h h2
  go_enter Try.func17, Try.ntmps17
  have eb : Ext w ((w.alloc (.cells #[.int .i64 r.st, .int .i64 r.au, .slice P r.ap.length pc, .slice Q r.fa.length qc, .slice L r.log.length lc] 25)).alloc (.cells #[.int .i64 r.st, .int .i64 r.au, .slice P2 r.ap.length pc2, .slice Q2 r.fa.length qc2, .slice L2 r.log.length lc2] 25)) := ((Ext.refl _).alloc _).alloc _
  have k4 : ((w.alloc (.cells #[.int .i64 r.st, .int .i64 r.au, .slice P r.ap.length pc, .slice Q r.fa.length qc, .slice L r.log.length lc] 25)).alloc (.cells #[.int .i64 r.st, .int .i64 r.au, .slice P2 r.ap.length pc2, .slice Q2 r.fa.length qc2, .slice L2 r.log.length lc2] 25)).cell? ⟨w.heap.size, 4, none⟩ = some (.slice L r.log.length lc) := by simp [go_sem]
  have m3 : ((w.alloc (.cells #[.int .i64 r.st, .int .i64 r.au, .slice P r.ap.length pc, .slice Q r.fa.length qc, .slice L r.log.length lc] 25)).alloc (.cells #[.int .i64 r.st, .int .i64 r.au, .slice P2 r.ap.length pc2, .slice Q2 r.fa.length qc2, .slice L2 r.log.length lc2] 25)).cell? ⟨w.heap.size, 3, none⟩ = some (.slice Q r.fa.length qc) := by simp [go_sem]
  have n4 : ((w.alloc (.cells #[.int .i64 r.st, .int .i64 r.au, .slice P r.ap.length pc, .slice Q r.fa.length qc, .slice L r.log.length lc] 25)).alloc (.cells #[.int .i64 r.st, .int .i64 r.au, .slice P2 r.ap.length pc2, .slice Q2 r.fa.length qc2, .slice L2 r.log.length lc2] 25)).cell? ⟨w.heap.size + 1, 4, none⟩ = some (.slice L2 r.log.length lc2) := by simp [go_sem]
  have n3 : ((w.alloc (.cells #[.int .i64 r.st, .int .i64 r.au, .slice P r.ap.length pc, .slice Q r.fa.length qc, .slice L r.log.length lc] 25)).alloc (.cells #[.int .i64 r.st, .int .i64 r.au, .slice P2 r.ap.length pc2, .slice Q2 r.fa.length qc2, .slice L2 r.log.length lc2] 25)).cell? ⟨w.heap.size + 1, 3, none⟩ = some (.slice Q2 r.fa.length qc2) := by simp [go_sem]
  go_wp2_with fail
  refine (ints_eq P pc r.ap P2 pc2 _ (H.out.1.1.ext eb) (H2.out.1.1.ext eb) (Nat.le_trans H.out.1.2.1 H.out.1.2.2.1)).mono ?_
  rintro e w1 ⟨rfl, hb1⟩
  have a4 := hb1.keep k4
  have a3 := hb1.keep m3
  have b4 := hb1.keep n4
  have b3 := hb1.keep n3
  clear k4 m3 n4 n3
  go_wp2_with fail
  refine (ints_eq Q qc r.fa Q2 qc2 _ (H.out.2.1.1.ext (eb.trans hb1)) (H2.out.2.1.1.ext (eb.trans hb1)) (Nat.le_trans H.out.2.1.2.1 H.out.2.1.2.2.1)).mono ?_
  rintro e w2 ⟨rfl, hb2⟩
  have c4 := hb2.keep a4
  have d4 := hb2.keep b4
  have ew : Ext w w2 := (eb.trans hb1).trans hb2
  clear a4 a3 b4 b3
  go_wp2_with fail
  have C4 := Lib.hid c4
  have D4 := Lib.hid d4
  clear c4 d4
  go_loopw [5] (fun i wr => ∃ k : Nat, k ≤ r.log.length ∧ i = .int .i64 k ∧ Ext w2 wr) (fun i _ => r.log.length - (intOf i).toNat)
  case atStart => exact ⟨0, by omega, rfl, Ext.refl _⟩
  case round =>
    obtain ⟨k, hk, rfl, he⟩ := hrel
    have c4 := he.keep C4.out
    have d4 := he.keep D4.out
    by_cases hlt : k < r.log.length
    · obtain ⟨a, ha⟩ : ∃ a, r.log[k]? = some a := ⟨r.log[k], List.getElem?_eq_getElem hlt⟩
      obtain ⟨gb, go, rfl, hgb, x0, x1, x2, x3⟩ := (H.out.2.2.1.ext (ew.trans he)).at_ ha
      obtain ⟨fb, fo, rfl, hfb, y0, y1, y2, y3⟩ := (H2.out.2.2.1.ext (ew.trans he)).at_ ha
      have ki0 : (0 : Int) ≤ (k : Int) := by omega
      have ki1 : (k : Int) < (r.log.length : Int) := by omega
      clear ha
      go_wp2
      go_quiet (fail)
      go_wp2
      go_roundw
      case rel => exact ⟨k + 1, by omega, by go_num, he.drewN _⟩
      case measure => simp [intOf]; omega
    · go_wp2
      go_ret
      exact ⟨rfl, ew.trans he⟩
end Go.Proofs.Ytadnjhpkenjmdaa
