/- ReviewReplays: what a log leads to, and how many actions were performed, is that of the reference, for every input. No conditions. -/
import Derived.Test.YtadnjhpkenjmdaaRevM
import Derived.Test.YtadnjhpkenjmdaaRevO
namespace Go.Proofs.Ytadnjhpkenjmdaa
open Go.ChangeShapes Go.WideShapes Go.ChangeAt Go.RowKit

theorem replayA_to {r : Rev.Rec} {n : Nat} {er : Int} (au : Int) (G : Option Addr) (gc : Nat) (log : List Rev.Act) (hx : Rev.replayR au log = (r, n, er)) (w : World) (hG : SlA w G log) (hlen : log.length ≤ maxLen) (hin : ∀ a ∈ log, a.In) :
    Calls Try.prog 15 #[.int .i64 au, .slice G log.length gc] w fun e w' => ∃ (P : Option Addr) (pc : Nat) (Q : Option Addr) (qc : Nat) (L : Option Addr) (lc : Nat), e = .returned (.tuple #[.agg #[.int .i64 r.st, .int .i64 r.au, .slice P r.ap.length pc, .slice Q r.fa.length qc, .slice L r.log.length lc], .int .i64 n, .int .i64 er]) ∧ RevIn w' r.st r.au P pc r.ap Q qc r.fa L lc r.log ∧ Ext w w' := by
  have h := replay_any au G gc log w hG hlen hin
  rw [hx] at h
  exact h

theorem replayB_to {r : Rev.Rec} {n : Nat} {er : Int} (au : Int) (G : Option Addr) (gc : Nat) (log : List Rev.Act) (hx : Rev.replayR au log = (r, n, er)) (w : World) (hG : SlA w G log) (hlen : log.length ≤ maxLen) (hin : ∀ a ∈ log, a.In) :
    Calls Try.prog 16 #[.int .i64 au, .slice G log.length gc] w fun e w' => ∃ (P : Option Addr) (pc : Nat) (Q : Option Addr) (qc : Nat) (L : Option Addr) (lc : Nat), e = .returned (.tuple #[.agg #[.int .i64 r.st, .int .i64 r.au, .slice P r.ap.length pc, .slice Q r.fa.length qc, .slice L r.log.length lc], .int .i64 n, .int .i64 er]) ∧ RevIn w' r.st r.au P pc r.ap Q qc r.fa L lc r.log ∧ Ext w w' := by
  have h := refReplay_any au G gc log w hG hlen hin
  rw [hx] at h
  exact h

set_option maxRecDepth 100000 in
set_option maxHeartbeats 3200000 in
theorem reviewReplays_walk (au : Int) (G : Option Addr) (gc : Nat) (log : List Rev.Act) (w : World) (hG : SlA w G log) (hlen : log.length ≤ maxLen) (hin : ∀ a ∈ log, a.In) :
    Calls Try.prog 6 #[.int .i64 au, .slice G log.length gc] w fun e w' => e = .returned (.bool true) ∧ Ext w w' := by
  have HG := Lib.hid hG
  have HIN := Lib.hid hin
  have HLEN := Lib.hid hlen
  clear hG hin hlen
  obtain ⟨r, n, er, hx⟩ : ∃ r n er, Rev.replayR au log = (r, n, er) := ⟨_, _, _, rfl⟩
  have HX := Lib.hid hx
  clear hx
  go_enter Try.func6, Try.ntmps6
  go_wp2_with fail
  refine (replayA_to au G gc log HX.out _ HG.out HLEN.out HIN.out).mono ?_
  rintro e w1 ⟨P, pc, Q, qc, L, lc, rfl, hrv, hb1⟩
  have eb : Ext w1 (w1.alloc (.cells #[.int .i64 r.st, .int .i64 r.au, .slice P r.ap.length pc, .slice Q r.fa.length qc, .slice L r.log.length lc] 25)) := (Ext.refl _).alloc _
  have HRV := Lib.hid (hrv.ext eb)
  clear hrv
  go_wp2_with fail
  have k0 : (w1.alloc (.cells #[.int .i64 r.st, .int .i64 r.au, .slice P r.ap.length pc, .slice Q r.fa.length qc, .slice L r.log.length lc] 25)).cell? ⟨w1.heap.size, 0, none⟩ = some (.int .i64 r.st) := by simp [go_sem]
  have k1 : (w1.alloc (.cells #[.int .i64 r.st, .int .i64 r.au, .slice P r.ap.length pc, .slice Q r.fa.length qc, .slice L r.log.length lc] 25)).cell? ⟨w1.heap.size, 1, none⟩ = some (.int .i64 r.au) := by simp [go_sem]
  have k2 : (w1.alloc (.cells #[.int .i64 r.st, .int .i64 r.au, .slice P r.ap.length pc, .slice Q r.fa.length qc, .slice L r.log.length lc] 25)).cell? ⟨w1.heap.size, 2, none⟩ = some (.slice P r.ap.length pc) := by simp [go_sem]
  have k3 : (w1.alloc (.cells #[.int .i64 r.st, .int .i64 r.au, .slice P r.ap.length pc, .slice Q r.fa.length qc, .slice L r.log.length lc] 25)).cell? ⟨w1.heap.size, 3, none⟩ = some (.slice Q r.fa.length qc) := by simp [go_sem]
  have k4 : (w1.alloc (.cells #[.int .i64 r.st, .int .i64 r.au, .slice P r.ap.length pc, .slice Q r.fa.length qc, .slice L r.log.length lc] 25)).cell? ⟨w1.heap.size, 4, none⟩ = some (.slice L r.log.length lc) := by simp [go_sem]
  have ew : Ext w (w1.alloc (.cells #[.int .i64 r.st, .int .i64 r.au, .slice P r.ap.length pc, .slice Q r.fa.length qc, .slice L r.log.length lc] 25)) := hb1.trans eb
  have HG1 := Lib.hid (HG.out.ext ew)
  generalize (w1.alloc (.cells #[.int .i64 r.st, .int .i64 r.au, .slice P r.ap.length pc, .slice Q r.fa.length qc, .slice L r.log.length lc] 25)) = W at *
  refine (replayB_to au G gc log HX.out _ HG1.out HLEN.out HIN.out).mono ?_
  rintro e w2 ⟨P2, pc2, Q2, qc2, L2, lc2, rfl, hr2, hb2⟩
  have q0 := hb2.keep k0
  have q1 := hb2.keep k1
  have q2 := hb2.keep k2
  have q3 := hb2.keep k3
  have q4 := hb2.keep k4
  have hsz : w1.heap.size < w2.heap.size := World.block_lt_of_cell? w2 _ q0
  have hne : w1.heap.size ≠ w2.heap.size := by omega
  have hne' : w2.heap.size ≠ w1.heap.size := by omega
  have e3 : Ext w2 (w2.alloc (.cells #[.int .i64 r.st, .int .i64 r.au, .slice P2 r.ap.length pc2, .slice Q2 r.fa.length qc2, .slice L2 r.log.length lc2] 25)) := (Ext.refl _).alloc _
  have HR2 := Lib.hid (hr2.ext e3)
  have HR3 := Lib.hid (HRV.out.ext (hb2.trans e3))
  clear k0 k1 k2 k3 k4 hr2
  go_wp2_with fail
  refine (same_eq r P pc Q qc L lc P2 pc2 Q2 qc2 L2 lc2 _ HR3.out HR2.out).mono ?_
  rintro e w3 ⟨rfl, hb3⟩
  go_wp2
  go_ret
  exact ⟨rfl, ew.trans (hb2.trans (e3.trans hb3))⟩

theorem reviewReplays_lifted (os : Os) (started : os.Started) (H : Type) (enc : TypeId × Value → H) :
    ReturnsInHanded {} Try.checked os 6 .any (Rows.reviewReplaysSpec.pre6 enc Try.prog Try.f6 Rows.reviewReplaysRow.domain false) (Rows.reviewReplaysSpec.post enc Try.prog Try.f6 false true false false) := by
  refine returnsInHanded_of_change (C := Try.checked) Try.own started (by kernel_rfl) Try.func6
    (ChangeSpec.witness6 (enc := enc) (C := Try.checked) false ⟨#[], #[.int .i64 0, .slice none 0 0], []⟩ 8 (by kernel_rfl) (by kernel_rfl) (by kernel_rfl) (by kernel_rfl)) ?_
  intro W base args ds gs before hval0 hW _ _
  have hval : ∀ (j : Nat) t v, Try.f6.params[j]? = some t → args[j]? = some v → Value.okWide Try.prog W .any base t v := hval0
  have hW' := hW
  obtain ⟨p, q, hA0, hV, rfl, hfz, hnd⟩ := hW
  have hA : DataW.TrodAll enc Try.prog W 0 (fun _ => true) true Try.f6.params.toList args.toList ds p := hA0
  rw [Try.params6] at hA hval
  obtain ⟨v0, vs0, d0, ds0, p0, q0, hargs, rfl, rfl, h0, r0⟩ := trodAll_cons hA
  obtain ⟨v1, vs1, d1, ds1, p1, q1, rfl, rfl, rfl, h1, r1⟩ := trodAll_cons r0
  obtain ⟨rfl, rfl, rfl⟩ := trodAll_nil r1
  obtain rfl : args = #[v0, v1] := by cases args; simp_all
  obtain ⟨rfl, rfl⟩ := trodVars_none hV
  obtain ⟨au, rfl, hd0, rfl, _⟩ := open_int Try.underlying3 (hval 0 3 v0 rfl rfl) h0
  obtain ⟨G, gc, log, rfl, g1, gl, gm, g3⟩ := log_open (hval 1 23 v1 rfl rfl) h1; have g2 := Nat.le_trans gl gm
  refine (reviewReplays_walk au G gc log W g1 g2 g3).mono fun e W' ⟨he, hw⟩ => ?_
  subst he
  exact ⟨_, rfl, law_post hW' Try.laidOut (by kernel_rfl) rfl (by rfl) rfl Try.underlying4 hw⟩

theorem reviewReplays_holds : Rows.ReviewReplaysSaid :=
  OpenClaim.holds_of_wide 6 Try.f6 rfl rfl rfl rfl rfl rfl rfl ⟨rfl, rfl, rfl, rfl, rfl⟩ rfl rfl rfl rfl rfl (by kernel_rfl) Try.func6 (by kernel_rfl)
    (of_decide_eq_true (by kernel_rfl)) (by unfold Func.isWrapper; first | (rw [if_pos (by decide +kernel)]; kernel_rfl) | (rw [if_neg (by decide +kernel)]; exact ⟨rfl, rfl⟩))
    (fun os started H enc _ => reviewReplays_lifted os started H enc)
#print axioms reviewReplays_holds
end Go.Proofs.Ytadnjhpkenjmdaa
