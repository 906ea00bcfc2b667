/- ReviewDuties: an item that became operational was approved by two reviewers and a fairness reviewer, all different and none of them its author, for every input. No conditions. -/
import Derived.Test.YtadnjhpkenjmdaaRevI
import Derived.Test.YtadnjhpkenjmdaaRevO
namespace Go.Proofs.Ytadnjhpkenjmdaa
open Go.ChangeShapes Go.WideShapes Go.ChangeAt Go.RowKit

theorem count_nodup : ∀ (l : List Int) (x : Int), l.Nodup → x ∈ l → l.count x = 1
  | [], x, _, h => by simp at h
  | a :: l, x, hn, h => by
    rw [List.nodup_cons] at hn
    rw [List.count_cons]
    by_cases e : a = x
    · subst e
      rw [List.count_eq_zero.2 hn.1]
      simp
    · rcases List.mem_cons.1 h with g | g
      · exact absurd g.symm e
      · rw [count_nodup l x hn.2 g]
        simp [e]
theorem count_to (X : Option Addr) (xc : Nat) (xs : List Int) (v n : Int) (hn : (xs.count v : Int) = n) (w : World) (hX : SlI w X xs) (hl : xs.length ≤ maxLen) :
    Calls Try.prog 12 #[.slice X xs.length xc, .int .i64 v] w fun e w' => e = .returned (.int .i64 n) ∧ Ext w w' := by
  subst hn
  exact count_any X xc xs v w hX hl
theorem perform_to {r : Rev.Rec} (au : Int) (G : Option Addr) (gc : Nat) (log : List Rev.Act) (hr : Rev.perform au log = r) (w : World) (h1 : 1 ≤ au) (h2 : au ≤ 9999999) (hG : SlA w G log) (hlen : log.length ≤ maxLen) (hin : ∀ a ∈ log, a.In) :
    Calls Try.prog 11 #[.int .i64 au, .slice G log.length gc] w (RetPerf r w) := by
  subst hr
  exact perform_any au G gc log w h1 h2 hG hlen hin

set_option maxRecDepth 100000 in
set_option maxHeartbeats 3200000 in
theorem reviewDuties_walk (au : Int) (G : Option Addr) (gc : Nat) (log : List Rev.Act) (w : World) (hG : SlA w G log) (hlen : log.length ≤ maxLen) (hin : ∀ a ∈ log, a.In) :
    Calls Try.prog 4 #[.int .i64 au, .slice G log.length gc] w fun e w' => e = .returned (.bool true) ∧ Ext w w' := by
  have HG := Lib.hid hG
  have HIN := Lib.hid hin
  have HLEN := Lib.hid hlen
  clear hG hin hlen
  by_cases hau : au < 1 ∨ 9999999 < au
  · have hau' : au < 1 ∨ (1 ≤ au ∧ 9999999 < au) := by omega
    clear hau
    rcases hau' with h | ⟨h, h'⟩
    all_goals
      go_enter Try.func4, Try.ntmps4
      go_wp2
      go_ret
      exact ⟨rfl, Ext.refl _⟩
  · have h1 : 1 ≤ au := by omega
    have h2 : au ≤ 9999999 := by omega
    clear hau
    have hi := Rev.perform_inv au log
    have hra := Rev.perform_au au log
    have hsm := Rev.perform_small au log
    obtain ⟨r, hr⟩ : ∃ r, Rev.perform au log = r := ⟨_, rfl⟩
    rw [hr] at hi hra hsm
    have HR := Lib.hid hr
    clear hr
    have ra : (r.au != au) = false := by rw [hra]; simp
    obtain ⟨sm1, sm2⟩ := hsm
    by_cases hst : r.st = 5 ∨ r.st = 6
    · obtain ⟨i1, f, i2, i3, i4⟩ := hi.s4 (Or.inr hst)
      have hfl : r.fa.length = 1 := by rw [i2]; rfl
      have HF : Hid (r.fa[0]? = some f) := Lib.hid (by rw [i2]; rfl)
      have HCF : Hid (r.ap.count f = 0) := Lib.hid (List.count_eq_zero.2 i4)
      have HND := Lib.hid hi.nd
      have HAU : Hid (au ∉ r.ap) := Lib.hid (by rw [← hra]; exact hi.au)
      have fa1 : ((r.fa.length : Int) != 1) = false := by rw [hfl]; rfl
      have fa2 : (0 : Int) < (r.fa.length : Int) := by omega
      have fa3 : 0 < r.fa.length := by omega
      have ap1 : 2 ≤ (r.ap.length : Int) := by omega
      have ap2 : decide ((r.ap.length : Int) < 2) = false := by simp; omega
      have ap3 : decide (r.ap.length < 2) = false := by simp; omega
      have fau : (f == au) = false := by rw [beq_eq_false_iff_ne, ← hra]; exact i3
      have hsts : (r.st != 5) = false ∨ ((r.st != 5) = true ∧ (r.st != 6) = false) := by
        rcases hst with g | g
        · left; rw [g]; rfl
        · right; rw [g]; exact ⟨rfl, rfl⟩
      clear hi hra hst i1 i2 i3 i4 hfl
      rcases hsts with st5 | ⟨st5, st6⟩
      all_goals
        go_enter Try.func4, Try.ntmps4
        go_wp2_with fail
        refine (perform_to au G gc log HR.out _ h1 h2 HG.out HLEN.out HIN.out).mono ?_
        rintro e w1 ⟨P, pc, Q, qc, L, lc, rfl, hrv, hb1, -, -, -⟩
        have HRV := Lib.hid hrv
        clear hrv
        go_wp2_with fail
        have k2 : (w1.alloc (.cells #[.int .i64 r.st, .int .i64 r.au, .slice P r.ap.length pc, .slice Q r.fa.length qc, .slice L r.log.length lc] 25)).cell? ⟨w1.heap.size, 2, none⟩ = some (.slice P r.ap.length pc) := by simp [go_sem]
        have k3 : (w1.alloc (.cells #[.int .i64 r.st, .int .i64 r.au, .slice P r.ap.length pc, .slice Q r.fa.length qc, .slice L r.log.length lc] 25)).cell? ⟨w1.heap.size, 3, none⟩ = some (.slice Q r.fa.length qc) := by simp [go_sem]
        have eb : Ext w1 (w1.alloc (.cells #[.int .i64 r.st, .int .i64 r.au, .slice P r.ap.length pc, .slice Q r.fa.length qc, .slice L r.log.length lc] 25)) := (Ext.refl _).alloc _
        generalize (w1.alloc (.cells #[.int .i64 r.st, .int .i64 r.au, .slice P r.ap.length pc, .slice Q r.fa.length qc, .slice L r.log.length lc] 25)) = W at *
        obtain ⟨qb, qo, fx, rfl, hqb, hfx, cq⟩ := (HRV.out.2.1.1.ext eb).at_ (i := 0) fa3
        rw [HF.out] at hfx
        injection hfx with hfx
        subst hfx
        rw [Nat.add_zero] at cq
        have hdr : Ext W W.drew := (Ext.refl W).drew
        go_region_held3 (fun w' => w'.cell? ⟨w1.heap.size, 2, none⟩ = some (.slice P r.ap.length pc) ∧ w'.cell? ⟨w1.heap.size, 3, none⟩ = some (.slice (some ⟨qb, qo, none⟩) r.fa.length qc) ∧ w'.cell? ⟨qb, qo, none⟩ = some (.int .i64 f))
          (first
            | (with_reducible exact ⟨hdr.keep k2, hdr.keep k3, hdr.keep cq⟩)
            | (with_reducible exact ⟨(hdr.trans hb2).keep k2, (hdr.trans hb2).keep k3, (hdr.trans hb2).keep cq⟩))
          (first | (go_at_call 12; refine (count_to P pc r.ap f 0 (by rw [HCF.out]; rfl) _ (HRV.out.1.1.ext (eb.trans (by with_reducible exact (Ext.refl W).drew))) (Nat.le_trans HRV.out.1.2.1 HRV.out.1.2.2.1)).mono ?_; rintro e w2 ⟨rfl, hb2⟩))
        replace hb2 := hb2.undrew
        have K2 := Lib.hid (hb2.keep k2)
        have e2 := eb.trans hb2
        clear k2 k3 cq
        go_wp2_with fail
        go_loopw [7] (fun i wr => ∃ k : Nat, k ≤ r.ap.length ∧ i = .int .i64 k ∧ Ext w2 wr) (fun i _ => r.ap.length - (intOf i).toNat)
        case atStart => exact ⟨0, by omega, rfl, Ext.refl _⟩
        case round =>
          obtain ⟨k, hk, rfl, he⟩ := hrel
          obtain ⟨wo, rfl⟩ : ∃ wo : World, wo = wr := ⟨_, rfl⟩
          have k2 := he.keep K2.out
          by_cases hlt : k < r.ap.length
          · obtain ⟨pb, po, x, rfl, hpb, hx, cx⟩ := (HRV.out.1.1.ext (e2.trans he)).at_ (i := k) hlt
            have hmem := List.mem_of_getElem? hx
            have hxa : (x == au) = false := by rw [beq_eq_false_iff_ne]; exact fun e => HAU.out (e ▸ hmem)
            have HCX : Hid (r.ap.count x = 1) := Lib.hid (count_nodup r.ap x HND.out hmem)
            have ki0 : (0 : Int) ≤ (k : Int) := by omega
            have ki1 : (k : Int) < (r.ap.length : Int) := by omega
            clear hx hmem
            have hdo : Ext wo wo.drew := (Ext.refl wo).drew
            go_wp2_with fail
            go_region_held3 (fun w' => w'.cell? ⟨w1.heap.size, 2, none⟩ = some (.slice (some ⟨pb, po, none⟩) r.ap.length pc) ∧ w'.cell? ⟨pb, po + k, none⟩ = some (.int .i64 x))
              (first
                | (with_reducible exact ⟨hdo.keep k2, hdo.keep cx⟩)
                | (with_reducible exact ⟨(hdo.trans hb3).keep k2, (hdo.trans hb3).keep cx⟩))
              (first | (go_at_call 12; refine (count_to (some ⟨pb, po, none⟩) pc r.ap x 1 (by rw [HCX.out]; rfl) _ (HRV.out.1.1.ext ((e2.trans he).trans (by with_reducible exact (Ext.refl wo).drew))) (Nat.le_trans HRV.out.1.2.1 HRV.out.1.2.2.1)).mono ?_; rintro e w3 ⟨rfl, hb3⟩))
            replace hb3 := hb3.undrew
            go_wp2
            go_roundw
            case rel => exact ⟨k + 1, by omega, by go_num, he.trans hb3⟩
            case measure => simp [intOf]; omega
          · go_wp2
            go_ret
            exact ⟨rfl, hb1.trans (e2.trans he)⟩
    · have s5 : (r.st != 5) = true := by rw [bne_iff_ne]; omega
      have s6 : (r.st != 6) = true := by rw [bne_iff_ne]; omega
      clear hst hi hra
      go_enter Try.func4, Try.ntmps4
      go_wp2_with fail
      refine (perform_to au G gc log HR.out _ h1 h2 HG.out HLEN.out HIN.out).mono ?_
      rintro e w1 ⟨P, pc, Q, qc, L, lc, rfl, hrv, hb1, -, -, -⟩
      clear hrv
      go_wp2
      go_ret
      exact ⟨rfl, hb1.alloc _⟩

theorem reviewDuties_lifted (os : Os) (started : os.Started) (H : Type) (enc : TypeId × Value → H) :
    ReturnsInHanded {} Try.checked os 4 .any (Rows.reviewDutiesSpec.pre6 enc Try.prog Try.f4 Rows.reviewDutiesRow.domain false) (Rows.reviewDutiesSpec.post enc Try.prog Try.f4 false true false false) := by
  refine returnsInHanded_of_change (C := Try.checked) Try.own started (by kernel_rfl) Try.func4
    (ChangeSpec.witness6 (enc := enc) (C := Try.checked) false ⟨#[], #[.int .i64 0, .slice none 0 0], []⟩ 8 (by kernel_rfl) (by kernel_rfl) (by kernel_rfl) (by kernel_rfl)) ?_
  intro W base args ds gs before hval0 hW _ _
  have hval : ∀ (j : Nat) t v, Try.f4.params[j]? = some t → args[j]? = some v → Value.okWide Try.prog W .any base t v := hval0
  have hW' := hW
  obtain ⟨p, q, hA0, hV, rfl, hfz, hnd⟩ := hW
  have hA : DataW.TrodAll enc Try.prog W 0 (fun _ => true) true Try.f4.params.toList args.toList ds p := hA0
  rw [Try.params4] at hA hval
  obtain ⟨v0, vs0, d0, ds0, p0, q0, hargs, rfl, rfl, h0, r0⟩ := trodAll_cons hA
  obtain ⟨v1, vs1, d1, ds1, p1, q1, rfl, rfl, rfl, h1, r1⟩ := trodAll_cons r0
  obtain ⟨rfl, rfl, rfl⟩ := trodAll_nil r1
  obtain rfl : args = #[v0, v1] := by cases args; simp_all
  obtain ⟨rfl, rfl⟩ := trodVars_none hV
  obtain ⟨au, rfl, hd0, rfl, _⟩ := open_int Try.underlying3 (hval 0 3 v0 rfl rfl) h0
  obtain ⟨G, gc, log, rfl, g1, gl, gm, g3⟩ := log_open (hval 1 23 v1 rfl rfl) h1; have g2 := Nat.le_trans gl gm
  refine (reviewDuties_walk au G gc log W g1 g2 g3).mono fun e W' ⟨he, hw⟩ => ?_
  subst he
  exact ⟨_, rfl, law_post hW' Try.laidOut (by kernel_rfl) rfl (by rfl) rfl Try.underlying4 hw⟩

theorem reviewDuties_holds : Rows.ReviewDutiesSaid :=
  OpenClaim.holds_of_wide 4 Try.f4 rfl rfl rfl rfl rfl rfl rfl ⟨rfl, rfl, rfl, rfl, rfl⟩ rfl rfl rfl rfl rfl (by kernel_rfl) Try.func4 (by kernel_rfl)
    (of_decide_eq_true (by kernel_rfl)) (by unfold Func.isWrapper; first | (rw [if_pos (by decide +kernel)]; kernel_rfl) | (rw [if_neg (by decide +kernel)]; exact ⟨rfl, rfl⟩))
    (fun os started H enc _ => reviewDuties_lifted os started H enc)
#print axioms reviewDuties_holds
end Go.Proofs.Ytadnjhpkenjmdaa
