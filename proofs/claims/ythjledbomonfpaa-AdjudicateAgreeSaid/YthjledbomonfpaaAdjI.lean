/- The laws' own examples (awake): they hold. Conditions: none. -/
import Derived.Test.YthjledbomonfpaaAdjH
namespace Go.Proofs.Ythjledbomonfpaa
open Go.RowKit

set_option maxRecDepth 100000 in
set_option maxHeartbeats 6400000 in
theorem awake_any (w : World) : Calls Try.prog 26 #[] w fun e w' => e = .returned (.bool true) ∧ Ext w w' := by
  go_enter Try.func26, Try.ntmps26
  go_wp2_with fail
  have a0_1 : (w.alloc (.cells #[.int .i64 1, .int .i64 2] 38)).cell? ⟨w.heap.size, 0, none⟩ = some (.int .i64 1) := by simp [go_sem]
  have a1_1 : (w.alloc (.cells #[.int .i64 1, .int .i64 2] 38)).cell? ⟨w.heap.size, 1, none⟩ = some (.int .i64 2) := by simp [go_sem]
  have e1 : Ext w (w.alloc (.cells #[.int .i64 1, .int .i64 2] 38)) := (Ext.refl _).alloc _
  generalize w.alloc (.cells #[.int .i64 1, .int .i64 2] 38) = W1 at *
  go_upto_region 2 with fail
  go_cut [2, 3] (fun s t wx => s = .bool true ∧ t = .int .i64 0 ∧ Ext W1 wx)
  case first =>
    go_region_held3 (fun w' => w'.cell? ⟨w.heap.size, 0, none⟩ = some (.int .i64 1) ∧ w'.cell? ⟨w.heap.size, 1, none⟩ = some (.int .i64 2) ∧ Ext W1 w')
      (first
        | (exact ⟨a0_1, a1_1, (Ext.refl _).drew⟩)
        | (go_split_ands; refine ⟨Ext.keep (a := W1) ?_ a0_1, Ext.keep (a := W1) ?_ a1_1, ?_⟩ <;> first | assumption | (exact Ext.alloc (by assumption) _) | (exact Ext.trans (by assumption) (by assumption))))
      (first
        | (go_at_call 42; refine (sample_any _).mono ?_; rintro e ws ⟨SA, sc, rfl, hs, hbs⟩)
        | (go_at_call 27; refine (agree_any 1 2 1 SA sc [styleT] _ 1 [3] _ 1 [2] _ (hs.ext (by repeat (first | exact Ext.refl _ | refine Ext.alloc ?_ _))) (one_in (by first | (simp [go_sem]; done) | (exact Ext.keep (a := ws) (by repeat (first | exact Ext.refl _ | refine Ext.alloc ?_ _)) (hbs.keep (by simp [go_sem])))) (by decide) (by decide)) (one_in (by first | (simp [go_sem]; done) | (exact Ext.keep (a := ws) (by repeat (first | exact Ext.refl _ | refine Ext.alloc ?_ _)) (hbs.keep (by simp [go_sem])))) (by decide) (by decide))).mono ?_; rintro e wg ⟨rfl, hbg⟩))
    all_goals
      go_split_ands
      go_wp2_with fail
      go_meet
      exact ⟨by rw [aw1.1], by rw [aw1.2], by assumption⟩
  case rest =>
    obtain ⟨rfl, rfl, hc⟩ := hcut
    obtain ⟨W2, rfl⟩ : ∃ W : World, W = wc := ⟨_, rfl⟩
    have a0_2 := hc.keep a0_1
    have a1_2 := hc.keep a1_1
    have e2 := e1.trans hc
    clear a0_1 a1_1 hc
    go_upto_region 3 with fail
    go_cut [4, 5] (fun s t wx => s = .bool false ∧ t = .int .i64 0 ∧ Ext W2 wx)
    case first =>
      go_region_held3 (fun w' => w'.cell? ⟨w.heap.size, 0, none⟩ = some (.int .i64 1) ∧ w'.cell? ⟨w.heap.size, 1, none⟩ = some (.int .i64 2) ∧ Ext W2 w')
        (first
          | (exact ⟨a0_2, a1_2, (Ext.refl _).drew⟩)
          | (go_split_ands; refine ⟨Ext.keep (a := W2) ?_ a0_2, Ext.keep (a := W2) ?_ a1_2, ?_⟩ <;> first | assumption | (exact Ext.alloc (by assumption) _) | (exact Ext.trans (by assumption) (by assumption))))
        (first
          | (go_at_call 42; refine (sample_any _).mono ?_; rintro e ws ⟨SA, sc, rfl, hs, hbs⟩)
          | (go_at_call 27; refine (agree_any 1 2 1 SA sc [styleT] _ 1 [3] _ 1 [1] _ (hs.ext (by repeat (first | exact Ext.refl _ | refine Ext.alloc ?_ _))) (one_in (by first | (simp [go_sem]; done) | (exact Ext.keep (a := ws) (by repeat (first | exact Ext.refl _ | refine Ext.alloc ?_ _)) (hbs.keep (by simp [go_sem])))) (by decide) (by decide)) (one_in (by first | (simp [go_sem]; done) | (exact Ext.keep (a := ws) (by repeat (first | exact Ext.refl _ | refine Ext.alloc ?_ _)) (hbs.keep (by simp [go_sem])))) (by decide) (by decide))).mono ?_; rintro e wg ⟨rfl, hbg⟩))
      all_goals
        go_split_ands
        go_wp2_with fail
        go_meet
        exact ⟨by rw [aw2.1], by rw [aw2.2], by assumption⟩
    case rest =>
      obtain ⟨rfl, rfl, hc⟩ := hcut
      obtain ⟨W3, rfl⟩ : ∃ W : World, W = wc := ⟨_, rfl⟩
      have a0_3 := hc.keep a0_2
      have a1_3 := hc.keep a1_2
      have e3 := e2.trans hc
      clear a0_2 a1_2 hc
      go_upto_region 4 with fail
      go_cut [6, 7] (fun s t wx => s = .int .i64 1 ∧ t = .int .i64 0 ∧ Ext W3 wx)
      case first =>
        go_region_held3 (fun w' => w'.cell? ⟨w.heap.size, 0, none⟩ = some (.int .i64 1) ∧ w'.cell? ⟨w.heap.size, 1, none⟩ = some (.int .i64 2) ∧ Ext W3 w')
          (first
            | (exact ⟨a0_3, a1_3, (Ext.refl _).drew⟩)
            | (go_split_ands; refine ⟨Ext.keep (a := W3) ?_ a0_3, Ext.keep (a := W3) ?_ a1_3, ?_⟩ <;> first | assumption | (exact Ext.alloc (by assumption) _) | (exact Ext.trans (by assumption) (by assumption))))
          (first
            | (go_at_call 42; refine (sample_any _).mono ?_; rintro e ws ⟨SA, sc, rfl, hs, hbs⟩)
            | (go_at_call 20; refine (need2 1 2 SA sc _ _ _ 3 1 _ (hs.ext (by repeat (first | exact Ext.refl _ | refine Ext.alloc ?_ _))) (sl_two (by first | (simp [go_sem]; done) | (simp [go_sem]; rfl) | (exact Ext.keep (a := ws) (by repeat (first | exact Ext.refl _ | refine Ext.alloc ?_ _)) (hbs.keep (by first | (simp [go_sem]; done) | (simp [go_sem]; rfl))))) (by first | (simp [go_sem]; done) | (simp [go_sem]; rfl) | (exact Ext.keep (a := ws) (by repeat (first | exact Ext.refl _ | refine Ext.alloc ?_ _)) (hbs.keep (by first | (simp [go_sem]; done) | (simp [go_sem]; rfl))))) (one_in (by first | (simp [go_sem]; done) | (exact Ext.keep (a := ws) (by repeat (first | exact Ext.refl _ | refine Ext.alloc ?_ _)) (hbs.keep (by simp [go_sem])))) (by decide) (by decide)) (one_in (by first | (simp [go_sem]; done) | (exact Ext.keep (a := ws) (by repeat (first | exact Ext.refl _ | refine Ext.alloc ?_ _)) (hbs.keep (by simp [go_sem])))) (by decide) (by decide)))).mono ?_; rintro e wg ⟨rfl, hbg⟩))
        all_goals
          go_split_ands
          go_wp2_with fail
          go_meet
          exact ⟨by rw [aw3.1], by rw [aw3.2], by assumption⟩
      case rest =>
        obtain ⟨rfl, rfl, hc⟩ := hcut
        obtain ⟨W4, rfl⟩ : ∃ W : World, W = wc := ⟨_, rfl⟩
        have a0_4 := hc.keep a0_3
        have a1_4 := hc.keep a1_3
        have e4 := e3.trans hc
        clear a0_3 a1_3 hc
        go_upto_region 5 with fail
        go_cut [8, 9] (fun s t wx => s = .int .i64 5 ∧ t = .int .i64 0 ∧ Ext W4 wx)
        case first =>
          go_region_held3 (fun w' => w'.cell? ⟨w.heap.size, 0, none⟩ = some (.int .i64 1) ∧ w'.cell? ⟨w.heap.size, 1, none⟩ = some (.int .i64 2) ∧ Ext W4 w')
            (first
              | (exact ⟨a0_4, a1_4, (Ext.refl _).drew⟩)
              | (go_split_ands; refine ⟨Ext.keep (a := W4) ?_ a0_4, Ext.keep (a := W4) ?_ a1_4, ?_⟩ <;> first | assumption | (exact Ext.alloc (by assumption) _) | (exact Ext.trans (by assumption) (by assumption))))
            (first
              | (go_at_call 42; refine (sample_any _).mono ?_; rintro e ws ⟨SA, sc, rfl, hs, hbs⟩)
              | (go_at_call 22; refine (score2 1 2 SA sc _ _ _ 3 2 _ (hs.ext (by repeat (first | exact Ext.refl _ | refine Ext.alloc ?_ _))) (sl_two (by first | (simp [go_sem]; done) | (simp [go_sem]; rfl) | (exact Ext.keep (a := ws) (by repeat (first | exact Ext.refl _ | refine Ext.alloc ?_ _)) (hbs.keep (by first | (simp [go_sem]; done) | (simp [go_sem]; rfl))))) (by first | (simp [go_sem]; done) | (simp [go_sem]; rfl) | (exact Ext.keep (a := ws) (by repeat (first | exact Ext.refl _ | refine Ext.alloc ?_ _)) (hbs.keep (by first | (simp [go_sem]; done) | (simp [go_sem]; rfl))))) (one_in (by first | (simp [go_sem]; done) | (exact Ext.keep (a := ws) (by repeat (first | exact Ext.refl _ | refine Ext.alloc ?_ _)) (hbs.keep (by simp [go_sem])))) (by decide) (by decide)) (one_in (by first | (simp [go_sem]; done) | (exact Ext.keep (a := ws) (by repeat (first | exact Ext.refl _ | refine Ext.alloc ?_ _)) (hbs.keep (by simp [go_sem])))) (by decide) (by decide)))).mono ?_; rintro e wg ⟨rfl, hbg⟩))
          all_goals
            go_split_ands
            go_wp2_with fail
            go_meet
            exact ⟨by rw [aw4.1], by rw [aw4.2], by assumption⟩
        case rest =>
          obtain ⟨rfl, rfl, hc⟩ := hcut
          obtain ⟨W5, rfl⟩ : ∃ W : World, W = wc := ⟨_, rfl⟩
          have a0_5 := hc.keep a0_4
          have a1_5 := hc.keep a1_4
          have e5 := e4.trans hc
          clear a0_4 a1_4 hc
          go_upto_region 6 with fail
          go_cut [10, 11] (fun s t wx => s = .int .i64 0 ∧ t = .int .i64 22 ∧ Ext W5 wx)
          case first =>
            go_region_held3 (fun w' => w'.cell? ⟨w.heap.size, 0, none⟩ = some (.int .i64 1) ∧ w'.cell? ⟨w.heap.size, 1, none⟩ = some (.int .i64 2) ∧ Ext W5 w')
              (first
                | (exact ⟨a0_5, a1_5, (Ext.refl _).drew⟩)
                | (go_split_ands; refine ⟨Ext.keep (a := W5) ?_ a0_5, Ext.keep (a := W5) ?_ a1_5, ?_⟩ <;> first | assumption | (exact Ext.alloc (by assumption) _) | (exact Ext.trans (by assumption) (by assumption))))
              (first
                | (go_at_call 42; refine (sample_any _).mono ?_; rintro e ws ⟨SA, sc, rfl, hs, hbs⟩)
                | (go_at_call 22; refine (score2 1 2 SA sc _ _ _ 3 1 _ (hs.ext (by repeat (first | exact Ext.refl _ | refine Ext.alloc ?_ _))) (sl_two (by first | (simp [go_sem]; done) | (simp [go_sem]; rfl) | (exact Ext.keep (a := ws) (by repeat (first | exact Ext.refl _ | refine Ext.alloc ?_ _)) (hbs.keep (by first | (simp [go_sem]; done) | (simp [go_sem]; rfl))))) (by first | (simp [go_sem]; done) | (simp [go_sem]; rfl) | (exact Ext.keep (a := ws) (by repeat (first | exact Ext.refl _ | refine Ext.alloc ?_ _)) (hbs.keep (by first | (simp [go_sem]; done) | (simp [go_sem]; rfl))))) (one_in (by first | (simp [go_sem]; done) | (exact Ext.keep (a := ws) (by repeat (first | exact Ext.refl _ | refine Ext.alloc ?_ _)) (hbs.keep (by simp [go_sem])))) (by decide) (by decide)) (one_in (by first | (simp [go_sem]; done) | (exact Ext.keep (a := ws) (by repeat (first | exact Ext.refl _ | refine Ext.alloc ?_ _)) (hbs.keep (by simp [go_sem])))) (by decide) (by decide)))).mono ?_; rintro e wg ⟨rfl, hbg⟩))
            all_goals
              go_split_ands
              go_wp2_with fail
              go_meet
              exact ⟨by rw [aw5.1], by rw [aw5.2], by assumption⟩
          case rest =>
            obtain ⟨rfl, rfl, hc⟩ := hcut
            obtain ⟨W6, rfl⟩ : ∃ W : World, W = wc := ⟨_, rfl⟩
            have a0_6 := hc.keep a0_5
            have a1_6 := hc.keep a1_5
            have e6 := e5.trans hc
            clear a0_5 a1_5 hc
            go_wp2_with fail
            refine (pick2 _ _ _ _ (sr_two (by simp [go_sem]) (by simp [go_sem]) (by simp [go_sem]; rfl) (by simp [go_sem]) (by simp [go_sem]) (by simp [go_sem]; rfl) (one_in (by simp [go_sem]) (by decide) (by decide)) (one_in (by simp [go_sem]) (by decide) (by decide)))).mono ?_
            rintro e W7 ⟨L, c, y, rfl, hL, hy, he7⟩
            have e7 : Ext W6 W7 := Ext.trans (by repeat (first | exact Ext.refl _ | refine Ext.alloc ?_ _)) he7
            have HLI := Lib.hid hL
            have HY := Lib.hid hy
            clear hL hy he7
            go_wp2_with fail
            refine (equal1 _ _ _ _ _ _ HY.out (HLI.out.ext (by repeat (first | exact Ext.refl _ | refine Ext.alloc ?_ _))) (sl_one (by simp [go_sem]; rfl) (one_in (by simp [go_sem]) (by decide) (by decide)))).mono ?_
            rintro e W8 ⟨rfl, he8⟩
            have e8 : Ext W6 W8 := e7.trans (Ext.trans (by repeat (first | exact Ext.refl _ | refine Ext.alloc ?_ _)) he8)
            clear he8
            go_wp2_with fail
            refine (scored_any 1 1 4 2 4 _ (by decide) (by decide) (by decide) aw6.1).mono ?_
            rintro e W9 ⟨rfl, he9⟩
            go_wp2_with fail
            refine (scored_any 2 1 4 2 3 _ (by decide) (by decide) (by decide) aw6.2.1).mono ?_
            rintro e W10 ⟨rfl, he10⟩
            go_wp2_with fail
            refine (scored_any 3 1 4 2 4 _ (by decide) (by decide) (by decide) aw6.2.2.1).mono ?_
            rintro e W11 ⟨rfl, he11⟩
            go_wp2_with fail
            refine (scored_any 2 0 4 2 2 _ (by decide) (by decide) (by decide) aw6.2.2.2).mono ?_
            rintro e W12 ⟨rfl, he12⟩
            go_wp2_with fail
            go_ret
            exact ⟨ret_bool (by simp), e6.trans (e8.trans (he9.trans (he10.trans (he11.trans he12))))⟩
end Go.Proofs.Ythjledbomonfpaa
