/- AdjudicateScores: Valid, Agree, Need and Score return what the reference returns, for every input. No conditions. -/
import Derived.Test.YthjledbomonfpaaAdjI
import Derived.Test.YthjledbomonfpaaAdjO
namespace Go.Proofs.Ythjledbomonfpaa
open Go.ChangeShapes Go.WideShapes Go.ChangeAt Go.RowKit

set_option maxRecDepth 100000 in
set_option maxHeartbeats 3200000 in
theorem adjudicateScores_walk (gap rule : Int) (id : Int) (A : Option Addr) (c : Nat) (ts : List Rub.Trait) (L : Option Addr) (d : Nat) (ls : List IL) (w : World) (h : RubIn w id A c ts) (hL : SlL w L ls) (hd : ls.length ≤ maxLen) :
    Calls Try.prog 6 #[.agg #[.int .i64 gap, .int .i64 rule], .agg #[.int .i64 id, .slice A ts.length c], .slice L ls.length d] w fun e w' => e = .returned (.bool true) ∧ Ext w w' := by
  have H := Lib.hid h
  have HL := Lib.hid hL
  have HD := Lib.hid hd
  unfold maxLen at hd
  clear h hL
  have hx0 : Ext w ((w.alloc (.cells #[.int .i64 gap, .int .i64 rule] 38)).alloc (.cells #[.int .i64 id, .slice A ts.length c] 24)) := ((Ext.refl _).alloc _).alloc _
  by_cases hl : ls.length < 2
  · have hl' : (ls.length : Int) < 2 := by omega
    go_enter Try.func6, Try.ntmps6
    go_wp2_with fail
    refine (need_any gap rule id A c ts L d ls _ (H.out.ext hx0) (HL.out.ext hx0) HD.out).mono ?_
    rintro e w1 ⟨rfl, hb1⟩
    have ax1 : w1.cell? ⟨w.heap.size, 0, none⟩ = some (.int .i64 gap) := hb1.keep (by simp [go_sem])
    have ay1 : w1.cell? ⟨w.heap.size, 1, none⟩ = some (.int .i64 rule) := hb1.keep (by simp [go_sem])
    have bx1 : w1.cell? ⟨w.heap.size + 1, 0, none⟩ = some (.int .i64 id) := hb1.keep (by simp [go_sem])
    have by1 : w1.cell? ⟨w.heap.size + 1, 1, none⟩ = some (.slice A ts.length c) := hb1.keep (by simp [go_sem])
    have hx1 := hx0.trans hb1
    go_wp2_with fail
    refine (refNeed_any gap rule id A c ts L d ls _ (H.out.ext hx1) (HL.out.ext hx1) HD.out).mono ?_
    rintro e w2 ⟨rfl, hb2⟩
    have ax2 : w2.cell? ⟨w.heap.size, 0, none⟩ = some (.int .i64 gap) := hb2.keep ax1
    have ay2 : w2.cell? ⟨w.heap.size, 1, none⟩ = some (.int .i64 rule) := hb2.keep ay1
    have bx2 : w2.cell? ⟨w.heap.size + 1, 0, none⟩ = some (.int .i64 id) := hb2.keep bx1
    have by2 : w2.cell? ⟨w.heap.size + 1, 1, none⟩ = some (.slice A ts.length c) := hb2.keep by1
    have hx2 := hx1.trans hb2
    clear ax1 ay1 bx1 by1
    go_wp2_with fail
    refine (score_any gap rule id A c ts L d ls _ (H.out.ext hx2) (HL.out.ext hx2) HD.out).mono ?_
    rintro e w3 ⟨rfl, hb3⟩
    have ax3 : w3.cell? ⟨w.heap.size, 0, none⟩ = some (.int .i64 gap) := hb3.keep ax2
    have ay3 : w3.cell? ⟨w.heap.size, 1, none⟩ = some (.int .i64 rule) := hb3.keep ay2
    have bx3 : w3.cell? ⟨w.heap.size + 1, 0, none⟩ = some (.int .i64 id) := hb3.keep bx2
    have by3 : w3.cell? ⟨w.heap.size + 1, 1, none⟩ = some (.slice A ts.length c) := hb3.keep by2
    have hx3 := hx2.trans hb3
    clear ax2 ay2 bx2 by2
    go_wp2_with fail
    refine (refScore_any gap rule id A c ts L d ls _ (H.out.ext hx3) (HL.out.ext hx3) HD.out).mono ?_
    rintro e w4 ⟨rfl, hb4⟩
    have ax4 : w4.cell? ⟨w.heap.size, 0, none⟩ = some (.int .i64 gap) := hb4.keep ax3
    have ay4 : w4.cell? ⟨w.heap.size, 1, none⟩ = some (.int .i64 rule) := hb4.keep ay3
    have bx4 : w4.cell? ⟨w.heap.size + 1, 0, none⟩ = some (.int .i64 id) := hb4.keep bx3
    have by4 : w4.cell? ⟨w.heap.size + 1, 1, none⟩ = some (.slice A ts.length c) := hb4.keep by3
    have hx4 := hx3.trans hb4
    clear ax3 ay3 bx3 by3
    go_wp2_with fail
    go_region_held3 (fun w' => w'.cell? ⟨w.heap.size, 0, none⟩ = some (.int .i64 gap) ∧ w'.cell? ⟨w.heap.size, 1, none⟩ = some (.int .i64 rule) ∧ w'.cell? ⟨w.heap.size + 1, 0, none⟩ = some (.int .i64 id) ∧ w'.cell? ⟨w.heap.size + 1, 1, none⟩ = some (.slice A ts.length c))
      (first
        | (exact ⟨ax4, ay4, bx4, by4⟩)
        | (exact ⟨hb5.keep ax4, hb5.keep ay4, hb5.keep bx4, hb5.keep by4⟩)
        | (exact ⟨hb6.keep (hb5.keep ax4), hb6.keep (hb5.keep ay4), hb6.keep (hb5.keep bx4), hb6.keep (hb5.keep by4)⟩))
      (first
        | (go_at_call 24; refine (adjValid_any gap rule _).mono ?_; rintro e w5 ⟨rfl, hb5⟩)
        | (go_at_call 25; refine (refAdjValid_any gap rule _).mono ?_; rintro e w6 ⟨rfl, hb6⟩))
    replace hb5 := hb5.undrew
    have hx6 := (hx4.trans hb5).trans hb6
    clear ax4 ay4 bx4 by4
    go_wp2_with fail
    refine (awake_any _).mono ?_
    rintro e w7 ⟨rfl, hb7⟩
    go_wp2_with fail
    go_ret
    exact ⟨rfl, hx6.trans hb7⟩
  · have hl' : ¬ (ls.length : Int) < 2 := by omega
    have hl2 : 2 ≤ (ls.length : Int) := by omega
    obtain ⟨x, hx⟩ : ∃ x, ls[0]? = some x := ⟨ls[0], List.getElem?_eq_getElem (by omega)⟩
    obtain ⟨y, hy⟩ : ∃ y, ls[1]? = some y := ⟨ls[1], List.getElem?_eq_getElem (by omega)⟩
    obtain ⟨b, off, rfl, hb, c0_0, hin0⟩ := HL.out.at_ hx
    obtain ⟨b', off', hA', -, c1_0, hin1⟩ := HL.out.at_ hy
    injection hA' with hA'
    injection hA' with hA1 hA2
    subst hA1 hA2
    rw [Nat.add_zero] at c0_0
    have HI0 := Lib.hid hin0
    have HI1 := Lib.hid hin1
    have u0 : 0 < (ls.length : Int) := by omega
    have u1 : 1 < (ls.length : Int) := by omega
    have u0n : 0 < ls.length := by omega
    have u1n : 1 < ls.length := by omega
    have C0 := Lib.hid c0_0
    have C1 := Lib.hid c1_0
    clear hx hy c0_0 c1_0 hin0 hin1
    go_enter Try.func6, Try.ntmps6
    go_wp2_with fail
    refine (need_any gap rule id A c ts (some ⟨b, off, none⟩) d ls _ (H.out.ext hx0) (HL.out.ext hx0) HD.out).mono ?_
    rintro e w1 ⟨rfl, hb1⟩
    have ax1 : w1.cell? ⟨w.heap.size, 0, none⟩ = some (.int .i64 gap) := hb1.keep (by simp [go_sem])
    have ay1 : w1.cell? ⟨w.heap.size, 1, none⟩ = some (.int .i64 rule) := hb1.keep (by simp [go_sem])
    have bx1 : w1.cell? ⟨w.heap.size + 1, 0, none⟩ = some (.int .i64 id) := hb1.keep (by simp [go_sem])
    have by1 : w1.cell? ⟨w.heap.size + 1, 1, none⟩ = some (.slice A ts.length c) := hb1.keep (by simp [go_sem])
    have hx1 := hx0.trans hb1
    go_wp2_with fail
    refine (refNeed_any gap rule id A c ts (some ⟨b, off, none⟩) d ls _ (H.out.ext hx1) (HL.out.ext hx1) HD.out).mono ?_
    rintro e w2 ⟨rfl, hb2⟩
    have ax2 : w2.cell? ⟨w.heap.size, 0, none⟩ = some (.int .i64 gap) := hb2.keep ax1
    have ay2 : w2.cell? ⟨w.heap.size, 1, none⟩ = some (.int .i64 rule) := hb2.keep ay1
    have bx2 : w2.cell? ⟨w.heap.size + 1, 0, none⟩ = some (.int .i64 id) := hb2.keep bx1
    have by2 : w2.cell? ⟨w.heap.size + 1, 1, none⟩ = some (.slice A ts.length c) := hb2.keep by1
    have hx2 := hx1.trans hb2
    clear ax1 ay1 bx1 by1
    go_wp2_with fail
    refine (score_any gap rule id A c ts (some ⟨b, off, none⟩) d ls _ (H.out.ext hx2) (HL.out.ext hx2) HD.out).mono ?_
    rintro e w3 ⟨rfl, hb3⟩
    have ax3 : w3.cell? ⟨w.heap.size, 0, none⟩ = some (.int .i64 gap) := hb3.keep ax2
    have ay3 : w3.cell? ⟨w.heap.size, 1, none⟩ = some (.int .i64 rule) := hb3.keep ay2
    have bx3 : w3.cell? ⟨w.heap.size + 1, 0, none⟩ = some (.int .i64 id) := hb3.keep bx2
    have by3 : w3.cell? ⟨w.heap.size + 1, 1, none⟩ = some (.slice A ts.length c) := hb3.keep by2
    have hx3 := hx2.trans hb3
    clear ax2 ay2 bx2 by2
    go_wp2_with fail
    refine (refScore_any gap rule id A c ts (some ⟨b, off, none⟩) d ls _ (H.out.ext hx3) (HL.out.ext hx3) HD.out).mono ?_
    rintro e w4 ⟨rfl, hb4⟩
    have ax4 : w4.cell? ⟨w.heap.size, 0, none⟩ = some (.int .i64 gap) := hb4.keep ax3
    have ay4 : w4.cell? ⟨w.heap.size, 1, none⟩ = some (.int .i64 rule) := hb4.keep ay3
    have bx4 : w4.cell? ⟨w.heap.size + 1, 0, none⟩ = some (.int .i64 id) := hb4.keep bx3
    have by4 : w4.cell? ⟨w.heap.size + 1, 1, none⟩ = some (.slice A ts.length c) := hb4.keep by3
    have hx4 := hx3.trans hb4
    clear ax3 ay3 bx3 by3
    go_wp2_with fail
    go_region_held3 (fun w' => w'.cell? ⟨w.heap.size, 0, none⟩ = some (.int .i64 gap) ∧ w'.cell? ⟨w.heap.size, 1, none⟩ = some (.int .i64 rule) ∧ w'.cell? ⟨w.heap.size + 1, 0, none⟩ = some (.int .i64 id) ∧ w'.cell? ⟨w.heap.size + 1, 1, none⟩ = some (.slice A ts.length c))
      (first
        | (exact ⟨ax4, ay4, bx4, by4⟩)
        | (exact ⟨hb5.keep ax4, hb5.keep ay4, hb5.keep bx4, hb5.keep by4⟩)
        | (exact ⟨hb6.keep (hb5.keep ax4), hb6.keep (hb5.keep ay4), hb6.keep (hb5.keep bx4), hb6.keep (hb5.keep by4)⟩))
      (first
        | (go_at_call 24; refine (adjValid_any gap rule _).mono ?_; rintro e w5 ⟨rfl, hb5⟩)
        | (go_at_call 25; refine (refAdjValid_any gap rule _).mono ?_; rintro e w6 ⟨rfl, hb6⟩))
    replace hb5 := hb5.undrew
    have hx6 := (hx4.trans hb5).trans hb6
    have ax6 := hb6.keep (hb5.keep ax4)
    have ay6 := hb6.keep (hb5.keep ay4)
    have bx6 := hb6.keep (hb5.keep bx4)
    have by6 := hb6.keep (hb5.keep by4)
    clear ax4 ay4 bx4 by4
    have c0_6 := hx6.keep C0.out
    have c1_6 := hx6.keep C1.out
    go_wp2_with fail
    go_region_held3 (fun w' => w'.cell? ⟨w.heap.size, 0, none⟩ = some (.int .i64 gap) ∧ w'.cell? ⟨w.heap.size, 1, none⟩ = some (.int .i64 rule) ∧ w'.cell? ⟨w.heap.size + 1, 0, none⟩ = some (.int .i64 id) ∧ w'.cell? ⟨w.heap.size + 1, 1, none⟩ = some (.slice A ts.length c) ∧ w'.cell? ⟨b, off, none⟩ = some (.slice x.A x.xs.length x.c) ∧ w'.cell? ⟨b, off + 1, none⟩ = some (.slice y.A y.xs.length y.c))
      (first
        | (exact ⟨ax6, ay6, bx6, by6, c0_6, c1_6⟩)
        | (exact ⟨hb7.keep ax6, hb7.keep ay6, hb7.keep bx6, hb7.keep by6, hb7.keep c0_6, hb7.keep c1_6⟩))
      (first
        | (go_at_call 27; refine (agree_any gap rule id A c ts x.A x.c x.xs y.A y.c y.xs _ (H.out.ext (by exact hx6.drew)) (HI0.out.ext (by exact hx6.drew)) (HI1.out.ext (by exact hx6.drew))).mono ?_; rintro e w7 ⟨rfl, hb7⟩))
    replace hb7 := hb7.undrew
    have hx7 := hx6.trans hb7
    have ax7 := hb7.keep ax6
    have ay7 := hb7.keep ay6
    have bx7 := hb7.keep bx6
    have by7 := hb7.keep by6
    have c0_7 := hb7.keep c0_6
    have c1_7 := hb7.keep c1_6
    clear ax6 ay6 bx6 by6 c0_6 c1_6
    go_wp2_with fail
    go_region_held3 (fun w' => w'.cell? ⟨w.heap.size, 0, none⟩ = some (.int .i64 gap) ∧ w'.cell? ⟨w.heap.size, 1, none⟩ = some (.int .i64 rule) ∧ w'.cell? ⟨w.heap.size + 1, 0, none⟩ = some (.int .i64 id) ∧ w'.cell? ⟨w.heap.size + 1, 1, none⟩ = some (.slice A ts.length c) ∧ w'.cell? ⟨b, off, none⟩ = some (.slice x.A x.xs.length x.c) ∧ w'.cell? ⟨b, off + 1, none⟩ = some (.slice y.A y.xs.length y.c))
      (first
        | (exact ⟨ax7, ay7, bx7, by7, c0_7, c1_7⟩)
        | (exact ⟨hb8.keep ax7, hb8.keep ay7, hb8.keep bx7, hb8.keep by7, hb8.keep c0_7, hb8.keep c1_7⟩))
      (first
        | (go_at_call 28; refine (refAgree_any gap rule id A c ts x.A x.c x.xs y.A y.c y.xs _ (H.out.ext (by exact hx7.drew)) (HI0.out.ext (by exact hx7.drew)) (HI1.out.ext (by exact hx7.drew))).mono ?_; rintro e w8 ⟨rfl, hb8⟩))
    replace hb8 := hb8.undrew
    have hx8 := hx7.trans hb8
    clear ax7 ay7 bx7 by7 c0_7 c1_7
    go_wp2_with fail
    refine (awake_any _).mono ?_
    rintro e w9 ⟨rfl, hb9⟩
    go_wp2_with fail
    go_ret
    exact ⟨ret_bool (by simp), hx8.trans hb9⟩

theorem adjudicateScores_lifted (os : Os) (started : os.Started) (H : Type) (enc : TypeId × Value → H) :
    ReturnsInHanded {} Try.checked os 6 .any (Rows.adjudicateScoresSpec.pre6 enc Try.prog Try.f6 Rows.adjudicateScoresRow.domain false) (Rows.adjudicateScoresSpec.post enc Try.prog Try.f6 false true false false) := by
  refine returnsInHanded_of_change (C := Try.checked) Try.own started (by kernel_rfl) Try.func6
    (ChangeSpec.witness6 (enc := enc) (C := Try.checked) false ⟨#[], #[.agg #[.int .i64 0, .int .i64 0], .agg #[.int .i64 0, .slice none 0 0], .slice none 0 0], []⟩ 8 (by kernel_rfl) (by kernel_rfl) (by kernel_rfl) (by kernel_rfl)) ?_
  intro W base args ds gs before hval0 hW _ _
  have hval : ∀ (j : Nat) t v, Try.f6.params[j]? = some t → args[j]? = some v → Value.okWide Try.prog W .any base t v := hval0
  have hW' := hW
  obtain ⟨p, q, hA0, hV, rfl, hfz, hnd⟩ := hW
  have hA : DataW.TrodAll enc Try.prog W 0 (fun _ => true) true Try.f6.params.toList args.toList ds p := hA0
  rw [Try.params6] at hA hval
  obtain ⟨v0, vs0, d0, ds0, p0, q0, hargs, rfl, rfl, h0, r0⟩ := trodAll_cons hA
  obtain ⟨v1, vs1, d1, ds1, p1, q1, rfl, rfl, rfl, h1, r1⟩ := trodAll_cons r0
  obtain ⟨v2, vs2, d2, ds2, p2, q2, rfl, rfl, rfl, h2, r2⟩ := trodAll_cons r1
  obtain ⟨rfl, rfl, rfl⟩ := trodAll_nil r2
  obtain rfl : args = #[v0, v1, v2] := by cases args; simp_all
  obtain ⟨rfl, rfl⟩ := trodVars_none hV
  obtain ⟨gap, rule, rfl, ga1, ga2⟩ := adj_open (hval 0 38 v0 rfl rfl) h0
  obtain ⟨id, A, c, ts, rfl, g1⟩ := rub_open (hval 1 24 v1 rfl rfl) h1
  obtain ⟨L, d, ls, rfl, g2, g3⟩ := intss_open (hval 2 39 v2 rfl rfl) h2
  refine (adjudicateScores_walk gap rule id A c ts L d ls W g1 g2 g3).mono fun e W' ⟨he, hw⟩ => ?_
  subst he
  exact ⟨_, rfl, law_post hW' Try.laidOut (by kernel_rfl) rfl (by rfl) rfl Try.underlying4 hw⟩

theorem adjudicateScores_holds : Rows.AdjudicateScoresSaid :=
  OpenClaim.holds_of_wide 6 Try.f6 rfl rfl rfl rfl rfl rfl rfl ⟨rfl, rfl, rfl, rfl, rfl⟩ rfl rfl rfl rfl rfl (by kernel_rfl) Try.func6 (by kernel_rfl)
    (of_decide_eq_true (by kernel_rfl)) (by unfold Func.isWrapper; first | (rw [if_pos (by decide +kernel)]; kernel_rfl) | (rw [if_neg (by decide +kernel)]; exact ⟨rfl, rfl⟩))
    (fun os started H enc _ => adjudicateScores_lifted os started H enc)
#print axioms adjudicateScores_holds
end Go.Proofs.Ythjledbomonfpaa
