/- AdjudicateEssays: Pick and Essay return what the reference returns, for every input. No conditions. -/
import Derived.Test.YthjledbomonfpaaAdjK
namespace Go.Proofs.Ythjledbomonfpaa
open Go.ChangeShapes Go.WideShapes Go.ChangeAt Go.RowKit

set_option maxRecDepth 100000 in
set_option maxHeartbeats 3200000 in
theorem adjudicateEssays_walk (gap rule : Int) (id : Int) (A : Option Addr) (c : Nat) (ts : List Rub.Trait) (B : Option Addr) (bc : Nat) (rs : List Adj.Rt) (it : Int) (w : World) (h : RubIn w id A c ts) (hR : SlR w B rs) (hlen : rs.length ≤ maxLen) :
    Calls Try.prog 8 #[.agg #[.int .i64 gap, .int .i64 rule], .agg #[.int .i64 id, .slice A ts.length c], .slice B rs.length bc, .int .i64 it] w fun e w' => e = .returned (.bool true) ∧ Ext w w' := by
  have H := Lib.hid h
  have HRS := Lib.hid hR
  have HLEN := Lib.hid hlen
  clear h hR hlen
  have hx0 : Ext w ((w.alloc (.cells #[.int .i64 gap, .int .i64 rule] 38)).alloc (.cells #[.int .i64 id, .slice A ts.length c] 24)) := ((Ext.refl _).alloc _).alloc _
  go_enter Try.func8, Try.ntmps8
  go_wp2_with fail
  refine (pick_any B bc rs it _ (HRS.out.ext hx0) HLEN.out).mono ?_
  rintro e w1 ⟨L1, lc1, il1, rfl, hl1, hm1, hc1, hd1, hb1⟩
  have HI1 := Lib.hid hl1
  have HM1 := Lib.hid hm1
  have HC1 := Lib.hid (Nat.le_trans hc1 hd1)
  clear hl1 hm1 hc1 hd1
  have ax1 : w1.cell? ⟨w.heap.size, 0, none⟩ = some (.int .i64 gap) := hb1.keep (by simp [go_sem])
  have ay1 : w1.cell? ⟨w.heap.size, 1, none⟩ = some (.int .i64 rule) := hb1.keep (by simp [go_sem])
  have bx1 : w1.cell? ⟨w.heap.size + 1, 0, none⟩ = some (.int .i64 id) := hb1.keep (by simp [go_sem])
  have by1 : w1.cell? ⟨w.heap.size + 1, 1, none⟩ = some (.slice A ts.length c) := hb1.keep (by simp [go_sem])
  have hx1 := hx0.trans hb1
  go_wp2_with fail
  refine (refPick_any B bc rs it _ (HRS.out.ext hx1) HLEN.out).mono ?_
  rintro e w2 ⟨L2, lc2, il2, rfl, hl2, hm2, hc2, hd2, hb2⟩
  have HI2 := Lib.hid hl2
  have HM2 := Lib.hid hm2
  have HC2 := Lib.hid (Nat.le_trans hc2 hd2)
  clear hl2 hm2 hc2 hd2
  have ax2 : w2.cell? ⟨w.heap.size, 0, none⟩ = some (.int .i64 gap) := hb2.keep ax1
  have ay2 : w2.cell? ⟨w.heap.size, 1, none⟩ = some (.int .i64 rule) := hb2.keep ay1
  have bx2 : w2.cell? ⟨w.heap.size + 1, 0, none⟩ = some (.int .i64 id) := hb2.keep bx1
  have by2 : w2.cell? ⟨w.heap.size + 1, 1, none⟩ = some (.slice A ts.length c) := hb2.keep by1
  have hx2 := hx1.trans hb2
  clear ax1 ay1 bx1 by1
  go_wp2_with fail
  refine (essay_any gap rule id A c ts B bc rs it _ (H.out.ext hx2) (HRS.out.ext hx2) HLEN.out).mono ?_
  rintro e w3 ⟨rfl, hb3⟩
  have ax3 : w3.cell? ⟨w.heap.size, 0, none⟩ = some (.int .i64 gap) := hb3.keep ax2
  have ay3 : w3.cell? ⟨w.heap.size, 1, none⟩ = some (.int .i64 rule) := hb3.keep ay2
  have bx3 : w3.cell? ⟨w.heap.size + 1, 0, none⟩ = some (.int .i64 id) := hb3.keep bx2
  have by3 : w3.cell? ⟨w.heap.size + 1, 1, none⟩ = some (.slice A ts.length c) := hb3.keep by2
  have hx3 := hx2.trans hb3
  clear ax2 ay2 bx2 by2
  go_wp2_with fail
  refine (refEssay_any gap rule id A c ts B bc rs it _ (H.out.ext hx3) (HRS.out.ext hx3) HLEN.out).mono ?_
  rintro e w4 ⟨rfl, hb4⟩
  have ax4 : w4.cell? ⟨w.heap.size, 0, none⟩ = some (.int .i64 gap) := hb4.keep ax3
  have ay4 : w4.cell? ⟨w.heap.size, 1, none⟩ = some (.int .i64 rule) := hb4.keep ay3
  have bx4 : w4.cell? ⟨w.heap.size + 1, 0, none⟩ = some (.int .i64 id) := hb4.keep bx3
  have by4 : w4.cell? ⟨w.heap.size + 1, 1, none⟩ = some (.slice A ts.length c) := hb4.keep by3
  have hx4 := hx3.trans hb4
  clear ax3 ay3 bx3 by3
  clear ax4 ay4 bx4 by4
  go_wp2_with fail
  refine (equal_any L1 lc1 il1 L2 lc2 il2 _ (HI1.out.ext ((hb2.trans hb3).trans hb4)) (HI2.out.ext (hb3.trans hb4)) HC1.out).mono ?_
  rintro e w5 ⟨rfl, hb5⟩
  rw [show decide (il1.map IL.xs = il2.map IL.xs) = true by rw [HM1.out, HM2.out]; simp]
  go_wp2_with fail
  refine (awake_any _).mono ?_
  rintro e w6 ⟨rfl, hb6⟩
  go_wp2_with fail
  go_ret
  exact ⟨ret_bool (by simp), (hx4.trans hb5).trans hb6⟩

theorem adjudicateEssays_lifted (os : Os) (started : os.Started) (H : Type) (enc : TypeId × Value → H) :
    ReturnsInHanded {} Try.checked os 8 .any (Rows.adjudicateEssaysSpec.pre6 enc Try.prog Try.f8 Rows.adjudicateEssaysRow.domain false) (Rows.adjudicateEssaysSpec.post enc Try.prog Try.f8 false true false false) := by
  refine returnsInHanded_of_change_sized (C := Try.checked) Try.own started (by kernel_rfl) Try.func8
    (ChangeSpec.witness6 (enc := enc) (C := Try.checked) false ⟨#[], #[.agg #[.int .i64 0, .int .i64 0], .agg #[.int .i64 0, .slice none 0 0], .slice none 0 0, .int .i64 0], []⟩ 8 (by kernel_rfl) (by kernel_rfl) (by kernel_rfl) (by kernel_rfl)) ?_
  intro W base args ds gs before hval0 hW _ hsz0 _
  have hval : ∀ (j : Nat) t v, Try.f8.params[j]? = some t → args[j]? = some v → Value.okWide Try.prog W .any base t v := hval0
  have hsz : (DataW.weightsEach Try.prog (Try.f8.params.toList ++ Rows.adjudicateEssaysSpec.plain.varTypes Try.prog) (ds ++ gs)).all (· ≤ reachBytes) = true := hsz0
  have hW' := hW
  obtain ⟨p, q, hA0, hV, rfl, hfz, hnd⟩ := hW
  have hA : DataW.TrodAll enc Try.prog W 0 (fun _ => true) true Try.f8.params.toList args.toList ds p := hA0
  rw [Try.params8] at hA hval hsz
  obtain ⟨v0, vs0, d0, ds0, p0, q0, hargs, rfl, rfl, h0, r0⟩ := trodAll_cons hA
  obtain ⟨v1, vs1, d1, ds1, p1, q1, rfl, rfl, rfl, h1, r1⟩ := trodAll_cons r0
  obtain ⟨v2, vs2, d2, ds2, p2, q2, rfl, rfl, rfl, h2, r2⟩ := trodAll_cons r1
  obtain ⟨v3, vs3, d3, ds3, p3, q3, rfl, rfl, rfl, h3, r3⟩ := trodAll_cons r2
  obtain ⟨rfl, rfl, rfl⟩ := trodAll_nil r3
  obtain rfl : args = #[v0, v1, v2, v3] := by cases args; simp_all
  obtain ⟨rfl, rfl⟩ := trodVars_none hV
  obtain ⟨gap, rule, rfl, ga1, ga2⟩ := adj_open (hval 0 38 v0 rfl rfl) h0
  obtain ⟨id, A, c, ts, rfl, g1⟩ := rub_open (hval 1 24 v1 rfl rfl) h1
  obtain ⟨B, bc, rs, rfl, g2, g3⟩ := ratings_open (hval 2 47 v2 rfl rfl) h2 (light_arg hsz (j := 2) rfl rfl)
  obtain ⟨it, rfl, hd3, rfl, _⟩ := open_int Try.underlying3 (hval 3 3 v3 rfl rfl) h3
  refine (adjudicateEssays_walk gap rule id A c ts B bc rs it W g1 g2 g3).mono fun e W' ⟨he, hw⟩ => ?_
  subst he
  exact ⟨_, rfl, law_post hW' Try.laidOut (by kernel_rfl) rfl (by rfl) rfl Try.underlying4 hw⟩

theorem adjudicateEssays_holds : Rows.AdjudicateEssaysSaid :=
  OpenClaim.holds_of_wide 8 Try.f8 rfl rfl rfl rfl rfl rfl rfl ⟨rfl, rfl, rfl, rfl, rfl⟩ rfl rfl rfl rfl rfl (by kernel_rfl) Try.func8 (by kernel_rfl)
    (of_decide_eq_true (by kernel_rfl)) (by unfold Func.isWrapper; first | (rw [if_pos (by decide +kernel)]; kernel_rfl) | (rw [if_neg (by decide +kernel)]; exact ⟨rfl, rfl⟩))
    (fun os started H enc _ => adjudicateEssays_lifted os started H enc)
#print axioms adjudicateEssays_holds
end Go.Proofs.Ythjledbomonfpaa
