/- RubricCompares: the distance of two and the median of three lists of marks, or the error, are those of the reference, for every input. No conditions. -/
import Derived.Test.YthjledbomonfpaaRubO
namespace Go.Proofs.Ythjledbomonfpaa
open Go.ChangeShapes Go.WideShapes Go.ChangeAt Go.RowKit

set_option maxHeartbeats 800000 in
theorem rubricCompares_walk (id : Int) (A : Option Addr) (c : Nat) (ts : List Rub.Trait) (X : Option Addr) (xc : Nat) (a : List Int) (Y : Option Addr) (yc : Nat) (b : List Int) (Z : Option Addr) (zc : Nat) (d : List Int) (w : World)
    (h : RubIn w id A c ts) (ha : (⟨X, xc, a⟩ : IL).In w) (hb : (⟨Y, yc, b⟩ : IL).In w) (hd : (⟨Z, zc, d⟩ : IL).In w) :
    Calls Try.prog 4 #[.agg #[.int .i64 id, .slice A ts.length c], .slice X a.length xc, .slice Y b.length yc, .slice Z d.length zc] w fun e w' => e = .returned (.bool true) ∧ Ext w w' := by
  have H := Lib.hid h
  have HA := Lib.hid ha
  have HB := Lib.hid hb
  have HD := Lib.hid hd
  clear h ha hb hd
  have hx1 : Ext w (w.alloc (.cells #[.int .i64 id, .slice A ts.length c] 24)) := (Ext.refl _).alloc _
  go_enter Try.func4, Try.ntmps4
  go_wp2_with fail
  refine (apart_any id A c ts X xc a Y yc b _ (H.out.ext hx1) (HA.out.ext hx1) (HB.out.ext hx1)).mono ?_
  rintro e w1 ⟨rfl, hb1⟩
  have bx0 : w1.cell? ⟨w.heap.size, 0, none⟩ = some (.int .i64 id) := hb1.keep (by simp [go_sem])
  have bx1 : w1.cell? ⟨w.heap.size, 1, none⟩ = some (.slice A ts.length c) := hb1.keep (by simp [go_sem])
  have hx2 := hx1.trans hb1
  go_wp2_with fail
  refine (refApart_any id A c ts X xc a Y yc b _ (H.out.ext hx2) (HA.out.ext hx2) (HB.out.ext hx2)).mono ?_
  rintro e w2 ⟨rfl, hb2⟩
  have cx0 : w2.cell? ⟨w.heap.size, 0, none⟩ = some (.int .i64 id) := hb2.keep bx0
  have cx1 : w2.cell? ⟨w.heap.size, 1, none⟩ = some (.slice A ts.length c) := hb2.keep bx1
  have hx3 := hx2.trans hb2
  clear bx0 bx1
  go_wp2_with fail
  refine (median_any id A c ts X xc a Y yc b Z zc d _ (H.out.ext hx3) (HA.out.ext hx3) (HB.out.ext hx3) (HD.out.ext hx3)).mono ?_
  rintro e w3 ⟨M, mc, rfl, hm, hb3⟩
  have dx0 : w3.cell? ⟨w.heap.size, 0, none⟩ = some (.int .i64 id) := hb3.keep cx0
  have dx1 : w3.cell? ⟨w.heap.size, 1, none⟩ = some (.slice A ts.length c) := hb3.keep cx1
  have hx4 := hx3.trans hb3
  have HM := Lib.hid hm
  clear cx0 cx1 hm
  go_wp2_with fail
  refine (refMedian_any id A c ts X xc a Y yc b Z zc d _ (H.out.ext hx4) (HA.out.ext hx4) (HB.out.ext hx4) (HD.out.ext hx4)).mono ?_
  rintro e w4 ⟨R, rc, rfl, hr, hb4⟩
  have HR := Lib.hid hr
  clear hr
  go_wp2_with fail
  refine (ints_any M mc _ R rc _ _ (HM.out.1.ext hb4) HR.out.1 (Nat.le_trans HM.out.2.1 HM.out.2.2.1)).mono ?_
  rintro e w5 ⟨rfl, hb5⟩
  go_wp2
  go_ret
  refine ⟨ret_bool (by simp), (hx4.trans hb4).trans hb5⟩

theorem rubricCompares_lifted (os : Os) (started : os.Started) (H : Type) (enc : TypeId × Value → H) :
    ReturnsInHanded {} Try.checked os 4 .any (Rows.rubricComparesSpec.pre6 enc Try.prog Try.f4 Rows.rubricComparesRow.domain false) (Rows.rubricComparesSpec.post enc Try.prog Try.f4 false true false false) := by
  refine returnsInHanded_of_change (C := Try.checked) Try.own started (by kernel_rfl) Try.func4
    (ChangeSpec.witness6 (enc := enc) (C := Try.checked) false ⟨#[], #[.agg #[.int .i64 0, .slice none 0 0], .slice none 0 0, .slice none 0 0, .slice none 0 0], []⟩ 8 (by kernel_rfl) (by kernel_rfl) (by kernel_rfl) (by kernel_rfl)) ?_
  intro W base args ds gs before hval0 hW _ _
  have hval : ∀ (j : Nat) t v, Try.f4.params[j]? = some t → args[j]? = some v → Value.okWide Try.prog W .any base t v := hval0
  have hW' := hW
  obtain ⟨p, q, hA0, hV, rfl, hfz, hnd⟩ := hW
  have hA : DataW.TrodAll enc Try.prog W 0 (fun _ => true) true Try.f4.params.toList args.toList ds p := hA0
  rw [Try.params4] at hA hval
  obtain ⟨v0, vs0, d0, ds0, p0, q0, hargs, rfl, rfl, h0, r0⟩ := trodAll_cons hA
  obtain ⟨v1, vs1, d1, ds1, p1, q1, rfl, rfl, rfl, h1, r1⟩ := trodAll_cons r0
  obtain ⟨v2, vs2, d2, ds2, p2, q2, rfl, rfl, rfl, h2, r2⟩ := trodAll_cons r1
  obtain ⟨v3, vs3, d3, ds3, p3, q3, rfl, rfl, rfl, h3, r3⟩ := trodAll_cons r2
  obtain ⟨rfl, rfl, rfl⟩ := trodAll_nil r3
  obtain rfl : args = #[v0, v1, v2, v3] := by cases args; simp_all
  obtain ⟨rfl, rfl⟩ := trodVars_none hV
  obtain ⟨id, A, c, ts, rfl, g0⟩ := rub_open (hval 0 24 v0 rfl rfl) h0
  obtain ⟨X, xc, a, rfl, g1⟩ := ints_open (hval 1 25 v1 rfl rfl) h1
  obtain ⟨Y, yc, b, rfl, g2⟩ := ints_open (hval 2 25 v2 rfl rfl) h2
  obtain ⟨Z, zc, d, rfl, g3⟩ := ints_open (hval 3 25 v3 rfl rfl) h3
  refine (rubricCompares_walk id A c ts X xc a Y yc b Z zc d W g0 g1 g2 g3).mono fun e W' ⟨he, hw⟩ => ?_
  subst he
  exact ⟨_, rfl, law_post hW' Try.laidOut (by kernel_rfl) rfl (by rfl) rfl Try.underlying4 hw⟩

theorem rubricCompares_holds : Rows.RubricComparesSaid :=
  OpenClaim.holds_of_wide 4 Try.f4 rfl rfl rfl rfl rfl rfl rfl ⟨rfl, rfl, rfl, rfl, rfl⟩ rfl rfl rfl rfl rfl (by kernel_rfl) Try.func4 (by kernel_rfl)
    (of_decide_eq_true (by kernel_rfl)) (by unfold Func.isWrapper; first | (rw [if_pos (by decide +kernel)]; kernel_rfl) | (rw [if_neg (by decide +kernel)]; exact ⟨rfl, rfl⟩))
    (fun os started H enc _ => rubricCompares_lifted os started H enc)
#print axioms rubricCompares_holds
end Go.Proofs.Ythjledbomonfpaa
