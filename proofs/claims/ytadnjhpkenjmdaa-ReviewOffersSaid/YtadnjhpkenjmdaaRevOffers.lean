/- ReviewOffers: the kinds of actions that a user may perform on any record are those of the reference, for every input. No conditions. -/
import Derived.Test.YtadnjhpkenjmdaaRevD
import Derived.Test.YtadnjhpkenjmdaaRevE
import Derived.Test.YtadnjhpkenjmdaaRevO
namespace Go.Proofs.Ytadnjhpkenjmdaa
open Go.ChangeShapes Go.WideShapes Go.ChangeAt Go.RowKit

set_option maxRecDepth 100000 in
set_option maxHeartbeats 800000 in
theorem reviewOffers_walk (st au : Int) (P : Option Addr) (pc : Nat) (ap : List Int) (Q : Option Addr) (qc : Nat) (fa : List Int) (L : Option Addr) (lc : Nat) (log : List Rev.Act) (u ro t : Int) (w : World) (h : RevIn w st au P pc ap Q qc fa L lc log) :
    Calls Try.prog 3 #[.agg #[.int .i64 st, .int .i64 au, .slice P ap.length pc, .slice Q fa.length qc, .slice L log.length lc], .int .i64 u, .int .i64 ro, .int .i64 t] w fun e w' => e = .returned (.bool true) ∧ Ext w w' := by
  have H := Lib.hid h
  clear h
  have hx0 : Ext w (w.alloc (.cells #[.int .i64 st, .int .i64 au, .slice P ap.length pc, .slice Q fa.length qc, .slice L log.length lc] 25)) := (Ext.refl _).alloc _
  go_enter Try.func3, Try.ntmps3
  go_wp2_with fail
  have c0 : (w.alloc (.cells #[.int .i64 st, .int .i64 au, .slice P ap.length pc, .slice Q fa.length qc, .slice L log.length lc] 25)).cell? ⟨w.heap.size, 0, none⟩ = some (.int .i64 st) := by simp [go_sem]
  have c1 : (w.alloc (.cells #[.int .i64 st, .int .i64 au, .slice P ap.length pc, .slice Q fa.length qc, .slice L log.length lc] 25)).cell? ⟨w.heap.size, 1, none⟩ = some (.int .i64 au) := by simp [go_sem]
  have c2 : (w.alloc (.cells #[.int .i64 st, .int .i64 au, .slice P ap.length pc, .slice Q fa.length qc, .slice L log.length lc] 25)).cell? ⟨w.heap.size, 2, none⟩ = some (.slice P ap.length pc) := by simp [go_sem]
  have c3 : (w.alloc (.cells #[.int .i64 st, .int .i64 au, .slice P ap.length pc, .slice Q fa.length qc, .slice L log.length lc] 25)).cell? ⟨w.heap.size, 3, none⟩ = some (.slice Q fa.length qc) := by simp [go_sem]
  have c4 : (w.alloc (.cells #[.int .i64 st, .int .i64 au, .slice P ap.length pc, .slice Q fa.length qc, .slice L log.length lc] 25)).cell? ⟨w.heap.size, 4, none⟩ = some (.slice L log.length lc) := by simp [go_sem]
  go_region_held3 (fun w' => w'.cell? ⟨w.heap.size, 0, none⟩ = some (.int .i64 st) ∧ w'.cell? ⟨w.heap.size, 1, none⟩ = some (.int .i64 au) ∧ w'.cell? ⟨w.heap.size, 2, none⟩ = some (.slice P ap.length pc) ∧ w'.cell? ⟨w.heap.size, 3, none⟩ = some (.slice Q fa.length qc) ∧ w'.cell? ⟨w.heap.size, 4, none⟩ = some (.slice L log.length lc))
    (first
      | (exact ⟨c0, c1, c2, c3, c4⟩)
      | (exact ⟨hb1.keep c0, hb1.keep c1, hb1.keep c2, hb1.keep c3, hb1.keep c4⟩)
      | (exact ⟨hb2.keep (hb1.keep c0), hb2.keep (hb1.keep c1), hb2.keep (hb1.keep c2), hb2.keep (hb1.keep c3), hb2.keep (hb1.keep c4)⟩)
      | (exact ⟨hb3.keep (hb2.keep (hb1.keep c0)), hb3.keep (hb2.keep (hb1.keep c1)), hb3.keep (hb2.keep (hb1.keep c2)), hb3.keep (hb2.keep (hb1.keep c3)), hb3.keep (hb2.keep (hb1.keep c4))⟩))
    (first
      | (go_at_call 9; refine (actions_any st au P pc ap Q qc fa L lc log u ro t _ (H.out.ext (by exact hx0.drew))).mono ?_; rintro e w1 ⟨M1, mc1, rfl, hm1, hb1⟩)
      | (go_at_call 10; refine (refActions_any st au P pc ap Q qc fa L lc log u ro t _ (H.out.ext (by exact hx0.drew.trans hb1))).mono ?_; rintro e w2 ⟨M2, mc2, rfl, hm2, hb2⟩)
      | (go_at_call 8; refine (ints_any M1 mc1 _ M2 mc2 _ _ (hm1.1.ext hb2) hm2.1 (Nat.le_trans hm1.2.1 hm1.2.2.1)).mono ?_; rintro e w3 ⟨rfl, hb3⟩))
  go_wp2
  go_ret
  exact ⟨ret_bool (by simp), ((hx0.drew.trans hb1).trans hb2).trans hb3⟩

theorem reviewOffers_lifted (os : Os) (started : os.Started) (H : Type) (enc : TypeId × Value → H) :
    ReturnsInHanded {} Try.checked os 3 .any (Rows.reviewOffersSpec.pre6 enc Try.prog Try.f3 Rows.reviewOffersRow.domain false) (Rows.reviewOffersSpec.post enc Try.prog Try.f3 false true false false) := by
  refine returnsInHanded_of_change (C := Try.checked) Try.own started (by kernel_rfl) Try.func3
    (ChangeSpec.witness6 (enc := enc) (C := Try.checked) false ⟨#[], #[.agg #[.int .i64 0, .int .i64 0, .slice none 0 0, .slice none 0 0, .slice none 0 0], .int .i64 0, .int .i64 0, .int .i64 0], []⟩ 8 (by kernel_rfl) (by kernel_rfl) (by kernel_rfl) (by kernel_rfl)) ?_
  intro W base args ds gs before hval0 hW _ _
  have hval : ∀ (j : Nat) t v, Try.f3.params[j]? = some t → args[j]? = some v → Value.okWide Try.prog W .any base t v := hval0
  have hW' := hW
  obtain ⟨p, q, hA0, hV, rfl, hfz, hnd⟩ := hW
  have hA : DataW.TrodAll enc Try.prog W 0 (fun _ => true) true Try.f3.params.toList args.toList ds p := hA0
  rw [Try.params3] at hA hval
  obtain ⟨v0, vs0, d0, ds0, p0, q0, hargs, rfl, rfl, h0, r0⟩ := trodAll_cons hA
  obtain ⟨v1, vs1, d1, ds1, p1, q1, rfl, rfl, rfl, h1, r1⟩ := trodAll_cons r0
  obtain ⟨v2, vs2, d2, ds2, p2, q2, rfl, rfl, rfl, h2, r2⟩ := trodAll_cons r1
  obtain ⟨v3, vs3, d3, ds3, p3, q3, rfl, rfl, rfl, h3, r3⟩ := trodAll_cons r2
  obtain ⟨rfl, rfl, rfl⟩ := trodAll_nil r3
  obtain rfl : args = #[v0, v1, v2, v3] := by cases args; simp_all
  obtain ⟨rfl, rfl⟩ := trodVars_none hV
  obtain ⟨st, au, P, pc, ap, Q, qc, fa, L, lc, log, rfl, g0⟩ := rev_open (hval 0 25 v0 rfl rfl) h0
  obtain ⟨u, rfl, hd1, rfl, _⟩ := open_int Try.underlying3 (hval 1 3 v1 rfl rfl) h1
  obtain ⟨ro, rfl, hd2, rfl, _⟩ := open_int Try.underlying3 (hval 2 3 v2 rfl rfl) h2
  obtain ⟨t, rfl, hd3, rfl, _⟩ := open_int Try.underlying3 (hval 3 3 v3 rfl rfl) h3
  refine (reviewOffers_walk st au P pc ap Q qc fa L lc log u ro t W g0).mono fun e W' ⟨he, hw⟩ => ?_
  subst he
  exact ⟨_, rfl, law_post hW' Try.laidOut (by kernel_rfl) rfl (by rfl) rfl Try.underlying4 hw⟩

theorem reviewOffers_holds : Rows.ReviewOffersSaid :=
  OpenClaim.holds_of_wide 3 Try.f3 rfl rfl rfl rfl rfl rfl rfl ⟨rfl, rfl, rfl, rfl, rfl⟩ rfl rfl rfl rfl rfl (by kernel_rfl) Try.func3 (by kernel_rfl)
    (of_decide_eq_true (by kernel_rfl)) (by unfold Func.isWrapper; first | (rw [if_pos (by decide +kernel)]; kernel_rfl) | (rw [if_neg (by decide +kernel)]; exact ⟨rfl, rfl⟩))
    (fun os started H enc _ => reviewOffers_lifted os started H enc)
#print axioms reviewOffers_holds
end Go.Proofs.Ytadnjhpkenjmdaa
