/- TimingLimits: whether an accommodation is valid, the limit, and the combination of two are those of the reference, for every input. No conditions. -/
import Derived.Test.YtpdboefaedocfaaTimB
import Derived.Deep.RegionHeld3
import Derived.Lib.SmallJoins
namespace Go.Proofs.Ytpdboefaedocfaa
open Go.ChangeShapes Go.WideShapes Go.ChangeAt Go.RowKit

theorem acc_open {H : Type} {enc : TypeId × Value → H} {W : World} {base : Nat} {v : Value} {d : DataW H} {p : List MemPlace} (hv : Value.okWide Try.prog W .any base 23 v)
    (h : DataW.Trod enc Try.prog W 0 (fun _ => true) true 23 v d p) : ∃ n d x : Int, v = .agg #[.int .i64 n, .int .i64 d, .int .i64 x] := by
  obtain ⟨c0, c1, c2, y0, y1, y2, m, rfl, rfl, rfl, hy0, hy1, hy2⟩ := Joins.open_agg3 Try.underlying23 (by kernel_rfl) (by kernel_rfl) hv h
  obtain ⟨a, e0, -, -⟩ := DataW.trod_int Try.underlying3 hy0
  obtain ⟨b, e1, -, -⟩ := DataW.trod_int Try.underlying3 hy1
  obtain ⟨c, e2, -, -⟩ := DataW.trod_int Try.underlying3 hy2
  simp at e0 e1 e2
  subst e0 e1 e2
  exact ⟨a, b, c, rfl⟩

/-- What both Limits return. -/
def Tim.limV (s n d x : Int) : Int := if Tim.ok n d x ∧ 0 ≤ s ∧ s ≤ 9999999 then Tim.lim s n d x else 0
def Tim.limE (s n d x : Int) : Int := if Tim.ok n d x ∧ 0 ≤ s ∧ s ≤ 9999999 then 0 else 3

theorem tlimit_any (s n d x : Int) (w : World) :
    Calls Try.prog 8 #[.int .i64 s, .agg #[.int .i64 n, .int .i64 d, .int .i64 x]] w fun e w' => e = .returned (.tuple #[.int .i64 (Tim.limV s n d x), .int .i64 (Tim.limE s n d x)]) ∧ Ext w w' := by
  unfold Tim.limV Tim.limE
  by_cases h : Tim.ok n d x ∧ 0 ≤ s ∧ s ≤ 9999999
  · rw [if_pos h, if_pos h]; exact tlimit_yes s n d x w h.1 h.2.1 h.2.2
  · rw [if_neg h, if_neg h]; exact tlimit_no s n d x w h
theorem rlimit_any (s n d x : Int) (w : World) :
    Calls Try.prog 9 #[.int .i64 s, .agg #[.int .i64 n, .int .i64 d, .int .i64 x]] w fun e w' => e = .returned (.tuple #[.int .i64 (Tim.limV s n d x), .int .i64 (Tim.limE s n d x)]) ∧ Ext w w' := by
  unfold Tim.limV Tim.limE
  by_cases h : Tim.ok n d x ∧ 0 ≤ s ∧ s ≤ 9999999
  · rw [if_pos h, if_pos h]; exact rlimit_yes s n d x w h.1 h.2.1 h.2.2
  · rw [if_neg h, if_neg h]; exact rlimit_no s n d x w h

/-- What both Combines return. -/
def Tim.okc (an ad ax bn bd bx : Int) : Prop := Tim.ok an ad ax ∧ Tim.ok bn bd bx ∧ Tim.ok (Tim.cn an ad bn bd) (Tim.cd an ad bn bd) (ax + bx)
instance (an ad ax bn bd bx : Int) : Decidable (Tim.okc an ad ax bn bd bx) := by unfold Tim.okc; infer_instance
def Tim.rn (an ad ax bn bd bx : Int) : Int := if Tim.okc an ad ax bn bd bx then Tim.cn an ad bn bd else 0
def Tim.rd (an ad ax bn bd bx : Int) : Int := if Tim.okc an ad ax bn bd bx then Tim.cd an ad bn bd else 0
def Tim.rx (an ad ax bn bd bx : Int) : Int := if Tim.okc an ad ax bn bd bx then ax + bx else 0
def Tim.re (an ad ax bn bd bx : Int) : Int := if Tim.okc an ad ax bn bd bx then 0 else 3

theorem tcomb_any (an ad ax bn bd bx : Int) (w : World) :
    Calls Try.prog 12 #[.agg #[.int .i64 an, .int .i64 ad, .int .i64 ax], .agg #[.int .i64 bn, .int .i64 bd, .int .i64 bx]] w fun e w' =>
      e = .returned (.tuple #[.agg #[.int .i64 (Tim.rn an ad ax bn bd bx), .int .i64 (Tim.rd an ad ax bn bd bx), .int .i64 (Tim.rx an ad ax bn bd bx)], .int .i64 (Tim.re an ad ax bn bd bx)]) ∧ Ext w w' := by
  unfold Tim.rn Tim.rd Tim.rx Tim.re
  by_cases h : Tim.okc an ad ax bn bd bx
  · simp only [if_pos h]; exact tcomb_yes an ad ax bn bd bx w h.1 h.2.1 h.2.2
  · simp only [if_neg h]; exact tcomb_no an ad ax bn bd bx w h
theorem rcomb_any (an ad ax bn bd bx : Int) (w : World) :
    Calls Try.prog 13 #[.agg #[.int .i64 an, .int .i64 ad, .int .i64 ax], .agg #[.int .i64 bn, .int .i64 bd, .int .i64 bx]] w fun e w' =>
      e = .returned (.tuple #[.agg #[.int .i64 (Tim.rn an ad ax bn bd bx), .int .i64 (Tim.rd an ad ax bn bd bx), .int .i64 (Tim.rx an ad ax bn bd bx)], .int .i64 (Tim.re an ad ax bn bd bx)]) ∧ Ext w w' := by
  unfold Tim.rn Tim.rd Tim.rx Tim.re
  by_cases h : Tim.okc an ad ax bn bd bx
  · simp only [if_pos h]; exact rcomb_yes an ad ax bn bd bx w h.1 h.2.1 h.2.2
  · simp only [if_neg h]; exact rcomb_no an ad ax bn bd bx w h

set_option maxHeartbeats 800000 in
theorem timingLimits_walk (s an ad ax bn bd bx : Int) (w : World) :
    Calls Try.prog 3 #[.int .i64 s, .agg #[.int .i64 an, .int .i64 ad, .int .i64 ax], .agg #[.int .i64 bn, .int .i64 bd, .int .i64 bx]] w fun e w' =>
      e = .returned (.bool true) ∧ Ext w w' := by
  go_enter Try.func3, Try.ntmps3
  go_wp2_with fail
  refine (tlimit_any _ _ _ _ _).mono ?_
  rintro e w1 ⟨rfl, hb1⟩
  obtain ⟨hc1, hf1⟩ := hb1.cells
  go_wp2_with fail
  refine (rlimit_any _ _ _ _ _).mono ?_
  rintro e w2 ⟨rfl, hb2⟩
  obtain ⟨hc2, hf2⟩ := hb2.cells
  have hz1 := hb1.size
  have hz2 := hb2.size
  simp at hz1
  have z10 : w.heap.size < w1.heap.size := by omega
  have z11 : w.heap.size + 1 < w1.heap.size := by omega
  have z20 : w.heap.size < w2.heap.size := by omega
  have z21 : w.heap.size + 1 < w2.heap.size := by omega
  have c0 : w2.cell? ⟨w.heap.size, 0, none⟩ = some (.int .i64 an) := by simp [go_sem, *]
  have c1 : w2.cell? ⟨w.heap.size, 1, none⟩ = some (.int .i64 ad) := by simp [go_sem, *]
  have c2 : w2.cell? ⟨w.heap.size, 2, none⟩ = some (.int .i64 ax) := by simp [go_sem, *]
  go_wp2_with fail
  go_region_held3 (fun w' => w'.cell? ⟨w.heap.size, 0, none⟩ = some (.int .i64 an) ∧ w'.cell? ⟨w.heap.size, 1, none⟩ = some (.int .i64 ad) ∧ w'.cell? ⟨w.heap.size, 2, none⟩ = some (.int .i64 ax) ∧ Ext w2 w')
    (first
      | (exact ⟨c0, c1, c2, Ext.refl _⟩)
      | (exact ⟨c0, c1, c2, (Ext.refl _).drew⟩)
      | (go_split_ands; exact ⟨Ext.keep ‹Ext _ w3› ‹_›, Ext.keep ‹Ext _ w3› ‹_›, Ext.keep ‹Ext _ w3› ‹_›, Ext.trans ‹Ext w2 _› ‹Ext _ w3›⟩)
      | go_keep)
    (first
      | (go_at_call 10; refine (tvalid_any _ _ _ _).mono ?_; rintro e w3 ⟨rfl, hb3⟩)
      | (go_at_call 11; refine (rvalid_any _ _ _ _).mono ?_; rintro e w3 ⟨rfl, hb3⟩))
  have he3 : Ext w2 w3 := (Ext.trans (Ext.undrew (by assumption)) hb3)
  obtain ⟨hc3, hf3⟩ := he3.cells
  have hz3 := he3.size
  have z30 : w.heap.size < w3.heap.size := by omega
  have z31 : w.heap.size + 1 < w3.heap.size := by omega
  go_wp2_with fail
  refine (tcomb_any _ _ _ _ _ _ _).mono ?_
  rintro e w4 ⟨rfl, hb4⟩
  obtain ⟨hc4, hf4⟩ := hb4.cells
  have hz4 := hb4.size
  have z40 : w.heap.size < w4.heap.size := by omega
  have z41 : w.heap.size + 1 < w4.heap.size := by omega
  go_wp2_with fail
  refine (rcomb_any _ _ _ _ _ _ _).mono ?_
  rintro e w5 ⟨rfl, hb5⟩
  obtain ⟨hc5, hf5⟩ := hb5.cells
  have hz5 := hb5.size
  simp at hz5
  have z54 : w4.heap.size < w5.heap.size := by omega
  go_wp2
  go_ret
  refine ⟨ret_bool (by simp), ?_⟩
  exact (((((((((Ext.refl _).alloc _).alloc _).trans hb1).trans hb2).trans he3).trans hb4).alloc _).trans hb5).alloc _

theorem timingLimits_lifted (os : Os) (started : os.Started) (H : Type) (enc : TypeId × Value → H) :
    ReturnsInHanded {} Try.checked os 3 .any (Rows.timingLimitsSpec.pre6 enc Try.prog Try.f3 Rows.timingLimitsRow.domain false) (Rows.timingLimitsSpec.post enc Try.prog Try.f3 false true false false) := by
  refine returnsInHanded_of_change (C := Try.checked) Try.own started (by kernel_rfl) Try.func3
    (ChangeSpec.witness6 (enc := enc) (C := Try.checked) false ⟨#[], #[.int .i64 0, .agg #[.int .i64 0, .int .i64 0, .int .i64 0], .agg #[.int .i64 0, .int .i64 0, .int .i64 0]], []⟩ 8 (by kernel_rfl) (by kernel_rfl) (by kernel_rfl) (by kernel_rfl)) ?_
  intro W base args ds gs before hval0 hW _ _
  have hval : ∀ (j : Nat) t v, Try.f3.params[j]? = some t → args[j]? = some v → Value.okWide Try.prog W .any base t v := hval0
  have hW' := hW
  obtain ⟨p, q, hA0, hV, rfl, hfz, hnd⟩ := hW
  have hA : DataW.TrodAll enc Try.prog W 0 (fun _ => true) true Try.f3.params.toList args.toList ds p := hA0
  rw [Try.params3] at hA hval
  obtain ⟨v0, v1, v2, d0, d1, d2, p0, p1, p2, rfl, rfl, rfl, h0, h1, h2⟩ := trodAll_three hA
  obtain ⟨rfl, rfl⟩ := trodVars_none hV
  obtain ⟨s, rfl, hd0, rfl, _⟩ := open_int Try.underlying3 (hval 0 3 v0 rfl rfl) h0
  obtain ⟨an, ad, ax, rfl⟩ := acc_open (hval 1 23 v1 rfl rfl) h1
  obtain ⟨bn, bd, bx, rfl⟩ := acc_open (hval 2 23 v2 rfl rfl) h2
  refine (timingLimits_walk s an ad ax bn bd bx W).mono fun e W' ⟨he, hw⟩ => ?_
  subst he
  exact ⟨_, rfl, law_post hW' Try.laidOut (by kernel_rfl) rfl (by rfl) rfl Try.underlying4 hw⟩

theorem timingLimits_holds : Rows.TimingLimitsSaid :=
  OpenClaim.holds_of_wide 3 Try.f3 rfl rfl rfl rfl rfl rfl rfl ⟨rfl, rfl, rfl, rfl, rfl⟩ rfl rfl rfl rfl rfl (by kernel_rfl) Try.func3 (by kernel_rfl)
    (of_decide_eq_true (by kernel_rfl)) (by unfold Func.isWrapper; first | (rw [if_pos (by decide +kernel)]; kernel_rfl) | (rw [if_neg (by decide +kernel)]; exact ⟨rfl, rfl⟩))
    (fun os started H enc _ => timingLimits_lifted os started H enc)
#print axioms timingLimits_holds
end Go.Proofs.Ytpdboefaedocfaa
