/- TimingNever: an accommodation never shortens a limit, and the combination of two never shortens that of one of them, for every input. No conditions. -/
import Derived.Test.YtpdboefaedocfaaTimLimits
namespace Go.Proofs.Ytpdboefaedocfaa
open Go.ChangeShapes Go.WideShapes Go.ChangeAt Go.RowKit

theorem tlimit_minus (n d x : Int) (w : World) :
    Calls Try.prog 8 #[.int .i64 (-1), .agg #[.int .i64 n, .int .i64 d, .int .i64 x]] w fun e w' => e = .returned (.tuple #[.int .i64 0, .int .i64 3]) ∧ Ext w w' :=
  tlimit_no (-1) n d x w (fun h => by omega)

/-- The call that the law makes where an argument is refused. -/
def NeverBad (s an ad ax bn bd bx : Int) : Prop := s < 0 ∨ 9999999 < s ∨ (0 ≤ s ∧ s ≤ 9999999 ∧ ¬ Tim.ok an ad ax) ∨ (0 ≤ s ∧ s ≤ 9999999 ∧ Tim.ok an ad ax ∧ ¬ Tim.ok bn bd bx)

set_option maxRecDepth 100000 in
set_option maxHeartbeats 800000 in
theorem never_bad (s an ad ax bn bd bx : Int) (w : World) (h : NeverBad s an ad ax bn bd bx) :
    Calls Try.prog 4 #[.int .i64 s, .agg #[.int .i64 an, .int .i64 ad, .int .i64 ax], .agg #[.int .i64 bn, .int .i64 bd, .int .i64 bx]] w fun e w' =>
      e = .returned (.bool true) ∧ Ext w w' := by
  rcases h with h | h | ⟨h1, h2, h⟩ | ⟨h1, h2, ha, h⟩
  · go_enter Try.func4, Try.ntmps4
    go_wp2_with fail
    refine (tlimit_minus _ _ _ _).mono ?_
    rintro e w1 ⟨rfl, hb1⟩
    go_wp2
    go_ret
    exact ⟨rfl, (((Ext.refl _).alloc _).alloc _).trans hb1⟩
  · have h0 : 0 ≤ s := by omega
    go_enter Try.func4, Try.ntmps4
    go_wp2_with fail
    refine (tlimit_minus _ _ _ _).mono ?_
    rintro e w1 ⟨rfl, hb1⟩
    go_wp2
    go_ret
    exact ⟨rfl, (((Ext.refl _).alloc _).alloc _).trans hb1⟩
  · have HA := Lib.hid h
    clear h
    go_enter Try.func4, Try.ntmps4
    go_wp2_with fail
    refine (tvalid_no _ _ _ _ HA.out).mono ?_
    rintro e w1 ⟨rfl, hb1⟩
    obtain ⟨hc1, hf1⟩ := hb1.cells
    have hz1 := hb1.size
    simp at hz1
    have z10 : w.heap.size < w1.heap.size := by omega
    have z11 : w.heap.size + 1 < w1.heap.size := by omega
    go_wp2_with fail
    refine (tlimit_minus _ _ _ _).mono ?_
    rintro e w2 ⟨rfl, hb2⟩
    go_wp2
    go_ret
    exact ⟨rfl, ((((Ext.refl _).alloc _).alloc _).trans hb1).trans hb2⟩
  · have HA := Lib.hid ha
    have HB := Lib.hid h
    clear h ha
    go_enter Try.func4, Try.ntmps4
    go_wp2_with fail
    refine (tvalid_yes _ _ _ _ HA.out).mono ?_
    rintro e w1 ⟨rfl, hb1⟩
    obtain ⟨hc1, hf1⟩ := hb1.cells
    have hz1 := hb1.size
    simp at hz1
    have z10 : w.heap.size < w1.heap.size := by omega
    have z11 : w.heap.size + 1 < w1.heap.size := by omega
    go_wp2_with fail
    refine (tvalid_no _ _ _ _ HB.out).mono ?_
    rintro e w2 ⟨rfl, hb2⟩
    obtain ⟨hc2, hf2⟩ := hb2.cells
    have hz2 := hb2.size
    have z20 : w.heap.size < w2.heap.size := by omega
    have z21 : w.heap.size + 1 < w2.heap.size := by omega
    go_wp2_with fail
    refine (tlimit_minus _ _ _ _).mono ?_
    rintro e w3 ⟨rfl, hb3⟩
    go_wp2
    go_ret
    exact ⟨rfl, (((((Ext.refl _).alloc _).alloc _).trans hb1).trans hb2).trans hb3⟩

theorem lim_facts {s n d x : Int} (h0 : 0 ≤ s) (h1 : s ≤ 9999999) (h : Tim.ok n d x) : s + x ≤ Tim.lim s n d x ∧ Tim.lim s n d x ≤ 8000000000 ∧ (n = d → Tim.lim s n d x = s + x) := by
  obtain ⟨g1, g2, g3, g4, g5, g6⟩ := h
  refine ⟨?_, ?_, ?_⟩
  · have := Tim.ceil_ge h0 (show 0 < d by omega) g3
    unfold Tim.lim; omega
  · have hp := Tim.prod_bd h0 h1 (show 0 ≤ n by omega) (show n ≤ 400 by omega)
    have := Int.ediv_le_self (a := s * n + d - 1) d (by omega)
    unfold Tim.lim; omega
  · intro e
    subst e
    unfold Tim.lim
    rw [Tim.ceil_one (by omega)]

/-- What the combination's limit is good for. -/
theorem comb_facts {s an ad ax bn bd bx : Int} (h0 : 0 ≤ s) (ha : Tim.ok an ad ax) (hb : Tim.ok bn bd bx) (hc : Tim.ok (Tim.cn an ad bn bd) (Tim.cd an ad bn bd) (ax + bx)) :
    Tim.lim s an ad ax ≤ Tim.lim s (Tim.cn an ad bn bd) (Tim.cd an ad bn bd) (ax + bx) := by
  obtain ⟨m1, m2, m3, m4⟩ := Tim.ok_prod ha hb
  have hx := Tim.cross (an := an) (ad := ad) (bn := bn) (bd := bd) (by omega) (by omega)
  obtain ⟨g1, g2, g3, g4, g5, g6⟩ := ha
  obtain ⟨k1, k2, k3, k4, k5, k6⟩ := hb
  obtain ⟨c1, c2, c3, c4, c5, c6⟩ := hc
  generalize Tim.cn an ad bn bd = P at *
  generalize Tim.cd an ad bn bd = Q at *
  have key : an * Q ≤ P * ad := by
    have e1 : an * Q * bd ≤ an * Q * bn := Int.mul_le_mul_of_nonneg_left k3 (Int.mul_nonneg (by omega) (by omega))
    have e2 : an * Q * bn = P * ad * bd := by
      rw [Int.mul_assoc P, hx, Int.mul_comm an Q, Int.mul_assoc]
    exact Int.le_of_mul_le_mul_right (e2 ▸ e1) (by omega)
  have := Tim.ceil_mono (s := s) (n := an) (d := ad) (n' := P) (d' := Q) h0 (by omega) (by omega) key
  unfold Tim.lim
  omega

theorem mul3 {a b c : Int} {p q r : Nat} (a0 : 0 ≤ a) (a1 : a ≤ p) (b0 : 0 ≤ b) (b1 : b ≤ q) (c0 : 0 ≤ c) (c1 : c ≤ r) : 0 ≤ a * b ∧ a * b ≤ (p * q : Nat) ∧ 0 ≤ a * b * c ∧ a * b * c ≤ (p * q * r : Nat) := by
  have h1 := Tim.prod_nat a0 a1 b0 b1
  have h2 := Tim.prod_nat h1.1 h1.2 c0 c1
  exact ⟨h1.1, h1.2, h2.1, h2.2⟩

set_option maxRecDepth 100000 in
set_option maxHeartbeats 1600000 in
theorem never_yes (s an ad ax bn bd bx : Int) (w : World) (h0 : 0 ≤ s) (h1 : s ≤ 9999999) (ha : Tim.ok an ad ax) (hb : Tim.ok bn bd bx) (hc : Tim.ok (Tim.cn an ad bn bd) (Tim.cd an ad bn bd) (ax + bx)) :
    Calls Try.prog 4 #[.int .i64 s, .agg #[.int .i64 an, .int .i64 ad, .int .i64 ax], .agg #[.int .i64 bn, .int .i64 bd, .int .i64 bx]] w fun e w' =>
      e = .returned (.bool true) ∧ Ext w w' := by
  have HA := Lib.hid ha
  have HB := Lib.hid hb
  have HC := Lib.hid hc
  obtain ⟨la1, la2, la3⟩ := lim_facts h0 h1 ha
  obtain ⟨lb1, lb2, -⟩ := lim_facts h0 h1 hb
  obtain ⟨lc1, lc2, -⟩ := lim_facts h0 h1 hc
  have m1 := comb_facts h0 ha hb hc
  have m2 : Tim.lim s bn bd bx ≤ Tim.lim s (Tim.cn an ad bn bd) (Tim.cd an ad bn bd) (ax + bx) := by
    have := comb_facts (s := s) (an := bn) (ad := bd) (ax := bx) (bn := an) (bd := ad) (bx := ax) h0 hb ha (by rw [Tim.cn_comm, Tim.cd_comm, Int.add_comm]; exact hc)
    rwa [Tim.cn_comm bn, Tim.cd_comm bn, Int.add_comm bx] at this
  have hx := Tim.cross (an := an) (ad := ad) (bn := bn) (bd := bd) (Int.le_trans (by decide) (Tim.ok_prod ha hb).1) (Int.le_trans (by decide) (Tim.ok_prod ha hb).2.2.1)
  have c1 : ∀ w : World, Calls Try.prog 12 #[.agg #[.int .i64 an, .int .i64 ad, .int .i64 ax], .agg #[.int .i64 bn, .int .i64 bd, .int .i64 bx]] w fun e w' =>
      e = .returned (.tuple #[.agg #[.int .i64 (Tim.cn an ad bn bd), .int .i64 (Tim.cd an ad bn bd), .int .i64 (ax + bx)], .int .i64 0]) ∧ Ext w w' := fun w => tcomb_yes an ad ax bn bd bx w ha hb hc
  have c2 : ∀ w : World, Calls Try.prog 12 #[.agg #[.int .i64 bn, .int .i64 bd, .int .i64 bx], .agg #[.int .i64 an, .int .i64 ad, .int .i64 ax]] w fun e w' =>
      e = .returned (.tuple #[.agg #[.int .i64 (Tim.cn an ad bn bd), .int .i64 (Tim.cd an ad bn bd), .int .i64 (ax + bx)], .int .i64 0]) ∧ Ext w w' := fun w => by
    have := tcomb_yes bn bd bx an ad ax w hb ha (by rw [Tim.cn_comm, Tim.cd_comm, Int.add_comm]; exact hc)
    rwa [Tim.cn_comm bn, Tim.cd_comm bn, Int.add_comm bx] at this
  generalize Tim.cn an ad bn bd = P at *
  generalize Tim.cd an ad bn bd = Q at *
  have C1 := Lib.hid c1
  have C2 := Lib.hid c2
  obtain ⟨g1, g2, g3, g4, g5, g6⟩ := ha
  obtain ⟨k1, k2, k3, k4, k5, k6⟩ := hb
  obtain ⟨i1, i2, i3, i4, i5, i6⟩ := hc
  obtain ⟨t1, t2, t3, t4⟩ := mul3 (a := P) (b := ad) (c := bd) (p := 400) (q := 100) (r := 100) (by omega) (by omega) (by omega) (by omega) (by omega) (by omega)
  obtain ⟨t5, t6, t7, t8⟩ := mul3 (a := Q) (b := an) (c := bn) (p := 100) (q := 400) (r := 400) (by omega) (by omega) (by omega) (by omega) (by omega) (by omega)
  have bx1 : (P * ad * bd == Q * an * bn) = true := by rw [Int.mul_assoc P, hx, Int.mul_assoc]; simp
  have bx2 : (ax + bx == ax + bx) = true := by simp
  have hcase : ((an == ad) = true ∧ (Tim.lim s an ad ax != s + ax) = false) ∨ (an == ad) = false := by
    by_cases e : an = ad
    · exact Or.inl ⟨by simp [e], by simp [la3 e]⟩
    · exact Or.inr (by simp [e])
  simp only [Nat.reduceMul] at t2 t4 t6 t8
  clear c1 c2 hx la3
  go_enter Try.func4, Try.ntmps4
  go_wp2_with fail
  refine (tvalid_yes _ _ _ _ HA.out).mono ?_
  rintro e w1 ⟨rfl, hb1⟩
  obtain ⟨hc1, hf1⟩ := hb1.cells
  have hz1 := hb1.size
  simp at hz1
  have z10 : w.heap.size < w1.heap.size := by omega
  have z11 : w.heap.size + 1 < w1.heap.size := by omega
  go_wp2_with fail
  refine (tvalid_yes _ _ _ _ HB.out).mono ?_
  rintro e w2 ⟨rfl, hb2⟩
  obtain ⟨hc2, hf2⟩ := hb2.cells
  have hz2 := hb2.size
  have z20 : w.heap.size < w2.heap.size := by omega
  have z21 : w.heap.size + 1 < w2.heap.size := by omega
  go_wp2_with fail
  refine (tlimit_yes _ _ _ _ _ HA.out h0 h1).mono ?_
  rintro e w3 ⟨rfl, hb3⟩
  obtain ⟨hc3, hf3⟩ := hb3.cells
  have hz3 := hb3.size
  have z30 : w.heap.size < w3.heap.size := by omega
  have z31 : w.heap.size + 1 < w3.heap.size := by omega
  go_wp2_with fail
  refine (tlimit_yes _ _ _ _ _ HB.out h0 h1).mono ?_
  rintro e w4 ⟨rfl, hb4⟩
  obtain ⟨hc4, hf4⟩ := hb4.cells
  have hz4 := hb4.size
  have z40 : w.heap.size < w4.heap.size := by omega
  have z41 : w.heap.size + 1 < w4.heap.size := by omega
  have hs4 : Ext w w4 := ((((((Ext.refl _).alloc _).alloc _).trans hb1).trans hb2).trans hb3).trans hb4
  rcases hcase with ⟨e1, e2⟩ | e1
  all_goals
    go_wp2_with fail
    refine (C1.out _).mono ?_
    rintro e w5 ⟨rfl, hb5⟩
    obtain ⟨hc5, hf5⟩ := hb5.cells
    have hz5 := hb5.size
    have z50 : w.heap.size < w5.heap.size := by omega
    have z51 : w.heap.size + 1 < w5.heap.size := by omega
    go_wp2_with fail
    refine (C2.out _).mono ?_
    rintro e w6 ⟨rfl, hb6⟩
    obtain ⟨hc6, hf6⟩ := hb6.cells
    have hz6 := hb6.size
    simp at hz6
    have z60 : w.heap.size < w6.heap.size := by omega
    have z61 : w.heap.size + 1 < w6.heap.size := by omega
    have z62 : w5.heap.size < w6.heap.size := by omega
    go_wp2_with fail
    refine (tlimit_yes _ _ _ _ _ HC.out h0 h1).mono ?_
    rintro e w7 ⟨rfl, hb7⟩
    obtain ⟨hc7, hf7⟩ := hb7.cells
    have hz7 := hb7.size
    simp at hz7
    have z70 : w.heap.size < w7.heap.size := by omega
    have z71 : w.heap.size + 1 < w7.heap.size := by omega
    have z72 : w5.heap.size < w7.heap.size := by omega
    go_wp2_with fail
    refine (tvalid_yes _ _ _ _ HC.out).mono ?_
    rintro e w8 ⟨rfl, hb8⟩
    obtain ⟨hc8, hf8⟩ := hb8.cells
    have hz8 := hb8.size
    have z80 : w.heap.size < w8.heap.size := by omega
    have z81 : w.heap.size + 1 < w8.heap.size := by omega
    have z82 : w5.heap.size < w8.heap.size := by omega
    go_wp2
    go_ret
    refine ⟨ret_bool (by simp [*]), ?_⟩
    exact ((((((hs4.trans hb5).alloc _).trans hb6).alloc _).trans hb7).trans hb8)

set_option maxRecDepth 100000 in
set_option maxHeartbeats 1600000 in
theorem never_no (s an ad ax bn bd bx : Int) (w : World) (h0 : 0 ≤ s) (h1 : s ≤ 9999999) (ha : Tim.ok an ad ax) (hb : Tim.ok bn bd bx) (hc : ¬ Tim.ok (Tim.cn an ad bn bd) (Tim.cd an ad bn bd) (ax + bx)) :
    Calls Try.prog 4 #[.int .i64 s, .agg #[.int .i64 an, .int .i64 ad, .int .i64 ax], .agg #[.int .i64 bn, .int .i64 bd, .int .i64 bx]] w fun e w' =>
      e = .returned (.bool true) ∧ Ext w w' := by
  have HA := Lib.hid ha
  have HB := Lib.hid hb
  obtain ⟨la1, la2, la3⟩ := lim_facts h0 h1 ha
  obtain ⟨lb1, lb2, -⟩ := lim_facts h0 h1 hb
  have c1 : ∀ w : World, Calls Try.prog 12 #[.agg #[.int .i64 an, .int .i64 ad, .int .i64 ax], .agg #[.int .i64 bn, .int .i64 bd, .int .i64 bx]] w fun e w' =>
      e = .returned (.tuple #[.agg #[.int .i64 0, .int .i64 0, .int .i64 0], .int .i64 3]) ∧ Ext w w' := fun w => tcomb_no an ad ax bn bd bx w (fun h => hc h.2.2)
  have c2 : ∀ w : World, Calls Try.prog 12 #[.agg #[.int .i64 bn, .int .i64 bd, .int .i64 bx], .agg #[.int .i64 an, .int .i64 ad, .int .i64 ax]] w fun e w' =>
      e = .returned (.tuple #[.agg #[.int .i64 0, .int .i64 0, .int .i64 0], .int .i64 3]) ∧ Ext w w' := fun w => tcomb_no bn bd bx an ad ax w (fun h => hc (by have := h.2.2; rwa [Tim.cn_comm bn, Tim.cd_comm bn, Int.add_comm bx] at this))
  have C1 := Lib.hid c1
  have C2 := Lib.hid c2
  obtain ⟨g1, g2, g3, g4, g5, g6⟩ := ha
  obtain ⟨k1, k2, k3, k4, k5, k6⟩ := hb
  have hcase : ((an == ad) = true ∧ (Tim.lim s an ad ax != s + ax) = false) ∨ (an == ad) = false := by
    by_cases e : an = ad
    · exact Or.inl ⟨by simp [e], by simp [la3 e]⟩
    · exact Or.inr (by simp [e])
  clear c1 c2 la3 hc
  go_enter Try.func4, Try.ntmps4
  go_wp2_with fail
  refine (tvalid_yes _ _ _ _ HA.out).mono ?_
  rintro e w1 ⟨rfl, hb1⟩
  obtain ⟨hc1, hf1⟩ := hb1.cells
  have hz1 := hb1.size
  simp at hz1
  have z10 : w.heap.size < w1.heap.size := by omega
  have z11 : w.heap.size + 1 < w1.heap.size := by omega
  go_wp2_with fail
  refine (tvalid_yes _ _ _ _ HB.out).mono ?_
  rintro e w2 ⟨rfl, hb2⟩
  obtain ⟨hc2, hf2⟩ := hb2.cells
  have hz2 := hb2.size
  have z20 : w.heap.size < w2.heap.size := by omega
  have z21 : w.heap.size + 1 < w2.heap.size := by omega
  go_wp2_with fail
  refine (tlimit_yes _ _ _ _ _ HA.out h0 h1).mono ?_
  rintro e w3 ⟨rfl, hb3⟩
  obtain ⟨hc3, hf3⟩ := hb3.cells
  have hz3 := hb3.size
  have z30 : w.heap.size < w3.heap.size := by omega
  have z31 : w.heap.size + 1 < w3.heap.size := by omega
  go_wp2_with fail
  refine (tlimit_yes _ _ _ _ _ HB.out h0 h1).mono ?_
  rintro e w4 ⟨rfl, hb4⟩
  obtain ⟨hc4, hf4⟩ := hb4.cells
  have hz4 := hb4.size
  have z40 : w.heap.size < w4.heap.size := by omega
  have z41 : w.heap.size + 1 < w4.heap.size := by omega
  have hs4 : Ext w w4 := ((((((Ext.refl _).alloc _).alloc _).trans hb1).trans hb2).trans hb3).trans hb4
  rcases hcase with ⟨e1, e2⟩ | e1
  all_goals
    go_wp2_with fail
    refine (C1.out _).mono ?_
    rintro e w5 ⟨rfl, hb5⟩
    obtain ⟨hc5, hf5⟩ := hb5.cells
    have hz5 := hb5.size
    have z50 : w.heap.size < w5.heap.size := by omega
    have z51 : w.heap.size + 1 < w5.heap.size := by omega
    go_wp2_with fail
    refine (C2.out _).mono ?_
    rintro e w6 ⟨rfl, hb6⟩
    obtain ⟨hc6, hf6⟩ := hb6.cells
    have hz6 := hb6.size
    simp at hz6
    have z62 : w5.heap.size < w6.heap.size := by omega
    go_wp2
    go_ret
    refine ⟨ret_bool (by simp), ?_⟩
    exact (((hs4.trans hb5).alloc _).trans hb6).alloc _

theorem timingNever_walk (s an ad ax bn bd bx : Int) (w : World) :
    Calls Try.prog 4 #[.int .i64 s, .agg #[.int .i64 an, .int .i64 ad, .int .i64 ax], .agg #[.int .i64 bn, .int .i64 bd, .int .i64 bx]] w fun e w' =>
      e = .returned (.bool true) ∧ Ext w w' := by
  by_cases hbad : NeverBad s an ad ax bn bd bx
  · exact never_bad s an ad ax bn bd bx w hbad
  · unfold NeverBad at hbad
    have h0 : 0 ≤ s := Decidable.byContradiction fun h => hbad (Or.inl (by omega))
    have h1 : s ≤ 9999999 := Decidable.byContradiction fun h => hbad (Or.inr (Or.inl (by omega)))
    have ha : Tim.ok an ad ax := Decidable.byContradiction fun h => hbad (Or.inr (Or.inr (Or.inl ⟨h0, h1, h⟩)))
    have hb : Tim.ok bn bd bx := Decidable.byContradiction fun h => hbad (Or.inr (Or.inr (Or.inr ⟨h0, h1, ha, h⟩)))
    by_cases hc : Tim.ok (Tim.cn an ad bn bd) (Tim.cd an ad bn bd) (ax + bx)
    · exact never_yes s an ad ax bn bd bx w h0 h1 ha hb hc
    · exact never_no s an ad ax bn bd bx w h0 h1 ha hb hc

theorem timingNever_lifted (os : Os) (started : os.Started) (H : Type) (enc : TypeId × Value → H) :
    ReturnsInHanded {} Try.checked os 4 .any (Rows.timingNeverSpec.pre6 enc Try.prog Try.f4 Rows.timingNeverRow.domain false) (Rows.timingNeverSpec.post enc Try.prog Try.f4 false true false false) := by
  refine returnsInHanded_of_change (C := Try.checked) Try.own started (by kernel_rfl) Try.func4
    (ChangeSpec.witness6 (enc := enc) (C := Try.checked) false ⟨#[], #[.int .i64 0, .agg #[.int .i64 0, .int .i64 0, .int .i64 0], .agg #[.int .i64 0, .int .i64 0, .int .i64 0]], []⟩ 8 (by kernel_rfl) (by kernel_rfl) (by kernel_rfl) (by kernel_rfl)) ?_
  intro W base args ds gs before hval0 hW _ _
  have hval : ∀ (j : Nat) t v, Try.f4.params[j]? = some t → args[j]? = some v → Value.okWide Try.prog W .any base t v := hval0
  have hW' := hW
  obtain ⟨p, q, hA0, hV, rfl, hfz, hnd⟩ := hW
  have hA : DataW.TrodAll enc Try.prog W 0 (fun _ => true) true Try.f4.params.toList args.toList ds p := hA0
  rw [Try.params4] at hA hval
  obtain ⟨v0, v1, v2, d0, d1, d2, p0, p1, p2, rfl, rfl, rfl, h0, h1, h2⟩ := trodAll_three hA
  obtain ⟨rfl, rfl⟩ := trodVars_none hV
  obtain ⟨s, rfl, hd0, rfl, _⟩ := open_int Try.underlying3 (hval 0 3 v0 rfl rfl) h0
  obtain ⟨an, ad, ax, rfl⟩ := acc_open (hval 1 23 v1 rfl rfl) h1
  obtain ⟨bn, bd, bx, rfl⟩ := acc_open (hval 2 23 v2 rfl rfl) h2
  refine (timingNever_walk s an ad ax bn bd bx W).mono fun e W' ⟨he, hw⟩ => ?_
  subst he
  exact ⟨_, rfl, law_post hW' Try.laidOut (by kernel_rfl) rfl (by rfl) rfl Try.underlying4 hw⟩

theorem timingNever_holds : Rows.TimingNeverSaid :=
  OpenClaim.holds_of_wide 4 Try.f4 rfl rfl rfl rfl rfl rfl rfl ⟨rfl, rfl, rfl, rfl, rfl⟩ rfl rfl rfl rfl rfl (by kernel_rfl) Try.func4 (by kernel_rfl)
    (of_decide_eq_true (by kernel_rfl)) (by unfold Func.isWrapper; first | (rw [if_pos (by decide +kernel)]; kernel_rfl) | (rw [if_neg (by decide +kernel)]; exact ⟨rfl, rfl⟩))
    (fun os started H enc _ => timingNever_lifted os started H enc)
#print axioms timingNever_holds
end Go.Proofs.Ytpdboefaedocfaa
