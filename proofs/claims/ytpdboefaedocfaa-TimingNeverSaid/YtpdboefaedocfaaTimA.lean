/- What timing.Valid, timing.Limit, timing.gcd and timing.Combine, and their counterparts in the reference, compute: contracts for the walk. Conditions: those of each theorem. -/
import Derived.Test.YtpdboefaedocfaaBase
import Derived.Test.YtpdboefaedocfaaTimP
import Derived.Deep.QuietTactic
import Derived.BigQuiet
namespace Go.Proofs.Ytpdboefaedocfaa
open Go.RowKit

set_option maxHeartbeats 400000 in
theorem tvalid_any (n d x : Int) (w : World) :
    Calls Try.prog 10 #[.agg #[.int .i64 n, .int .i64 d, .int .i64 x]] w fun e w' => e = .returned (.int .i64 (Tim.vErr n d x)) ∧ Ext w w' := by
  go_enter Try.func10, Try.ntmps10
  go_wp2
  all_goals
    go_ret
    refine ⟨ret_int ?_, (Ext.refl _).alloc _⟩
    first
    | (rw [Tim.vErr_yes (by unfold Tim.ok; omega)])
    | (rw [Tim.vErr_no (by unfold Tim.ok; omega)])

theorem tvalid_yes (n d x : Int) (w : World) (h : Tim.ok n d x) :
    Calls Try.prog 10 #[.agg #[.int .i64 n, .int .i64 d, .int .i64 x]] w fun e w' => e = .returned (.int .i64 0) ∧ Ext w w' :=
  (tvalid_any n d x w).mono fun _ _ ⟨he, hw⟩ => ⟨by rw [he, Tim.vErr_yes h], hw⟩
theorem tvalid_no (n d x : Int) (w : World) (h : ¬ Tim.ok n d x) :
    Calls Try.prog 10 #[.agg #[.int .i64 n, .int .i64 d, .int .i64 x]] w fun e w' => e = .returned (.int .i64 3) ∧ Ext w w' :=
  (tvalid_any n d x w).mono fun _ _ ⟨he, hw⟩ => ⟨by rw [he, Tim.vErr_no h], hw⟩

set_option maxHeartbeats 400000 in
theorem rvalid_any (n d x : Int) (w : World) :
    Calls Try.prog 11 #[.agg #[.int .i64 n, .int .i64 d, .int .i64 x]] w fun e w' => e = .returned (.int .i64 (Tim.vErr n d x)) ∧ Ext w w' := by
  go_enter Try.func11, Try.ntmps11
  go_wp2
  all_goals
    go_ret
    refine ⟨ret_int ?_, (Ext.refl _).alloc _⟩
    first
    | (rw [Tim.vErr_yes (by unfold Tim.ok; omega)])
    | (rw [Tim.vErr_no (by unfold Tim.ok; omega)])

theorem rvalid_yes (n d x : Int) (w : World) (h : Tim.ok n d x) :
    Calls Try.prog 11 #[.agg #[.int .i64 n, .int .i64 d, .int .i64 x]] w fun e w' => e = .returned (.int .i64 0) ∧ Ext w w' :=
  (rvalid_any n d x w).mono fun _ _ ⟨he, hw⟩ => ⟨by rw [he, Tim.vErr_yes h], hw⟩
theorem rvalid_no (n d x : Int) (w : World) (h : ¬ Tim.ok n d x) :
    Calls Try.prog 11 #[.agg #[.int .i64 n, .int .i64 d, .int .i64 x]] w fun e w' => e = .returned (.int .i64 3) ∧ Ext w w' :=
  (rvalid_any n d x w).mono fun _ _ ⟨he, hw⟩ => ⟨by rw [he, Tim.vErr_no h], hw⟩

set_option maxHeartbeats 400000 in
theorem tlimit_yes (s n d x : Int) (w : World) (h : Tim.ok n d x) (h0 : 0 ≤ s) (h1 : s ≤ 9999999) :
    Calls Try.prog 8 #[.int .i64 s, .agg #[.int .i64 n, .int .i64 d, .int .i64 x]] w fun e w' => e = .returned (.tuple #[.int .i64 (Tim.lim s n d x), .int .i64 0]) ∧ Ext w w' := by
  have H := Lib.hid h
  obtain ⟨g1, g2, g3, g4, g5, g6⟩ := h
  obtain ⟨p1, p2⟩ := Tim.prod_bd h0 h1 (show 0 ≤ n by omega) (show n ≤ 400 by omega)
  have q1 : 0 ≤ (s * n + d - 1) / d := Int.ediv_nonneg (by omega) (by omega)
  have q2 : (s * n + d - 1) / d ≤ 4000000000 := Int.le_trans (Int.ediv_le_self _ (by omega)) (by omega)
  go_enter Try.func8, Try.ntmps8
  go_wp2_with fail
  refine (tvalid_yes n d x _ H.out).mono ?_
  rintro e w1 ⟨rfl, hb1⟩
  obtain ⟨hc1, hf1⟩ := hb1.cells
  go_wp2
  go_quiet (fail)
  go_wp2
  go_ret2
  exact ⟨rfl, (((Ext.refl _).alloc _).trans hb1).drewN _⟩

set_option maxHeartbeats 400000 in
theorem tlimit_no (s n d x : Int) (w : World) (h : ¬ (Tim.ok n d x ∧ 0 ≤ s ∧ s ≤ 9999999)) :
    Calls Try.prog 8 #[.int .i64 s, .agg #[.int .i64 n, .int .i64 d, .int .i64 x]] w fun e w' => e = .returned (.tuple #[.int .i64 0, .int .i64 3]) ∧ Ext w w' := by
  by_cases hv : Tim.ok n d x
  · have H := Lib.hid hv
    have hs : s < 0 ∨ 9999999 < s := Decidable.byContradiction fun hn => h ⟨hv, by omega, by omega⟩
    clear h hv
    go_enter Try.func8, Try.ntmps8
    go_wp2_with fail
    refine (tvalid_yes n d x _ H.out).mono ?_
    rintro e w1 ⟨rfl, hb1⟩
    rcases hs with hs | hs
    · go_wp2
      go_ret2
      exact ⟨rfl, ((Ext.refl _).alloc _).trans hb1⟩
    · go_wp2
      go_ret2
      exact ⟨rfl, ((Ext.refl _).alloc _).trans hb1⟩
  · have H := Lib.hid hv
    clear h hv
    go_enter Try.func8, Try.ntmps8
    go_wp2_with fail
    refine (tvalid_no n d x _ H.out).mono ?_
    rintro e w1 ⟨rfl, hb1⟩
    go_wp2
    go_ret2
    exact ⟨rfl, ((Ext.refl _).alloc _).trans hb1⟩

set_option maxHeartbeats 400000 in
theorem tgcd_any (a b : Nat) (w : World) (ha : a ≤ 1000000000) (hb : b ≤ 1000000000) :
    Calls Try.prog 24 #[.int .i64 a, .int .i64 b] w fun e w' => e = .returned (.int .i64 (Nat.gcd a b : Nat)) ∧ Ext w w' := by
  go_enter Try.func24, Try.ntmps24
  go_wp2
  go_loopw [0, 1] (fun x y wr => ∃ p q : Nat, p ≤ 1000000000 ∧ q ≤ 1000000000 ∧ x = .int .i64 p ∧ y = .int .i64 q ∧ Nat.gcd p q = Nat.gcd a b ∧ Ext w wr) (fun _ y _ => (intOf y).toNat)
  case atStart => exact ⟨a, b, ha, hb, rfl, rfl, rfl, Ext.refl _⟩
  case round =>
    obtain ⟨p, q, hp, hq, rfl, rfl, hg, he⟩ := hrel
    have HG := Lib.hid hg
    clear hg
    by_cases h0 : q = 0
    · have hb : ((q : Int) != 0) = false := by simp [h0]
      have H0 := Lib.hid h0
      clear h0
      go_wp2
      go_ret
      exact ⟨ret_int (by rw [← HG.out, H0.out, Nat.gcd_zero_right]), he⟩
    · have hb : ((q : Int) != 0) = true := by simp [h0]
      have h1 : 1 ≤ (q : Int) := by omega
      have h2 : (p : Int) % (q : Int) < q := Int.emod_lt_of_pos _ (by omega)
      clear h0
      go_wp2
      go_quiet (fail)
      go_wp2
      go_roundw
      case rel =>
        refine ⟨q, p % q, hq, ?_, rfl, by rw [Int.natCast_emod], ?_, he.drewN _⟩
        · have := Nat.mod_lt p (show 0 < q by omega)
          omega
        · rw [← HG.out, Nat.gcd_comm q, ← Nat.gcd_rec, Nat.gcd_comm]
      case measure =>
        have := Nat.mod_lt p (show 0 < q by omega)
        rw [← Int.natCast_emod]
        simp [intOf]; omega

set_option maxHeartbeats 400000 in
theorem rlimit_yes (s n d x : Int) (w : World) (h : Tim.ok n d x) (h0 : 0 ≤ s) (h1 : s ≤ 9999999) :
    Calls Try.prog 9 #[.int .i64 s, .agg #[.int .i64 n, .int .i64 d, .int .i64 x]] w fun e w' => e = .returned (.tuple #[.int .i64 (Tim.lim s n d x), .int .i64 0]) ∧ Ext w w' := by
  have H := Lib.hid h
  obtain ⟨g1, g2, g3, g4, g5, g6⟩ := h
  obtain ⟨p1, p2⟩ := Tim.prod_bd h0 h1 (show 0 ≤ n by omega) (show n ≤ 400 by omega)
  have q1 : 0 ≤ (s * n + d - 1) / d := Int.ediv_nonneg (by omega) (by omega)
  have q2 : (s * n + d - 1) / d ≤ 4000000000 := Int.le_trans (Int.ediv_le_self _ (by omega)) (by omega)
  go_enter Try.func9, Try.ntmps9
  go_wp2_with fail
  refine (rvalid_yes n d x _ H.out).mono ?_
  rintro e w1 ⟨rfl, hb1⟩
  obtain ⟨hc1, hf1⟩ := hb1.cells
  go_wp2
  go_quiet (fail)
  go_wp2
  go_ret2
  exact ⟨rfl, (((Ext.refl _).alloc _).trans hb1).drewN _⟩

set_option maxHeartbeats 400000 in
theorem rlimit_no (s n d x : Int) (w : World) (h : ¬ (Tim.ok n d x ∧ 0 ≤ s ∧ s ≤ 9999999)) :
    Calls Try.prog 9 #[.int .i64 s, .agg #[.int .i64 n, .int .i64 d, .int .i64 x]] w fun e w' => e = .returned (.tuple #[.int .i64 0, .int .i64 3]) ∧ Ext w w' := by
  by_cases hv : Tim.ok n d x
  · have H := Lib.hid hv
    have hs : s < 0 ∨ 9999999 < s := Decidable.byContradiction fun hn => h ⟨hv, by omega, by omega⟩
    clear h hv
    go_enter Try.func9, Try.ntmps9
    go_wp2_with fail
    refine (rvalid_yes n d x _ H.out).mono ?_
    rintro e w1 ⟨rfl, hb1⟩
    rcases hs with hs | hs
    · go_wp2
      go_ret2
      exact ⟨rfl, ((Ext.refl _).alloc _).trans hb1⟩
    · go_wp2
      go_ret2
      exact ⟨rfl, ((Ext.refl _).alloc _).trans hb1⟩
  · have H := Lib.hid hv
    clear h hv
    go_enter Try.func9, Try.ntmps9
    go_wp2_with fail
    refine (rvalid_no n d x _ H.out).mono ?_
    rintro e w1 ⟨rfl, hb1⟩
    go_wp2
    go_ret2
    exact ⟨rfl, ((Ext.refl _).alloc _).trans hb1⟩

theorem tgcd_int (a b : Int) (w : World) (ha0 : 0 ≤ a) (ha : a ≤ 1000000000) (hb0 : 0 ≤ b) (hb : b ≤ 1000000000) :
    Calls Try.prog 24 #[.int .i64 a, .int .i64 b] w fun e w' => e = .returned (.int .i64 (Nat.gcd a.toNat b.toNat : Nat)) ∧ Ext w w' := by
  obtain ⟨p, rfl⟩ := Int.eq_ofNat_of_zero_le ha0
  obtain ⟨q, rfl⟩ := Int.eq_ofNat_of_zero_le hb0
  rw [Int.toNat_natCast, Int.toNat_natCast]
  exact tgcd_any p q w (by omega) (by omega)

set_option maxHeartbeats 400000 in
theorem tcomb_yes (an ad ax bn bd bx : Int) (w : World) (ha : Tim.ok an ad ax) (hb : Tim.ok bn bd bx) (hc : Tim.ok (Tim.cn an ad bn bd) (Tim.cd an ad bn bd) (ax + bx)) :
    Calls Try.prog 12 #[.agg #[.int .i64 an, .int .i64 ad, .int .i64 ax], .agg #[.int .i64 bn, .int .i64 bd, .int .i64 bx]] w fun e w' =>
      e = .returned (.tuple #[.agg #[.int .i64 (Tim.cn an ad bn bd), .int .i64 (Tim.cd an ad bn bd), .int .i64 (ax + bx)], .int .i64 0]) ∧ Ext w w' := by
  have HA := Lib.hid ha
  have HB := Lib.hid hb
  have HC := Lib.hid hc
  obtain ⟨m1, m2, m3, m4⟩ := Tim.ok_prod ha hb
  have hg1 := Tim.cg_pos (an := an) (bn := bn) m3
  have x1 := ha.2.2.2.2
  have x2 := hb.2.2.2.2
  clear ha hb hc
  go_enter Try.func12, Try.ntmps12
  go_wp2_with fail
  refine (tvalid_yes an ad ax _ HA.out).mono ?_
  rintro e w1 ⟨rfl, hb1⟩
  obtain ⟨hc1, hf1⟩ := hb1.cells
  go_wp2_with fail
  refine (tvalid_yes bn bd bx _ HB.out).mono ?_
  rintro e w2 ⟨rfl, hb2⟩
  obtain ⟨hc2, hf2⟩ := hb2.cells
  have hz1 := hb1.size
  have hz2 := hb2.size
  simp at hz1
  have z10 : w.heap.size < w1.heap.size := by omega
  have z11 : w.heap.size + 1 < w1.heap.size := by omega
  have z12 : w.heap.size + 1 + 1 < w1.heap.size := by omega
  have z20 : w.heap.size < w2.heap.size := by omega
  have z21 : w.heap.size + 1 < w2.heap.size := by omega
  have z22 : w.heap.size + 1 + 1 < w2.heap.size := by omega
  go_wp2
  go_quiet (fail)
  go_wp2_with fail
  refine (tgcd_int (an * bn) (ad * bd) _ (by omega) (by omega) (by omega) (by omega)).mono ?_
  rintro e w3 ⟨rfl, hb3⟩
  replace hb3 := hb3.undrewN
  have hcn : Tim.cg an ad bn bd = (Nat.gcd (an * bn).toNat (ad * bd).toNat : Nat) := rfl
  rw [← hcn]
  clear hcn
  obtain ⟨hc3, hf3⟩ := hb3.cells
  have hz3 := hb3.size
  have z30 : w.heap.size < w3.heap.size := by omega
  have z31 : w.heap.size + 1 < w3.heap.size := by omega
  have z32 : w.heap.size + 1 + 1 < w3.heap.size := by omega
  have q1 : 0 ≤ an * bn / Tim.cg an ad bn bd := Int.ediv_nonneg (by omega) (by omega)
  have q2 : an * bn / Tim.cg an ad bn bd ≤ 160000 := Int.le_trans (Int.ediv_le_self _ (by omega)) (by omega)
  have q3 : 0 ≤ ad * bd / Tim.cg an ad bn bd := Int.ediv_nonneg (by omega) (by omega)
  have q4 : ad * bd / Tim.cg an ad bn bd ≤ 10000 := Int.le_trans (Int.ediv_le_self _ (by omega)) (by omega)
  go_wp2
  go_region
  go_wp2_with fail
  refine (tvalid_yes (an * bn / Tim.cg an ad bn bd) (ad * bd / Tim.cg an ad bn bd) (ax + bx) _ HC.out).mono ?_
  rintro e w4 ⟨rfl, hb4⟩
  replace hb4 := hb4.undrew
  have hz4 := hb4.size
  simp at hz4
  obtain ⟨hc4, hf4⟩ := hb4.cells
  have z40 : w.heap.size < w4.heap.size := by omega
  have z41 : w.heap.size + 1 < w4.heap.size := by omega
  have z42 : w.heap.size + 1 + 1 < w4.heap.size := by omega
  go_wp2
  refine bodyPost_ret (v := .tuple #[.agg #[.int .i64 (an * bn / Tim.cg an ad bn bd), .int .i64 (ad * bd / Tim.cg an ad bn bd), .int .i64 (ax + bx)], .int .i64 0]) (by simp [results, Try.results12, go_sem, *]) rfl ⟨rfl, ?_⟩
  have hh : Ext w w4 := (((((((Ext.refl _).alloc _).alloc _).alloc _).trans hb1).trans hb2).trans hb3 |>.alloc _).trans hb4
  exact ((hh.setCell (by simp; omega) _).setCell (by simp; omega) _).setCell (by simp; omega) _
end Go.Proofs.Ytpdboefaedocfaa
