/- timing.Combine where it refuses, and the reference's Combine: contracts for the walk. Conditions: those of each theorem. -/
import Derived.Test.YtpdboefaedocfaaTimA
namespace Go.Proofs.Ytpdboefaedocfaa
open Go.RowKit

set_option maxHeartbeats 400000 in
theorem tcomb_no (an ad ax bn bd bx : Int) (w : World) (h : ¬ (Tim.ok an ad ax ∧ Tim.ok bn bd bx ∧ Tim.ok (Tim.cn an ad bn bd) (Tim.cd an ad bn bd) (ax + bx))) :
    Calls Try.prog 12 #[.agg #[.int .i64 an, .int .i64 ad, .int .i64 ax], .agg #[.int .i64 bn, .int .i64 bd, .int .i64 bx]] w fun e w' =>
      e = .returned (.tuple #[.agg #[.int .i64 0, .int .i64 0, .int .i64 0], .int .i64 3]) ∧ Ext w w' := by
  by_cases ha : Tim.ok an ad ax
  · by_cases hb : Tim.ok bn bd bx
    · have hc : ¬ Tim.ok (Tim.cn an ad bn bd) (Tim.cd an ad bn bd) (ax + bx) := fun hc => h ⟨ha, hb, hc⟩
      have HA := Lib.hid ha
      have HB := Lib.hid hb
      have HC := Lib.hid hc
      obtain ⟨m1, m2, m3, m4⟩ := Tim.ok_prod ha hb
      have hg1 := Tim.cg_pos (an := an) (bn := bn) m3
      have x1 := ha.2.2.2.2
      have x2 := hb.2.2.2.2
      clear ha hb hc h
      go_enter Try.func12, Try.ntmps12
      go_wp2_with fail
      refine (tvalid_yes an ad ax _ HA.out).mono ?_
      rintro e w1 ⟨rfl, hb1⟩
      obtain ⟨hc1, hf1⟩ := hb1.cells
      go_wp2_with fail
      refine (tvalid_yes bn bd bx _ HB.out).mono ?_
      rintro e w2 ⟨rfl, hb2⟩
      obtain ⟨hc2, hf2⟩ := hb2.cells
      have hz1 := hb1.size
      have hz2 := hb2.size
      simp at hz1
      have z10 : w.heap.size < w1.heap.size := by omega
      have z11 : w.heap.size + 1 < w1.heap.size := by omega
      have z12 : w.heap.size + 1 + 1 < w1.heap.size := by omega
      have z20 : w.heap.size < w2.heap.size := by omega
      have z21 : w.heap.size + 1 < w2.heap.size := by omega
      have z22 : w.heap.size + 1 + 1 < w2.heap.size := by omega
      go_wp2
      go_quiet (fail)
      go_wp2_with fail
      refine (tgcd_int (an * bn) (ad * bd) _ (by omega) (by omega) (by omega) (by omega)).mono ?_
      rintro e w3 ⟨rfl, hb3⟩
      replace hb3 := hb3.undrewN
      have hcn : Tim.cg an ad bn bd = (Nat.gcd (an * bn).toNat (ad * bd).toNat : Nat) := rfl
      rw [← hcn]
      clear hcn
      obtain ⟨hc3, hf3⟩ := hb3.cells
      have hz3 := hb3.size
      have z30 : w.heap.size < w3.heap.size := by omega
      have z31 : w.heap.size + 1 < w3.heap.size := by omega
      have z32 : w.heap.size + 1 + 1 < w3.heap.size := by omega
      have q1 : 0 ≤ an * bn / Tim.cg an ad bn bd := Int.ediv_nonneg (by omega) (by omega)
      have q2 : an * bn / Tim.cg an ad bn bd ≤ 160000 := Int.le_trans (Int.ediv_le_self _ (by omega)) (by omega)
      have q3 : 0 ≤ ad * bd / Tim.cg an ad bn bd := Int.ediv_nonneg (by omega) (by omega)
      have q4 : ad * bd / Tim.cg an ad bn bd ≤ 10000 := Int.le_trans (Int.ediv_le_self _ (by omega)) (by omega)
      go_wp2
      go_region
      go_wp2_with fail
      refine (tvalid_no (an * bn / Tim.cg an ad bn bd) (ad * bd / Tim.cg an ad bn bd) (ax + bx) _ HC.out).mono ?_
      rintro e w4 ⟨rfl, hb4⟩
      replace hb4 := hb4.undrew
      have hz4 := hb4.size
      simp at hz4
      obtain ⟨hc4, hf4⟩ := hb4.cells
      have z40 : w.heap.size < w4.heap.size := by omega
      have z41 : w.heap.size + 1 < w4.heap.size := by omega
      have z42 : w.heap.size + 1 + 1 < w4.heap.size := by omega
      go_wp2
      refine bodyPost_ret (v := .tuple #[.agg #[.int .i64 0, .int .i64 0, .int .i64 0], .int .i64 3]) (by simp [results, Try.results12, go_sem, *]) rfl ⟨rfl, ?_⟩
      have hh : Ext w w4 := (((((((Ext.refl _).alloc _).alloc _).alloc _).trans hb1).trans hb2).trans hb3 |>.alloc _).trans hb4
      exact ((hh.setCell (by simp; omega) _).setCell (by simp; omega) _).setCell (by simp; omega) _
    · have HA := Lib.hid ha
      have HB := Lib.hid hb
      clear ha hb h
      go_enter Try.func12, Try.ntmps12
      go_wp2_with fail
      refine (tvalid_yes an ad ax _ HA.out).mono ?_
      rintro e w1 ⟨rfl, hb1⟩
      obtain ⟨hc1, hf1⟩ := hb1.cells
      go_wp2_with fail
      refine (tvalid_no bn bd bx _ HB.out).mono ?_
      rintro e w2 ⟨rfl, hb2⟩
      obtain ⟨hc2, hf2⟩ := hb2.cells
      have hz1 := hb1.size
      have hz2 := hb2.size
      simp at hz1
      have z12 : w.heap.size + 1 + 1 < w1.heap.size := by omega
      have z22 : w.heap.size + 1 + 1 < w2.heap.size := by omega
      go_wp2
      refine bodyPost_ret (v := .tuple #[.agg #[.int .i64 0, .int .i64 0, .int .i64 0], .int .i64 3]) (by simp [results, Try.results12, go_sem, *]) rfl ⟨rfl, ?_⟩
      have hh : Ext w w2 := (((((Ext.refl _).alloc _).alloc _).alloc _).trans hb1).trans hb2
      exact ((hh.setCell (by simp; omega) _).setCell (by simp; omega) _).setCell (by simp; omega) _
  · have HA := Lib.hid ha
    clear ha h
    go_enter Try.func12, Try.ntmps12
    go_wp2_with fail
    refine (tvalid_no an ad ax _ HA.out).mono ?_
    rintro e w1 ⟨rfl, hb1⟩
    obtain ⟨hc1, hf1⟩ := hb1.cells
    have hz1 := hb1.size
    simp at hz1
    have z12 : w.heap.size + 1 + 1 < w1.heap.size := by omega
    go_wp2
    refine bodyPost_ret (v := .tuple #[.agg #[.int .i64 0, .int .i64 0, .int .i64 0], .int .i64 3]) (by simp [results, Try.results12, go_sem, *]) rfl ⟨rfl, ?_⟩
    have hh : Ext w w1 := ((((Ext.refl _).alloc _).alloc _).alloc _).trans hb1
    exact ((hh.setCell (by simp; omega) _).setCell (by simp; omega) _).setCell (by simp; omega) _

set_option maxHeartbeats 800000 in
theorem rcomb_yes (an ad ax bn bd bx : Int) (w : World) (ha : Tim.ok an ad ax) (hb : Tim.ok bn bd bx) (hc : Tim.ok (Tim.cn an ad bn bd) (Tim.cd an ad bn bd) (ax + bx)) :
    Calls Try.prog 13 #[.agg #[.int .i64 an, .int .i64 ad, .int .i64 ax], .agg #[.int .i64 bn, .int .i64 bd, .int .i64 bx]] w fun e w' =>
      e = .returned (.tuple #[.agg #[.int .i64 (Tim.cn an ad bn bd), .int .i64 (Tim.cd an ad bn bd), .int .i64 (ax + bx)], .int .i64 0]) ∧ Ext w w' := by
  have HA := Lib.hid ha
  have HB := Lib.hid hb
  have HC := Lib.hid hc
  obtain ⟨m1, m2, m3, m4⟩ := Tim.ok_prod ha hb
  have x1 := ha.2.2.2.2
  have x2 := hb.2.2.2.2
  clear ha hb hc
  obtain ⟨N, hN⟩ := Int.eq_ofNat_of_zero_le (show 0 ≤ an * bn by omega)
  obtain ⟨D, hD⟩ := Int.eq_ofNat_of_zero_le (show 0 ≤ ad * bd by omega)
  have HN := Lib.hid hN
  have HD := Lib.hid hD
  have n1 : 1 ≤ N := by omega
  have n2 : N ≤ 160000 := by omega
  have d1 : 1 ≤ D := by omega
  have d2 : D ≤ 10000 := by omega
  clear hN hD
  go_enter Try.func13, Try.ntmps13
  go_wp2_with fail
  refine (rvalid_yes an ad ax _ HA.out).mono ?_
  rintro e w1 ⟨rfl, hb1⟩
  obtain ⟨hc1, hf1⟩ := hb1.cells
  go_wp2_with fail
  refine (rvalid_yes bn bd bx _ HB.out).mono ?_
  rintro e w2 ⟨rfl, hb2⟩
  obtain ⟨hc2, hf2⟩ := hb2.cells
  have hz1 := hb1.size
  have hz2 := hb2.size
  simp at hz1
  have z10 : w.heap.size < w1.heap.size := by omega
  have z11 : w.heap.size + 1 < w1.heap.size := by omega
  have z12 : w.heap.size + 1 + 1 < w1.heap.size := by omega
  have z20 : w.heap.size < w2.heap.size := by omega
  have z21 : w.heap.size + 1 < w2.heap.size := by omega
  have z22 : w.heap.size + 1 + 1 < w2.heap.size := by omega
  go_wp2
  go_quiet (fail)
  rw [HN.out, HD.out]
  go_wp2
  go_loopw [6, 7, 8] (fun x y z wr => ∃ p q d : Nat, p ≤ 160000 ∧ q ≤ 10000 ∧ d ≤ 10000 ∧ x = .int .i64 p ∧ y = .int .i64 q ∧ z = .int .i64 d ∧ Tim.Kept N D p q d ∧ Ext w2 wr) (fun _ _ z _ => (intOf z).toNat)
  case atStart => exact ⟨N, D, D, by omega, by omega, by omega, rfl, rfl, rfl, Tim.kept_start d1, (Ext.refl _).drewN _⟩
  case round =>
    obtain ⟨p, q, d, hp, hq, hd, rfl, rfl, rfl, hk, he⟩ := hrel
    have HK := Lib.hid hk
    clear hk
    by_cases h1 : 1 < d
    · have hi1 : 1 < (d : Int) := by omega
      by_cases hm1 : p % d = 0
      · have b1 : ((p : Int) % (d : Int) == 0) = true := by rw [← Int.natCast_emod, hm1]; rfl
        by_cases hm2 : q % d = 0
        · have b2 : ((q : Int) % (d : Int) == 0) = true := by rw [← Int.natCast_emod, hm2]; rfl
          have HK2 := Lib.hid (Tim.kept_yes HK.out h1 hm1 hm2)
          have hp2 : p / d ≤ 160000 := Nat.le_trans (Nat.div_le_self _ _) hp
          have hq2 : q / d ≤ 10000 := Nat.le_trans (Nat.div_le_self _ _) hq
          have hp3 : (p : Int) / (d : Int) ≤ 160000 := by rw [← Int.natCast_ediv]; omega
          have hq3 : (q : Int) / (d : Int) ≤ 10000 := by rw [← Int.natCast_ediv]; omega
          have hp4 : 0 ≤ (p : Int) / (d : Int) := by rw [← Int.natCast_ediv]; exact Int.natCast_nonneg _
          have hq4 : 0 ≤ (q : Int) / (d : Int) := by rw [← Int.natCast_ediv]; exact Int.natCast_nonneg _
          clear hm1 hm2
          go_wp2
          go_quiet (fail)
          go_wp2
          go_roundw
          case rel => exact ⟨p / d, q / d, d - 1, hp2, hq2, by omega, by rw [Int.natCast_ediv], by rw [Int.natCast_ediv], by go_num, HK2.out, he.drewN _⟩
          case measure => simp [intOf]; omega
        · have b2 : ((q : Int) % (d : Int) == 0) = false := by rw [← Int.natCast_emod]; simp; omega
          have HK2 := Lib.hid (Tim.kept_no HK.out (fun h => hm2 h.2))
          clear hm1 hm2
          go_wp2
          go_roundw
          case rel => exact ⟨p, q, d - 1, hp, hq, by omega, rfl, rfl, by go_num, HK2.out, he⟩
          case measure => simp [intOf]; omega
      · have b1 : ((p : Int) % (d : Int) == 0) = false := by rw [← Int.natCast_emod]; simp; omega
        have HK2 := Lib.hid (Tim.kept_no HK.out (fun h => hm1 h.1))
        clear hm1
        go_wp2
        go_roundw
        case rel => exact ⟨p, q, d - 1, hp, hq, by omega, rfl, rfl, by go_num, HK2.out, he⟩
        case measure => simp [intOf]; omega
    · have hke := Tim.kept_end HK.out (by omega) (by omega)
      have HP : Hid ((p : Int) = Tim.cn an ad bn bd) := by rw [Tim.cn_eq (by omega), HN.out, HD.out]; simp only [Int.toNat_natCast]; rw [← hke.1]; rfl
      have HQ : Hid ((q : Int) = Tim.cd an ad bn bd) := by rw [Tim.cd_eq (by omega), HN.out, HD.out]; simp only [Int.toNat_natCast]; rw [← hke.2]; rfl
      clear hke
      have hzr := he.size
      obtain ⟨hcr, hfr⟩ := he.cells
      have zr0 : w.heap.size < wr.heap.size := by omega
      have zr1 : w.heap.size + 1 < wr.heap.size := by omega
      have zr2 : w.heap.size + 1 + 1 < wr.heap.size := by omega
      have hh0 : Ext w wr := ((((((Ext.refl _).alloc _).alloc _).alloc _).trans hb1).trans hb2).trans he
      go_wp2_with fail
      rw [HP.out, HQ.out]
      refine (rvalid_yes _ _ _ _ HC.out).mono ?_
      rintro e w4 ⟨rfl, hb4⟩
      have hz4 := hb4.size
      simp at hz4
      obtain ⟨hc4, hf4⟩ := hb4.cells
      have z42 : w.heap.size + 1 + 1 < w4.heap.size := by omega
      go_wp2
      refine bodyPost_ret (v := .tuple #[.agg #[.int .i64 (Tim.cn an ad bn bd), .int .i64 (Tim.cd an ad bn bd), .int .i64 (ax + bx)], .int .i64 0]) (by simp [results, Try.results13, go_sem, *]) rfl ⟨rfl, ?_⟩
      have hh : Ext w w4 := (hh0.alloc _).trans hb4
      exact ((hh.setCell (by simp; omega) _).setCell (by simp; omega) _).setCell (by simp; omega) _
set_option maxHeartbeats 800000 in
theorem rcomb_no3 (an ad ax bn bd bx : Int) (w : World) (ha : Tim.ok an ad ax) (hb : Tim.ok bn bd bx) (hc : ¬ Tim.ok (Tim.cn an ad bn bd) (Tim.cd an ad bn bd) (ax + bx)) :
    Calls Try.prog 13 #[.agg #[.int .i64 an, .int .i64 ad, .int .i64 ax], .agg #[.int .i64 bn, .int .i64 bd, .int .i64 bx]] w fun e w' =>
      e = .returned (.tuple #[.agg #[.int .i64 0, .int .i64 0, .int .i64 0], .int .i64 3]) ∧ Ext w w' := by
  have HA := Lib.hid ha
  have HB := Lib.hid hb
  have HC := Lib.hid hc
  obtain ⟨m1, m2, m3, m4⟩ := Tim.ok_prod ha hb
  have x1 := ha.2.2.2.2
  have x2 := hb.2.2.2.2
  clear ha hb hc
  obtain ⟨N, hN⟩ := Int.eq_ofNat_of_zero_le (show 0 ≤ an * bn by omega)
  obtain ⟨D, hD⟩ := Int.eq_ofNat_of_zero_le (show 0 ≤ ad * bd by omega)
  have HN := Lib.hid hN
  have HD := Lib.hid hD
  have n1 : 1 ≤ N := by omega
  have n2 : N ≤ 160000 := by omega
  have d1 : 1 ≤ D := by omega
  have d2 : D ≤ 10000 := by omega
  clear hN hD
  go_enter Try.func13, Try.ntmps13
  go_wp2_with fail
  refine (rvalid_yes an ad ax _ HA.out).mono ?_
  rintro e w1 ⟨rfl, hb1⟩
  obtain ⟨hc1, hf1⟩ := hb1.cells
  go_wp2_with fail
  refine (rvalid_yes bn bd bx _ HB.out).mono ?_
  rintro e w2 ⟨rfl, hb2⟩
  obtain ⟨hc2, hf2⟩ := hb2.cells
  have hz1 := hb1.size
  have hz2 := hb2.size
  simp at hz1
  have z10 : w.heap.size < w1.heap.size := by omega
  have z11 : w.heap.size + 1 < w1.heap.size := by omega
  have z12 : w.heap.size + 1 + 1 < w1.heap.size := by omega
  have z20 : w.heap.size < w2.heap.size := by omega
  have z21 : w.heap.size + 1 < w2.heap.size := by omega
  have z22 : w.heap.size + 1 + 1 < w2.heap.size := by omega
  go_wp2
  go_quiet (fail)
  rw [HN.out, HD.out]
  go_wp2
  go_loopw [6, 7, 8] (fun x y z wr => ∃ p q d : Nat, p ≤ 160000 ∧ q ≤ 10000 ∧ d ≤ 10000 ∧ x = .int .i64 p ∧ y = .int .i64 q ∧ z = .int .i64 d ∧ Tim.Kept N D p q d ∧ Ext w2 wr) (fun _ _ z _ => (intOf z).toNat)
  case atStart => exact ⟨N, D, D, by omega, by omega, by omega, rfl, rfl, rfl, Tim.kept_start d1, (Ext.refl _).drewN _⟩
  case round =>
    obtain ⟨p, q, d, hp, hq, hd, rfl, rfl, rfl, hk, he⟩ := hrel
    have HK := Lib.hid hk
    clear hk
    by_cases h1 : 1 < d
    · have hi1 : 1 < (d : Int) := by omega
      by_cases hm1 : p % d = 0
      · have b1 : ((p : Int) % (d : Int) == 0) = true := by rw [← Int.natCast_emod, hm1]; rfl
        by_cases hm2 : q % d = 0
        · have b2 : ((q : Int) % (d : Int) == 0) = true := by rw [← Int.natCast_emod, hm2]; rfl
          have HK2 := Lib.hid (Tim.kept_yes HK.out h1 hm1 hm2)
          have hp2 : p / d ≤ 160000 := Nat.le_trans (Nat.div_le_self _ _) hp
          have hq2 : q / d ≤ 10000 := Nat.le_trans (Nat.div_le_self _ _) hq
          have hp3 : (p : Int) / (d : Int) ≤ 160000 := by rw [← Int.natCast_ediv]; omega
          have hq3 : (q : Int) / (d : Int) ≤ 10000 := by rw [← Int.natCast_ediv]; omega
          have hp4 : 0 ≤ (p : Int) / (d : Int) := by rw [← Int.natCast_ediv]; exact Int.natCast_nonneg _
          have hq4 : 0 ≤ (q : Int) / (d : Int) := by rw [← Int.natCast_ediv]; exact Int.natCast_nonneg _
          clear hm1 hm2
          go_wp2
          go_quiet (fail)
          go_wp2
          go_roundw
          case rel => exact ⟨p / d, q / d, d - 1, hp2, hq2, by omega, by rw [Int.natCast_ediv], by rw [Int.natCast_ediv], by go_num, HK2.out, he.drewN _⟩
          case measure => simp [intOf]; omega
        · have b2 : ((q : Int) % (d : Int) == 0) = false := by rw [← Int.natCast_emod]; simp; omega
          have HK2 := Lib.hid (Tim.kept_no HK.out (fun h => hm2 h.2))
          clear hm1 hm2
          go_wp2
          go_roundw
          case rel => exact ⟨p, q, d - 1, hp, hq, by omega, rfl, rfl, by go_num, HK2.out, he⟩
          case measure => simp [intOf]; omega
      · have b1 : ((p : Int) % (d : Int) == 0) = false := by rw [← Int.natCast_emod]; simp; omega
        have HK2 := Lib.hid (Tim.kept_no HK.out (fun h => hm1 h.1))
        clear hm1
        go_wp2
        go_roundw
        case rel => exact ⟨p, q, d - 1, hp, hq, by omega, rfl, rfl, by go_num, HK2.out, he⟩
        case measure => simp [intOf]; omega
    · have hke := Tim.kept_end HK.out (by omega) (by omega)
      have HP : Hid ((p : Int) = Tim.cn an ad bn bd) := by rw [Tim.cn_eq (by omega), HN.out, HD.out]; simp only [Int.toNat_natCast]; rw [← hke.1]; rfl
      have HQ : Hid ((q : Int) = Tim.cd an ad bn bd) := by rw [Tim.cd_eq (by omega), HN.out, HD.out]; simp only [Int.toNat_natCast]; rw [← hke.2]; rfl
      clear hke
      have hzr := he.size
      obtain ⟨hcr, hfr⟩ := he.cells
      have zr0 : w.heap.size < wr.heap.size := by omega
      have zr1 : w.heap.size + 1 < wr.heap.size := by omega
      have zr2 : w.heap.size + 1 + 1 < wr.heap.size := by omega
      have hh0 : Ext w wr := ((((((Ext.refl _).alloc _).alloc _).alloc _).trans hb1).trans hb2).trans he
      go_wp2_with fail
      rw [HP.out, HQ.out]
      refine (rvalid_no _ _ _ _ HC.out).mono ?_
      rintro e w4 ⟨rfl, hb4⟩
      have hz4 := hb4.size
      simp at hz4
      obtain ⟨hc4, hf4⟩ := hb4.cells
      have z42 : w.heap.size + 1 + 1 < w4.heap.size := by omega
      go_wp2
      refine bodyPost_ret (v := .tuple #[.agg #[.int .i64 0, .int .i64 0, .int .i64 0], .int .i64 3]) (by simp [results, Try.results13, go_sem, *]) rfl ⟨rfl, ?_⟩
      have hh : Ext w w4 := (hh0.alloc _).trans hb4
      exact ((hh.setCell (by simp; omega) _).setCell (by simp; omega) _).setCell (by simp; omega) _
set_option maxHeartbeats 400000 in
theorem rcomb_no (an ad ax bn bd bx : Int) (w : World) (h : ¬ (Tim.ok an ad ax ∧ Tim.ok bn bd bx ∧ Tim.ok (Tim.cn an ad bn bd) (Tim.cd an ad bn bd) (ax + bx))) :
    Calls Try.prog 13 #[.agg #[.int .i64 an, .int .i64 ad, .int .i64 ax], .agg #[.int .i64 bn, .int .i64 bd, .int .i64 bx]] w fun e w' =>
      e = .returned (.tuple #[.agg #[.int .i64 0, .int .i64 0, .int .i64 0], .int .i64 3]) ∧ Ext w w' := by
  by_cases ha : Tim.ok an ad ax
  · by_cases hb : Tim.ok bn bd bx
    · exact rcomb_no3 an ad ax bn bd bx w ha hb (fun hc => h ⟨ha, hb, hc⟩)
    · have HA := Lib.hid ha
      have HB := Lib.hid hb
      clear ha hb h
      go_enter Try.func13, Try.ntmps13
      go_wp2_with fail
      refine (rvalid_yes an ad ax _ HA.out).mono ?_
      rintro e w1 ⟨rfl, hb1⟩
      obtain ⟨hc1, hf1⟩ := hb1.cells
      go_wp2_with fail
      refine (rvalid_no bn bd bx _ HB.out).mono ?_
      rintro e w2 ⟨rfl, hb2⟩
      obtain ⟨hc2, hf2⟩ := hb2.cells
      have hz1 := hb1.size
      have hz2 := hb2.size
      simp at hz1
      have z12 : w.heap.size + 1 + 1 < w1.heap.size := by omega
      have z22 : w.heap.size + 1 + 1 < w2.heap.size := by omega
      go_wp2
      refine bodyPost_ret (v := .tuple #[.agg #[.int .i64 0, .int .i64 0, .int .i64 0], .int .i64 3]) (by simp [results, Try.results13, go_sem, *]) rfl ⟨rfl, ?_⟩
      have hh : Ext w w2 := (((((Ext.refl _).alloc _).alloc _).alloc _).trans hb1).trans hb2
      exact ((hh.setCell (by simp; omega) _).setCell (by simp; omega) _).setCell (by simp; omega) _
  · have HA := Lib.hid ha
    clear ha h
    go_enter Try.func13, Try.ntmps13
    go_wp2_with fail
    refine (rvalid_no an ad ax _ HA.out).mono ?_
    rintro e w1 ⟨rfl, hb1⟩
    obtain ⟨hc1, hf1⟩ := hb1.cells
    have hz1 := hb1.size
    simp at hz1
    have z12 : w.heap.size + 1 + 1 < w1.heap.size := by omega
    go_wp2
    refine bodyPost_ret (v := .tuple #[.agg #[.int .i64 0, .int .i64 0, .int .i64 0], .int .i64 3]) (by simp [results, Try.results13, go_sem, *]) rfl ⟨rfl, ?_⟩
    have hh : Ext w w1 := ((((Ext.refl _).alloc _).alloc _).alloc _).trans hb1
    exact ((hh.setCell (by simp; omega) _).setCell (by simp; omega) _).setCell (by simp; omega) _

end Go.Proofs.Ytpdboefaedocfaa
