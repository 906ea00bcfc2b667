/- The reference's Score: contract for the walk. Conditions: those of the theorem. -/
import Derived.Test.YthjledbomonfpaaAdjD
namespace Go.Proofs.Ythjledbomonfpaa
open Go.RowKit

set_option maxRecDepth 100000 in
set_option maxHeartbeats 6400000 in
theorem refScore_any (gap rule : Int) (id : Int) (A : Option Addr) (c : Nat) (ts : List Rub.Trait) (L : Option Addr) (d : Nat) (ls : List IL) (w : World) (h : RubIn w id A c ts) (hL : SlL w L ls) (hd : ls.length ≤ maxLen) :
    Calls Try.prog 23 #[.agg #[.int .i64 gap, .int .i64 rule], .agg #[.int .i64 id, .slice A ts.length c], .slice L ls.length d] w fun e w' =>
      e = .returned (.tuple #[.int .i64 (Adj.scoreR gap rule id ts (ls.map IL.xs)).1, .int .i64 (Adj.scoreR gap rule id ts (ls.map IL.xs)).2]) ∧ Ext w w' := by
  have H := Lib.hid h
  have HL := Lib.hid hL
  have HD := Lib.hid hd
  unfold maxLen at hd
  clear h hL
  have hx0 : Ext w ((w.alloc (.cells #[.int .i64 gap, .int .i64 rule] 38)).alloc (.cells #[.int .i64 id, .slice A ts.length c] 24)) := ((Ext.refl _).alloc _).alloc _
  by_cases z0 : Adj.chkE gap rule id ts (ls.map IL.xs) = 0
  · by_cases z1 : 0 < Adj.need gap (ls.map IL.xs)
    · have EN := Lib.hid (Adj.need_yes z0)
      have EZ := Lib.hid z0
      have ES := Lib.hid (Adj.score_gap z0 z1)
      clear z0
      go_enter Try.func23, Try.ntmps23
      go_wp2_with fail
      refine (refNeed_any gap rule id A c ts L d ls _ (H.out.ext hx0) (HL.out.ext hx0) HD.out).mono ?_
      rintro e w1 ⟨rfl, hb1⟩
      rw [EZ.out, EN.out]
      go_wp2
      go_ret2
      exact ⟨ret_two' (by rw [ES.out]) (by rw [ES.out]), hx0.trans hb1⟩
    · obtain ⟨y0, y1, y2, y3⟩ := Adj.chk_zero z0
      obtain ⟨gp0, gp1, hrule⟩ := Adj.adj_zero y0
      have Y0 := Lib.hid y0
      have EN := Lib.hid (Adj.need_yes z0)
      have EZ := Lib.hid z0
      have ES := Lib.hid (Adj.score_ok z0 z1)
      have l23 : ls.length = 2 ∨ ls.length = 3 := by simpa using Adj.need_two z1 y2
      have hcall : ∀ x ∈ ls, Rub.checkE id ts x.xs = 0 := fun x hx => Rub.all_zero y3 x.xs (List.mem_map.2 ⟨x, hx, rfl⟩)
      clear z0 y0 y1 y2 y3
      obtain ⟨x, hx⟩ : ∃ x, ls[0]? = some x := ⟨ls[0], List.getElem?_eq_getElem (by omega)⟩
      obtain ⟨y, hy⟩ : ∃ y, ls[1]? = some y := ⟨ls[1], List.getElem?_eq_getElem (by omega)⟩
      have hcx := hcall x (List.mem_of_getElem? hx)
      have hcy := hcall y (List.mem_of_getElem? hy)
      have bx' := Adj.tot_bd hcx
      have by' := Adj.tot_bd hcy
      have HCx := Lib.hid hcx
      have HCy := Lib.hid hcy
      have HTx : Hid (Rub.totV id ts x.xs = Rub.tot (ts.zip x.xs)) := by show _ = _; unfold Rub.totV; rw [if_pos hcx]
      have HTy : Hid (Rub.totV id ts y.xs = Rub.tot (ts.zip y.xs)) := by show _ = _; unfold Rub.totV; rw [if_pos hcy]
      obtain ⟨b, off, rfl, hb, c0_0, hin0⟩ := HL.out.at_ hx
      obtain ⟨b', off', hA', -, c1_0, hin1⟩ := HL.out.at_ hy
      injection hA' with hA'
      injection hA' with hA1 hA2
      subst hA1 hA2
      rw [Nat.add_zero] at c0_0
      have HI0 := Lib.hid hin0
      have HI1 := Lib.hid hin1
      have u0 : 0 < (ls.length : Int) := by omega
      have u1 : 1 < (ls.length : Int) := by omega
      have u0n : 0 < ls.length := by omega
      have u1n : 1 < ls.length := by omega
      by_cases m2 : ls.length = 2
      · have m2' : ((ls.length : Int) == 2) = true := by rw [beq_iff_eq]; omega
        have hls : ls = [x, y] := by
          obtain ⟨x', y', e1, e2, e3⟩ := two_of m2
          rw [e3] at hx hy ⊢
          simp at hx hy
          rw [hx, hy]
        have HS : Hid (Adj.score gap rule ts (ls.map IL.xs) = (Rub.tot (ts.zip x.xs) + Rub.tot (ts.zip y.xs), 0)) := by show _ = _; rw [hls]; rfl
        have HSR := Lib.hid (ES.out.trans HS.out)
        clear m2 hls hx hy hcx hcy hin0 hin1 hcall l23
        generalize Rub.tot (ts.zip x.xs) = tx at *
        generalize Rub.tot (ts.zip y.xs) = ty at *
        go_enter Try.func23, Try.ntmps23
        go_wp2_with fail
        refine (refNeed_any gap rule id A c ts (some ⟨b, off, none⟩) d ls _ (H.out.ext hx0) (HL.out.ext hx0) HD.out).mono ?_
        rintro e w1 ⟨rfl, hb1⟩
        rw [EZ.out, EN.out]
        have ax1 : w1.cell? ⟨w.heap.size, 0, none⟩ = some (.int .i64 gap) := hb1.keep (by simp [go_sem])
        have ay1 : w1.cell? ⟨w.heap.size, 1, none⟩ = some (.int .i64 rule) := hb1.keep (by simp [go_sem])
        have bx1 : w1.cell? ⟨w.heap.size + 1, 0, none⟩ = some (.int .i64 id) := hb1.keep (by simp [go_sem])
        have by1 : w1.cell? ⟨w.heap.size + 1, 1, none⟩ = some (.slice A ts.length c) := hb1.keep (by simp [go_sem])
        have hx1 := hx0.trans hb1
        have c0_1 := (hx0.trans hb1).keep c0_0
        have c1_1 := (hx0.trans hb1).keep c1_0
        clear c0_0 c1_0
        go_wp2
        go_region_held3 (fun w' => w'.cell? ⟨w.heap.size, 0, none⟩ = some (.int .i64 gap) ∧ w'.cell? ⟨w.heap.size, 1, none⟩ = some (.int .i64 rule) ∧ w'.cell? ⟨w.heap.size + 1, 0, none⟩ = some (.int .i64 id) ∧ w'.cell? ⟨w.heap.size + 1, 1, none⟩ = some (.slice A ts.length c) ∧ w'.cell? ⟨b, off, none⟩ = some (.slice x.A x.xs.length x.c))
          (first
            | (exact ⟨ax1, ay1, bx1, by1, c0_1⟩)
            | (exact ⟨hb2.keep ax1, hb2.keep ay1, hb2.keep bx1, hb2.keep by1, hb2.keep c0_1⟩))
          (first
            | (go_at_call 40; refine (refTotal_any id A c ts x.A x.c x.xs _ (H.out.ext (by exact hx1.drew)) (HI0.out.1.ext (by exact hx1.drew)) (Nat.le_trans HI0.out.2.1 HI0.out.2.2.1)).mono ?_; rintro e w2 ⟨rfl, hb2⟩))
        rw [HTx.out, HCx.out]
        replace hb2 := hb2.undrew
        have ax2 : w2.cell? ⟨w.heap.size, 0, none⟩ = some (.int .i64 gap) := hb2.keep ax1
        have ay2 : w2.cell? ⟨w.heap.size, 1, none⟩ = some (.int .i64 rule) := hb2.keep ay1
        have bx2 : w2.cell? ⟨w.heap.size + 1, 0, none⟩ = some (.int .i64 id) := hb2.keep bx1
        have by2 : w2.cell? ⟨w.heap.size + 1, 1, none⟩ = some (.slice A ts.length c) := hb2.keep by1
        have hx2 := hx1.trans hb2
        have c0_2 := hb2.keep c0_1
        have c1_2 := hb2.keep c1_1
        clear c0_1 c1_1 ax1 ay1 bx1 by1
        go_wp2
        go_region_held3 (fun w' => w'.cell? ⟨w.heap.size, 0, none⟩ = some (.int .i64 gap) ∧ w'.cell? ⟨w.heap.size, 1, none⟩ = some (.int .i64 rule) ∧ w'.cell? ⟨w.heap.size + 1, 0, none⟩ = some (.int .i64 id) ∧ w'.cell? ⟨w.heap.size + 1, 1, none⟩ = some (.slice A ts.length c) ∧ w'.cell? ⟨b, off + 1, none⟩ = some (.slice y.A y.xs.length y.c))
          (first
            | (exact ⟨ax2, ay2, bx2, by2, c1_2⟩)
            | (exact ⟨hb3.keep ax2, hb3.keep ay2, hb3.keep bx2, hb3.keep by2, hb3.keep c1_2⟩))
          (first
            | (go_at_call 40; refine (refTotal_any id A c ts y.A y.c y.xs _ (H.out.ext (by exact hx2.drew)) (HI1.out.1.ext (by exact hx2.drew)) (Nat.le_trans HI1.out.2.1 HI1.out.2.2.1)).mono ?_; rintro e w3 ⟨rfl, hb3⟩))
        rw [HTy.out, HCy.out]
        replace hb3 := hb3.undrew
        have ax3 : w3.cell? ⟨w.heap.size, 0, none⟩ = some (.int .i64 gap) := hb3.keep ax2
        have ay3 : w3.cell? ⟨w.heap.size, 1, none⟩ = some (.int .i64 rule) := hb3.keep ay2
        have bx3 : w3.cell? ⟨w.heap.size + 1, 0, none⟩ = some (.int .i64 id) := hb3.keep bx2
        have by3 : w3.cell? ⟨w.heap.size + 1, 1, none⟩ = some (.slice A ts.length c) := hb3.keep by2
        have hx3 := hx2.trans hb3
        have c0_3 := hb3.keep c0_2
        have c1_3 := hb3.keep c1_2
        clear c0_2 c1_2 ax2 ay2 bx2 by2
        go_wp2
        go_ret2
        exact ⟨ret_two' (by rw [HSR.out]) (by rw [HSR.out]), hx3⟩
      · have m2' : ((ls.length : Int) == 2) = false := by rw [beq_eq_false_iff_ne]; omega
        have hl3 : ls.length = 3 := by omega
        obtain ⟨z, hz⟩ : ∃ z, ls[2]? = some z := ⟨ls[2], List.getElem?_eq_getElem (by omega)⟩
        have hcz := hcall z (List.mem_of_getElem? hz)
        have bz' := Adj.tot_bd hcz
        have HCz := Lib.hid hcz
        have HTz : Hid (Rub.totV id ts z.xs = Rub.tot (ts.zip z.xs)) := by show _ = _; unfold Rub.totV; rw [if_pos hcz]
        have hls : ls = [x, y, z] := by
          obtain ⟨x', y', z', e1, e2, e3, e4⟩ := three_of hl3
          rw [e4] at hx hy hz ⊢
          simp at hx hy hz
          rw [hx, hy, hz]
        have HS : Hid (Adj.score gap rule ts (ls.map IL.xs) = if Rub.dist (x.xs.zip y.xs) 0 ≤ gap then (0, 21) else if rule = 1 then (2 * Rub.tot (ts.zip z.xs), 0)
            else if rule = 2 then (Rub.tot (ts.zip z.xs) + Adj.nearer (Rub.tot (ts.zip z.xs)) (Rub.tot (ts.zip x.xs)) (Rub.tot (ts.zip y.xs)), 0) else (2 * Rub.tot (ts.zip (Rub.mids x.xs y.xs z.xs)), 0)) := by show _ = _; rw [hls]; rfl
        have HSR := Lib.hid (ES.out.trans HS.out)
        have HAE : Hid (Adj.agreeE gap rule id ts x.xs y.xs = 0) := by show _ = _; unfold Adj.agreeE; rw [if_pos Y0.out]; simp [Rub.checkAllE, hcx, hcy]
        have HAB : Hid (Adj.agreeB gap rule id ts x.xs y.xs = decide (Rub.dist (x.xs.zip y.xs) 0 ≤ gap)) := by show _ = _; unfold Adj.agreeB; rw [if_pos HAE.out]
        have HMV : Hid (Rub.medV id ts x.xs y.xs z.xs = Rub.mids x.xs y.xs z.xs) := by show _ = _; unfold Rub.medV; rw [if_pos (by simp [Rub.checkAllE, hcx, hcy, hcz])]
        have HME : Hid (Rub.checkAllE id ts [x.xs, y.xs, z.xs] = 0) := by show _ = _; simp [Rub.checkAllE, hcx, hcy, hcz]
        have hcm := Adj.check_mids hcx hcy hcz
        have bm' := Adj.tot_bd hcm
        have HCM := Lib.hid hcm
        have HTM : Hid (Rub.totV id ts (Rub.mids x.xs y.xs z.xs) = Rub.tot (ts.zip (Rub.mids x.xs y.xs z.xs))) := by show _ = _; unfold Rub.totV; rw [if_pos hcm]
        obtain ⟨b', off', hA', -, c2_0, hin2⟩ := HL.out.at_ hz
        injection hA' with hA'
        injection hA' with hA1 hA2
        subst hA1 hA2
        have HI2 := Lib.hid hin2
        have u2 : 2 < (ls.length : Int) := by omega
        have u2n : 2 < ls.length := by omega
        clear m2 hls hx hy hz hcx hcy hcz hcm hl3 hin0 hin1 hin2 l23 hcall
        generalize Rub.tot (ts.zip x.xs) = tx at *
        generalize Rub.tot (ts.zip y.xs) = ty at *
        generalize Rub.tot (ts.zip z.xs) = tz at *
        go_enter Try.func23, Try.ntmps23
        go_wp2_with fail
        refine (refNeed_any gap rule id A c ts (some ⟨b, off, none⟩) d ls _ (H.out.ext hx0) (HL.out.ext hx0) HD.out).mono ?_
        rintro e w1 ⟨rfl, hb1⟩
        rw [EZ.out, EN.out]
        have ax1 : w1.cell? ⟨w.heap.size, 0, none⟩ = some (.int .i64 gap) := hb1.keep (by simp [go_sem])
        have ay1 : w1.cell? ⟨w.heap.size, 1, none⟩ = some (.int .i64 rule) := hb1.keep (by simp [go_sem])
        have bx1 : w1.cell? ⟨w.heap.size + 1, 0, none⟩ = some (.int .i64 id) := hb1.keep (by simp [go_sem])
        have by1 : w1.cell? ⟨w.heap.size + 1, 1, none⟩ = some (.slice A ts.length c) := hb1.keep (by simp [go_sem])
        have hx1 := hx0.trans hb1
        have c0_1 := (hx0.trans hb1).keep c0_0
        have c1_1 := (hx0.trans hb1).keep c1_0
        have c2_1 := (hx0.trans hb1).keep c2_0
        clear c0_0 c1_0 c2_0
        go_wp2
        go_region_held3 (fun w' => w'.cell? ⟨w.heap.size, 0, none⟩ = some (.int .i64 gap) ∧ w'.cell? ⟨w.heap.size, 1, none⟩ = some (.int .i64 rule) ∧ w'.cell? ⟨w.heap.size + 1, 0, none⟩ = some (.int .i64 id) ∧ w'.cell? ⟨w.heap.size + 1, 1, none⟩ = some (.slice A ts.length c) ∧ w'.cell? ⟨b, off, none⟩ = some (.slice x.A x.xs.length x.c))
          (first
            | (exact ⟨ax1, ay1, bx1, by1, c0_1⟩)
            | (exact ⟨hb2.keep ax1, hb2.keep ay1, hb2.keep bx1, hb2.keep by1, hb2.keep c0_1⟩))
          (first
            | (go_at_call 40; refine (refTotal_any id A c ts x.A x.c x.xs _ (H.out.ext (by exact hx1.drew)) (HI0.out.1.ext (by exact hx1.drew)) (Nat.le_trans HI0.out.2.1 HI0.out.2.2.1)).mono ?_; rintro e w2 ⟨rfl, hb2⟩))
        rw [HTx.out, HCx.out]
        replace hb2 := hb2.undrew
        have ax2 : w2.cell? ⟨w.heap.size, 0, none⟩ = some (.int .i64 gap) := hb2.keep ax1
        have ay2 : w2.cell? ⟨w.heap.size, 1, none⟩ = some (.int .i64 rule) := hb2.keep ay1
        have bx2 : w2.cell? ⟨w.heap.size + 1, 0, none⟩ = some (.int .i64 id) := hb2.keep bx1
        have by2 : w2.cell? ⟨w.heap.size + 1, 1, none⟩ = some (.slice A ts.length c) := hb2.keep by1
        have hx2 := hx1.trans hb2
        have c0_2 := hb2.keep c0_1
        have c1_2 := hb2.keep c1_1
        have c2_2 := hb2.keep c2_1
        clear c0_1 c1_1 c2_1 ax1 ay1 bx1 by1
        go_wp2
        go_region_held3 (fun w' => w'.cell? ⟨w.heap.size, 0, none⟩ = some (.int .i64 gap) ∧ w'.cell? ⟨w.heap.size, 1, none⟩ = some (.int .i64 rule) ∧ w'.cell? ⟨w.heap.size + 1, 0, none⟩ = some (.int .i64 id) ∧ w'.cell? ⟨w.heap.size + 1, 1, none⟩ = some (.slice A ts.length c) ∧ w'.cell? ⟨b, off + 1, none⟩ = some (.slice y.A y.xs.length y.c))
          (first
            | (exact ⟨ax2, ay2, bx2, by2, c1_2⟩)
            | (exact ⟨hb3.keep ax2, hb3.keep ay2, hb3.keep bx2, hb3.keep by2, hb3.keep c1_2⟩))
          (first
            | (go_at_call 40; refine (refTotal_any id A c ts y.A y.c y.xs _ (H.out.ext (by exact hx2.drew)) (HI1.out.1.ext (by exact hx2.drew)) (Nat.le_trans HI1.out.2.1 HI1.out.2.2.1)).mono ?_; rintro e w3 ⟨rfl, hb3⟩))
        rw [HTy.out, HCy.out]
        replace hb3 := hb3.undrew
        have ax3 : w3.cell? ⟨w.heap.size, 0, none⟩ = some (.int .i64 gap) := hb3.keep ax2
        have ay3 : w3.cell? ⟨w.heap.size, 1, none⟩ = some (.int .i64 rule) := hb3.keep ay2
        have bx3 : w3.cell? ⟨w.heap.size + 1, 0, none⟩ = some (.int .i64 id) := hb3.keep bx2
        have by3 : w3.cell? ⟨w.heap.size + 1, 1, none⟩ = some (.slice A ts.length c) := hb3.keep by2
        have hx3 := hx2.trans hb3
        have c0_3 := hb3.keep c0_2
        have c1_3 := hb3.keep c1_2
        have c2_3 := hb3.keep c2_2
        clear c0_2 c1_2 c2_2 ax2 ay2 bx2 by2
        go_wp2
        go_region_held3 (fun w' => w'.cell? ⟨w.heap.size, 0, none⟩ = some (.int .i64 gap) ∧ w'.cell? ⟨w.heap.size, 1, none⟩ = some (.int .i64 rule) ∧ w'.cell? ⟨w.heap.size + 1, 0, none⟩ = some (.int .i64 id) ∧ w'.cell? ⟨w.heap.size + 1, 1, none⟩ = some (.slice A ts.length c) ∧ w'.cell? ⟨b, off, none⟩ = some (.slice x.A x.xs.length x.c) ∧ w'.cell? ⟨b, off + 1, none⟩ = some (.slice y.A y.xs.length y.c))
          (first
            | (exact ⟨ax3, ay3, bx3, by3, c0_3, c1_3⟩)
            | (exact ⟨hb4.keep ax3, hb4.keep ay3, hb4.keep bx3, hb4.keep by3, hb4.keep c0_3, hb4.keep c1_3⟩))
          (first
            | (go_at_call 28; refine (refAgree_any gap rule id A c ts x.A x.c x.xs y.A y.c y.xs _ (H.out.ext (by exact hx3.drew)) (HI0.out.ext (by exact hx3.drew)) (HI1.out.ext (by exact hx3.drew))).mono ?_; rintro e w4 ⟨rfl, hb4⟩))
        rw [HAE.out, HAB.out]
        replace hb4 := hb4.undrew
        have ax4 : w4.cell? ⟨w.heap.size, 0, none⟩ = some (.int .i64 gap) := hb4.keep ax3
        have ay4 : w4.cell? ⟨w.heap.size, 1, none⟩ = some (.int .i64 rule) := hb4.keep ay3
        have bx4 : w4.cell? ⟨w.heap.size + 1, 0, none⟩ = some (.int .i64 id) := hb4.keep bx3
        have by4 : w4.cell? ⟨w.heap.size + 1, 1, none⟩ = some (.slice A ts.length c) := hb4.keep by3
        have hx4 := hx3.trans hb4
        have c0_4 := hb4.keep c0_3
        have c1_4 := hb4.keep c1_3
        have c2_4 := hb4.keep c2_3
        clear c0_3 c1_3 c2_3 ax3 ay3 bx3 by3
        by_cases hg : Rub.dist (x.xs.zip y.xs) 0 ≤ gap
        · have hg' : decide (Rub.dist (x.xs.zip y.xs) 0 ≤ gap) = true := by simpa using hg
          have HFIN := Lib.hid (HSR.out.trans (if_pos hg))
          go_wp2
          go_ret2
          exact ⟨ret_two' (by rw [HFIN.out]) (by rw [HFIN.out]), hx4⟩
        · have hg' : decide (Rub.dist (x.xs.zip y.xs) 0 ≤ gap) = false := by simpa using hg
          have HF1 := Lib.hid (HSR.out.trans (if_neg hg))
          have hg2 : gap < Rub.dist (x.xs.zip y.xs) 0 := by omega
          clear hg
          go_wp2
          go_region_held3 (fun w' => w'.cell? ⟨w.heap.size, 0, none⟩ = some (.int .i64 gap) ∧ w'.cell? ⟨w.heap.size, 1, none⟩ = some (.int .i64 rule) ∧ w'.cell? ⟨w.heap.size + 1, 0, none⟩ = some (.int .i64 id) ∧ w'.cell? ⟨w.heap.size + 1, 1, none⟩ = some (.slice A ts.length c) ∧ w'.cell? ⟨b, off + 2, none⟩ = some (.slice z.A z.xs.length z.c))
            (first
              | (exact ⟨ax4, ay4, bx4, by4, c2_4⟩)
              | (exact ⟨hb5.keep ax4, hb5.keep ay4, hb5.keep bx4, hb5.keep by4, hb5.keep c2_4⟩))
            (first
              | (go_at_call 40; refine (refTotal_any id A c ts z.A z.c z.xs _ (H.out.ext (by exact hx4.drew)) (HI2.out.1.ext (by exact hx4.drew)) (Nat.le_trans HI2.out.2.1 HI2.out.2.2.1)).mono ?_; rintro e w5 ⟨rfl, hb5⟩))
          rw [HTz.out, HCz.out]
          replace hb5 := hb5.undrew
          have ax5 : w5.cell? ⟨w.heap.size, 0, none⟩ = some (.int .i64 gap) := hb5.keep ax4
          have ay5 : w5.cell? ⟨w.heap.size, 1, none⟩ = some (.int .i64 rule) := hb5.keep ay4
          have bx5 : w5.cell? ⟨w.heap.size + 1, 0, none⟩ = some (.int .i64 id) := hb5.keep bx4
          have by5 : w5.cell? ⟨w.heap.size + 1, 1, none⟩ = some (.slice A ts.length c) := hb5.keep by4
          have hx5 := hx4.trans hb5
          have c0_5 := hb5.keep c0_4
          have c1_5 := hb5.keep c1_4
          have c2_5 := hb5.keep c2_4
          clear c0_4 c1_4 c2_4 ax4 ay4 bx4 by4
          rcases hrule with rfl | rfl | rfl
          · have HFIN := Lib.hid (HF1.out.trans (if_pos rfl))
            go_wp2
            go_ret2
            exact ⟨ret_two' (by rw [HFIN.out]) (by rw [HFIN.out]), hx5⟩
          · have HFIN := Lib.hid ((HF1.out.trans (if_neg (by decide))).trans (if_pos rfl))
            go_wp2_with fail
            refine (refApartI_any ty tz _ (by omega) (by omega) (by omega) (by omega)).mono ?_
            rintro e w6 ⟨rfl, rfl⟩
            go_wp2_with fail
            refine (refApartI_any tx tz _ (by omega) (by omega) (by omega) (by omega)).mono ?_
            rintro e w6 ⟨rfl, rfl⟩
            by_cases hn : max (ty - tz) (tz - ty) < max (tx - tz) (tz - tx)
            · have hn' : Adj.nearer tz tx ty = ty := by unfold Adj.nearer; rw [if_pos (by omega)]
              have HN := Lib.hid hn'
              clear hn'
              go_wp2
              go_ret2
              exact ⟨ret_two' (by rw [HFIN.out, HN.out]; show ty + tz = tz + ty; omega) (by rw [HFIN.out]), hx5⟩
            · have hn' : Adj.nearer tz tx ty = tx := by unfold Adj.nearer; rw [if_neg (by omega)]
              have HN := Lib.hid hn'
              clear hn'
              go_wp2
              go_ret2
              exact ⟨ret_two' (by rw [HFIN.out, HN.out]; show tx + tz = tz + tx; omega) (by rw [HFIN.out]), hx5⟩
          · have HFIN := Lib.hid ((HF1.out.trans (if_neg (by decide))).trans (if_neg (by decide)))
            generalize Rub.tot (ts.zip (Rub.mids x.xs y.xs z.xs)) = tm at *
            go_wp2
            go_region_held3 (fun w' => w'.cell? ⟨w.heap.size, 0, none⟩ = some (.int .i64 gap) ∧ w'.cell? ⟨w.heap.size, 1, none⟩ = some (.int .i64 3) ∧ w'.cell? ⟨w.heap.size + 1, 0, none⟩ = some (.int .i64 id) ∧ w'.cell? ⟨w.heap.size + 1, 1, none⟩ = some (.slice A ts.length c) ∧ w'.cell? ⟨b, off, none⟩ = some (.slice x.A x.xs.length x.c) ∧ w'.cell? ⟨b, off + 1, none⟩ = some (.slice y.A y.xs.length y.c) ∧ w'.cell? ⟨b, off + 2, none⟩ = some (.slice z.A z.xs.length z.c))
              (first
                | (exact ⟨ax5, ay5, bx5, by5, c0_5, c1_5, c2_5⟩)
                | (exact ⟨hb6.keep ax5, hb6.keep ay5, hb6.keep bx5, hb6.keep by5, hb6.keep c0_5, hb6.keep c1_5, hb6.keep c2_5⟩))
              (first
                | (go_at_call 16; refine (refMedian_any id A c ts x.A x.c x.xs y.A y.c y.xs z.A z.c z.xs _ (H.out.ext (by exact hx5.drew)) (HI0.out.ext (by exact hx5.drew)) (HI1.out.ext (by exact hx5.drew)) (HI2.out.ext (by exact hx5.drew))).mono ?_; rintro e w6 ⟨M, mc, rfl, hm, hb6⟩))
            rw [HMV.out, HME.out]
            rw [HMV.out] at hm
            have HM := Lib.hid hm
            clear hm
            replace hb6 := hb6.undrew
            have ax6 : w6.cell? ⟨w.heap.size, 0, none⟩ = some (.int .i64 gap) := hb6.keep ax5
            have ay6 : w6.cell? ⟨w.heap.size, 1, none⟩ = some (.int .i64 3) := hb6.keep ay5
            have bx6 : w6.cell? ⟨w.heap.size + 1, 0, none⟩ = some (.int .i64 id) := hb6.keep bx5
            have by6 : w6.cell? ⟨w.heap.size + 1, 1, none⟩ = some (.slice A ts.length c) := hb6.keep by5
            have hx6 := hx5.trans hb6
            go_wp2_with fail
            refine (refTotal_any id A c ts M mc (Rub.mids x.xs y.xs z.xs) _ (H.out.ext hx6) HM.out.1 (Nat.le_trans HM.out.2.1 HM.out.2.2.1)).mono ?_
            rintro e w7 ⟨rfl, hb7⟩
            rw [HTM.out, HCM.out]
            go_wp2
            go_ret2
            exact ⟨ret_two' (by rw [HFIN.out]) (by rw [HFIN.out]), hx6.trans hb7⟩
  · have z0' : (Adj.chkE gap rule id ts (ls.map IL.xs) != 0) = true := by rw [bne_iff_ne]; exact z0
    have ES := Lib.hid (Adj.score_chk z0)
    clear z0
    go_enter Try.func23, Try.ntmps23
    go_wp2_with fail
    refine (refNeed_any gap rule id A c ts L d ls _ (H.out.ext hx0) (HL.out.ext hx0) HD.out).mono ?_
    rintro e w1 ⟨rfl, hb1⟩
    go_wp2
    go_ret2
    exact ⟨ret_two' (by rw [ES.out]) (by rw [ES.out]), hx0.trans hb1⟩

end Go.Proofs.Ythjledbomonfpaa
