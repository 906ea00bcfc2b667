/- The reference's checked and Need: contracts for the walk. Conditions: those of each theorem. -/
import Derived.Test.YthjledbomonfpaaAdjB
namespace Go.Proofs.Ythjledbomonfpaa
open Go.RowKit

set_option maxRecDepth 100000 in
set_option maxHeartbeats 1600000 in
theorem refChecked_any (gap rule : Int) (id : Int) (A : Option Addr) (c : Nat) (ts : List Rub.Trait) (L : Option Addr) (d : Nat) (ls : List IL) (w : World) (h : RubIn w id A c ts) (hL : SlL w L ls) (hd : ls.length ≤ maxLen) :
    Calls Try.prog 38 #[.agg #[.int .i64 gap, .int .i64 rule], .agg #[.int .i64 id, .slice A ts.length c], .slice L ls.length d] w fun e w' => e = .returned (.int .i64 (Adj.chkE gap rule id ts (ls.map IL.xs))) ∧ Ext w w' := by
  have H := Lib.hid h
  have HL := Lib.hid hL
  unfold maxLen at hd
  clear h hL
  have hx0 : Ext w ((w.alloc (.cells #[.int .i64 gap, .int .i64 rule] 38)).alloc (.cells #[.int .i64 id, .slice A ts.length c] 24)) := ((Ext.refl _).alloc _).alloc _
  by_cases z0 : Adj.adjE gap rule = 0
  · have Z0 := Lib.hid z0
    clear z0
    by_cases z1 : Rub.validE id ts = 0
    · have Z1 := Lib.hid z1
      clear z1
      by_cases z2 : 3 < ls.length
      · have E := Lib.hid (Adj.chk_long (ls := (ls.map IL.xs)) Z0.out Z1.out (by simpa using z2))
        have z2' : 3 < (ls.length : Int) := by omega
        go_enter Try.func38, Try.ntmps38
        go_wp2_with fail
        refine (refAdjValid_any gap rule _).mono ?_
        rintro e w1 ⟨rfl, hb1⟩
        rw [Z0.out]
        have ax1 : w1.cell? ⟨w.heap.size, 0, none⟩ = some (.int .i64 gap) := hb1.keep (by simp [go_sem])
        have ay1 : w1.cell? ⟨w.heap.size, 1, none⟩ = some (.int .i64 rule) := hb1.keep (by simp [go_sem])
        have bx1 : w1.cell? ⟨w.heap.size + 1, 0, none⟩ = some (.int .i64 id) := hb1.keep (by simp [go_sem])
        have by1 : w1.cell? ⟨w.heap.size + 1, 1, none⟩ = some (.slice A ts.length c) := hb1.keep (by simp [go_sem])
        have hx1 := hx0.trans hb1
        go_wp2_with fail
        refine (refValid_any id A c ts _ (H.out.ext hx1)).mono ?_
        rintro e w2 ⟨rfl, hb2⟩
        rw [Z1.out]
        go_wp2
        go_ret
        exact ⟨ret_int E.out.symm, hx1.trans hb2⟩
      · have E := Lib.hid (Adj.chk_all (ls := (ls.map IL.xs)) Z0.out Z1.out (by simp; omega))
        have z2' : (ls.length : Int) ≤ 3 := by omega
        clear z2
        go_enter Try.func38, Try.ntmps38
        go_wp2_with fail
        refine (refAdjValid_any gap rule _).mono ?_
        rintro e w1 ⟨rfl, hb1⟩
        rw [Z0.out]
        have ax1 : w1.cell? ⟨w.heap.size, 0, none⟩ = some (.int .i64 gap) := hb1.keep (by simp [go_sem])
        have ay1 : w1.cell? ⟨w.heap.size, 1, none⟩ = some (.int .i64 rule) := hb1.keep (by simp [go_sem])
        have bx1 : w1.cell? ⟨w.heap.size + 1, 0, none⟩ = some (.int .i64 id) := hb1.keep (by simp [go_sem])
        have by1 : w1.cell? ⟨w.heap.size + 1, 1, none⟩ = some (.slice A ts.length c) := hb1.keep (by simp [go_sem])
        have hx1 := hx0.trans hb1
        go_wp2_with fail
        refine (refValid_any id A c ts _ (H.out.ext hx1)).mono ?_
        rintro e w2 ⟨rfl, hb2⟩
        rw [Z1.out]
        have ax2 : w2.cell? ⟨w.heap.size, 0, none⟩ = some (.int .i64 gap) := hb2.keep ax1
        have ay2 : w2.cell? ⟨w.heap.size, 1, none⟩ = some (.int .i64 rule) := hb2.keep ay1
        have bx2 : w2.cell? ⟨w.heap.size + 1, 0, none⟩ = some (.int .i64 id) := hb2.keep bx1
        have by2 : w2.cell? ⟨w.heap.size + 1, 1, none⟩ = some (.slice A ts.length c) := hb2.keep by1
        have hx2 := hx1.trans hb2
        clear ax1 ay1 bx1 by1
        go_wp2
        go_loopw [27] (fun i wr => ∃ k : Nat, k ≤ ls.length ∧ i = .int .i64 k ∧ Rub.checkAllE id ts ((ls.map IL.xs).drop k) = Rub.checkAllE id ts (ls.map IL.xs) ∧ Ext w2 wr) (fun i _ => ls.length - (intOf i).toNat)
        case atStart => exact ⟨0, by omega, rfl, rfl, Ext.refl _⟩
        case round =>
          obtain ⟨k, hk, rfl, hfe, he⟩ := hrel
          have HF := Lib.hid hfe
          clear hfe
          have ax3 : wr.cell? ⟨w.heap.size, 0, none⟩ = some (.int .i64 gap) := he.keep ax2
          have ay3 : wr.cell? ⟨w.heap.size, 1, none⟩ = some (.int .i64 rule) := he.keep ay2
          have bx3 : wr.cell? ⟨w.heap.size + 1, 0, none⟩ = some (.int .i64 id) := he.keep bx2
          have by3 : wr.cell? ⟨w.heap.size + 1, 1, none⟩ = some (.slice A ts.length c) := he.keep by2
          have hx3 := hx2.trans he
          clear ax2 ay2 bx2 by2
          by_cases hlt : k < ls.length
          · obtain ⟨x, hx⟩ : ∃ x, ls[k]? = some x := ⟨ls[k], List.getElem?_eq_getElem hlt⟩
            obtain ⟨b, off, rfl, hb, c0, hin⟩ := (HL.out.ext hx3).at_ hx
            have HM : Hid ((ls.map IL.xs)[k]? = some x.xs) := by show (ls.map IL.xs)[k]? = some x.xs; rw [List.getElem?_map, hx]; rfl
            have HI := Lib.hid hin
            clear hx hin
            go_wp2_with fail
            refine (refCheck_any id A c ts x.A x.c x.xs _ (H.out.ext hx3) HI.out.1 (Nat.le_trans HI.out.2.1 HI.out.2.2.1)).mono ?_
            rintro e w4 ⟨rfl, hb4⟩
            by_cases hz : Rub.checkE id ts x.xs = 0
            · have HZ := Lib.hid hz
              rw [hz]
              clear hz
              go_wp2
              go_roundw
              case rel => exact ⟨k + 1, by omega, by go_num, by rw [← HF.out, Rub.all_step HM.out, if_pos HZ.out], he.trans hb4⟩
              case measure => simp [intOf]; omega
            · have hz' : (Rub.checkE id ts x.xs != 0) = true := by rw [bne_iff_ne]; exact hz
              have HZ := Lib.hid hz
              clear hz
              go_wp2
              go_ret
              have hee : Adj.chkE gap rule id ts (ls.map IL.xs) = Rub.checkE id ts x.xs := by rw [E.out, ← HF.out, Rub.all_step HM.out, if_neg HZ.out]
              exact ⟨ret_int hee.symm, hx3.trans hb4⟩
          · have hall : Rub.checkAllE id ts (ls.map IL.xs) = 0 := by rw [← HF.out, List.drop_eq_nil_of_le (by simp; omega)]; rfl
            have EZ := Lib.hid (E.out.trans hall)
            clear hall
            go_wp2
            go_ret
            exact ⟨ret_int EZ.out.symm, hx3⟩
    · have E := Lib.hid (Adj.chk_valid (ls := (ls.map IL.xs)) Z0.out z1)
      have z1' : (Rub.validE id ts != 0) = true := by rw [bne_iff_ne]; exact z1
      clear z1
      go_enter Try.func38, Try.ntmps38
      go_wp2_with fail
      refine (refAdjValid_any gap rule _).mono ?_
      rintro e w1 ⟨rfl, hb1⟩
      rw [Z0.out]
      have ax1 : w1.cell? ⟨w.heap.size, 0, none⟩ = some (.int .i64 gap) := hb1.keep (by simp [go_sem])
      have ay1 : w1.cell? ⟨w.heap.size, 1, none⟩ = some (.int .i64 rule) := hb1.keep (by simp [go_sem])
      have bx1 : w1.cell? ⟨w.heap.size + 1, 0, none⟩ = some (.int .i64 id) := hb1.keep (by simp [go_sem])
      have by1 : w1.cell? ⟨w.heap.size + 1, 1, none⟩ = some (.slice A ts.length c) := hb1.keep (by simp [go_sem])
      have hx1 := hx0.trans hb1
      go_wp2_with fail
      refine (refValid_any id A c ts _ (H.out.ext hx1)).mono ?_
      rintro e w2 ⟨rfl, hb2⟩
      go_wp2
      go_ret
      exact ⟨ret_int E.out.symm, hx1.trans hb2⟩
  · have E := Lib.hid (Adj.chk_adj (id := id) (ts := ts) (ls := (ls.map IL.xs)) z0)
    have z0' : (Adj.adjE gap rule != 0) = true := by rw [bne_iff_ne]; exact z0
    clear z0
    go_enter Try.func38, Try.ntmps38
    go_wp2_with fail
    refine (refAdjValid_any gap rule _).mono ?_
    rintro e w1 ⟨rfl, hb1⟩
    go_wp2
    go_ret
    exact ⟨ret_int E.out.symm, hx0.trans hb1⟩

set_option maxRecDepth 100000 in
set_option maxHeartbeats 1600000 in
theorem refNeed_any (gap rule : Int) (id : Int) (A : Option Addr) (c : Nat) (ts : List Rub.Trait) (L : Option Addr) (d : Nat) (ls : List IL) (w : World) (h : RubIn w id A c ts) (hL : SlL w L ls) (hd : ls.length ≤ maxLen) :
    Calls Try.prog 21 #[.agg #[.int .i64 gap, .int .i64 rule], .agg #[.int .i64 id, .slice A ts.length c], .slice L ls.length d] w fun e w' =>
      e = .returned (.tuple #[.int .i64 (Adj.needV gap rule id ts (ls.map IL.xs)), .int .i64 (Adj.chkE gap rule id ts (ls.map IL.xs))]) ∧ Ext w w' := by
  have H := Lib.hid h
  have HL := Lib.hid hL
  have HD := Lib.hid hd
  unfold maxLen at hd
  clear h hL
  have hx0 : Ext w ((w.alloc (.cells #[.int .i64 gap, .int .i64 rule] 38)).alloc (.cells #[.int .i64 id, .slice A ts.length c] 24)) := ((Ext.refl _).alloc _).alloc _
  by_cases z0 : Adj.chkE gap rule id ts (ls.map IL.xs) = 0
  · obtain ⟨y0, y1, y2, y3⟩ := Adj.chk_zero z0
    have Y0 := Lib.hid y0
    have Y3 := Lib.hid y3
    have EZ := Lib.hid z0
    have l3 : ls.length ≤ 3 := by simpa using y2
    clear z0 y0 y1 y2 y3
    go_enter Try.func21, Try.ntmps21
    go_wp2_with fail
    refine (refChecked_any gap rule id A c ts L d ls _ (H.out.ext hx0) (HL.out.ext hx0) HD.out).mono ?_
    rintro e w1 ⟨rfl, hb1⟩
    rw [EZ.out]
    have ax1 : w1.cell? ⟨w.heap.size, 0, none⟩ = some (.int .i64 gap) := hb1.keep (by simp [go_sem])
    have ay1 : w1.cell? ⟨w.heap.size, 1, none⟩ = some (.int .i64 rule) := hb1.keep (by simp [go_sem])
    have bx1 : w1.cell? ⟨w.heap.size + 1, 0, none⟩ = some (.int .i64 id) := hb1.keep (by simp [go_sem])
    have by1 : w1.cell? ⟨w.heap.size + 1, 1, none⟩ = some (.slice A ts.length c) := hb1.keep (by simp [go_sem])
    have hx1 := hx0.trans hb1
    by_cases l2 : ls.length < 2
    · have l2' : (ls.length : Int) < 2 := by omega
      go_wp2
      go_ret2
      refine ⟨ret_two' ?_ EZ.out.symm, hx1⟩
      rw [Adj.need_yes EZ.out]
      rcases Nat.eq_zero_or_pos ls.length with g | g
      · rw [need_len0 g]; omega
      · rw [need_len1 (by omega)]; omega
    · have l2' : 2 ≤ (ls.length : Int) := by omega
      obtain ⟨x, hx⟩ : ∃ x, ls[0]? = some x := ⟨ls[0], List.getElem?_eq_getElem (by omega)⟩
      obtain ⟨y, hy⟩ : ∃ y, ls[1]? = some y := ⟨ls[1], List.getElem?_eq_getElem (by omega)⟩
      obtain ⟨b, off, rfl, hb, c0, hin0⟩ := (HL.out.ext hx1).at_ hx
      obtain ⟨b', off', hA', -, c1, hin1⟩ := (HL.out.ext hx1).at_ hy
      injection hA' with hA'
      injection hA' with hA1 hA2
      subst hA1 hA2
      rw [Nat.add_zero] at c0
      have q0 : (0 : Int) < (ls.length : Int) := by omega
      have q1 : (1 : Int) < (ls.length : Int) := by omega
      have q2 : 0 < ls.length := by omega
      have q3 : 1 < ls.length := by omega
      have HI0 := Lib.hid hin0
      have HI1 := Lib.hid hin1
      have HX := Lib.hid hx
      have HY := Lib.hid hy
      have hcx : Rub.checkE id ts x.xs = 0 := Rub.all_zero Y3.out x.xs (List.mem_map.2 ⟨x, List.mem_of_getElem? hx, rfl⟩)
      have hcy : Rub.checkE id ts y.xs = 0 := Rub.all_zero Y3.out y.xs (List.mem_map.2 ⟨y, List.mem_of_getElem? hy, rfl⟩)
      have HAE : Hid (Adj.agreeE gap rule id ts x.xs y.xs = 0) := by show _ = _; unfold Adj.agreeE; rw [if_pos Y0.out]; simp [Rub.checkAllE, hcx, hcy]
      have HAB : Hid (Adj.agreeB gap rule id ts x.xs y.xs = decide (Rub.dist (x.xs.zip y.xs) 0 ≤ gap)) := by show _ = _; unfold Adj.agreeB; rw [if_pos HAE.out]
      clear l2 hx hy hin0 hin1 hcx hcy
      go_wp2
      go_region_held3 (fun w' => w'.cell? ⟨w.heap.size, 0, none⟩ = some (.int .i64 gap) ∧ w'.cell? ⟨w.heap.size, 1, none⟩ = some (.int .i64 rule) ∧ w'.cell? ⟨w.heap.size + 1, 0, none⟩ = some (.int .i64 id) ∧ w'.cell? ⟨w.heap.size + 1, 1, none⟩ = some (.slice A ts.length c) ∧ w'.cell? ⟨b, off, none⟩ = some (.slice x.A x.xs.length x.c) ∧ w'.cell? ⟨b, off + 1, none⟩ = some (.slice y.A y.xs.length y.c))
        (first
          | (exact ⟨ax1, ay1, bx1, by1, c0, c1⟩)
          | (exact ⟨hb4.keep ax1, hb4.keep ay1, hb4.keep bx1, hb4.keep by1, hb4.keep c0, hb4.keep c1⟩))
        (first
          | (go_at_call 28; refine (refAgree_any gap rule id A c ts x.A x.c x.xs y.A y.c y.xs _ (H.out.ext (by exact hx1.drew)) (HI0.out.ext (by exact (Ext.refl _).drew)) (HI1.out.ext (by exact (Ext.refl _).drew))).mono ?_; rintro e w4 ⟨rfl, hb4⟩))
      rw [HAE.out, HAB.out]
      by_cases m2 : ls.length = 2
      · have m2' : ((ls.length : Int) == 2) = true := by rw [beq_iff_eq]; omega
        have hls : ls = [x, y] := by
          obtain ⟨x', y', e1, e2, e3⟩ := two_of m2
          have hX := HX.out
          have hY := HY.out
          rw [e3] at hX hY ⊢
          simp at hX hY
          rw [hX, hY]
        have HNE : Hid (Adj.need gap (ls.map IL.xs) = if Rub.dist (x.xs.zip y.xs) 0 ≤ gap then 0 else 1) := by show _ = _; rw [hls]; rfl
        clear m2 hls
        by_cases hg : Rub.dist (x.xs.zip y.xs) 0 ≤ gap
        · have hg' : decide (Rub.dist (x.xs.zip y.xs) 0 ≤ gap) = true := by simpa using hg
          go_wp2
          go_ret2
          exact ⟨ret_two' (by rw [Adj.need_yes EZ.out, HNE.out, if_pos hg]) EZ.out.symm, hx1.drew.trans hb4⟩
        · have hg' : decide (Rub.dist (x.xs.zip y.xs) 0 ≤ gap) = false := by simpa using hg
          have HG := Lib.hid hg
          clear hg
          go_wp2
          go_ret2
          exact ⟨ret_two' (by rw [Adj.need_yes EZ.out, HNE.out, if_neg (by have := HG.out; omega)]) EZ.out.symm, hx1.drew.trans hb4⟩
      · have m2' : ((ls.length : Int) == 2) = false := by rw [beq_eq_false_iff_ne]; omega
        have L3 : Hid (ls.length = 3) := by show _ = _; omega
        clear m2
        go_wp2
        go_ret2
        exact ⟨ret_two' (by rw [Adj.need_yes EZ.out, need_len3 L3.out]) EZ.out.symm, hx1.drew.trans hb4⟩
  · have z0' : (Adj.chkE gap rule id ts (ls.map IL.xs) != 0) = true := by rw [bne_iff_ne]; exact z0
    have E2 := Lib.hid (Adj.need_not z0)
    clear z0
    go_enter Try.func21, Try.ntmps21
    go_wp2_with fail
    refine (refChecked_any gap rule id A c ts L d ls _ (H.out.ext hx0) (HL.out.ext hx0) HD.out).mono ?_
    rintro e w1 ⟨rfl, hb1⟩
    go_wp2
    go_ret2
    exact ⟨ret_two' E2.out.symm rfl, hx0.trans hb1⟩

end Go.Proofs.Ythjledbomonfpaa
