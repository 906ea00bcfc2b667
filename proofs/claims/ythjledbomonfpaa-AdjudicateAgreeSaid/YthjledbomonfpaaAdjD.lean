/- adjudicate.Score: contract for the walk. Conditions: those of the theorem. -/
import Derived.Test.YthjledbomonfpaaAdjC
namespace Go.Proofs.Ythjledbomonfpaa
open Go.RowKit

theorem quiet_plus {P : Program} {f : FuncId} {args : Array Value} {w : World} {a n : Nat} {v : Value}
    (h : Calls P f args (w.drewN (a + n)) fun e w' => e = .returned v ∧ w' = w.drewN (a + n)) :
    Calls P f args (w.drewN (a + n)) fun e w'' => e = .returned v ∧ ∃ m, w'' = w.drewN (a + m) :=
  h.mono fun _ _ ⟨he, hm⟩ => ⟨he, n, hm⟩

theorem own_keep {w w' : World} {base : Nat} {e : TypeId} {size : Nat} {v : Value} {n : Nat} {xs : List Value} (h : w.ownsRow base e size v n xs) (he : Ext w w') : w'.ownsRow base e size v n xs := by
  obtain ⟨h1, h2⟩ := h
  refine ⟨h1, ?_⟩
  rcases h2 with h2 | ⟨g, cap, cur, hv, hg, hh, r⟩
  · exact Or.inl h2
  · have hlt : g < w.heap.size := by
      rcases Nat.lt_or_ge g w.heap.size with hlt | hge
      · exact hlt
      · rw [Array.getElem?_eq_none hge] at hh; cases hh
    exact Or.inr ⟨g, cap, cur, hv, hg, by rw [Below.block he g hlt]; exact hh, r⟩

namespace Adj
theorem score_chk {gap rule id : Int} {ts : List Rub.Trait} {ls : List (List Int)} (h : chkE gap rule id ts ls ≠ 0) : scoreR gap rule id ts ls = (0, chkE gap rule id ts ls) := by unfold scoreR; rw [if_neg h]
theorem score_gap {gap rule id : Int} {ts : List Rub.Trait} {ls : List (List Int)} (h : chkE gap rule id ts ls = 0) (h1 : 0 < need gap ls) : scoreR gap rule id ts ls = (0, 22) := by unfold scoreR; rw [if_pos h, if_pos h1]
theorem score_ok {gap rule id : Int} {ts : List Rub.Trait} {ls : List (List Int)} (h : chkE gap rule id ts ls = 0) (h1 : ¬ 0 < need gap ls) : scoreR gap rule id ts ls = score gap rule ts ls := by unfold scoreR; rw [if_pos h, if_neg h1]
theorem need_two {gap : Int} {ls : List (List Int)} (h : ¬ 0 < need gap ls) (h3 : ls.length ≤ 3) : ls.length = 2 ∨ ls.length = 3 := by
  match ls, h, h3 with
  | [], h, _ => exact absurd (show (0 : Int) < 2 by decide) h
  | [_], h, _ => exact absurd (show (0 : Int) < 1 by decide) h
  | [_, _], _, _ => exact Or.inl rfl
  | [_, _, _], _, _ => exact Or.inr rfl
  | _ :: _ :: _ :: _ :: _, _, h3 => simp at h3
end Adj

def Adj.tots (ts : List Rub.Trait) (ls : List IL) : List Int := ls.map fun x => Rub.tot (ts.zip x.xs)

set_option maxRecDepth 100000 in
set_option maxHeartbeats 6400000 in
theorem score_any (gap rule : Int) (id : Int) (A : Option Addr) (c : Nat) (ts : List Rub.Trait) (L : Option Addr) (d : Nat) (ls : List IL) (w : World) (h : RubIn w id A c ts) (hL : SlL w L ls) (hd : ls.length ≤ maxLen) :
    Calls Try.prog 22 #[.agg #[.int .i64 gap, .int .i64 rule], .agg #[.int .i64 id, .slice A ts.length c], .slice L ls.length d] w fun e w' =>
      e = .returned (.tuple #[.int .i64 (Adj.scoreR gap rule id ts (ls.map IL.xs)).1, .int .i64 (Adj.scoreR gap rule id ts (ls.map IL.xs)).2]) ∧ Ext w w' := by
  have H := Lib.hid h
  have HL := Lib.hid hL
  have HD := Lib.hid hd
  unfold maxLen at hd
  clear h hL
  have hx0 : Ext w ((w.alloc (.cells #[.int .i64 gap, .int .i64 rule] 38)).alloc (.cells #[.int .i64 id, .slice A ts.length c] 24)) := ((Ext.refl _).alloc _).alloc _
  by_cases z0 : Adj.chkE gap rule id ts (ls.map IL.xs) = 0
  · by_cases z1 : 0 < Adj.need gap (ls.map IL.xs)
    · have EN := Lib.hid (Adj.need_yes z0)
      have EZ := Lib.hid z0
      have ES := Lib.hid (Adj.score_gap z0 z1)
      clear z0
      go_enter Try.func22, Try.ntmps22
      go_wp2_with fail
      refine (need_any gap rule id A c ts L d ls _ (H.out.ext hx0) (HL.out.ext hx0) HD.out).mono ?_
      rintro e w1 ⟨rfl, hb1⟩
      rw [EZ.out, EN.out]
      go_wp2
      go_ret2
      exact ⟨ret_two' (by rw [ES.out]) (by rw [ES.out]), hx0.trans hb1⟩
    · obtain ⟨y0, y1, y2, y3⟩ := Adj.chk_zero z0
      obtain ⟨gp0, gp1, hrule⟩ := Adj.adj_zero y0
      have Y0 := Lib.hid y0
      have Y3 := Lib.hid y3
      have EN := Lib.hid (Adj.need_yes z0)
      have EZ := Lib.hid z0
      have ES := Lib.hid (Adj.score_ok z0 z1)
      have l23 : ls.length = 2 ∨ ls.length = 3 := by simpa using Adj.need_two z1 y2
      have hcall : ∀ x ∈ ls, Rub.checkE id ts x.xs = 0 := fun x hx => Rub.all_zero y3 x.xs (List.mem_map.2 ⟨x, hx, rfl⟩)
      have HC := Lib.hid hcall
      have l3 : ls.length ≤ 3 := by omega
      have l2 : 2 ≤ ls.length := by omega
      clear z0 y0 y1 y2 y3 hcall
      obtain ⟨i0, hi0, hz0, hz1, hz2⟩ := info_parts Try.infoInt
      have htl : (Adj.tots ts ls).length = ls.length := by simp [Adj.tots]
      have HTL := Lib.hid htl
      clear htl
      go_enter Try.func22, Try.ntmps22
      go_wp2_with fail
      refine (need_any gap rule id A c ts L d ls _ (H.out.ext hx0) (HL.out.ext hx0) HD.out).mono ?_
      rintro e w1 ⟨rfl, hb1⟩
      rw [EZ.out, EN.out]
      have ax1 : w1.cell? ⟨w.heap.size, 0, none⟩ = some (.int .i64 gap) := hb1.keep (by simp [go_sem])
      have ay1 : w1.cell? ⟨w.heap.size, 1, none⟩ = some (.int .i64 rule) := hb1.keep (by simp [go_sem])
      have bx1 : w1.cell? ⟨w.heap.size + 1, 0, none⟩ = some (.int .i64 id) := hb1.keep (by simp [go_sem])
      have by1 : w1.cell? ⟨w.heap.size + 1, 1, none⟩ = some (.slice A ts.length c) := hb1.keep (by simp [go_sem])
      have hx1 := hx0.trans hb1
      go_wp2
      go_loopw [32, 10] (fun i v wr => ∃ k : Nat, k ≤ ls.length ∧ i = .int .i64 k ∧ wr.ownsRow w1.heap.size 3 1 v k (((Adj.tots ts ls).take k).map (Value.int .i64)) ∧ Ext w1 wr) (fun i _ _ => ls.length - (intOf i).toNat)
      case atStart => exact ⟨0, by omega, rfl, ⟨by simp, Or.inl ⟨rfl, rfl⟩⟩, Ext.refl _⟩
      case round =>
        obtain ⟨k, hk, rfl, hown, he⟩ := hrel
        have ax2 : wr.cell? ⟨w.heap.size, 0, none⟩ = some (.int .i64 gap) := he.keep ax1
        have ay2 : wr.cell? ⟨w.heap.size, 1, none⟩ = some (.int .i64 rule) := he.keep ay1
        have bx2 : wr.cell? ⟨w.heap.size + 1, 0, none⟩ = some (.int .i64 id) := he.keep bx1
        have by2 : wr.cell? ⟨w.heap.size + 1, 1, none⟩ = some (.slice A ts.length c) := he.keep by1
        have hx2 := hx1.trans he
        clear ax1 ay1 bx1 by1
        have hszr := he.size
        by_cases hlt : k < ls.length
        · obtain ⟨x, hx⟩ : ∃ x, ls[k]? = some x := ⟨ls[k], List.getElem?_eq_getElem hlt⟩
          obtain ⟨b, off, rfl, hb, c0, hin⟩ := (HL.out.ext hx2).at_ hx
          have hcx := HC.out x (List.mem_of_getElem? hx)
          have HTV : Hid (Rub.totV id ts x.xs = Rub.tot (ts.zip x.xs)) := by show _ = _; unfold Rub.totV; rw [if_pos hcx]
          have HTK : Hid ((Adj.tots ts ls)[k]? = some (Rub.tot (ts.zip x.xs))) := by show _ = _; unfold Adj.tots; rw [List.getElem?_map, hx]; rfl
          have HCX := Lib.hid hcx
          have HI := Lib.hid hin
          have hge := own_ge hown
          have HGE := Lib.hid hge
          have HOWN := Lib.hid hown
          clear hx hin hcx hge hown
          go_wp2_with fail
          refine (total_any id A c ts x.A x.c x.xs _ (H.out.ext hx2) HI.out.1 (Nat.le_trans HI.out.2.1 HI.out.2.2.1)).mono ?_
          rintro e w3 ⟨rfl, hb3⟩
          rw [HTV.out, HCX.out]
          have own3 := Lib.hid (own_keep HOWN.out hb3)
          have hsz3 := hb3.size
          generalize Rub.tot (ts.zip x.xs) = tt at *
          go_wp2_with (at_builtin; refine wpList_append_lies _ rfl _ _ 25 rfl w1.heap.size 3 i0 (.int .i64 0) 1 8 Try.underlying25 hi0 hz0 hz1 hz2 rfl (by decide) _ _ _ rfl (own3.out.alloc _) ⟨w3.heap.size, 0, none⟩ 1 1 [.int .i64 tt] rfl rfl (cell_one_new _ _ _) (by simp [Value.oneCell']) (by decide) (by unfold maxLen; omega) (by omega) (by simp; omega) (w3.heap.size + 1) (by simp) ?_; intro gg cap w4 hown4 hgrow4 hat hlt4)
          go_wp2
          go_roundw
          case rel =>
            refine ⟨k + 1, by omega, by go_num, ?_, ((he.trans hb3).alloc _).grown hgrow4 HGE.out⟩
            rw [Rub.take_snoc HTK.out, List.map_append]
            exact hown4
          case measure => simp [intOf]; omega
        · obtain rfl : k = ls.length := by omega
          rw [List.take_of_length_le (by rw [HTL.out]; exact Nat.le_refl _)] at hown
          obtain ⟨R, rc, rfl, hr1, hr2, hr3⟩ := SlI.of_own hown
          have HR := Lib.hid hr3
          clear hown hr3 hr1 hr2
          obtain ⟨x, hx⟩ : ∃ x, ls[0]? = some x := ⟨ls[0], List.getElem?_eq_getElem (by omega)⟩
          obtain ⟨y, hy⟩ : ∃ y, ls[1]? = some y := ⟨ls[1], List.getElem?_eq_getElem (by omega)⟩
          have tx : (Adj.tots ts ls)[0]? = some (Rub.tot (ts.zip x.xs)) := by unfold Adj.tots; rw [List.getElem?_map, hx]; rfl
          have ty : (Adj.tots ts ls)[1]? = some (Rub.tot (ts.zip y.xs)) := by unfold Adj.tots; rw [List.getElem?_map, hy]; rfl
          obtain ⟨br, or, x', rfl, hbr, hx', cr0⟩ := HR.out.at_ (i := 0) (by rw [HTL.out]; omega)
          obtain ⟨br', or', y', hR', -, hy', cr1⟩ := HR.out.at_ (i := 1) (by rw [HTL.out]; omega)
          injection hR' with hR'
          injection hR' with hR1 hR2
          subst hR1 hR2
          rw [tx] at hx'
          rw [ty] at hy'
          injection hx' with hx'
          injection hy' with hy'
          subst hx' hy'
          rw [Nat.add_zero] at cr0
          have bx' := Adj.tot_bd (HC.out x (List.mem_of_getElem? hx))
          have by' := Adj.tot_bd (HC.out y (List.mem_of_getElem? hy))
          have hcx := HC.out x (List.mem_of_getElem? hx)
          have hcy := HC.out y (List.mem_of_getElem? hy)
          have HCX := Lib.hid hcx
          have HCY := Lib.hid hcy
          have HXX := Lib.hid hx
          have HYY := Lib.hid hy
          have tlen : ((Adj.tots ts ls).length : Int) = (ls.length : Int) := by rw [HTL.out]
          have t0 : 0 < ((Adj.tots ts ls).length : Int) := by omega
          have t1 : 1 < ((Adj.tots ts ls).length : Int) := by omega
          have t0n : 0 < (Adj.tots ts ls).length := by omega
          have t1n : 1 < (Adj.tots ts ls).length := by omega
          by_cases m2 : ls.length = 2
          · have m2' : (((Adj.tots ts ls).length : Int) == 2) = true := by rw [beq_iff_eq]; omega
            have hls : ls = [x, y] := by
              obtain ⟨x', y', e1, e2, e3⟩ := two_of m2
              rw [e3] at hx hy ⊢
              simp at hx hy
              rw [hx, hy]
            have HS : Hid (Adj.score gap rule ts (ls.map IL.xs) = (Rub.tot (ts.zip x.xs) + Rub.tot (ts.zip y.xs), 0)) := by show _ = _; rw [hls]; rfl
            have HSR := Lib.hid (ES.out.trans HS.out)
            clear m2 hls hx hy tx ty hcx hcy tlen
            generalize Rub.tot (ts.zip x.xs) = tx at *
            generalize Rub.tot (ts.zip y.xs) = ty at *
            go_wp2
            go_quiet (fail)
            go_wp2
            go_ret2
            exact ⟨ret_two' (by rw [HSR.out]) (by rw [HSR.out]), hx2.drewN _⟩
          · have m2' : (((Adj.tots ts ls).length : Int) == 2) = false := by rw [beq_eq_false_iff_ne]; omega
            have hl3 : ls.length = 3 := by omega
            obtain ⟨z, hz⟩ : ∃ z, ls[2]? = some z := ⟨ls[2], List.getElem?_eq_getElem (by omega)⟩
            have tz : (Adj.tots ts ls)[2]? = some (Rub.tot (ts.zip z.xs)) := by unfold Adj.tots; rw [List.getElem?_map, hz]; rfl
            obtain ⟨br', or', z', hR', -, hz', cr2⟩ := HR.out.at_ (i := 2) (by rw [HTL.out]; omega)
            injection hR' with hR'
            injection hR' with hR1 hR2
            subst hR1 hR2
            rw [tz] at hz'
            injection hz' with hz'
            subst hz'
            have bz' := Adj.tot_bd (HC.out z (List.mem_of_getElem? hz))
            have hcz := HC.out z (List.mem_of_getElem? hz)
            have HCZ := Lib.hid hcz
            have hls : ls = [x, y, z] := by
              obtain ⟨x', y', z', e1, e2, e3, e4⟩ := three_of hl3
              rw [e4] at hx hy hz ⊢
              simp at hx hy hz
              rw [hx, hy, hz]
            have HS : Hid (Adj.score gap rule ts (ls.map IL.xs) = if Rub.dist (x.xs.zip y.xs) 0 ≤ gap then (0, 21) else if rule = 1 then (2 * Rub.tot (ts.zip z.xs), 0)
                else if rule = 2 then (Rub.tot (ts.zip z.xs) + Adj.nearer (Rub.tot (ts.zip z.xs)) (Rub.tot (ts.zip x.xs)) (Rub.tot (ts.zip y.xs)), 0) else (2 * Rub.tot (ts.zip (Rub.mids x.xs y.xs z.xs)), 0)) := by show _ = _; rw [hls]; rfl
            have HSR := Lib.hid (ES.out.trans HS.out)
            have HAE : Hid (Adj.agreeE gap rule id ts x.xs y.xs = 0) := by show _ = _; unfold Adj.agreeE; rw [if_pos Y0.out]; simp [Rub.checkAllE, hcx, hcy]
            have HAB : Hid (Adj.agreeB gap rule id ts x.xs y.xs = decide (Rub.dist (x.xs.zip y.xs) 0 ≤ gap)) := by show _ = _; unfold Adj.agreeB; rw [if_pos HAE.out]
            have HMV : Hid (Rub.medV id ts x.xs y.xs z.xs = Rub.mids x.xs y.xs z.xs) := by show _ = _; unfold Rub.medV; rw [if_pos (by simp [Rub.checkAllE, hcx, hcy, hcz])]
            have HME : Hid (Rub.checkAllE id ts [x.xs, y.xs, z.xs] = 0) := by show _ = _; simp [Rub.checkAllE, hcx, hcy, hcz]
            have hcm := Adj.check_mids hcx hcy hcz
            have bm' := Adj.tot_bd hcm
            have HCM := Lib.hid hcm
            have HTM : Hid (Rub.totV id ts (Rub.mids x.xs y.xs z.xs) = Rub.tot (ts.zip (Rub.mids x.xs y.xs z.xs))) := by show _ = _; unfold Rub.totV; rw [if_pos hcm]
            obtain ⟨b, off, rfl, hb, c0, hin0⟩ := (HL.out.ext hx2).at_ hx
            obtain ⟨b', off', hA', -, c1, hin1⟩ := (HL.out.ext hx2).at_ hy
            injection hA' with hA'
            injection hA' with hA1 hA2
            subst hA1 hA2
            obtain ⟨b', off', hA', -, c2, hin2⟩ := (HL.out.ext hx2).at_ hz
            injection hA' with hA'
            injection hA' with hA1 hA2
            subst hA1 hA2
            rw [Nat.add_zero] at c0
            have HI0 := Lib.hid hin0
            have HI1 := Lib.hid hin1
            have HI2 := Lib.hid hin2
            have u0 : 0 < (ls.length : Int) := by omega
            have u1 : 1 < (ls.length : Int) := by omega
            have u2 : 2 < (ls.length : Int) := by omega
            have u0n : 0 < ls.length := by omega
            have u1n : 1 < ls.length := by omega
            have u2n : 2 < ls.length := by omega
            have t2 : 2 < ((Adj.tots ts ls).length : Int) := by omega
            have t2n : 2 < (Adj.tots ts ls).length := by omega
            clear m2 hls hx hy hz tx ty tz hcx hcy hcz hcm tlen hl3 hin0 hin1 hin2 l23
            generalize Rub.tot (ts.zip x.xs) = tx at *
            generalize Rub.tot (ts.zip y.xs) = ty at *
            generalize Rub.tot (ts.zip z.xs) = tz at *
            go_wp2
            go_region_held3 (fun w' => w'.cell? ⟨w.heap.size, 0, none⟩ = some (.int .i64 gap) ∧ w'.cell? ⟨w.heap.size, 1, none⟩ = some (.int .i64 rule) ∧ w'.cell? ⟨w.heap.size + 1, 0, none⟩ = some (.int .i64 id) ∧ w'.cell? ⟨w.heap.size + 1, 1, none⟩ = some (.slice A ts.length c) ∧ w'.cell? ⟨b, off, none⟩ = some (.slice x.A x.xs.length x.c) ∧ w'.cell? ⟨b, off + 1, none⟩ = some (.slice y.A y.xs.length y.c))
              (first
                | (exact ⟨ax2, ay2, bx2, by2, c0, c1⟩)
                | (exact ⟨hb4.keep ax2, hb4.keep ay2, hb4.keep bx2, hb4.keep by2, hb4.keep c0, hb4.keep c1⟩))
              (first
                | (go_at_call 27; refine (agree_any gap rule id A c ts x.A x.c x.xs y.A y.c y.xs _ (H.out.ext (by exact hx2.drew)) (HI0.out.ext (by exact (Ext.refl _).drew)) (HI1.out.ext (by exact (Ext.refl _).drew))).mono ?_; rintro e w4 ⟨rfl, hb4⟩))
            rw [HAE.out, HAB.out]
            replace hb4 := hb4.undrew
            have ax4 : w4.cell? ⟨w.heap.size, 0, none⟩ = some (.int .i64 gap) := hb4.keep ax2
            have ay4 : w4.cell? ⟨w.heap.size, 1, none⟩ = some (.int .i64 rule) := hb4.keep ay2
            have bx4 : w4.cell? ⟨w.heap.size + 1, 0, none⟩ = some (.int .i64 id) := hb4.keep bx2
            have by4 : w4.cell? ⟨w.heap.size + 1, 1, none⟩ = some (.slice A ts.length c) := hb4.keep by2
            have hx4 := hx2.trans hb4
            have dr0 := hb4.keep cr0
            have dr1 := hb4.keep cr1
            have dr2 := hb4.keep cr2
            have d0 := hb4.keep c0
            have d1 := hb4.keep c1
            have d2 := hb4.keep c2
            clear ax2 ay2 bx2 by2 cr0 cr1 cr2 c0 c1 c2
            by_cases hg : Rub.dist (x.xs.zip y.xs) 0 ≤ gap
            · have hg' : decide (Rub.dist (x.xs.zip y.xs) 0 ≤ gap) = true := by simpa using hg
              have HFIN := Lib.hid (HSR.out.trans (if_pos hg))
              go_wp2
              go_ret2
              exact ⟨ret_two' (by rw [HFIN.out]) (by rw [HFIN.out]), hx4⟩
            · have hg' : decide (Rub.dist (x.xs.zip y.xs) 0 ≤ gap) = false := by simpa using hg
              have HF1 := Lib.hid (HSR.out.trans (if_neg hg))
              have hg2 : gap < Rub.dist (x.xs.zip y.xs) 0 := by omega
              clear hg
              rcases hrule with rfl | rfl | rfl
              · have HFIN := Lib.hid (HF1.out.trans (if_pos rfl))
                go_wp2
                go_ret2
                exact ⟨ret_two' (by rw [HFIN.out]) (by rw [HFIN.out]), hx4⟩
              · have HFIN := Lib.hid ((HF1.out.trans (if_neg (by decide))).trans (if_pos rfl))
                have nb0 : 0 ≤ Adj.nearer tz tx ty := by unfold Adj.nearer; split <;> omega
                have nb1 : Adj.nearer tz tx ty ≤ 600 := by unfold Adj.nearer; split <;> omega
                go_wp2
                go_quiet ((go_at_call 39; first | exact Calls.quiet_of_same (nearer_any tz tx ty _ (by omega) (by omega) (by omega) (by omega) (by omega) (by omega)) | exact quiet_plus (nearer_any tz tx ty _ (by omega) (by omega) (by omega) (by omega) (by omega) (by omega))))
                go_wp2
                go_ret2
                exact ⟨ret_two' (by rw [HFIN.out]) (by rw [HFIN.out]), hx4.drewN _⟩
              · have HFIN := Lib.hid ((HF1.out.trans (if_neg (by decide))).trans (if_neg (by decide)))
                generalize Rub.tot (ts.zip (Rub.mids x.xs y.xs z.xs)) = tm at *
                go_wp2
                go_region_held3 (fun w' => w'.cell? ⟨w.heap.size, 0, none⟩ = some (.int .i64 gap) ∧ w'.cell? ⟨w.heap.size, 1, none⟩ = some (.int .i64 3) ∧ w'.cell? ⟨w.heap.size + 1, 0, none⟩ = some (.int .i64 id) ∧ w'.cell? ⟨w.heap.size + 1, 1, none⟩ = some (.slice A ts.length c) ∧ w'.cell? ⟨b, off, none⟩ = some (.slice x.A x.xs.length x.c) ∧ w'.cell? ⟨b, off + 1, none⟩ = some (.slice y.A y.xs.length y.c) ∧ w'.cell? ⟨b, off + 2, none⟩ = some (.slice z.A z.xs.length z.c))
                  (first
                    | (exact ⟨ax4, ay4, bx4, by4, d0, d1, d2⟩)
                    | (exact ⟨hb5.keep ax4, hb5.keep ay4, hb5.keep bx4, hb5.keep by4, hb5.keep d0, hb5.keep d1, hb5.keep d2⟩))
                  (first
                    | (go_at_call 11; refine (median_any id A c ts x.A x.c x.xs y.A y.c y.xs z.A z.c z.xs _ (H.out.ext (by exact hx4.drew)) (HI0.out.ext (by exact hb4.drew)) (HI1.out.ext (by exact hb4.drew)) (HI2.out.ext (by exact hb4.drew))).mono ?_; rintro e w5 ⟨M, mc, rfl, hm, hb5⟩))
                rw [HMV.out, HME.out]
                rw [HMV.out] at hm
                have HM := Lib.hid hm
                clear hm
                replace hb5 := hb5.undrew
                have ax5 : w5.cell? ⟨w.heap.size, 0, none⟩ = some (.int .i64 gap) := hb5.keep ax4
                have ay5 : w5.cell? ⟨w.heap.size, 1, none⟩ = some (.int .i64 3) := hb5.keep ay4
                have bx5 : w5.cell? ⟨w.heap.size + 1, 0, none⟩ = some (.int .i64 id) := hb5.keep bx4
                have by5 : w5.cell? ⟨w.heap.size + 1, 1, none⟩ = some (.slice A ts.length c) := hb5.keep by4
                have hx5 := hx4.trans hb5
                go_wp2_with fail
                refine (total_any id A c ts M mc (Rub.mids x.xs y.xs z.xs) _ (H.out.ext hx5) HM.out.1 (Nat.le_trans HM.out.2.1 HM.out.2.2.1)).mono ?_
                rintro e w6 ⟨rfl, hb6⟩
                rw [HTM.out, HCM.out]
                go_wp2
                go_ret2
                exact ⟨ret_two' (by rw [HFIN.out]) (by rw [HFIN.out]), hx5.trans hb6⟩
  · have z0' : (Adj.chkE gap rule id ts (ls.map IL.xs) != 0) = true := by rw [bne_iff_ne]; exact z0
    have ES := Lib.hid (Adj.score_chk z0)
    clear z0
    go_enter Try.func22, Try.ntmps22
    go_wp2_with fail
    refine (need_any gap rule id A c ts L d ls _ (H.out.ext hx0) (HL.out.ext hx0) HD.out).mono ?_
    rintro e w1 ⟨rfl, hb1⟩
    go_wp2
    go_ret2
    exact ⟨ret_two' (by rw [ES.out]) (by rw [ES.out]), hx0.trans hb1⟩

end Go.Proofs.Ythjledbomonfpaa
