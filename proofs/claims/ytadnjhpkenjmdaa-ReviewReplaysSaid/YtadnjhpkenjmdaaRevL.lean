/- The reference's Apply: its contract. Conditions: those of the theorem. -/
import Derived.Test.YtadnjhpkenjmdaaRevK
import Derived.Deep.RegionLaw
namespace Go.Proofs.Ytadnjhpkenjmdaa
open Go.RowKit

set_option maxRecDepth 100000 in
set_option maxHeartbeats 6400000 in
theorem refApply_any (st au : Int) (P : Option Addr) (pc : Nat) (ap : List Int) (Q : Option Addr) (qc : Nat) (fa : List Int) (L : Option Addr) (lc : Nat) (log : List Rev.Act) (k u ro t : Int) (w : World) (h : RevIn w st au P pc ap Q qc fa L lc log) (hb1 : ap.length ≤ 1000000) (hb2 : fa.length ≤ 1000000) (hin : (⟨k, u, ro, t⟩ : Rev.Act).In) :
    Calls Try.prog 21 #[.agg #[.int .i64 st, .int .i64 au, .slice P ap.length pc, .slice Q fa.length qc, .slice L log.length lc], .agg #[.int .i64 k, .int .i64 u, .int .i64 ro, .int .i64 t]] w (RetRev (Rev.applyR ⟨st, au, ap, fa, log⟩ ⟨k, u, ro, t⟩) (Rev.allowedE ⟨st, au, ap, fa, log⟩ ⟨k, u, ro, t⟩) w) := by
  have H := Lib.hid h
  have HIN := Lib.hid hin
  clear h hin
  have hx0 : Ext w (((w.alloc (.cells #[.int .i64 st, .int .i64 au, .slice P ap.length pc, .slice Q fa.length qc, .slice L log.length lc] 25)).alloc (.cells #[.int .i64 k, .int .i64 u, .int .i64 ro, .int .i64 t] 34)).alloc (.cells #[.int .i64 0, .int .i64 0, .slice none 0 0, .slice none 0 0, .slice none 0 0] 25)) := (((Ext.refl _).alloc _).alloc _).alloc _
  by_cases z : Rev.allowedE ⟨st, au, ap, fa, log⟩ ⟨k, u, ro, t⟩ = 0
  · have Z := Lib.hid z
    have HNX : Hid (Rev.applyR ⟨st, au, ap, fa, log⟩ ⟨k, u, ro, t⟩ = Rev.next ⟨st, au, ap, fa, log⟩ ⟨k, u, ro, t⟩) := Lib.hid (by unfold Rev.applyR; rw [if_pos z])
    obtain ⟨k1, k2, hl200⟩ := Rev.allowed_zero z
    clear z
    have hk : k = 1 ∨ k = 2 ∨ k = 3 ∨ k = 4 ∨ k = 5 ∨ k = 6 ∨ k = 7 ∨ k = 8 ∨ k = 9 := by simp only at k1 k2; omega
    have hl200' : log.length ≤ 200 := by simp only at hl200; omega
    clear hl200 k1 k2
    go_enter Try.func21, Try.ntmps21
    go_wp2_with fail
    refine (refAllowed_any st au P pc ap Q qc fa L lc log k u ro t _ (H.out.ext hx0)).mono ?_
    rintro e w1 ⟨rfl, hb3⟩
    rw [Z.out]
    have hx1 := hx0.trans hb3
    have a0 : w1.cell? ⟨w.heap.size + 1, 0, none⟩ = some (.int .i64 k) := hb3.keep (by simp [go_sem])
    have a1 : w1.cell? ⟨w.heap.size + 1, 1, none⟩ = some (.int .i64 u) := hb3.keep (by simp [go_sem])
    have r0 : w1.cell? ⟨w.heap.size + 1 + 1, 0, none⟩ = some (.int .i64 0) := hb3.keep (by simp [go_sem])
    have s0 : w1.frozen? ⟨w.heap.size + 1 + 1, 0, none⟩ = false := hb3.free (v := .int .i64 0) (by simp [go_sem]) (by simp [go_sem])
    have r1 : w1.cell? ⟨w.heap.size + 1 + 1, 1, none⟩ = some (.int .i64 0) := hb3.keep (by simp [go_sem])
    have s1 : w1.frozen? ⟨w.heap.size + 1 + 1, 1, none⟩ = false := hb3.free (v := .int .i64 0) (by simp [go_sem]) (by simp [go_sem])
    have r2 : w1.cell? ⟨w.heap.size + 1 + 1, 2, none⟩ = some (.slice none 0 0) := hb3.keep (by simp [go_sem])
    have s2 : w1.frozen? ⟨w.heap.size + 1 + 1, 2, none⟩ = false := hb3.free (v := .slice none 0 0) (by simp [go_sem]) (by simp [go_sem])
    have r3 : w1.cell? ⟨w.heap.size + 1 + 1, 3, none⟩ = some (.slice none 0 0) := hb3.keep (by simp [go_sem])
    have s3 : w1.frozen? ⟨w.heap.size + 1 + 1, 3, none⟩ = false := hb3.free (v := .slice none 0 0) (by simp [go_sem]) (by simp [go_sem])
    have r4 : w1.cell? ⟨w.heap.size + 1 + 1, 4, none⟩ = some (.slice none 0 0) := hb3.keep (by simp [go_sem])
    have s4 : w1.frozen? ⟨w.heap.size + 1 + 1, 4, none⟩ = false := hb3.free (v := .slice none 0 0) (by simp [go_sem]) (by simp [go_sem])
    have A0 := Lib.hid a0
    have A1p := Lib.hid a1
    have R0 := Lib.hid r0
    have R1 := Lib.hid r1
    have R2 := Lib.hid r2
    have R3 := Lib.hid r3
    have R4 := Lib.hid r4
    have S0 := Lib.hid s0
    have S1 := Lib.hid s1
    have S2 := Lib.hid s2
    have S3 := Lib.hid s3
    have S4 := Lib.hid s4
    clear a0 a1 r0 r1 r2 r3 r4 s0 s1 s2 s3 s4
    have n0 : w1.cell? ⟨w.heap.size, 0, none⟩ = some (.int .i64 st) := hb3.keep (by simp [go_sem])
    have n1 : w1.cell? ⟨w.heap.size, 1, none⟩ = some (.int .i64 au) := hb3.keep (by simp [go_sem])
    have n2 : w1.cell? ⟨w.heap.size, 2, none⟩ = some (.slice P ap.length pc) := hb3.keep (by simp [go_sem])
    have n3 : w1.cell? ⟨w.heap.size, 3, none⟩ = some (.slice Q fa.length qc) := hb3.keep (by simp [go_sem])
    have n4 : w1.cell? ⟨w.heap.size, 4, none⟩ = some (.slice L log.length lc) := hb3.keep (by simp [go_sem])
    have a2 : w1.cell? ⟨w.heap.size + 1, 2, none⟩ = some (.int .i64 ro) := hb3.keep (by simp [go_sem])
    have a3 : w1.cell? ⟨w.heap.size + 1, 3, none⟩ = some (.int .i64 t) := hb3.keep (by simp [go_sem])
    have N4 := Lib.hid n4
    have A2p := Lib.hid a2
    have A3p := Lib.hid a3
    have HAP := Lib.hid (H.out.1.1.ext hx1)
    have HFA := Lib.hid (H.out.2.1.1.ext hx1)
    have HLG := Lib.hid (H.out.2.2.1.ext hx1)
    clear n4 a2 a3
    go_upto_region 4 with fail
    go_cut [7] from 16 to 26 (fun p wx => RCut w1 st au ap fa p wx)
    case first =>
      have hdr : Ext w1 w1.drew := (Ext.refl w1).drew
      have hs0 : w1.drew.heap.size = w1.heap.size := rfl
      go_region_held3 (fun w' => w'.cell? ⟨w.heap.size, 0, none⟩ = some (.int .i64 st) ∧ w'.cell? ⟨w.heap.size, 1, none⟩ = some (.int .i64 au) ∧ w'.cell? ⟨w.heap.size, 2, none⟩ = some (.slice P ap.length pc) ∧ w'.cell? ⟨w.heap.size, 3, none⟩ = some (.slice Q fa.length qc) ∧ Ext w1 w')
        (first
          | (with_reducible exact ⟨Ext.keep hdr n0, Ext.keep hdr n1, Ext.keep hdr n2, Ext.keep hdr n3, hdr⟩)
          | (with_reducible exact ⟨Ext.keep ((Ext.refl w1).alloc _).drew n0, Ext.keep ((Ext.refl w1).alloc _).drew n1, Ext.keep ((Ext.refl w1).alloc _).drew n2, Ext.keep ((Ext.refl w1).alloc _).drew n3, ((Ext.refl w1).alloc _).drew⟩)
          | (with_reducible exact ⟨Ext.keep hE2 n0, Ext.keep hE2 n1, Ext.keep hE2 n2, Ext.keep hE2 n3, hE2⟩)
          | (with_reducible exact ⟨Ext.keep (Ext.alloc hE2 _) n0, Ext.keep (Ext.alloc hE2 _) n1, Ext.keep (Ext.alloc hE2 _) n2, Ext.keep (Ext.alloc hE2 _) n3, (Ext.alloc hE2 _)⟩)
          | (with_reducible exact ⟨Ext.keep hE3 n0, Ext.keep hE3 n1, Ext.keep hE3 n2, Ext.keep hE3 n3, hE3⟩)
          | (with_reducible exact ⟨Ext.keep (Ext.alloc hE3 _) n0, Ext.keep (Ext.alloc hE3 _) n1, Ext.keep (Ext.alloc hE3 _) n2, Ext.keep (Ext.alloc hE3 _) n3, (Ext.alloc hE3 _)⟩)
          | (go_split_ands; with_reducible exact ⟨Ext.keep (put5_ext hE3 hg) n0, Ext.keep (put5_ext hE3 hg) n1, Ext.keep (put5_ext hE3 hg) n2, Ext.keep (put5_ext hE3 hg) n3, put5_ext hE3 hg⟩))
        (first
          | (have hq2 := hE2; go_at_call 27; clear hq2; refine (refInts_any Q qc fa _ (HFA.out.ext (by first | (with_reducible exact hE2) | (with_reducible exact Ext.alloc hE2 _))) hb2).mono ?_; rintro e w3 ⟨A2, c2, rfl, hoy, hb3x⟩; (first | (have h23 : Ext w2 w3 := (by with_reducible exact hb3x); have hE3 : Ext w1 w3 := hE2.trans h23; (try (have blk3 := hb3x.blockAt blk; have hg : w1.heap.size ≤ w1.heap.size := Nat.le_refl _; have b0 : w3.cell? ⟨w1.heap.size, 0, none⟩ = some (.int .i64 0) := (by rw [cell_of_row _ _ _ _ _ _ blk3]; rfl); have f0 := frozen_of_row _ _ 0 _ _ blk3; have b1 : w3.cell? ⟨w1.heap.size, 1, none⟩ = some (.int .i64 0) := (by rw [cell_of_row _ _ _ _ _ _ blk3]; rfl); have f1 := frozen_of_row _ _ 1 _ _ blk3; have b2 : w3.cell? ⟨w1.heap.size, 2, none⟩ = some (.slice none 0 0) := (by rw [cell_of_row _ _ _ _ _ _ blk3]; rfl); have f2 := frozen_of_row _ _ 2 _ _ blk3; have b3 : w3.cell? ⟨w1.heap.size, 3, none⟩ = some (.slice none 0 0) := (by rw [cell_of_row _ _ _ _ _ _ blk3]; rfl); have f3 := frozen_of_row _ _ 3 _ _ blk3; have b4 : w3.cell? ⟨w1.heap.size, 4, none⟩ = some (.slice none 0 0) := (by rw [cell_of_row _ _ _ _ _ _ blk3]; rfl); have f4 := frozen_of_row _ _ 4 _ _ blk3))) | (have h23 : Ext w2 w3 := (by with_reducible exact ((Ext.refl w2).alloc _).trans hb3x); have hE3 : Ext w1 w3 := hE2.trans h23; have blk3 : w3.heap[w2.heap.size]? = some (.cells #[.int .i64 0, .int .i64 0, .slice none 0 0, .slice none 0 0, .slice none 0 0] 25 (0, 0)) := hb3x.blockAt (heap_new_at _ _ _ (by simp)); have hg : w1.heap.size ≤ w2.heap.size := hE2.size; have b0 : w3.cell? ⟨w2.heap.size, 0, none⟩ = some (.int .i64 0) := (by rw [cell_of_row _ _ _ _ _ _ blk3]; rfl); have f0 := frozen_of_row _ _ 0 _ _ blk3; have b1 : w3.cell? ⟨w2.heap.size, 1, none⟩ = some (.int .i64 0) := (by rw [cell_of_row _ _ _ _ _ _ blk3]; rfl); have f1 := frozen_of_row _ _ 1 _ _ blk3; have b2 : w3.cell? ⟨w2.heap.size, 2, none⟩ = some (.slice none 0 0) := (by rw [cell_of_row _ _ _ _ _ _ blk3]; rfl); have f2 := frozen_of_row _ _ 2 _ _ blk3; have b3 : w3.cell? ⟨w2.heap.size, 3, none⟩ = some (.slice none 0 0) := (by rw [cell_of_row _ _ _ _ _ _ blk3]; rfl); have f3 := frozen_of_row _ _ 3 _ _ blk3; have b4 : w3.cell? ⟨w2.heap.size, 4, none⟩ = some (.slice none 0 0) := (by rw [cell_of_row _ _ _ _ _ _ blk3]; rfl); have f4 := frozen_of_row _ _ 4 _ _ blk3)))
          | (go_at_call 27; refine (refInts_any P pc ap _ (HAP.out.ext (by first | (with_reducible exact hdr) | (with_reducible exact ((Ext.refl w1).alloc _).drew))) hb1).mono ?_; rintro e w2 ⟨A1, c1, rfl, hox, hb2x⟩; (first | (have hE2 : Ext w1 w2 := (by with_reducible exact hdr.trans hb2x); have hz2 : w1.heap.size ≤ w1.drew.heap.size := Nat.le_refl _) | (have hE2 : Ext w1 w2 := (by with_reducible exact (((Ext.refl w1).alloc _).drew).trans hb2x); have hz2 : w1.heap.size + 1 ≤ w2.heap.size := (by have := hb2x.size; simp at this; exact this); have blk : w2.heap[w1.heap.size]? = some (.cells #[.int .i64 0, .int .i64 0, .slice none 0 0, .slice none 0 0, .slice none 0 0] 25 (0, 0)) := hb2x.blockAt (heap_new_at _ _ _ (by simp))))))
      all_goals
        go_wp2_with fail
        go_meet
        first
          | (with_reducible exact RCut_new hz2 hox h23 (Nat.le_refl _) hoy hE2)
          | (with_reducible refine RCut_put blk3 hg ?_ hox h23 ?_ hoy hE2 <;> simp)
    case rest =>
      obtain ⟨g, A1, c1, A2, c2, rfl, hg, hrat, hex⟩ := hcut
      have hgn : w.heap.size + 1 + 1 < g := Nat.lt_of_lt_of_le (World.block_lt_of_cell? w1 _ R0.out) hg
      have hgn1 : w.heap.size + 1 < g := by omega
      have hgn0 : w.heap.size < g := by omega
      have HRAT := Lib.hid hrat
      clear hrat n0 n1 n2 n3
      obtain ⟨i0, hi0, hz0, hz1, hz2⟩ := info_parts Try.infoAct
      go_wp2_with fail
      go_loopw [8] (fun i wr => ∃ (j : Nat) (A3 : Option Addr) (c3 : Nat), j ≤ log.length ∧ i = .int .i64 j ∧ RAt wr w1.heap.size g st au ap fa (log.take j) A1 c1 A2 c2 A3 c3 ∧ Ext w1 wr) (fun i _ => log.length - (intOf i).toNat)
      case atStart => exact ⟨0, none, 0, by omega, rfl, HRAT.out, hex⟩
      case round =>
        obtain ⟨j, A3, c3, hj, rfl, hrj, he⟩ := hrel
        obtain ⟨wo, rfl⟩ : ∃ wo : World, wo = wr := ⟨_, rfl⟩
        have hlj : (log.take j).length = j := by rw [List.length_take]; omega
        have HR := Lib.hid hrj
        obtain ⟨g4, f4⟩ := hrj.cells
        rw [hlj] at g4
        have hoz := hrj.2.2.2.1
        rw [hlj] at hoz
        have HOZ := Lib.hid hoz
        have HLJ := Lib.hid hlj
        have bx4 := he.keep N4.out
        have hes := he.size
        have hgl : g < wo.heap.size := World.block_lt_of_cell? wo _ g4
        have hgne : g ≠ wo.heap.size := by omega
        have hgne' : wo.heap.size ≠ g := by omega
        clear hrj hoz hlj
        by_cases hlt : j < log.length
        · obtain ⟨a, ha⟩ : ∃ a, log[j]? = some a := ⟨log[j], List.getElem?_eq_getElem hlt⟩
          obtain ⟨gb, go, rfl, hgb, d0, d1, d2, d3⟩ := (HLG.out.ext he).at_ ha
          have HTK : Hid (log.take (j + 1) = log.take j ++ [a]) := Lib.hid (by rw [List.take_add_one, ha]; rfl)
          have ji0 : (0 : Int) ≤ (j : Int) := by omega
          have ji1 : (j : Int) < (log.length : Int) := by omega
          clear ha
          go_upto_region 8 with fail
          have hdr : Ext wo wo.drew := (Ext.refl wo).drew
          go_region_law (first
            | (refine step_append_lies _ rfl _ _ 23 rfl w1.heap.size 34 i0 (.agg #[.int .i64 0, .int .i64 0, .int .i64 0, .int .i64 0]) 4 32 Try.underlying23 hi0 hz0 hz1 hz2 rfl (by decide) (.slice A3 j c3) j _ rfl (own_ext HOZ.out (by first | (with_reducible exact ((Ext.refl wo).alloc _).drew) | (with_reducible exact hdr.alloc _))) ⟨wo.heap.size, 0, none⟩ 1 1 a.cells rfl rfl (World.news_of_block (heap_new_at _ _ _ (by simp))) (by simp [Value.oneCell', Rev.Act.cells]) (by decide) (by unfold maxLen; omega) (by omega) (by simp; omega) _ rfl ?_; intro gg cap w2 hown2 hgrow2 hat hlt2; have HST := Lib.hid (RAt_store a HR.out HLJ.out (by first | (with_reducible exact ((Ext.refl wo).alloc _).drew) | (with_reducible exact hdr.alloc _)) hgrow2 hown2); have HUP := Lib.hid (RAt_up HR.out he (Nat.le_refl _) HLJ.out (by first | (with_reducible exact ((Ext.refl wo).alloc _).drew) | (with_reducible exact hdr.alloc _)) hgrow2); have hb2w : w2.heap[g]? = some (.cells #[.int .i64 st, .int .i64 au, .slice A1 ap.length c1, .slice A2 fa.length c2, .slice A3 (log.take j).length c3] 25 (0, 0)) := RAt_block HR.out HLJ.out (by first | (with_reducible exact ((Ext.refl wo).alloc _).drew) | (with_reducible exact hdr.alloc _)) hgrow2; have p4 : w2.cell? ⟨g, 4, none⟩ = some (.slice A3 (log.take j).length c3) := (by rw [cell_of_row _ _ _ _ _ _ hb2w]; rfl); have q4 := frozen_of_row _ _ 4 _ _ hb2w; clear hown2 hgrow2 hb2w))
          all_goals
            go_wp2
            go_roundw
            case rel =>
              refine ⟨j + 1, some ⟨gg, 0, none⟩, cap, by omega, by go_num, ?_, HUP.out.setCell hg _⟩
              rw [HTK.out]
              exact HST.out
            case measure => simp [intOf]; omega
        · obtain rfl : j = log.length := by omega
          have a0 := he.keep A0.out
          have a1 := he.keep A1p.out
          have a2 := he.keep A2p.out
          have a3 := he.keep A3p.out
          have HTL : Hid (log.take log.length = log) := Lib.hid (List.take_length)
          go_upto_region 10 with (at_builtin; refine wpList_append_lies _ rfl _ _ 23 rfl w1.heap.size 34 i0 (.agg #[.int .i64 0, .int .i64 0, .int .i64 0, .int .i64 0]) 4 32 Try.underlying23 hi0 hz0 hz1 hz2 rfl (by decide) (.slice A3 log.length c3) log.length _ rfl (HOZ.out.alloc _) ⟨wo.heap.size, 0, none⟩ 1 1 (Rev.Act.cells ⟨k, u, ro, t⟩) rfl rfl (World.news_of_block (heap_new_at _ _ _ (by simp))) (by simp [Value.oneCell', Rev.Act.cells]) (by decide) (by unfold maxLen; omega) (by omega) (by simp; omega) _ rfl ?_; intro gz cz w2 hown2 hgrow2 hat hlt2; have HST := Lib.hid (RAt_store ⟨k, u, ro, t⟩ HR.out HLJ.out ((Ext.refl wo).alloc _) hgrow2 hown2); have HUP := Lib.hid (RAt_up HR.out he (Nat.le_refl _) HLJ.out ((Ext.refl wo).alloc _) hgrow2); have hb2w : w2.heap[g]? = some (.cells #[.int .i64 st, .int .i64 au, .slice A1 ap.length c1, .slice A2 fa.length c2, .slice A3 (log.take log.length).length c3] 25 (0, 0)) := RAt_block HR.out HLJ.out ((Ext.refl wo).alloc _) hgrow2; have p4 : w2.cell? ⟨g, 4, none⟩ = some (.slice A3 (log.take log.length).length c3) := (by rw [cell_of_row _ _ _ _ _ _ hb2w]; rfl); have q4 := frozen_of_row _ _ 4 _ _ hb2w; clear hown2 hgrow2 hb2w)
          have hst := HST.out
          rw [HTL.out] at hst
          have hex3 : Ext w1 (w2.setCell ⟨g, 4, none⟩ (.slice (some ⟨gz, 0, none⟩) (log.length + 1) cz)) := HUP.out.setCell hg _
          clear a0 a1 a2 a3 p4 q4 g4 f4 bx4
          clear HST HUP
          generalize w2.setCell ⟨g, 4, none⟩ (.slice (some ⟨gz, 0, none⟩) (log.length + 1) cz) = wd at *
          obtain ⟨hh, hox, hoy, hoz, hdis⟩ := hst
          have el : (log ++ [(⟨k, u, ro, t⟩ : Rev.Act)]).length = log.length + 1 := by simp
          rw [el] at hh hoz
          have HDIS := Lib.hid hdis
          clear hdis hi0 hz0 hz1 hz2 el
          clear i0
          have HNE3 := Lib.hid (own_other hoz hh (by decide))
          have HT13 := Lib.hid (own_types hoz hox (by decide))
          have HT23 := Lib.hid (own_types hoz hoy (by decide))
          have HOX := Lib.hid hox
          have HOY := Lib.hid hoy
          have HOZ := Lib.hid hoz
          have g0 : wd.cell? ⟨g, 0, none⟩ = some (.int .i64 st) := by rw [cell_of_row _ _ _ _ _ _ hh]; rfl
          have g1 : wd.cell? ⟨g, 1, none⟩ = some (.int .i64 au) := by rw [cell_of_row _ _ _ _ _ _ hh]; rfl
          have g2 : wd.cell? ⟨g, 2, none⟩ = some (.slice A1 ap.length c1) := by rw [cell_of_row _ _ _ _ _ _ hh]; rfl
          have g3 : wd.cell? ⟨g, 3, none⟩ = some (.slice A2 fa.length c2) := by rw [cell_of_row _ _ _ _ _ _ hh]; rfl
          have g4 : wd.cell? ⟨g, 4, none⟩ = some (.slice (some ⟨gz, 0, none⟩) (log.length + 1) cz) := by rw [cell_of_row _ _ _ _ _ _ hh]; rfl
          have j0 := frozen_of_row _ _ 0 _ _ hh
          have j1 := frozen_of_row _ _ 1 _ _ hh
          have j2 := frozen_of_row _ _ 2 _ _ hh
          have j3 := frozen_of_row _ _ 3 _ _ hh
          have j4 := frozen_of_row _ _ 4 _ _ hh
          have a0 := hex3.keep A0.out
          have a1 := hex3.keep A1p.out
          have r0 := hex3.keep R0.out
          have s0 := hex3.free R0.out S0.out
          have r1 := hex3.keep R1.out
          have s1 := hex3.free R1.out S1.out
          have r2 := hex3.keep R2.out
          have s2 := hex3.free R2.out S2.out
          have r3 := hex3.keep R3.out
          have s3 := hex3.free R3.out S3.out
          have r4 := hex3.keep R4.out
          have s4 := hex3.free R4.out S4.out
          have hgn : w.heap.size + 1 + 1 < g := Nat.lt_of_lt_of_le (World.block_lt_of_cell? w1 _ R0.out) hg
          have hgn1 : w.heap.size + 1 < g := by omega
          have HH := Lib.hid hh
          have hne1 : g ≠ w.heap.size + 1 + 1 := by omega
          have hne2 : g ≠ w.heap.size + 1 := by omega
          have hne1' : w.heap.size + 1 + 1 ≠ g := by omega
          have hne2' : w.heap.size + 1 ≠ g := by omega
          clear hh hox hoy hoz
          have hgw : w.heap.size ≤ g := by omega
          have hexs := hex3.size
          have hglt : g < wd.heap.size := World.block_lt_of_cell? wd _ g0
          have hrw : w.heap.size ≤ w.heap.size + 1 + 1 := by omega
          have hr1 : w.heap.size + 1 + 1 < w1.heap.size := World.block_lt_of_cell? w1 _ R0.out
          have NG1 : Hid (∀ o, (Value.slice A1 ap.length c1).ownBlock ≠ some (⟨g, o, none⟩ : Addr).block) := Lib.hid (fun _ => own_other HOX.out HH.out (by decide))
          have NG2 : Hid (∀ o, (Value.slice A2 fa.length c2).ownBlock ≠ some (⟨g, o, none⟩ : Addr).block) := Lib.hid (fun _ => own_other HOY.out HH.out (by decide))
          have NG3 : Hid (∀ o, (Value.slice (some ⟨gz, 0, none⟩) (log.length + 1) cz).ownBlock ≠ some (⟨g, o, none⟩ : Addr).block) := Lib.hid (fun _ => own_other HOZ.out HH.out (by decide))
          have NR1 : Hid (∀ o, (Value.slice A1 ap.length c1).ownBlock ≠ some (⟨w.heap.size + 1 + 1, o, none⟩ : Addr).block) := Lib.hid (fun _ e => by have := own_ge HOX.out _ e; simp only at this; omega)
          have NR2 : Hid (∀ o, (Value.slice A2 fa.length c2).ownBlock ≠ some (⟨w.heap.size + 1 + 1, o, none⟩ : Addr).block) := Lib.hid (fun _ e => by have := own_ge HOY.out _ e; simp only at this; omega)
          have NR3 : Hid (∀ o, (Value.slice (some ⟨gz, 0, none⟩) (log.length + 1) cz).ownBlock ≠ some (⟨w.heap.size + 1 + 1, o, none⟩ : Addr).block) := Lib.hid (fun _ e => by have := own_ge HOZ.out _ e; simp only at this; omega)
          rcases hk with rfl | rfl | rfl | rfl | rfl | rfl | rfl | rfl | rfl
          · go_wp2
            refine bodyPost_ret (v := .tuple #[.agg #[.int .i64 2, .int .i64 au, .slice A1 ap.length c1, .slice A2 fa.length c2, .slice (some ⟨gz, 0, none⟩) (log.length + 1) cz], .int .i64 0]) (by simp [results, Try.results21, go_sem, r0, r1, r2, r3, r4]) rfl ?_
            rw [HNX.out, Z.out, Rev.next_1]
            exact fin_rev (base := w1.heap.size) H.out HIN.out ⟨by decide, by decide⟩ (ownsRow_setCell_other (ownsRow_setCell_other (ownsRow_setCell_other (ownsRow_setCell_other (ownsRow_setCell_other (ownsRow_setCell_other HOX.out (NG1.out 0) _) (NR1.out 0) _) (NR1.out 1) _) (NR1.out 2) _) (NR1.out 3) _) (NR1.out 4) _) (ownsRow_setCell_other (ownsRow_setCell_other (ownsRow_setCell_other (ownsRow_setCell_other (ownsRow_setCell_other (ownsRow_setCell_other HOY.out (NG2.out 0) _) (NR2.out 0) _) (NR2.out 1) _) (NR2.out 2) _) (NR2.out 3) _) (NR2.out 4) _) (ownsRow_setCell_other (ownsRow_setCell_other (ownsRow_setCell_other (ownsRow_setCell_other (ownsRow_setCell_other (ownsRow_setCell_other HOZ.out (NG3.out 0) _) (NR3.out 0) _) (NR3.out 1) _) (NR3.out 2) _) (NR3.out 3) _) (NR3.out 4) _) (((((((hx1.trans hex3).setCell hgw _).setCell hrw _).setCell hrw _).setCell hrw _).setCell hrw _).setCell hrw _) hx1.size
          · obtain ⟨i0, hi0, hz0, hz1, hz2⟩ := info_parts Try.infoInt
            by_cases h2 : 1 ≤ ap.length
            · have h2' : 2 ≤ (ap.length : Int) + 1 := by omega
              go_wp2_with (at_builtin; refine wpList_append_lies _ rfl _ _ 22 rfl w1.heap.size 3 i0 (.int .i64 0) 1 8 Try.underlying22 hi0 hz0 hz1 hz2 rfl (by decide) _ _ _ rfl (HOX.out.alloc _) ⟨wd.heap.size, 0, none⟩ 1 1 [.int .i64 u] rfl rfl (cell_one_new _ _ _) (by simp [Value.oneCell']) (by decide) (by unfold maxLen; omega) (by omega) (by simp; omega) (wd.heap.size + 1) (by simp) ?_; intro gg cap w2 hown2 hgrow2 hat2 hlt2; have e2 : Ext w1 w2 := (hex3.alloc _).grown hgrow2 (fun q hq => own_ge HOX.out q hq); have hh2 : w2.heap[g]? = some (.cells #[.int .i64 st, .int .i64 au, .slice A1 ap.length c1, .slice A2 fa.length c2, .slice (some ⟨gz, 0, none⟩) (log.length + 1) cz] 25 (0, 0)) := (hgrow2.block g (by simp; omega) (fun e => NG1.out 0 e.symm)).trans (((Ext.refl wd).alloc _).blockAt HH.out); have p0 : w2.cell? ⟨g, 0, none⟩ = some (.int .i64 st) := (by rw [cell_of_row _ _ _ _ _ _ hh2]; rfl); have q0 := frozen_of_row _ _ 0 _ _ hh2; have t0 := e2.keep R0.out; have v0 := e2.free R0.out S0.out; have p1 : w2.cell? ⟨g, 1, none⟩ = some (.int .i64 au) := (by rw [cell_of_row _ _ _ _ _ _ hh2]; rfl); have q1 := frozen_of_row _ _ 1 _ _ hh2; have t1 := e2.keep R1.out; have v1 := e2.free R1.out S1.out; have p2 : w2.cell? ⟨g, 2, none⟩ = some (.slice A1 ap.length c1) := (by rw [cell_of_row _ _ _ _ _ _ hh2]; rfl); have q2 := frozen_of_row _ _ 2 _ _ hh2; have t2 := e2.keep R2.out; have v2 := e2.free R2.out S2.out; have p3 : w2.cell? ⟨g, 3, none⟩ = some (.slice A2 fa.length c2) := (by rw [cell_of_row _ _ _ _ _ _ hh2]; rfl); have q3 := frozen_of_row _ _ 3 _ _ hh2; have t3 := e2.keep R3.out; have v3 := e2.free R3.out S3.out; have p4 : w2.cell? ⟨g, 4, none⟩ = some (.slice (some ⟨gz, 0, none⟩) (log.length + 1) cz) := (by rw [cell_of_row _ _ _ _ _ _ hh2]; rfl); have q4 := frozen_of_row _ _ 4 _ _ hh2; have t4 := e2.keep R4.out; have v4 := e2.free R4.out S4.out; have b0 := e2.keep A0.out; have b1 := e2.keep A1p.out)
              refine bodyPost_ret (v := .tuple #[.agg #[.int .i64 3, .int .i64 au, .slice (some ⟨gg, 0, none⟩) (ap.length + 1) cap, .slice A2 fa.length c2, .slice (some ⟨gz, 0, none⟩) (log.length + 1) cz], .int .i64 0]) (by simp [results, Try.results21, go_sem, t0, t1, t2, t3, t4]) rfl ?_
              rw [HNX.out, Z.out, Rev.next_2]
              rw [if_pos (show 2 ≤ ap.length + 1 by omega)]
              have MG : ∀ o, (Value.slice (some ⟨gg, 0, none⟩) (ap.length + 1) cap).ownBlock ≠ some (⟨g, o, none⟩ : Addr).block := fun _ => own_other hown2 hh2 (by decide)
              have MR : ∀ o, (Value.slice (some ⟨gg, 0, none⟩) (ap.length + 1) cap).ownBlock ≠ some (⟨w.heap.size + 1 + 1, o, none⟩ : Addr).block := fun _ e => by have := own_ge hown2 _ e; simp only at this; omega
              exact fin_rev2 (base := w1.heap.size) H.out HIN.out ⟨by decide, by decide⟩ (ownsRow_setCell_other (ownsRow_setCell_other (ownsRow_setCell_other (ownsRow_setCell_other (ownsRow_setCell_other (ownsRow_setCell_other (ownsRow_setCell_other hown2 (MG 2) _) (MG 0) _) (MR 0) _) (MR 1) _) (MR 2) _) (MR 3) _) (MR 4) _) (ownsRow_setCell_other (ownsRow_setCell_other (ownsRow_setCell_other (ownsRow_setCell_other (ownsRow_setCell_other (ownsRow_setCell_other (ownsRow_setCell_other (own_grown (HOY.out.alloc _) hgrow2 (fun q hq e => HDIS.out q hq e)) (NG2.out 2) _) (NG2.out 0) _) (NR2.out 0) _) (NR2.out 1) _) (NR2.out 2) _) (NR2.out 3) _) (NR2.out 4) _) (ownsRow_setCell_other (ownsRow_setCell_other (ownsRow_setCell_other (ownsRow_setCell_other (ownsRow_setCell_other (ownsRow_setCell_other (ownsRow_setCell_other (own_grown (HOZ.out.alloc _) hgrow2 (fun q hq e => HT13.out q hq e)) (NG3.out 2) _) (NG3.out 0) _) (NR3.out 0) _) (NR3.out 1) _) (NR3.out 2) _) (NR3.out 3) _) (NR3.out 4) _) ((((((((hx1.trans e2).setCell hgw _).setCell hgw _).setCell hrw _).setCell hrw _).setCell hrw _).setCell hrw _).setCell hrw _) hx1.size
            · have h2' : ¬ 2 ≤ (ap.length : Int) + 1 := by omega
              have h2n : (ap.length : Int) + 1 < 2 := by omega
              go_wp2_with (at_builtin; refine wpList_append_lies _ rfl _ _ 22 rfl w1.heap.size 3 i0 (.int .i64 0) 1 8 Try.underlying22 hi0 hz0 hz1 hz2 rfl (by decide) _ _ _ rfl (HOX.out.alloc _) ⟨wd.heap.size, 0, none⟩ 1 1 [.int .i64 u] rfl rfl (cell_one_new _ _ _) (by simp [Value.oneCell']) (by decide) (by unfold maxLen; omega) (by omega) (by simp; omega) (wd.heap.size + 1) (by simp) ?_; intro gg cap w2 hown2 hgrow2 hat2 hlt2; have e2 : Ext w1 w2 := (hex3.alloc _).grown hgrow2 (fun q hq => own_ge HOX.out q hq); have hh2 : w2.heap[g]? = some (.cells #[.int .i64 st, .int .i64 au, .slice A1 ap.length c1, .slice A2 fa.length c2, .slice (some ⟨gz, 0, none⟩) (log.length + 1) cz] 25 (0, 0)) := (hgrow2.block g (by simp; omega) (fun e => NG1.out 0 e.symm)).trans (((Ext.refl wd).alloc _).blockAt HH.out); have p0 : w2.cell? ⟨g, 0, none⟩ = some (.int .i64 st) := (by rw [cell_of_row _ _ _ _ _ _ hh2]; rfl); have q0 := frozen_of_row _ _ 0 _ _ hh2; have t0 := e2.keep R0.out; have v0 := e2.free R0.out S0.out; have p1 : w2.cell? ⟨g, 1, none⟩ = some (.int .i64 au) := (by rw [cell_of_row _ _ _ _ _ _ hh2]; rfl); have q1 := frozen_of_row _ _ 1 _ _ hh2; have t1 := e2.keep R1.out; have v1 := e2.free R1.out S1.out; have p2 : w2.cell? ⟨g, 2, none⟩ = some (.slice A1 ap.length c1) := (by rw [cell_of_row _ _ _ _ _ _ hh2]; rfl); have q2 := frozen_of_row _ _ 2 _ _ hh2; have t2 := e2.keep R2.out; have v2 := e2.free R2.out S2.out; have p3 : w2.cell? ⟨g, 3, none⟩ = some (.slice A2 fa.length c2) := (by rw [cell_of_row _ _ _ _ _ _ hh2]; rfl); have q3 := frozen_of_row _ _ 3 _ _ hh2; have t3 := e2.keep R3.out; have v3 := e2.free R3.out S3.out; have p4 : w2.cell? ⟨g, 4, none⟩ = some (.slice (some ⟨gz, 0, none⟩) (log.length + 1) cz) := (by rw [cell_of_row _ _ _ _ _ _ hh2]; rfl); have q4 := frozen_of_row _ _ 4 _ _ hh2; have t4 := e2.keep R4.out; have v4 := e2.free R4.out S4.out; have b0 := e2.keep A0.out; have b1 := e2.keep A1p.out)
              refine bodyPost_ret (v := .tuple #[.agg #[.int .i64 st, .int .i64 au, .slice (some ⟨gg, 0, none⟩) (ap.length + 1) cap, .slice A2 fa.length c2, .slice (some ⟨gz, 0, none⟩) (log.length + 1) cz], .int .i64 0]) (by simp [results, Try.results21, go_sem, t0, t1, t2, t3, t4]) rfl ?_
              rw [HNX.out, Z.out, Rev.next_2]
              rw [if_neg (show ¬ 2 ≤ ap.length + 1 by omega)]
              have MG : ∀ o, (Value.slice (some ⟨gg, 0, none⟩) (ap.length + 1) cap).ownBlock ≠ some (⟨g, o, none⟩ : Addr).block := fun _ => own_other hown2 hh2 (by decide)
              have MR : ∀ o, (Value.slice (some ⟨gg, 0, none⟩) (ap.length + 1) cap).ownBlock ≠ some (⟨w.heap.size + 1 + 1, o, none⟩ : Addr).block := fun _ e => by have := own_ge hown2 _ e; simp only at this; omega
              exact fin_rev2 (base := w1.heap.size) H.out HIN.out H.out.2.2.2.2.2.2.1 (ownsRow_setCell_other (ownsRow_setCell_other (ownsRow_setCell_other (ownsRow_setCell_other (ownsRow_setCell_other (ownsRow_setCell_other hown2 (MG 2) _) (MR 0) _) (MR 1) _) (MR 2) _) (MR 3) _) (MR 4) _) (ownsRow_setCell_other (ownsRow_setCell_other (ownsRow_setCell_other (ownsRow_setCell_other (ownsRow_setCell_other (ownsRow_setCell_other (own_grown (HOY.out.alloc _) hgrow2 (fun q hq e => HDIS.out q hq e)) (NG2.out 2) _) (NR2.out 0) _) (NR2.out 1) _) (NR2.out 2) _) (NR2.out 3) _) (NR2.out 4) _) (ownsRow_setCell_other (ownsRow_setCell_other (ownsRow_setCell_other (ownsRow_setCell_other (ownsRow_setCell_other (ownsRow_setCell_other (own_grown (HOZ.out.alloc _) hgrow2 (fun q hq e => HT13.out q hq e)) (NG3.out 2) _) (NR3.out 0) _) (NR3.out 1) _) (NR3.out 2) _) (NR3.out 3) _) (NR3.out 4) _) (((((((hx1.trans e2).setCell hgw _).setCell hrw _).setCell hrw _).setCell hrw _).setCell hrw _).setCell hrw _) hx1.size
          · go_wp2
            refine bodyPost_ret (v := .tuple #[.agg #[.int .i64 1, .int .i64 au, .slice none 0 0, .slice none 0 0, .slice (some ⟨gz, 0, none⟩) (log.length + 1) cz], .int .i64 0]) (by simp [results, Try.results21, go_sem, r0, r1, r2, r3, r4]) rfl ?_
            rw [HNX.out, Z.out, Rev.next_3]
            exact fin_rev3 (base := w1.heap.size) H.out HIN.out (ownsRow_setCell_other (ownsRow_setCell_other (ownsRow_setCell_other (ownsRow_setCell_other (ownsRow_setCell_other (ownsRow_setCell_other (ownsRow_setCell_other (ownsRow_setCell_other HOZ.out (NG3.out 0) _) (NG3.out 2) _) (NG3.out 3) _) (NR3.out 0) _) (NR3.out 1) _) (NR3.out 2) _) (NR3.out 3) _) (NR3.out 4) _) (((((((((hx1.trans hex3).setCell hgw _).setCell hgw _).setCell hgw _).setCell hrw _).setCell hrw _).setCell hrw _).setCell hrw _).setCell hrw _) hx1.size
          · obtain ⟨i0, hi0, hz0, hz1, hz2⟩ := info_parts Try.infoInt
            go_wp2_with (at_builtin; refine wpList_append_lies _ rfl _ _ 22 rfl w1.heap.size 3 i0 (.int .i64 0) 1 8 Try.underlying22 hi0 hz0 hz1 hz2 rfl (by decide) _ _ _ rfl (HOY.out.alloc _) ⟨wd.heap.size, 0, none⟩ 1 1 [.int .i64 u] rfl rfl (cell_one_new _ _ _) (by simp [Value.oneCell']) (by decide) (by unfold maxLen; omega) (by omega) (by simp; omega) (wd.heap.size + 1) (by simp) ?_; intro gg cap w2 hown2 hgrow2 hat2 hlt2; have e2 : Ext w1 w2 := (hex3.alloc _).grown hgrow2 (fun q hq => own_ge HOY.out q hq); have hh2 : w2.heap[g]? = some (.cells #[.int .i64 st, .int .i64 au, .slice A1 ap.length c1, .slice A2 fa.length c2, .slice (some ⟨gz, 0, none⟩) (log.length + 1) cz] 25 (0, 0)) := (hgrow2.block g (by simp; omega) (fun e => NG2.out 0 e.symm)).trans (((Ext.refl wd).alloc _).blockAt HH.out); have p0 : w2.cell? ⟨g, 0, none⟩ = some (.int .i64 st) := (by rw [cell_of_row _ _ _ _ _ _ hh2]; rfl); have q0 := frozen_of_row _ _ 0 _ _ hh2; have t0 := e2.keep R0.out; have v0 := e2.free R0.out S0.out; have p1 : w2.cell? ⟨g, 1, none⟩ = some (.int .i64 au) := (by rw [cell_of_row _ _ _ _ _ _ hh2]; rfl); have q1 := frozen_of_row _ _ 1 _ _ hh2; have t1 := e2.keep R1.out; have v1 := e2.free R1.out S1.out; have p2 : w2.cell? ⟨g, 2, none⟩ = some (.slice A1 ap.length c1) := (by rw [cell_of_row _ _ _ _ _ _ hh2]; rfl); have q2 := frozen_of_row _ _ 2 _ _ hh2; have t2 := e2.keep R2.out; have v2 := e2.free R2.out S2.out; have p3 : w2.cell? ⟨g, 3, none⟩ = some (.slice A2 fa.length c2) := (by rw [cell_of_row _ _ _ _ _ _ hh2]; rfl); have q3 := frozen_of_row _ _ 3 _ _ hh2; have t3 := e2.keep R3.out; have v3 := e2.free R3.out S3.out; have p4 : w2.cell? ⟨g, 4, none⟩ = some (.slice (some ⟨gz, 0, none⟩) (log.length + 1) cz) := (by rw [cell_of_row _ _ _ _ _ _ hh2]; rfl); have q4 := frozen_of_row _ _ 4 _ _ hh2; have t4 := e2.keep R4.out; have v4 := e2.free R4.out S4.out; have b0 := e2.keep A0.out; have b1 := e2.keep A1p.out)
            refine bodyPost_ret (v := .tuple #[.agg #[.int .i64 4, .int .i64 au, .slice A1 ap.length c1, .slice (some ⟨gg, 0, none⟩) (fa.length + 1) cap, .slice (some ⟨gz, 0, none⟩) (log.length + 1) cz], .int .i64 0]) (by simp [results, Try.results21, go_sem, t0, t1, t2, t3, t4]) rfl ?_
            rw [HNX.out, Z.out, Rev.next_4]
            have MG : ∀ o, (Value.slice (some ⟨gg, 0, none⟩) (fa.length + 1) cap).ownBlock ≠ some (⟨g, o, none⟩ : Addr).block := fun _ => own_other hown2 hh2 (by decide)
            have MR : ∀ o, (Value.slice (some ⟨gg, 0, none⟩) (fa.length + 1) cap).ownBlock ≠ some (⟨w.heap.size + 1 + 1, o, none⟩ : Addr).block := fun _ e => by have := own_ge hown2 _ e; simp only at this; omega
            exact fin_rev4 (base := w1.heap.size) H.out HIN.out ⟨by decide, by decide⟩ (ownsRow_setCell_other (ownsRow_setCell_other (ownsRow_setCell_other (ownsRow_setCell_other (ownsRow_setCell_other (ownsRow_setCell_other (ownsRow_setCell_other (own_grown (HOX.out.alloc _) hgrow2 (fun q hq e => HDIS.out q e hq)) (NG1.out 3) _) (NG1.out 0) _) (NR1.out 0) _) (NR1.out 1) _) (NR1.out 2) _) (NR1.out 3) _) (NR1.out 4) _) (ownsRow_setCell_other (ownsRow_setCell_other (ownsRow_setCell_other (ownsRow_setCell_other (ownsRow_setCell_other (ownsRow_setCell_other (ownsRow_setCell_other hown2 (MG 3) _) (MG 0) _) (MR 0) _) (MR 1) _) (MR 2) _) (MR 3) _) (MR 4) _) (ownsRow_setCell_other (ownsRow_setCell_other (ownsRow_setCell_other (ownsRow_setCell_other (ownsRow_setCell_other (ownsRow_setCell_other (ownsRow_setCell_other (own_grown (HOZ.out.alloc _) hgrow2 (fun q hq e => HT23.out q hq e)) (NG3.out 3) _) (NG3.out 0) _) (NR3.out 0) _) (NR3.out 1) _) (NR3.out 2) _) (NR3.out 3) _) (NR3.out 4) _) ((((((((hx1.trans e2).setCell hgw _).setCell hgw _).setCell hrw _).setCell hrw _).setCell hrw _).setCell hrw _).setCell hrw _) hx1.size
          · go_wp2
            refine bodyPost_ret (v := .tuple #[.agg #[.int .i64 5, .int .i64 au, .slice A1 ap.length c1, .slice A2 fa.length c2, .slice (some ⟨gz, 0, none⟩) (log.length + 1) cz], .int .i64 0]) (by simp [results, Try.results21, go_sem, r0, r1, r2, r3, r4]) rfl ?_
            rw [HNX.out, Z.out, Rev.next_5]
            exact fin_rev (base := w1.heap.size) H.out HIN.out ⟨by decide, by decide⟩ (ownsRow_setCell_other (ownsRow_setCell_other (ownsRow_setCell_other (ownsRow_setCell_other (ownsRow_setCell_other (ownsRow_setCell_other HOX.out (NG1.out 0) _) (NR1.out 0) _) (NR1.out 1) _) (NR1.out 2) _) (NR1.out 3) _) (NR1.out 4) _) (ownsRow_setCell_other (ownsRow_setCell_other (ownsRow_setCell_other (ownsRow_setCell_other (ownsRow_setCell_other (ownsRow_setCell_other HOY.out (NG2.out 0) _) (NR2.out 0) _) (NR2.out 1) _) (NR2.out 2) _) (NR2.out 3) _) (NR2.out 4) _) (ownsRow_setCell_other (ownsRow_setCell_other (ownsRow_setCell_other (ownsRow_setCell_other (ownsRow_setCell_other (ownsRow_setCell_other HOZ.out (NG3.out 0) _) (NR3.out 0) _) (NR3.out 1) _) (NR3.out 2) _) (NR3.out 3) _) (NR3.out 4) _) (((((((hx1.trans hex3).setCell hgw _).setCell hrw _).setCell hrw _).setCell hrw _).setCell hrw _).setCell hrw _) hx1.size
          · go_wp2
            refine bodyPost_ret (v := .tuple #[.agg #[.int .i64 6, .int .i64 au, .slice A1 ap.length c1, .slice A2 fa.length c2, .slice (some ⟨gz, 0, none⟩) (log.length + 1) cz], .int .i64 0]) (by simp [results, Try.results21, go_sem, r0, r1, r2, r3, r4]) rfl ?_
            rw [HNX.out, Z.out, Rev.next_6]
            exact fin_rev (base := w1.heap.size) H.out HIN.out ⟨by decide, by decide⟩ (ownsRow_setCell_other (ownsRow_setCell_other (ownsRow_setCell_other (ownsRow_setCell_other (ownsRow_setCell_other (ownsRow_setCell_other HOX.out (NG1.out 0) _) (NR1.out 0) _) (NR1.out 1) _) (NR1.out 2) _) (NR1.out 3) _) (NR1.out 4) _) (ownsRow_setCell_other (ownsRow_setCell_other (ownsRow_setCell_other (ownsRow_setCell_other (ownsRow_setCell_other (ownsRow_setCell_other HOY.out (NG2.out 0) _) (NR2.out 0) _) (NR2.out 1) _) (NR2.out 2) _) (NR2.out 3) _) (NR2.out 4) _) (ownsRow_setCell_other (ownsRow_setCell_other (ownsRow_setCell_other (ownsRow_setCell_other (ownsRow_setCell_other (ownsRow_setCell_other HOZ.out (NG3.out 0) _) (NR3.out 0) _) (NR3.out 1) _) (NR3.out 2) _) (NR3.out 3) _) (NR3.out 4) _) (((((((hx1.trans hex3).setCell hgw _).setCell hrw _).setCell hrw _).setCell hrw _).setCell hrw _).setCell hrw _) hx1.size
          · go_wp2
            refine bodyPost_ret (v := .tuple #[.agg #[.int .i64 5, .int .i64 au, .slice A1 ap.length c1, .slice A2 fa.length c2, .slice (some ⟨gz, 0, none⟩) (log.length + 1) cz], .int .i64 0]) (by simp [results, Try.results21, go_sem, r0, r1, r2, r3, r4]) rfl ?_
            rw [HNX.out, Z.out, Rev.next_7]
            exact fin_rev (base := w1.heap.size) H.out HIN.out ⟨by decide, by decide⟩ (ownsRow_setCell_other (ownsRow_setCell_other (ownsRow_setCell_other (ownsRow_setCell_other (ownsRow_setCell_other (ownsRow_setCell_other HOX.out (NG1.out 0) _) (NR1.out 0) _) (NR1.out 1) _) (NR1.out 2) _) (NR1.out 3) _) (NR1.out 4) _) (ownsRow_setCell_other (ownsRow_setCell_other (ownsRow_setCell_other (ownsRow_setCell_other (ownsRow_setCell_other (ownsRow_setCell_other HOY.out (NG2.out 0) _) (NR2.out 0) _) (NR2.out 1) _) (NR2.out 2) _) (NR2.out 3) _) (NR2.out 4) _) (ownsRow_setCell_other (ownsRow_setCell_other (ownsRow_setCell_other (ownsRow_setCell_other (ownsRow_setCell_other (ownsRow_setCell_other HOZ.out (NG3.out 0) _) (NR3.out 0) _) (NR3.out 1) _) (NR3.out 2) _) (NR3.out 3) _) (NR3.out 4) _) (((((((hx1.trans hex3).setCell hgw _).setCell hrw _).setCell hrw _).setCell hrw _).setCell hrw _).setCell hrw _) hx1.size
          · go_wp2
            refine bodyPost_ret (v := .tuple #[.agg #[.int .i64 7, .int .i64 au, .slice A1 ap.length c1, .slice A2 fa.length c2, .slice (some ⟨gz, 0, none⟩) (log.length + 1) cz], .int .i64 0]) (by simp [results, Try.results21, go_sem, r0, r1, r2, r3, r4]) rfl ?_
            rw [HNX.out, Z.out, Rev.next_8]
            exact fin_rev (base := w1.heap.size) H.out HIN.out ⟨by decide, by decide⟩ (ownsRow_setCell_other (ownsRow_setCell_other (ownsRow_setCell_other (ownsRow_setCell_other (ownsRow_setCell_other (ownsRow_setCell_other HOX.out (NG1.out 0) _) (NR1.out 0) _) (NR1.out 1) _) (NR1.out 2) _) (NR1.out 3) _) (NR1.out 4) _) (ownsRow_setCell_other (ownsRow_setCell_other (ownsRow_setCell_other (ownsRow_setCell_other (ownsRow_setCell_other (ownsRow_setCell_other HOY.out (NG2.out 0) _) (NR2.out 0) _) (NR2.out 1) _) (NR2.out 2) _) (NR2.out 3) _) (NR2.out 4) _) (ownsRow_setCell_other (ownsRow_setCell_other (ownsRow_setCell_other (ownsRow_setCell_other (ownsRow_setCell_other (ownsRow_setCell_other HOZ.out (NG3.out 0) _) (NR3.out 0) _) (NR3.out 1) _) (NR3.out 2) _) (NR3.out 3) _) (NR3.out 4) _) (((((((hx1.trans hex3).setCell hgw _).setCell hrw _).setCell hrw _).setCell hrw _).setCell hrw _).setCell hrw _) hx1.size
          · go_wp2
            refine bodyPost_ret (v := .tuple #[.agg #[.int .i64 1, .int .i64 au, .slice none 0 0, .slice none 0 0, .slice (some ⟨gz, 0, none⟩) (log.length + 1) cz], .int .i64 0]) (by simp [results, Try.results21, go_sem, r0, r1, r2, r3, r4]) rfl ?_
            rw [HNX.out, Z.out, Rev.next_9]
            exact fin_rev3 (base := w1.heap.size) H.out HIN.out (ownsRow_setCell_other (ownsRow_setCell_other (ownsRow_setCell_other (ownsRow_setCell_other (ownsRow_setCell_other (ownsRow_setCell_other (ownsRow_setCell_other (ownsRow_setCell_other HOZ.out (NG3.out 0) _) (NG3.out 2) _) (NG3.out 3) _) (NR3.out 0) _) (NR3.out 1) _) (NR3.out 2) _) (NR3.out 3) _) (NR3.out 4) _) (((((((((hx1.trans hex3).setCell hgw _).setCell hgw _).setCell hgw _).setCell hrw _).setCell hrw _).setCell hrw _).setCell hrw _).setCell hrw _) hx1.size
  · have z' : (Rev.allowedE ⟨st, au, ap, fa, log⟩ ⟨k, u, ro, t⟩ != 0) = true := by rw [bne_iff_ne]; exact z
    have E : Hid (Rev.applyR ⟨st, au, ap, fa, log⟩ ⟨k, u, ro, t⟩ = Rev.zero) := Lib.hid (by unfold Rev.applyR; rw [if_neg z])
    clear z
    go_enter Try.func21, Try.ntmps21
    go_wp2_with fail
    refine (refAllowed_any st au P pc ap Q qc fa L lc log k u ro t _ (H.out.ext hx0)).mono ?_
    rintro e w1 ⟨rfl, hb3⟩
    have r0 : w1.cell? ⟨w.heap.size + 1 + 1, 0, none⟩ = some (.int .i64 0) := hb3.keep (by simp [go_sem])
    have s0 : w1.frozen? ⟨w.heap.size + 1 + 1, 0, none⟩ = false := hb3.free (v := .int .i64 0) (by simp [go_sem]) (by simp [go_sem])
    have r1 : w1.cell? ⟨w.heap.size + 1 + 1, 1, none⟩ = some (.int .i64 0) := hb3.keep (by simp [go_sem])
    have s1 : w1.frozen? ⟨w.heap.size + 1 + 1, 1, none⟩ = false := hb3.free (v := .int .i64 0) (by simp [go_sem]) (by simp [go_sem])
    have r2 : w1.cell? ⟨w.heap.size + 1 + 1, 2, none⟩ = some (.slice none 0 0) := hb3.keep (by simp [go_sem])
    have s2 : w1.frozen? ⟨w.heap.size + 1 + 1, 2, none⟩ = false := hb3.free (v := .slice none 0 0) (by simp [go_sem]) (by simp [go_sem])
    have r3 : w1.cell? ⟨w.heap.size + 1 + 1, 3, none⟩ = some (.slice none 0 0) := hb3.keep (by simp [go_sem])
    have s3 : w1.frozen? ⟨w.heap.size + 1 + 1, 3, none⟩ = false := hb3.free (v := .slice none 0 0) (by simp [go_sem]) (by simp [go_sem])
    have r4 : w1.cell? ⟨w.heap.size + 1 + 1, 4, none⟩ = some (.slice none 0 0) := hb3.keep (by simp [go_sem])
    have s4 : w1.frozen? ⟨w.heap.size + 1 + 1, 4, none⟩ = false := hb3.free (v := .slice none 0 0) (by simp [go_sem]) (by simp [go_sem])
    have hwb : w.heap.size ≤ w.heap.size + 1 + 1 := by omega
    go_wp2
    refine bodyPost_ret (v := .tuple #[.agg #[.int .i64 0, .int .i64 0, .slice none 0 0, .slice none 0 0, .slice none 0 0], .int .i64 (Rev.allowedE ⟨st, au, ap, fa, log⟩ ⟨k, u, ro, t⟩)]) (by simp [results, Try.results21, go_sem, r0, r1, r2, r3, r4]) rfl ?_
    rw [E.out]
    refine ⟨none, 0, none, 0, none, 0, rfl, rev_nil _ _ _ ⟨by decide, by decide⟩ ⟨by decide, by decide⟩, ?_, Fresh.none _, Fresh.none _, Fresh.none _⟩
    exact (((((hx0.trans hb3).setCell hwb _).setCell hwb _).setCell hwb _).setCell hwb _).setCell hwb _
end Go.Proofs.Ytadnjhpkenjmdaa
