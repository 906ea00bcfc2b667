/- BankFinds: the walk. Conditions: those of each theorem. -/
import Derived.Test.YtfnmgcblhebdbaaGreatDoorBkW
import Derived.Test.YtfnmgcblhebdbaaGreatDoorBkJ
import Derived.Test.YtfnmgcblhebdbaaGreatDoorBkL
namespace Go.Proofs.YtfnmgcblhebdbaaGreatDoor
open Go.RowKit
namespace Bk
set_option maxRecDepth 100000 in
set_option maxHeartbeats 25600000 in
theorem finds_any (b : BankL) (id ver : Int) (w : World) (h : b.In w) (hz : BankSz b.bank) (hG : Gm w) : Calls Tryz.prog 5 #[b.agg, .int .i64 id, .int .i64 ver] w fun e w' => e = .returned (.bool true) ∧ Ext w w' := by
  obtain ⟨CB, hcb, hnb, h1b, hkb⟩ := b.packed
  have C1 := Lib.hid (fun (W : World) (hx : Ext w W) => bEntry_any b id W (h.ext hx) hz)
  have C2 := Lib.hid (fun (W : World) (hx : Ext w W) => rEntry_any b id W (h.ext hx) hz)
  have C3 := Lib.hid (fun (W : World) (hx : Ext w W) => bLast_any b id W (h.ext hx) hz)
  have C4 := Lib.hid (fun (W : World) (hx : Ext w W) => rLast_any b id W (h.ext hx) hz)
  have C5 := Lib.hid (fun (W : World) (hx : Ext w W) => bVersion_any b id ver W (h.ext hx) hz)
  have C6 := Lib.hid (fun (W : World) (hx : Ext w W) => rVersion_any b id ver W (h.ext hx) hz)
  rw [hcb] at C1 C2 C3 C4 C5 C6 ⊢
  obtain ⟨o1, ho1⟩ : ∃ o, (entF b.bank id).isSome = o := ⟨_, rfl⟩
  obtain ⟨o2, ho2⟩ : ∃ o, (lastF b.bank id).isSome = o := ⟨_, rfl⟩
  obtain ⟨o3, ho3⟩ : ∃ o, (verF b.bank id ver).isSome = o := ⟨_, rfl⟩
  unfold RetFE at C1 C2
  unfold RetFI at C3 C4 C5 C6
  rw [ho1] at C1 C2
  rw [ho2] at C3 C4
  rw [ho3] at C5 C6
  have IB : Hid ((Tryz.prog.info? 31).map (·.size) = some CB.size) := Lib.hid (infoBk hnb)
  have HGM := Lib.hid hG
  have X0 : Hid (Ext w (w.alloc (.cells CB 31))) := Lib.hid ((Ext.refl _).alloc _)
  have HB0 : Hid ((w.alloc (.cells CB 31)).heap[w.heap.size]? = some (.cells CB 31 (0, 0))) := Lib.hid (heap_alloc_new w _)
  obtain ⟨VA, hVA⟩ : ∃ A, b.eA = A := ⟨_, rfl⟩
  obtain ⟨n, hn⟩ : ∃ n, b.ents.length = n := ⟨_, rfl⟩
  have c5 : (w.alloc (.cells CB 31)).cell? ⟨w.heap.size, 5, none⟩ = some (.slice VA n b.ec) := (cell_of_row _ _ 5 _ _ _ HB0.out).trans (by rw [← hkb, ← hVA, ← hn]; rfl)
  have hn63 : n ≤ 9223372036854775807 := by have := h.ec; unfold maxLen at this; omega
  have HS : Hid (SlX eEnt (w.alloc (.cells CB 31)) VA b.ents) := Lib.hid (by rw [← hVA]; exact h.ents.ext X0.out)
  have HN := Lib.hid hn
  clear h hz hG hcb hnb h1b hkb ho1 ho2 ho3 hVA hn
  go_enter Tryz.func5, Tryz.ntmps5
  by_cases hbig : 20 < n
  · have hb1 : (20 : Int) < (n : Int) := by omega
    go_wp2
    go_ret
    exact ⟨rfl, X0.out⟩
  have hb1 : ¬ (20 : Int) < (n : Int) := by omega
  go_wp2
  go_loopw [28] (fun i wr => ∃ k : Nat, k ≤ n ∧ i = .int .i64 k ∧ Hid (Ext (w.alloc (.cells CB 31)) wr)) (fun i _ => n - (intOf i).toNat)
  case atStart => exact ⟨0, by omega, rfl, Lib.hid (Ext.refl _)⟩
  case round =>
  obtain ⟨k, hk, rfl, HE⟩ := hrel
  clear c5
  by_cases hlt : k < n
  · obtain ⟨e, hx⟩ : ∃ x, b.ents[k]? = some x := ⟨b.ents[k]'(by rw [HN.out]; exact hlt), List.getElem?_eq_getElem _⟩
    obtain ⟨bb, off, rfl, hbl, hc, hin⟩ := (HS.out.ext HE.out).at_ hx
    obtain ⟨CE, hce, hne, h1e, hke⟩ := e.packed
    have HC : Hid (wr.rangeAt bb (off + k * 7) CE.toList) := Lib.hid (by rw [← hke]; exact hc)
    have IE := Lib.hid (infoEn hne)
    have NE := Lib.hid hne
    have OE := Lib.hid h1e
    have ki0 : (0 : Int) ≤ (k : Int) := by omega
    have ki1 : (k : Int) < (n : Int) := by omega
    have XA : Hid (Ext wr (wr.alloc (.cells CE 56))) := Lib.hid ((Ext.refl _).alloc _)
    obtain ⟨nv, hnv⟩ : ∃ n, e.vs.length = n := ⟨_, rfl⟩
    have c0 : (wr.alloc (.cells CE 56)).cell? ⟨wr.heap.size, 0, none⟩ = some (.slice e.vA nv e.vc) := (World.cell?_alloc_new _ _ _ _).trans (by rw [← hke, ← hnv]; rfl)
    have hv63 : nv ≤ 9223372036854775807 := by have := hin.vc; unfold maxLen at this; omega
    clear hx hc hin hne h1e hke hnv hce
    by_cases hbv : 20 < nv
    · have hb2 : (20 : Int) < (nv : Int) := by omega
      go_wp2_with (first
        | (with_reducible refine wpList_load_arr rfl 56 (.tmp 30) rfl bb (off + k * 7) (by with_unfolding_all rfl) CE _ HC.out Tryz.underlying56 rfl IE.out ?_)
        | (with_reducible refine wpList_store_new rfl 56 (.tmp 8) (.tmp 31) rfl _ CE 56 (by with_unfolding_all rfl) (by with_unfolding_all rfl) IE.out (by with_unfolding_all exact NE.out.symm) OE.out ?_))
      go_ret
      exact ⟨rfl, (X0.out.trans HE.out).trans XA.out⟩
    have hb2 : ¬ (20 : Int) < (nv : Int) := by omega
    go_wp2_with (first
      | (with_reducible refine wpList_load_arr rfl 56 (.tmp 30) rfl bb (off + k * 7) (by with_unfolding_all rfl) CE _ HC.out Tryz.underlying56 rfl IE.out ?_)
      | (with_reducible refine wpList_store_new rfl 56 (.tmp 8) (.tmp 31) rfl _ CE 56 (by with_unfolding_all rfl) (by with_unfolding_all rfl) IE.out (by with_unfolding_all exact NE.out.symm) OE.out ?_))
    go_roundw
    case rel => exact ⟨k + 1, by omega, by go_num, Lib.hid (HE.out.trans XA.out)⟩
    case measure => simp [intOf]; omega
  obtain rfl : k = n := by omega
  have HX0 := Lib.hid (X0.out.trans HE.out)
  have GB0 := Lib.hid (HE.out.blockAt HB0.out)
  skip
  go_wp2_with (with_reducible refine wpList_load_row rfl 31 (.tmp 3) rfl (w.heap.size) (by with_unfolding_all rfl) _ CB _ _ GB0.out Tryz.underlying31 rfl IB.out ?_)
  with_reducible refine (C1.out _ HX0.out).mono ?_
  rintro r w1 ⟨⟨e1, rfl, q1, y1⟩, hb⟩
  obtain ⟨CE1, hc1, hne, h1e, -⟩ := e1.packed
  rw [hc1]
  have HC1 := Lib.hid hc1
  have Q1 := Lib.hid q1
  have XA : Ext w1 (w1.alloc (.cells CE1 56)) := (Ext.refl _).alloc _
  have I1 := Lib.hid (infoEn hne)
  have NE1 := Lib.hid hne
  have O1 := Lib.hid h1e
  have HX1 := Lib.hid ((HX0.out.trans hb).trans XA)
  have GB1 := Lib.hid ((hb.trans XA).blockAt GB0.out)
  have G1_1 : Hid ((w1.alloc (.cells CE1 56)).heap[w1.heap.size]? = some (.cells CE1 56 (0, 0))) := Lib.hid (heap_alloc_new w1 _)
  have Y1_1 := Lib.hid (y1.ext XA)
  clear hb XA hne h1e hc1 q1 y1 GB0 
  go_wp2_with (first | (with_reducible refine wpList_store_newN rfl 56 (.tmp 9) (.tmp 41) rfl (w1.heap.size) (by simp) _ CE1 56 (by with_unfolding_all rfl) (by with_unfolding_all rfl) I1.out (by with_unfolding_all exact NE1.out.symm) O1.out ?_) | (with_reducible refine wpList_load_row rfl 31 (.tmp 3) rfl (w.heap.size) (by with_unfolding_all rfl) _ CB _ _ GB1.out Tryz.underlying31 rfl IB.out ?_))
  with_reducible refine (C2.out _ HX1.out).mono ?_
  rintro r w2 ⟨⟨e2, rfl, q2, y2⟩, hb⟩
  obtain ⟨CE2, hc2, hne, h1e, -⟩ := e2.packed
  rw [hc2]
  have HC2 := Lib.hid hc2
  have Q2 := Lib.hid q2
  have XA : Ext w2 (w2.alloc (.cells CE2 56)) := (Ext.refl _).alloc _
  have I2 := Lib.hid (infoEn hne)
  have NE2 := Lib.hid hne
  have O2 := Lib.hid h1e
  have HX2 := Lib.hid ((HX1.out.trans hb).trans XA)
  have GB2 := Lib.hid ((hb.trans XA).blockAt GB1.out)
  have G1_2 := Lib.hid ((hb.trans XA).blockAt G1_1.out)
  have Y1_2 := Lib.hid (Y1_1.out.ext (hb.trans XA))
  have G2_2 : Hid ((w2.alloc (.cells CE2 56)).heap[w2.heap.size]? = some (.cells CE2 56 (0, 0))) := Lib.hid (heap_alloc_new w2 _)
  have Y2_2 := Lib.hid (y2.ext XA)
  clear hb XA hne h1e hc2 q2 y2 GB1 G1_1 Y1_1
  go_wp2_with (first | (with_reducible refine wpList_store_newN rfl 56 (.tmp 11) (.tmp 47) rfl (w2.heap.size) (by simp) _ CE2 56 (by with_unfolding_all rfl) (by with_unfolding_all rfl) I2.out (by with_unfolding_all exact NE2.out.symm) O2.out ?_) | (with_reducible refine wpList_load_row rfl 31 (.tmp 3) rfl (w.heap.size) (by with_unfolding_all rfl) _ CB _ _ GB2.out Tryz.underlying31 rfl IB.out ?_))
  with_reducible refine (C3.out _ HX2.out).mono ?_
  rintro r w3 ⟨⟨e3, rfl, q3, y3⟩, hb⟩
  obtain ⟨CE3, hc3, hne, h1e, -⟩ := itp e3
  rw [hc3]
  have HC3 := Lib.hid hc3
  have Q3 := Lib.hid q3
  have XA : Ext w3 (w3.alloc (.cells CE3 39)) := (Ext.refl _).alloc _
  have I3 := Lib.hid (infoItem hne)
  have NE3 := Lib.hid hne
  have O3 := Lib.hid h1e
  have HX3 := Lib.hid ((HX2.out.trans hb).trans XA)
  have GB3 := Lib.hid ((hb.trans XA).blockAt GB2.out)
  have G1_3 := Lib.hid ((hb.trans XA).blockAt G1_2.out)
  have Y1_3 := Lib.hid (Y1_2.out.ext (hb.trans XA))
  have G2_3 := Lib.hid ((hb.trans XA).blockAt G2_2.out)
  have Y2_3 := Lib.hid (Y2_2.out.ext (hb.trans XA))
  have G3_3 : Hid ((w3.alloc (.cells CE3 39)).heap[w3.heap.size]? = some (.cells CE3 39 (0, 0))) := Lib.hid (heap_alloc_new w3 _)
  have Y3_3 := Lib.hid (y3.ext XA)
  clear hb XA hne h1e hc3 q3 y3 GB2 G1_2 Y1_2 G2_2 Y2_2
  go_wp2_with (first | (with_reducible refine wpList_store_newN rfl 39 (.tmp 13) (.tmp 53) rfl (w3.heap.size) (by simp) _ CE3 39 (by with_unfolding_all rfl) (by with_unfolding_all rfl) I3.out (by with_unfolding_all exact NE3.out.symm) O3.out ?_) | (with_reducible refine wpList_load_row rfl 31 (.tmp 3) rfl (w.heap.size) (by with_unfolding_all rfl) _ CB _ _ GB3.out Tryz.underlying31 rfl IB.out ?_))
  with_reducible refine (C4.out _ HX3.out).mono ?_
  rintro r w4 ⟨⟨e4, rfl, q4, y4⟩, hb⟩
  obtain ⟨CE4, hc4, hne, h1e, -⟩ := itp e4
  rw [hc4]
  have HC4 := Lib.hid hc4
  have Q4 := Lib.hid q4
  have XA : Ext w4 (w4.alloc (.cells CE4 39)) := (Ext.refl _).alloc _
  have I4 := Lib.hid (infoItem hne)
  have NE4 := Lib.hid hne
  have O4 := Lib.hid h1e
  have HX4 := Lib.hid ((HX3.out.trans hb).trans XA)
  have GB4 := Lib.hid ((hb.trans XA).blockAt GB3.out)
  have G1_4 := Lib.hid ((hb.trans XA).blockAt G1_3.out)
  have Y1_4 := Lib.hid (Y1_3.out.ext (hb.trans XA))
  have G2_4 := Lib.hid ((hb.trans XA).blockAt G2_3.out)
  have Y2_4 := Lib.hid (Y2_3.out.ext (hb.trans XA))
  have G3_4 := Lib.hid ((hb.trans XA).blockAt G3_3.out)
  have Y3_4 := Lib.hid (Y3_3.out.ext (hb.trans XA))
  have G4_4 : Hid ((w4.alloc (.cells CE4 39)).heap[w4.heap.size]? = some (.cells CE4 39 (0, 0))) := Lib.hid (heap_alloc_new w4 _)
  have Y4_4 := Lib.hid (y4.ext XA)
  clear hb XA hne h1e hc4 q4 y4 GB3 G1_3 Y1_3 G2_3 Y2_3 G3_3 Y3_3
  go_wp2_with (first | (with_reducible refine wpList_store_newN rfl 39 (.tmp 15) (.tmp 59) rfl (w4.heap.size) (by simp) _ CE4 39 (by with_unfolding_all rfl) (by with_unfolding_all rfl) I4.out (by with_unfolding_all exact NE4.out.symm) O4.out ?_) | (with_reducible refine wpList_load_row rfl 31 (.tmp 3) rfl (w.heap.size) (by with_unfolding_all rfl) _ CB _ _ GB4.out Tryz.underlying31 rfl IB.out ?_))
  with_reducible refine (C5.out _ HX4.out).mono ?_
  rintro r w5 ⟨⟨e5, rfl, q5, y5⟩, hb⟩
  obtain ⟨CE5, hc5, hne, h1e, -⟩ := itp e5
  rw [hc5]
  have HC5 := Lib.hid hc5
  have Q5 := Lib.hid q5
  have XA : Ext w5 (w5.alloc (.cells CE5 39)) := (Ext.refl _).alloc _
  have I5 := Lib.hid (infoItem hne)
  have NE5 := Lib.hid hne
  have O5 := Lib.hid h1e
  have HX5 := Lib.hid ((HX4.out.trans hb).trans XA)
  have GB5 := Lib.hid ((hb.trans XA).blockAt GB4.out)
  have G1_5 := Lib.hid ((hb.trans XA).blockAt G1_4.out)
  have Y1_5 := Lib.hid (Y1_4.out.ext (hb.trans XA))
  have G2_5 := Lib.hid ((hb.trans XA).blockAt G2_4.out)
  have Y2_5 := Lib.hid (Y2_4.out.ext (hb.trans XA))
  have G3_5 := Lib.hid ((hb.trans XA).blockAt G3_4.out)
  have Y3_5 := Lib.hid (Y3_4.out.ext (hb.trans XA))
  have G4_5 := Lib.hid ((hb.trans XA).blockAt G4_4.out)
  have Y4_5 := Lib.hid (Y4_4.out.ext (hb.trans XA))
  have G5_5 : Hid ((w5.alloc (.cells CE5 39)).heap[w5.heap.size]? = some (.cells CE5 39 (0, 0))) := Lib.hid (heap_alloc_new w5 _)
  have Y5_5 := Lib.hid (y5.ext XA)
  clear hb XA hne h1e hc5 q5 y5 GB4 G1_4 Y1_4 G2_4 Y2_4 G3_4 Y3_4 G4_4 Y4_4
  go_wp2_with (first | (with_reducible refine wpList_store_newN rfl 39 (.tmp 17) (.tmp 66) rfl (w5.heap.size) (by simp) _ CE5 39 (by with_unfolding_all rfl) (by with_unfolding_all rfl) I5.out (by with_unfolding_all exact NE5.out.symm) O5.out ?_) | (with_reducible refine wpList_load_row rfl 31 (.tmp 3) rfl (w.heap.size) (by with_unfolding_all rfl) _ CB _ _ GB5.out Tryz.underlying31 rfl IB.out ?_))
  with_reducible refine (C6.out _ HX5.out).mono ?_
  rintro r w6 ⟨⟨e6, rfl, q6, y6⟩, hb⟩
  obtain ⟨CE6, hc6, hne, h1e, -⟩ := itp e6
  rw [hc6]
  have HC6 := Lib.hid hc6
  have Q6 := Lib.hid q6
  have XA : Ext w6 (w6.alloc (.cells CE6 39)) := (Ext.refl _).alloc _
  have I6 := Lib.hid (infoItem hne)
  have NE6 := Lib.hid hne
  have O6 := Lib.hid h1e
  have HX6 := Lib.hid ((HX5.out.trans hb).trans XA)
  have GB6 := Lib.hid ((hb.trans XA).blockAt GB5.out)
  have G1_6 := Lib.hid ((hb.trans XA).blockAt G1_5.out)
  have Y1_6 := Lib.hid (Y1_5.out.ext (hb.trans XA))
  have G2_6 := Lib.hid ((hb.trans XA).blockAt G2_5.out)
  have Y2_6 := Lib.hid (Y2_5.out.ext (hb.trans XA))
  have G3_6 := Lib.hid ((hb.trans XA).blockAt G3_5.out)
  have Y3_6 := Lib.hid (Y3_5.out.ext (hb.trans XA))
  have G4_6 := Lib.hid ((hb.trans XA).blockAt G4_5.out)
  have Y4_6 := Lib.hid (Y4_5.out.ext (hb.trans XA))
  have G5_6 := Lib.hid ((hb.trans XA).blockAt G5_5.out)
  have Y5_6 := Lib.hid (Y5_5.out.ext (hb.trans XA))
  have G6_6 : Hid ((w6.alloc (.cells CE6 39)).heap[w6.heap.size]? = some (.cells CE6 39 (0, 0))) := Lib.hid (heap_alloc_new w6 _)
  have Y6_6 := Lib.hid (y6.ext XA)
  clear hb XA hne h1e hc6 q6 y6 GB5 G1_5 Y1_5 G2_5 Y2_5 G3_5 Y3_5 G4_5 Y4_5 G5_5 Y5_5
  have t1 : (o1 == o1) = true := by simp
  have t2 : (o2 == o2) = true := by simp
  have t3 : (o3 == o3) = true := by simp
  have K7 := Lib.hid (rsameEntry_any e1 e2 (v := true) ⟨fun _ => Q1.out.trans Q2.out.symm, fun _ => rfl⟩ _ Y1_6.out Y2_6.out)
  rw [HC1.out, HC2.out] at K7
  have K8 := Lib.hid (fun (W : World) (hx : Ext (w6.alloc (.cells CE6 39)) W) => rsameItem_any e3 e4 (v := true) ⟨fun _ => Q3.out.trans Q4.out.symm, fun _ => rfl⟩ W (Y3_6.out.ext hx) (Y4_6.out.ext hx))
  rw [HC3.out, HC4.out] at K8
  have K9 := Lib.hid (fun (W : World) (hx : Ext (w6.alloc (.cells CE6 39)) W) => rsameItem_any e5 e6 (v := true) ⟨fun _ => Q5.out.trans Q6.out.symm, fun _ => rfl⟩ W (Y5_6.out.ext hx) (Y6_6.out.ext hx))
  rw [HC5.out, HC6.out] at K9
  go_wp2_with (first | (with_reducible refine wpList_store_newN rfl 39 (.tmp 19) (.tmp 73) rfl (w6.heap.size) (by simp) _ CE6 39 (by with_unfolding_all rfl) (by with_unfolding_all rfl) I6.out (by with_unfolding_all exact NE6.out.symm) O6.out ?_) | (refine wpList_load_row_w rfl 56 (.tmp 9) rfl (w1.heap.size) rfl _ CE1 _ _ G1_6.out Tryz.underlying56 rfl I1.out ?_) | (refine wpList_load_row_w rfl 56 (.tmp 11) rfl (w2.heap.size) rfl _ CE2 _ _ G2_6.out Tryz.underlying56 rfl I2.out ?_))
  with_reducible refine K7.out.mono ?_
  rintro r w7 ⟨rfl, hb7⟩
  have G3 := Lib.hid (hb7.blockAt G3_6.out)
  have G4 := Lib.hid (hb7.blockAt G4_6.out)
  have X7 := Lib.hid hb7
  clear hb7
  go_wp2_with (first | (refine wpList_load_row_w rfl 39 (.tmp 13) rfl (w3.heap.size) rfl _ CE3 _ _ G3.out Tryz.underlying39 rfl I3.out ?_) | (refine wpList_load_row_w rfl 39 (.tmp 15) rfl (w4.heap.size) rfl _ CE4 _ _ G4.out Tryz.underlying39 rfl I4.out ?_))
  with_reducible refine (K8.out _ X7.out).mono ?_
  rintro r w8 ⟨rfl, hb8⟩
  have X8 := Lib.hid (X7.out.trans hb8)
  have G5 := Lib.hid (X8.out.blockAt G5_6.out)
  have G6 := Lib.hid (X8.out.blockAt G6_6.out)
  clear hb8
  go_wp2_with (first | (refine wpList_load_row_w rfl 39 (.tmp 17) rfl (w5.heap.size) rfl _ CE5 _ _ G5.out Tryz.underlying39 rfl I5.out ?_) | (refine wpList_load_row_w rfl 39 (.tmp 19) rfl (w6.heap.size) rfl _ CE6 _ _ G6.out Tryz.underlying39 rfl I6.out ?_))
  with_reducible refine (K9.out _ X8.out).mono ?_
  rintro r w9 ⟨rfl, hb9⟩
  have X9 := Lib.hid (HX6.out.trans (X8.out.trans hb9))
  clear hb9
  go_wp2_with fail
  with_reducible refine (awake_any _ (HGM.out.ext X9.out)).mono ?_
  rintro r w10 ⟨rfl, hb10⟩
  go_wp2
  go_ret
  exact ⟨rfl, X9.out.trans hb10⟩
end Bk
end Go.Proofs.YtfnmgcblhebdbaaGreatDoor
