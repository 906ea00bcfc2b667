/- The bank's sameReview and sameEntry, slices.EqualFunc at entries, bank.Same: contracts. Conditions: those of each theorem. -/
import Derived.Test.YtfnmgcblhebdbaaGreatDoorBkSo
import Derived.Test.YtfnmgcblhebdbaaGreatDoorBkG
namespace Go.Proofs.YtfnmgcblhebdbaaGreatDoor
open Go.RowKit
namespace Bk
set_option maxRecDepth 100000 in
set_option maxHeartbeats 25600000 in
theorem bsameReview_any (x y : RvL) {v : Bool} (hv : v = true ↔ x.rc = y.rc) (w : World) (hx : x.In w) (hy : y.In w) :
    Calls Tryz.prog 87 #[x.agg, y.agg] w fun e w' => e = .returned (.bool v) ∧ Ext w w' := by
  obtain ⟨CA, hca, hna, -, hka⟩ := x.packed
  obtain ⟨CB, hcb, hnb, -, hkb⟩ := y.packed
  rw [hca, hcb]
  have HV := Lib.hid hv
  clear hv
  obtain ⟨n_ap, hn_ap⟩ : ∃ n, x.ap.xs.length = n := ⟨_, rfl⟩
  obtain ⟨m_ap, hm_ap⟩ : ∃ n, y.ap.xs.length = n := ⟨_, rfl⟩
  obtain ⟨n_fa, hn_fa⟩ : ∃ n, x.fa.xs.length = n := ⟨_, rfl⟩
  obtain ⟨m_fa, hm_fa⟩ : ∃ n, y.fa.xs.length = n := ⟨_, rfl⟩
  obtain ⟨n_log, hn_log⟩ : ∃ n, x.log.length = n := ⟨_, rfl⟩
  obtain ⟨m_log, hm_log⟩ : ∃ n, y.log.length = n := ⟨_, rfl⟩
  have J0 : Hid (CA[0]? = some (.int .i64 x.st) ∧ CB[0]? = some (.int .i64 y.st)) := Lib.hid ⟨by rw [← hka]; rfl, by rw [← hkb]; rfl⟩
  have J1 : Hid (CA[1]? = some (.int .i64 x.au) ∧ CB[1]? = some (.int .i64 y.au)) := Lib.hid ⟨by rw [← hka]; rfl, by rw [← hkb]; rfl⟩
  have J2 : Hid (CA[2]? = some (.slice x.ap.A n_ap x.ap.c) ∧ CB[2]? = some (.slice y.ap.A m_ap y.ap.c)) := Lib.hid ⟨by rw [← hka, ← hn_ap]; rfl, by rw [← hkb, ← hm_ap]; rfl⟩
  have J3 : Hid (CA[3]? = some (.slice x.fa.A n_fa x.fa.c) ∧ CB[3]? = some (.slice y.fa.A m_fa y.fa.c)) := Lib.hid ⟨by rw [← hka, ← hn_fa]; rfl, by rw [← hkb, ← hm_fa]; rfl⟩
  have J4 : Hid (CA[4]? = some (.slice x.lA n_log x.lc) ∧ CB[4]? = some (.slice y.lA m_log y.lc)) := Lib.hid ⟨by rw [← hka, ← hn_log]; rfl, by rw [← hkb, ← hm_log]; rfl⟩
  have K2 := Lib.hid (fun (v : Bool) (hv : v = true ↔ x.ap.xs = y.ap.xs) (W : World) (h : Ext w W) => equalInt_any x.ap.A x.ap.c x.ap.xs y.ap.A y.ap.c y.ap.xs hn_ap hm_ap (v := v) hv (by rw [← hn_ap]; exact sl_len63 ⟨hx.ap.2.1, hx.ap.2.2.1⟩) W (hx.ap.ext h).1 (hy.ap.ext h).1 (by rw [← hm_ap]; exact sl_len63 ⟨hy.ap.2.1, hy.ap.2.2.1⟩))
  have K3 := Lib.hid (fun (v : Bool) (hv : v = true ↔ x.fa.xs = y.fa.xs) (W : World) (h : Ext w W) => equalInt_any x.fa.A x.fa.c x.fa.xs y.fa.A y.fa.c y.fa.xs hn_fa hm_fa (v := v) hv (by rw [← hn_fa]; exact sl_len63 ⟨hx.fa.2.1, hx.fa.2.2.1⟩) W (hx.fa.ext h).1 (hy.fa.ext h).1 (by rw [← hm_fa]; exact sl_len63 ⟨hy.fa.2.1, hy.fa.2.2.1⟩))
  have K4 := Lib.hid (fun (v : Bool) (hv : v = true ↔ x.log = y.log) (W : World) (h : Ext w W) => equalAct_any x.lA x.lc x.log y.lA y.lc y.log hn_log hm_log (v := v) hv (by rw [← hn_log]; exact sl_len63 hx.lc) W (hx.log.ext h) (hy.log.ext h))
  clear hx hy hca hcb hna hnb hka hkb hn_ap hm_ap hn_fa hm_fa hn_log hm_log
  have X_0 : Hid (Ext w ((w.alloc (.cells CA 54)).alloc (.cells CB 54))) := Lib.hid (((Ext.refl _).alloc _).alloc _)
  have HA_0 : Hid (((w.alloc (.cells CA 54)).alloc (.cells CB 54)).heap[w.heap.size]? = some (.cells CA 54 (0, 0))) := Lib.hid (two_fst' _ _ _)
  have HB_0 : Hid (((w.alloc (.cells CA 54)).alloc (.cells CB 54)).heap[w.heap.size + 1]? = some (.cells CB 54 (0, 0))) := Lib.hid (heap_new_at _ _ _ (by simp))
  have ca0 : ((w.alloc (.cells CA 54)).alloc (.cells CB 54)).cell? ⟨w.heap.size, 0, none⟩ = some (.int .i64 x.st) := (cell_of_row _ _ 0 _ _ _ HA_0.out).trans J0.out.1
  have cb0 : ((w.alloc (.cells CA 54)).alloc (.cells CB 54)).cell? ⟨w.heap.size + 1, 0, none⟩ = some (.int .i64 y.st) := (cell_of_row _ _ 0 _ _ _ HB_0.out).trans J0.out.2
  have ca1 : ((w.alloc (.cells CA 54)).alloc (.cells CB 54)).cell? ⟨w.heap.size, 1, none⟩ = some (.int .i64 x.au) := (cell_of_row _ _ 1 _ _ _ HA_0.out).trans J1.out.1
  have cb1 : ((w.alloc (.cells CA 54)).alloc (.cells CB 54)).cell? ⟨w.heap.size + 1, 1, none⟩ = some (.int .i64 y.au) := (cell_of_row _ _ 1 _ _ _ HB_0.out).trans J1.out.2
  have ca2 : ((w.alloc (.cells CA 54)).alloc (.cells CB 54)).cell? ⟨w.heap.size, 2, none⟩ = some (.slice x.ap.A n_ap x.ap.c) := (cell_of_row _ _ 2 _ _ _ HA_0.out).trans J2.out.1
  have cb2 : ((w.alloc (.cells CA 54)).alloc (.cells CB 54)).cell? ⟨w.heap.size + 1, 2, none⟩ = some (.slice y.ap.A m_ap y.ap.c) := (cell_of_row _ _ 2 _ _ _ HB_0.out).trans J2.out.2
  go_enter Tryz.func87, Tryz.ntmps87
  by_cases hq : x.st = y.st
  case neg =>
    have HF := Lib.hid (no_eq HV.out (fun e => hq (congrArg Rev.Rec.st e)))
    have t0 : (x.st == y.st) = false := by rw [beq_eq_false_iff_ne]; exact hq
    clear hq
    go_wp2
    go_ret
    exact ⟨ret_bool HF.out.symm, X_0.out⟩
  have Q0 := Lib.hid hq
  have t0 : (x.st == y.st) = true := by rw [hq]; simp
  clear hq
  by_cases hq : x.au = y.au
  case neg =>
    have HF := Lib.hid (no_eq HV.out (fun e => hq (congrArg Rev.Rec.au e)))
    have t1 : (x.au == y.au) = false := by rw [beq_eq_false_iff_ne]; exact hq
    clear hq
    go_wp2
    go_ret
    exact ⟨ret_bool HF.out.symm, X_0.out⟩
  have Q1 := Lib.hid hq
  have t1 : (x.au == y.au) = true := by rw [hq]; simp
  clear hq
  by_cases hq : x.ap.xs = y.ap.xs
  case neg =>
    have HF := Lib.hid (no_eq HV.out (fun e => hq (congrArg Rev.Rec.ap e)))
    have K := Lib.hid (K2.out false (fa hq))
    clear hq
    go_wp2_with fail
    with_reducible refine (K.out _ X_0.out).mono ?_
    rintro e w9 ⟨rfl, hb⟩
    go_wp2
    go_ret
    exact ⟨ret_bool HF.out.symm, X_0.out.trans hb⟩
  have Q2 := Lib.hid hq
  have K := Lib.hid (K2.out true (tr hq))
  clear hq
  go_wp2_with fail
  with_reducible refine (K.out _ X_0.out).mono ?_
  rintro e w1 ⟨rfl, hb⟩
  have X_1 := Lib.hid (X_0.out.trans hb)
  have HA_1 := Lib.hid (hb.blockAt HA_0.out)
  have HB_1 := Lib.hid (hb.blockAt HB_0.out)
  clear hb K X_0 HA_0 HB_0 ca0 cb0 ca1 cb1 ca2 cb2 t0 t1
  have ca3 : w1.cell? ⟨w.heap.size, 3, none⟩ = some (.slice x.fa.A n_fa x.fa.c) := (cell_of_row _ _ 3 _ _ _ HA_1.out).trans J3.out.1
  have cb3 : w1.cell? ⟨w.heap.size + 1, 3, none⟩ = some (.slice y.fa.A m_fa y.fa.c) := (cell_of_row _ _ 3 _ _ _ HB_1.out).trans J3.out.2
  by_cases hq : x.fa.xs = y.fa.xs
  case neg =>
    have HF := Lib.hid (no_eq HV.out (fun e => hq (congrArg Rev.Rec.fa e)))
    have K := Lib.hid (K3.out false (fa hq))
    clear hq
    go_wp2_with fail
    with_reducible refine (K.out _ X_1.out).mono ?_
    rintro e w9 ⟨rfl, hb⟩
    go_wp2
    go_ret
    exact ⟨ret_bool HF.out.symm, X_1.out.trans hb⟩
  have Q3 := Lib.hid hq
  have K := Lib.hid (K3.out true (tr hq))
  clear hq
  go_wp2_with fail
  with_reducible refine (K.out _ X_1.out).mono ?_
  rintro e w2 ⟨rfl, hb⟩
  have X_2 := Lib.hid (X_1.out.trans hb)
  have HA_2 := Lib.hid (hb.blockAt HA_1.out)
  have HB_2 := Lib.hid (hb.blockAt HB_1.out)
  clear hb K X_1 HA_1 HB_1 ca3 cb3 
  have ca4 : w2.cell? ⟨w.heap.size, 4, none⟩ = some (.slice x.lA n_log x.lc) := (cell_of_row _ _ 4 _ _ _ HA_2.out).trans J4.out.1
  have cb4 : w2.cell? ⟨w.heap.size + 1, 4, none⟩ = some (.slice y.lA m_log y.lc) := (cell_of_row _ _ 4 _ _ _ HB_2.out).trans J4.out.2
  by_cases hq : x.log = y.log
  case neg =>
    have HF := Lib.hid (no_eq HV.out (fun e => hq (congrArg Rev.Rec.log e)))
    have K := Lib.hid (K4.out false (fa hq))
    clear hq
    go_wp2_with fail
    with_reducible refine (K.out _ X_2.out).mono ?_
    rintro e w9 ⟨rfl, hb⟩
    go_wp2
    go_ret
    exact ⟨ret_bool HF.out.symm, X_2.out.trans hb⟩
  have Q4 := Lib.hid hq
  have K := Lib.hid (K4.out true (tr hq))
  clear hq
  go_wp2_with fail
  with_reducible refine (K.out _ X_2.out).mono ?_
  rintro e w3 ⟨rfl, hb⟩
  have X_3 := Lib.hid (X_2.out.trans hb)
  have HA_3 := Lib.hid (hb.blockAt HA_2.out)
  have HB_3 := Lib.hid (hb.blockAt HB_2.out)
  clear hb K X_2 HA_2 HB_2 ca4 cb4 
  have HF := Lib.hid (yes_eq HV.out (by unfold RvL.rc; rw [Q0.out, Q1.out, Q2.out, Q3.out, Q4.out]))
  go_wp2
  go_ret
  exact ⟨ret_bool HF.out.symm, X_3.out⟩
set_option maxRecDepth 100000 in
set_option maxHeartbeats 25600000 in
theorem bsameEntry_any (x y : EntL) {v : Bool} (hv : v = true ↔ x.ent = y.ent) (w : World) (hx : x.In w) (hy : y.In w) (hf : Fld w) :
    Calls Tryz.prog 51 #[x.agg, y.agg] w fun e w' => e = .returned (.bool v) ∧ Ext w w' := by
  obtain ⟨CA, hca, hna, -, hka⟩ := x.packed
  obtain ⟨CB, hcb, hnb, -, hkb⟩ := y.packed
  rw [hca, hcb]
  obtain ⟨CRA, hra, hnra, -, hkra⟩ := x.rv.packed
  obtain ⟨CRB, hrb, hnrb, -, hkrb⟩ := y.rv.packed
  have HV := Lib.hid hv
  clear hv
  obtain ⟨n_vs, hn_vs⟩ : ∃ n, x.vs.length = n := ⟨_, rfl⟩
  obtain ⟨m_vs, hm_vs⟩ : ∃ n, y.vs.length = n := ⟨_, rfl⟩
  obtain ⟨n_rows, hn_rows⟩ : ∃ n, x.rows.length = n := ⟨_, rfl⟩
  obtain ⟨m_rows, hm_rows⟩ : ∃ n, y.rows.length = n := ⟨_, rfl⟩
  have J0 : Hid (CA[0]? = some (.slice x.vA n_vs x.vc) ∧ CB[0]? = some (.slice y.vA m_vs y.vc)) := Lib.hid ⟨by rw [← hka, ← hn_vs]; rfl, by rw [← hkb, ← hm_vs]; rfl⟩
  have J6 : Hid (CA[6]? = some (.slice x.rA n_rows x.rc) ∧ CB[6]? = some (.slice y.rA m_rows y.rc)) := Lib.hid ⟨by rw [← hka, ← hn_rows]; rfl, by rw [← hkb, ← hm_rows]; rfl⟩
  have RR1 : Hid (∀ (W : World), W.heap[w.heap.size]? = some (.cells CA 56 (0, 0)) → W.rangeAt (w.heap.size) 1 CRA.toList) := Lib.hid (fun W hW => range_of hW 1 (fun j v h => by
      rw [← hkra] at h; rw [← hka]
      match j, h with
      | 0, h => exact h
      | 1, h => exact h
      | 2, h => exact h
      | 3, h => exact h
      | 4, h => exact h
      | j + 5, h => simp [RvL.cells] at h))
  have RR2 : Hid (∀ (W : World), W.heap[w.heap.size + 1]? = some (.cells CB 56 (0, 0)) → W.rangeAt (w.heap.size + 1) 1 CRB.toList) := Lib.hid (fun W hW => range_of hW 1 (fun j v h => by
      rw [← hkrb] at h; rw [← hkb]
      match j, h with
      | 0, h => exact h
      | 1, h => exact h
      | 2, h => exact h
      | 3, h => exact h
      | 4, h => exact h
      | j + 5, h => simp [RvL.cells] at h))
  have K0 := Lib.hid (fun (v : Bool) (hv : v = true ↔ x.vs.map (fun x : ItL => x.1) = y.vs.map (fun x : ItL => x.1)) (W : World) (h : Ext w W) => eqfItem_any x.vA x.vc x.vs y.vA y.vc y.vs hn_vs hm_vs (v := v) hv (by rw [← hn_vs]; exact sl_len63 hx.vc) W (hx.vs.ext h) (hy.vs.ext h) (hf.ext h))
  have K1 := Lib.hid (fun (v : Bool) (hv : v = true ↔ x.rv.rc = y.rv.rc) (W : World) (h : Ext w W) => bsameReview_any x.rv y.rv (v := v) hv W (RvL.In.ext ⟨hx.st, hx.au, hx.ap, hx.fa, hx.log, hx.lc⟩ h) (RvL.In.ext ⟨hy.st, hy.au, hy.ap, hy.fa, hy.log, hy.lc⟩ h))
  rw [hra, hrb] at K1
  have K6 := Lib.hid (fun (v : Bool) (hv : v = true ↔ x.rows.map IL.xs = y.rows.map IL.xs) (W : World) (h : Ext w W) => eqfRows_any x.rA x.rc x.rows y.rA y.rc y.rows hn_rows hm_rows (v := v) hv (by rw [← hn_rows]; exact sl_len63 hx.rc) W (hx.rows.ext h) (hy.rows.ext h))
  have IRA := Lib.hid (infoRev hnra)
  have IRB := Lib.hid (infoRev hnrb)
  clear hx hy hf hca hcb hna hnb hka hkb hra hrb hnra hnrb hkra hkrb hn_vs hm_vs hn_rows hm_rows
  have X_0 : Hid (Ext w ((w.alloc (.cells CA 56)).alloc (.cells CB 56))) := Lib.hid (((Ext.refl _).alloc _).alloc _)
  have HA_0 : Hid (((w.alloc (.cells CA 56)).alloc (.cells CB 56)).heap[w.heap.size]? = some (.cells CA 56 (0, 0))) := Lib.hid (two_fst' _ _ _)
  have HB_0 : Hid (((w.alloc (.cells CA 56)).alloc (.cells CB 56)).heap[w.heap.size + 1]? = some (.cells CB 56 (0, 0))) := Lib.hid (heap_new_at _ _ _ (by simp))
  have ca0 : ((w.alloc (.cells CA 56)).alloc (.cells CB 56)).cell? ⟨w.heap.size, 0, none⟩ = some (.slice x.vA n_vs x.vc) := (cell_of_row _ _ 0 _ _ _ HA_0.out).trans J0.out.1
  have cb0 : ((w.alloc (.cells CA 56)).alloc (.cells CB 56)).cell? ⟨w.heap.size + 1, 0, none⟩ = some (.slice y.vA m_vs y.vc) := (cell_of_row _ _ 0 _ _ _ HB_0.out).trans J0.out.2
  go_enter Tryz.func51, Tryz.ntmps51
  by_cases hq : x.vs.map (fun x : ItL => x.1) = y.vs.map (fun x : ItL => x.1)
  case neg =>
    have HF := Lib.hid (no_eq HV.out (fun e => hq (congrArg Ent.vers e)))
    have K := Lib.hid (K0.out false (fa hq))
    clear hq
    go_wp2_with fail
    with_reducible refine (K.out _ X_0.out).mono ?_
    rintro e w9 ⟨rfl, hb⟩
    go_wp2
    go_ret
    exact ⟨ret_bool HF.out.symm, X_0.out.trans hb⟩
  have Q0 := Lib.hid hq
  have K := Lib.hid (K0.out true (tr hq))
  clear hq
  go_wp2_with fail
  with_reducible refine (K.out _ X_0.out).mono ?_
  rintro e w1 ⟨rfl, hb⟩
  have X_1 := Lib.hid (X_0.out.trans hb)
  have HA_1 := Lib.hid (hb.blockAt HA_0.out)
  have HB_1 := Lib.hid (hb.blockAt HB_0.out)
  clear hb K X_0 HA_0 HB_0 ca0 cb0 
  have RA := Lib.hid (RR1.out _ HA_1.out)
  have RB := Lib.hid (RR2.out _ HB_1.out)
  by_cases hq : x.rv.rc = y.rv.rc
  case neg =>
    have HF := Lib.hid (no_eq HV.out (fun e => hq (congrArg Ent.rev e)))
    have K := Lib.hid (K1.out false (fa hq))
    clear hq
    go_wp2_with (first
    | (refine wpList_load_arr_w rfl 54 (.tmp 11) rfl w.heap.size 1 rfl CRA _ RA.out Tryz.underlying54 rfl IRA.out ?_)
    | (refine wpList_load_arr_w rfl 54 (.tmp 13) rfl (w.heap.size + 1) 1 rfl CRB _ RB.out Tryz.underlying54 rfl IRB.out ?_))
    with_reducible refine (K.out _ X_1.out).mono ?_
    rintro e w9 ⟨rfl, hb⟩
    go_wp2
    go_ret
    exact ⟨ret_bool HF.out.symm, X_1.out.trans hb⟩
  have Q1 := Lib.hid hq
  have K := Lib.hid (K1.out true (tr hq))
  clear hq
  go_wp2_with (first
    | (refine wpList_load_arr_w rfl 54 (.tmp 11) rfl w.heap.size 1 rfl CRA _ RA.out Tryz.underlying54 rfl IRA.out ?_)
    | (refine wpList_load_arr_w rfl 54 (.tmp 13) rfl (w.heap.size + 1) 1 rfl CRB _ RB.out Tryz.underlying54 rfl IRB.out ?_))
  with_reducible refine (K.out _ X_1.out).mono ?_
  rintro e w2 ⟨rfl, hb⟩
  have X_2 := Lib.hid (X_1.out.trans hb)
  have HA_2 := Lib.hid (hb.blockAt HA_1.out)
  have HB_2 := Lib.hid (hb.blockAt HB_1.out)
  clear hb K X_1 HA_1 HB_1  
  have ca6 : w2.cell? ⟨w.heap.size, 6, none⟩ = some (.slice x.rA n_rows x.rc) := (cell_of_row _ _ 6 _ _ _ HA_2.out).trans J6.out.1
  have cb6 : w2.cell? ⟨w.heap.size + 1, 6, none⟩ = some (.slice y.rA m_rows y.rc) := (cell_of_row _ _ 6 _ _ _ HB_2.out).trans J6.out.2
  by_cases hq : x.rows.map IL.xs = y.rows.map IL.xs
  case neg =>
    have HF := Lib.hid (no_eq HV.out (fun e => hq (congrArg Ent.rows e)))
    have K := Lib.hid (K6.out false (fa hq))
    clear hq
    go_wp2_with fail
    with_reducible refine (K.out _ X_2.out).mono ?_
    rintro e w9 ⟨rfl, hb⟩
    go_wp2
    go_ret
    exact ⟨ret_bool HF.out.symm, X_2.out.trans hb⟩
  have Q2 := Lib.hid hq
  have K := Lib.hid (K6.out true (tr hq))
  clear hq
  go_wp2_with fail
  with_reducible refine (K.out _ X_2.out).mono ?_
  rintro e w3 ⟨rfl, hb⟩
  have X_3 := Lib.hid (X_2.out.trans hb)
  have HA_3 := Lib.hid (hb.blockAt HA_2.out)
  have HB_3 := Lib.hid (hb.blockAt HB_2.out)
  clear hb K X_2 HA_2 HB_2 ca6 cb6 
  have HF := Lib.hid (yes_eq HV.out (by
    show (⟨x.vs.map (fun x : ItL => x.1), x.rv.rc, x.rows.map IL.xs⟩ : Ent) = ⟨y.vs.map (fun x : ItL => x.1), y.rv.rc, y.rows.map IL.xs⟩
    rw [Q0.out, Q1.out, Q2.out]))
  go_wp2
  go_ret
  exact ⟨ret_bool HF.out.symm, X_3.out⟩
set_option maxRecDepth 100000 in
set_option maxHeartbeats 25600000 in
theorem eqfEnt_any (A : Option Addr) (c : Nat) (xs : List EntL) (B : Option Addr) (d : Nat) (ys : List EntL) {n m : Nat} (hn : xs.length = n) (hm : ys.length = m) {v : Bool} (hv : v = true ↔ xs.map EntL.ent = ys.map EntL.ent) (hl : n ≤ 9223372036854775807) (w : World) (ha : SlX eEnt w A xs) (hb : SlX eEnt w B ys) (hfd : Fld w) :
    Calls Tryz.prog 50 #[.slice A n c, .slice B m d, .func (.func 51) #[] #[]] w fun e w' => e = .returned (.bool v) ∧ Ext w w' := by
  have HL1 := Lib.hid ha
  have HL2 := Lib.hid hb
  have HN := Lib.hid hn
  have HM := Lib.hid hm
  have HV := Lib.hid hv
  have HFD := Lib.hid hfd
  clear ha hb hn hm hv hfd
  by_cases hnm : n = m
  case neg =>
    have hl' : ((n : Int) != (m : Int)) = true := by rw [bne_iff_ne]; omega
    have HF := Lib.hid (no_eq HV.out (fun e => hnm (by have e2 := congrArg List.length e; rw [List.length_map, List.length_map] at e2; rw [← HN.out, ← HM.out, e2])))
    clear hnm
    go_enter Tryz.func50, Tryz.ntmps50
    go_wp2
    go_ret
    exact ⟨ret_bool HF.out.symm, Ext.refl _⟩
  subst hnm
  have hl' : ((n : Int) != (n : Int)) = false := by simp
  go_enter Tryz.func50, Tryz.ntmps50
  go_wp2
  go_loopw [17] (fun i wr => ∃ k : Nat, k ≤ n ∧ i = .int .i64 k ∧ Hid (∀ j, j < k → (xs.map EntL.ent)[j]? = (ys.map EntL.ent)[j]?) ∧ Hid (Ext w wr)) (fun i _ => n - (intOf i).toNat)
  case atStart => exact ⟨0, by omega, rfl, Lib.hid (fun j hj => absurd hj (by omega)), Lib.hid (Ext.refl _)⟩
  case round =>
    obtain ⟨k, hk, rfl, HALL, HE⟩ := hrel
    by_cases hlt : k < n
    · obtain ⟨x, hx⟩ : ∃ a, xs[k]? = some a := ⟨xs[k]'(by rw [HN.out]; exact hlt), List.getElem?_eq_getElem _⟩
      obtain ⟨y, hy⟩ : ∃ a, ys[k]? = some a := ⟨ys[k]'(by rw [HM.out]; exact hlt), List.getElem?_eq_getElem _⟩
      have HP : Hid ((xs.map EntL.ent)[k]? = some (EntL.ent x)) := Lib.hid (by rw [List.getElem?_map, hx]; rfl)
      have HQ : Hid ((ys.map EntL.ent)[k]? = some (EntL.ent y)) := Lib.hid (by rw [List.getElem?_map, hy]; rfl)
      obtain ⟨b1, o1, rfl, hb1, hc1, hi1⟩ := (HL1.out.ext HE.out).at_ hx
      obtain ⟨b2, o2, rfl, hb2, hc2, hi2⟩ := (HL2.out.ext HE.out).at_ hy
      have HI1 := Lib.hid hi1
      have HI2 := Lib.hid hi2
      obtain ⟨CA, hca, hna, h1a, hka⟩ := x.packed
      obtain ⟨CB, hcb, hnb, h1b, hkb⟩ := y.packed
      have HC1 : Hid (wr.rangeAt b1 (o1 + k * 7) CA.toList) := Lib.hid (by rw [← hka]; exact hc1)
      have HC2 : Hid ((wr.alloc (.cells CA 56)).rangeAt b2 (o2 + k * 7) CB.toList) := Lib.hid (fun j u hu => Ext.keep ((Ext.refl _).alloc _) (by rw [← hkb] at hu; exact hc2 j u hu))
      have IA := Lib.hid (infoEn hna)
      have IB := Lib.hid (infoEn hnb)
      have NA := Lib.hid hna
      have NB := Lib.hid hnb
      have OA := Lib.hid h1a
      have OB := Lib.hid h1b
      have XW : Hid (Ext wr ((wr.alloc (.cells CA 56)).alloc (.cells CB 56))) := Lib.hid (((Ext.refl _).alloc _).alloc _)
      have HK := Lib.hid (fun (v : Bool) (hv : v = true ↔ EntL.ent x = EntL.ent y) => bsameEntry_any x y hv _ (HI1.out.ext XW.out) (HI2.out.ext XW.out) ((HFD.out.ext HE.out).ext XW.out))
      rw [hca, hcb] at HK
      have GA : Hid (((wr.alloc (.cells CA 56)).alloc (.cells CB 56)).heap[wr.heap.size]? = some (.cells CA 56 (0, 0))) := Lib.hid (two_fst' _ _ _)
      have GB : Hid (((wr.alloc (.cells CA 56)).alloc (.cells CB 56)).heap[wr.heap.size + 1]? = some (.cells CB 56 (0, 0))) := Lib.hid (heap_new_at _ _ _ (by simp))
      clear hc1 hc2 hca hcb hna hnb h1a h1b hka hkb hi1 hi2 hx hy
      have ki0 : (0 : Int) ≤ (k : Int) := by omega
      have ki1 : (k : Int) < (n : Int) := by omega
      by_cases hq : EntL.ent x = EntL.ent y
      · have HF := Lib.hid (all_next HP.out HQ.out hq HALL.out)
        have K := Lib.hid (HK.out true (tr hq))
        clear hq HK
        go_wp2_with (first
        | (with_reducible refine wpList_load_arr rfl 56 (.tmp 20) rfl b1 (o1 + k * 7) (by with_unfolding_all rfl) CA _ HC1.out Tryz.underlying56 rfl IA.out ?_)
        | (with_reducible refine wpList_store_newN rfl 56 (.tmp 8) (.tmp 21) rfl (wr.heap.size) (by simp) _ CA 56 (by with_unfolding_all rfl) (by with_unfolding_all rfl) IA.out (by with_unfolding_all exact NA.out.symm) OA.out ?_)
        | (with_reducible refine wpList_load_arr rfl 56 (.tmp 24) rfl b2 (o2 + k * 7) (by with_unfolding_all rfl) CB _ HC2.out Tryz.underlying56 rfl IB.out ?_)
        | (with_reducible refine wpList_store_newN rfl 56 (.tmp 9) (.tmp 25) rfl (wr.heap.size + 1) (by simp) _ CB 56 (by with_unfolding_all rfl) (by with_unfolding_all rfl) IB.out (by with_unfolding_all exact NB.out.symm) OB.out ?_)
        | (with_reducible refine wpList_load_row rfl 56 (.tmp 8) rfl (wr.heap.size) (by with_unfolding_all rfl) _ CA _ _ GA.out Tryz.underlying56 rfl IA.out ?_)
        | (with_reducible refine wpList_load_row rfl 56 (.tmp 9) rfl (wr.heap.size + 1) (by with_unfolding_all rfl) _ CB _ _ GB.out Tryz.underlying56 rfl IB.out ?_))
        with_reducible refine K.out.mono ?_
        rintro e w3 ⟨rfl, hb3⟩
        have HE3 := Lib.hid ((HE.out.trans XW.out).trans hb3)
        clear hb3
        go_wp2
        go_roundw
        case rel => exact ⟨k + 1, by omega, by go_num, HF, HE3⟩
        case measure => simp [intOf]; omega
      · have HF := Lib.hid (no_eq HV.out (ne_at HP.out HQ.out hq))
        have K := Lib.hid (HK.out false (fa hq))
        clear hq HK
        go_wp2_with (first
        | (with_reducible refine wpList_load_arr rfl 56 (.tmp 20) rfl b1 (o1 + k * 7) (by with_unfolding_all rfl) CA _ HC1.out Tryz.underlying56 rfl IA.out ?_)
        | (with_reducible refine wpList_store_newN rfl 56 (.tmp 8) (.tmp 21) rfl (wr.heap.size) (by simp) _ CA 56 (by with_unfolding_all rfl) (by with_unfolding_all rfl) IA.out (by with_unfolding_all exact NA.out.symm) OA.out ?_)
        | (with_reducible refine wpList_load_arr rfl 56 (.tmp 24) rfl b2 (o2 + k * 7) (by with_unfolding_all rfl) CB _ HC2.out Tryz.underlying56 rfl IB.out ?_)
        | (with_reducible refine wpList_store_newN rfl 56 (.tmp 9) (.tmp 25) rfl (wr.heap.size + 1) (by simp) _ CB 56 (by with_unfolding_all rfl) (by with_unfolding_all rfl) IB.out (by with_unfolding_all exact NB.out.symm) OB.out ?_)
        | (with_reducible refine wpList_load_row rfl 56 (.tmp 8) rfl (wr.heap.size) (by with_unfolding_all rfl) _ CA _ _ GA.out Tryz.underlying56 rfl IA.out ?_)
        | (with_reducible refine wpList_load_row rfl 56 (.tmp 9) rfl (wr.heap.size + 1) (by with_unfolding_all rfl) _ CB _ _ GB.out Tryz.underlying56 rfl IB.out ?_))
        with_reducible refine K.out.mono ?_
        rintro e w3 ⟨rfl, hb3⟩
        go_wp2
        go_ret
        exact ⟨ret_bool HF.out.symm, (HE.out.trans XW.out).trans hb3⟩
    · obtain rfl : k = n := by omega
      have HF : Hid (v = true) := Lib.hid (HV.out.2 (all_eq ((List.length_map _).trans HN.out) ((List.length_map _).trans HM.out) HALL.out))
      go_wp2
      go_ret
      exact ⟨ret_bool HF.out.symm, HE.out⟩
set_option maxRecDepth 100000 in
set_option maxHeartbeats 25600000 in
theorem bSame_any (x y : BankL) {v : Bool} (hv : v = true ↔ x.bank = y.bank) (w : World) (hx : x.In w) (hy : y.In w) (hf : Fld w) :
    Calls Tryz.prog 24 #[x.agg, y.agg] w fun e w' => e = .returned (.bool v) ∧ Ext w w' := by
  obtain ⟨CA, hca, hna, -, hka⟩ := x.packed
  obtain ⟨CB, hcb, hnb, -, hkb⟩ := y.packed
  rw [hca, hcb]
  have HV := Lib.hid hv
  clear hv
  obtain ⟨n_gp, hn_gp⟩ : ∃ n, x.gp.xs.length = n := ⟨_, rfl⟩
  obtain ⟨m_gp, hm_gp⟩ : ∃ n, y.gp.xs.length = n := ⟨_, rfl⟩
  obtain ⟨n_gq, hn_gq⟩ : ∃ n, x.gq.xs.length = n := ⟨_, rfl⟩
  obtain ⟨m_gq, hm_gq⟩ : ∃ n, y.gq.xs.length = n := ⟨_, rfl⟩
  obtain ⟨n_outl, hn_outl⟩ : ∃ n, x.outl.length = n := ⟨_, rfl⟩
  obtain ⟨m_outl, hm_outl⟩ : ∃ n, y.outl.length = n := ⟨_, rfl⟩
  obtain ⟨n_assets, hn_assets⟩ : ∃ n, x.assets.length = n := ⟨_, rfl⟩
  obtain ⟨m_assets, hm_assets⟩ : ∃ n, y.assets.length = n := ⟨_, rfl⟩
  obtain ⟨n_ents, hn_ents⟩ : ∃ n, x.ents.length = n := ⟨_, rfl⟩
  obtain ⟨m_ents, hm_ents⟩ : ∃ n, y.ents.length = n := ⟨_, rfl⟩
  obtain ⟨n_enem, hn_enem⟩ : ∃ n, x.enem.length = n := ⟨_, rfl⟩
  obtain ⟨m_enem, hm_enem⟩ : ∃ n, y.enem.length = n := ⟨_, rfl⟩
  have J0 : Hid (CA[0]? = some (.int .i64 x.now) ∧ CB[0]? = some (.int .i64 y.now)) := Lib.hid ⟨by rw [← hka]; rfl, by rw [← hkb]; rfl⟩
  have J1 : Hid (CA[1]? = some (.slice x.gp.A n_gp x.gp.c) ∧ CB[1]? = some (.slice y.gp.A m_gp y.gp.c)) := Lib.hid ⟨by rw [← hka, ← hn_gp]; rfl, by rw [← hkb, ← hm_gp]; rfl⟩
  have J2 : Hid (CA[2]? = some (.slice x.gq.A n_gq x.gq.c) ∧ CB[2]? = some (.slice y.gq.A m_gq y.gq.c)) := Lib.hid ⟨by rw [← hka, ← hn_gq]; rfl, by rw [← hkb, ← hm_gq]; rfl⟩
  have J3 : Hid (CA[3]? = some (.slice x.oA n_outl x.oc) ∧ CB[3]? = some (.slice y.oA m_outl y.oc)) := Lib.hid ⟨by rw [← hka, ← hn_outl]; rfl, by rw [← hkb, ← hm_outl]; rfl⟩
  have J4 : Hid (CA[4]? = some (.slice x.aA n_assets x.ac) ∧ CB[4]? = some (.slice y.aA m_assets y.ac)) := Lib.hid ⟨by rw [← hka, ← hn_assets]; rfl, by rw [← hkb, ← hm_assets]; rfl⟩
  have J5 : Hid (CA[5]? = some (.slice x.eA n_ents x.ec) ∧ CB[5]? = some (.slice y.eA m_ents y.ec)) := Lib.hid ⟨by rw [← hka, ← hn_ents]; rfl, by rw [← hkb, ← hm_ents]; rfl⟩
  have J6 : Hid (CA[6]? = some (.slice x.nA n_enem x.nc) ∧ CB[6]? = some (.slice y.nA m_enem y.nc)) := Lib.hid ⟨by rw [← hka, ← hn_enem]; rfl, by rw [← hkb, ← hm_enem]; rfl⟩
  have K1 := Lib.hid (fun (v : Bool) (hv : v = true ↔ x.gp.xs = y.gp.xs) (W : World) (h : Ext w W) => equalInt_any x.gp.A x.gp.c x.gp.xs y.gp.A y.gp.c y.gp.xs hn_gp hm_gp (v := v) hv (by rw [← hn_gp]; exact sl_len63 ⟨hx.gp.2.1, hx.gp.2.2.1⟩) W (hx.gp.ext h).1 (hy.gp.ext h).1 (by rw [← hm_gp]; exact sl_len63 ⟨hy.gp.2.1, hy.gp.2.2.1⟩))
  have K2 := Lib.hid (fun (v : Bool) (hv : v = true ↔ x.gq.xs = y.gq.xs) (W : World) (h : Ext w W) => equalInt_any x.gq.A x.gq.c x.gq.xs y.gq.A y.gq.c y.gq.xs hn_gq hm_gq (v := v) hv (by rw [← hn_gq]; exact sl_len63 ⟨hx.gq.2.1, hx.gq.2.2.1⟩) W (hx.gq.ext h).1 (hy.gq.ext h).1 (by rw [← hm_gq]; exact sl_len63 ⟨hy.gq.2.1, hy.gq.2.2.1⟩))
  have K3 := Lib.hid (fun (v : Bool) (hv : v = true ↔ x.outl = y.outl) (W : World) (h : Ext w W) => equalTpc_any x.oA x.oc x.outl y.oA y.oc y.outl hn_outl hm_outl (v := v) hv (by rw [← hn_outl]; exact sl_len63 hx.oc) W (hx.outl.ext h) (hy.outl.ext h))
  have K4 := Lib.hid (fun (v : Bool) (hv : v = true ↔ x.assets = y.assets) (W : World) (h : Ext w W) => equalAst_any x.aA x.ac x.assets y.aA y.ac y.assets hn_assets hm_assets (v := v) hv (by rw [← hn_assets]; exact sl_len63 hx.ac) W (hx.assets.ext h) (hy.assets.ext h))
  have K5 := Lib.hid (fun (v : Bool) (hv : v = true ↔ x.ents.map EntL.ent = y.ents.map EntL.ent) (W : World) (h : Ext w W) => eqfEnt_any x.eA x.ec x.ents y.eA y.ec y.ents hn_ents hm_ents (v := v) hv (by rw [← hn_ents]; exact sl_len63 hx.ec) W (hx.ents.ext h) (hy.ents.ext h) (hf.ext h))
  have K6 := Lib.hid (fun (v : Bool) (hv : v = true ↔ x.enem = y.enem) (W : World) (h : Ext w W) => equalPar_any x.nA x.nc x.enem y.nA y.nc y.enem hn_enem hm_enem (v := v) hv (by rw [← hn_enem]; exact sl_len63 hx.nc) W (hx.enem.ext h) (hy.enem.ext h))
  clear hx hy hf hca hcb hna hnb hka hkb hn_gp hm_gp hn_gq hm_gq hn_outl hm_outl hn_assets hm_assets hn_ents hm_ents hn_enem hm_enem
  have X_0 : Hid (Ext w ((w.alloc (.cells CA 31)).alloc (.cells CB 31))) := Lib.hid (((Ext.refl _).alloc _).alloc _)
  have HA_0 : Hid (((w.alloc (.cells CA 31)).alloc (.cells CB 31)).heap[w.heap.size]? = some (.cells CA 31 (0, 0))) := Lib.hid (two_fst' _ _ _)
  have HB_0 : Hid (((w.alloc (.cells CA 31)).alloc (.cells CB 31)).heap[w.heap.size + 1]? = some (.cells CB 31 (0, 0))) := Lib.hid (heap_new_at _ _ _ (by simp))
  have ca0 : ((w.alloc (.cells CA 31)).alloc (.cells CB 31)).cell? ⟨w.heap.size, 0, none⟩ = some (.int .i64 x.now) := (cell_of_row _ _ 0 _ _ _ HA_0.out).trans J0.out.1
  have cb0 : ((w.alloc (.cells CA 31)).alloc (.cells CB 31)).cell? ⟨w.heap.size + 1, 0, none⟩ = some (.int .i64 y.now) := (cell_of_row _ _ 0 _ _ _ HB_0.out).trans J0.out.2
  have ca1 : ((w.alloc (.cells CA 31)).alloc (.cells CB 31)).cell? ⟨w.heap.size, 1, none⟩ = some (.slice x.gp.A n_gp x.gp.c) := (cell_of_row _ _ 1 _ _ _ HA_0.out).trans J1.out.1
  have cb1 : ((w.alloc (.cells CA 31)).alloc (.cells CB 31)).cell? ⟨w.heap.size + 1, 1, none⟩ = some (.slice y.gp.A m_gp y.gp.c) := (cell_of_row _ _ 1 _ _ _ HB_0.out).trans J1.out.2
  go_enter Tryz.func24, Tryz.ntmps24
  by_cases hq : x.now = y.now
  case neg =>
    have HF := Lib.hid (no_eq HV.out (fun e => hq (congrArg Bank.now e)))
    have t0 : (x.now == y.now) = false := by rw [beq_eq_false_iff_ne]; exact hq
    clear hq
    go_wp2
    go_ret
    exact ⟨ret_bool HF.out.symm, X_0.out⟩
  have Q0 := Lib.hid hq
  have t0 : (x.now == y.now) = true := by rw [hq]; simp
  clear hq
  by_cases hq : x.gp.xs = y.gp.xs
  case neg =>
    have HF := Lib.hid (no_eq HV.out (fun e => hq (congrArg Bank.pts e)))
    have K := Lib.hid (K1.out false (fa hq))
    clear hq
    go_wp2_with fail
    with_reducible refine (K.out _ X_0.out).mono ?_
    rintro e w9 ⟨rfl, hb⟩
    go_wp2
    go_ret
    exact ⟨ret_bool HF.out.symm, X_0.out.trans hb⟩
  have Q1 := Lib.hid hq
  have K := Lib.hid (K1.out true (tr hq))
  clear hq
  go_wp2_with fail
  with_reducible refine (K.out _ X_0.out).mono ?_
  rintro e w1 ⟨rfl, hb⟩
  have X_1 := Lib.hid (X_0.out.trans hb)
  have HA_1 := Lib.hid (hb.blockAt HA_0.out)
  have HB_1 := Lib.hid (hb.blockAt HB_0.out)
  clear hb K X_0 HA_0 HB_0 ca0 cb0 ca1 cb1 t0
  have ca2 : w1.cell? ⟨w.heap.size, 2, none⟩ = some (.slice x.gq.A n_gq x.gq.c) := (cell_of_row _ _ 2 _ _ _ HA_1.out).trans J2.out.1
  have cb2 : w1.cell? ⟨w.heap.size + 1, 2, none⟩ = some (.slice y.gq.A m_gq y.gq.c) := (cell_of_row _ _ 2 _ _ _ HB_1.out).trans J2.out.2
  by_cases hq : x.gq.xs = y.gq.xs
  case neg =>
    have HF := Lib.hid (no_eq HV.out (fun e => hq (congrArg Bank.prior e)))
    have K := Lib.hid (K2.out false (fa hq))
    clear hq
    go_wp2_with fail
    with_reducible refine (K.out _ X_1.out).mono ?_
    rintro e w9 ⟨rfl, hb⟩
    go_wp2
    go_ret
    exact ⟨ret_bool HF.out.symm, X_1.out.trans hb⟩
  have Q2 := Lib.hid hq
  have K := Lib.hid (K2.out true (tr hq))
  clear hq
  go_wp2_with fail
  with_reducible refine (K.out _ X_1.out).mono ?_
  rintro e w2 ⟨rfl, hb⟩
  have X_2 := Lib.hid (X_1.out.trans hb)
  have HA_2 := Lib.hid (hb.blockAt HA_1.out)
  have HB_2 := Lib.hid (hb.blockAt HB_1.out)
  clear hb K X_1 HA_1 HB_1 ca2 cb2 
  have ca3 : w2.cell? ⟨w.heap.size, 3, none⟩ = some (.slice x.oA n_outl x.oc) := (cell_of_row _ _ 3 _ _ _ HA_2.out).trans J3.out.1
  have cb3 : w2.cell? ⟨w.heap.size + 1, 3, none⟩ = some (.slice y.oA m_outl y.oc) := (cell_of_row _ _ 3 _ _ _ HB_2.out).trans J3.out.2
  by_cases hq : x.outl = y.outl
  case neg =>
    have HF := Lib.hid (no_eq HV.out (fun e => hq (congrArg Bank.outl e)))
    have K := Lib.hid (K3.out false (fa hq))
    clear hq
    go_wp2_with fail
    with_reducible refine (K.out _ X_2.out).mono ?_
    rintro e w9 ⟨rfl, hb⟩
    go_wp2
    go_ret
    exact ⟨ret_bool HF.out.symm, X_2.out.trans hb⟩
  have Q3 := Lib.hid hq
  have K := Lib.hid (K3.out true (tr hq))
  clear hq
  go_wp2_with fail
  with_reducible refine (K.out _ X_2.out).mono ?_
  rintro e w3 ⟨rfl, hb⟩
  have X_3 := Lib.hid (X_2.out.trans hb)
  have HA_3 := Lib.hid (hb.blockAt HA_2.out)
  have HB_3 := Lib.hid (hb.blockAt HB_2.out)
  clear hb K X_2 HA_2 HB_2 ca3 cb3 
  have ca4 : w3.cell? ⟨w.heap.size, 4, none⟩ = some (.slice x.aA n_assets x.ac) := (cell_of_row _ _ 4 _ _ _ HA_3.out).trans J4.out.1
  have cb4 : w3.cell? ⟨w.heap.size + 1, 4, none⟩ = some (.slice y.aA m_assets y.ac) := (cell_of_row _ _ 4 _ _ _ HB_3.out).trans J4.out.2
  by_cases hq : x.assets = y.assets
  case neg =>
    have HF := Lib.hid (no_eq HV.out (fun e => hq (congrArg Bank.assets e)))
    have K := Lib.hid (K4.out false (fa hq))
    clear hq
    go_wp2_with fail
    with_reducible refine (K.out _ X_3.out).mono ?_
    rintro e w9 ⟨rfl, hb⟩
    go_wp2
    go_ret
    exact ⟨ret_bool HF.out.symm, X_3.out.trans hb⟩
  have Q4 := Lib.hid hq
  have K := Lib.hid (K4.out true (tr hq))
  clear hq
  go_wp2_with fail
  with_reducible refine (K.out _ X_3.out).mono ?_
  rintro e w4 ⟨rfl, hb⟩
  have X_4 := Lib.hid (X_3.out.trans hb)
  have HA_4 := Lib.hid (hb.blockAt HA_3.out)
  have HB_4 := Lib.hid (hb.blockAt HB_3.out)
  clear hb K X_3 HA_3 HB_3 ca4 cb4 
  have ca5 : w4.cell? ⟨w.heap.size, 5, none⟩ = some (.slice x.eA n_ents x.ec) := (cell_of_row _ _ 5 _ _ _ HA_4.out).trans J5.out.1
  have cb5 : w4.cell? ⟨w.heap.size + 1, 5, none⟩ = some (.slice y.eA m_ents y.ec) := (cell_of_row _ _ 5 _ _ _ HB_4.out).trans J5.out.2
  by_cases hq : x.ents.map EntL.ent = y.ents.map EntL.ent
  case neg =>
    have HF := Lib.hid (no_eq HV.out (fun e => hq (congrArg Bank.ents e)))
    have K := Lib.hid (K5.out false (fa hq))
    clear hq
    go_wp2_with fail
    with_reducible refine (K.out _ X_4.out).mono ?_
    rintro e w9 ⟨rfl, hb⟩
    go_wp2
    go_ret
    exact ⟨ret_bool HF.out.symm, X_4.out.trans hb⟩
  have Q5 := Lib.hid hq
  have K := Lib.hid (K5.out true (tr hq))
  clear hq
  go_wp2_with fail
  with_reducible refine (K.out _ X_4.out).mono ?_
  rintro e w5 ⟨rfl, hb⟩
  have X_5 := Lib.hid (X_4.out.trans hb)
  have HA_5 := Lib.hid (hb.blockAt HA_4.out)
  have HB_5 := Lib.hid (hb.blockAt HB_4.out)
  clear hb K X_4 HA_4 HB_4 ca5 cb5 
  have ca6 : w5.cell? ⟨w.heap.size, 6, none⟩ = some (.slice x.nA n_enem x.nc) := (cell_of_row _ _ 6 _ _ _ HA_5.out).trans J6.out.1
  have cb6 : w5.cell? ⟨w.heap.size + 1, 6, none⟩ = some (.slice y.nA m_enem y.nc) := (cell_of_row _ _ 6 _ _ _ HB_5.out).trans J6.out.2
  by_cases hq : x.enem = y.enem
  case neg =>
    have HF := Lib.hid (no_eq HV.out (fun e => hq (congrArg Bank.enem e)))
    have K := Lib.hid (K6.out false (fa hq))
    clear hq
    go_wp2_with fail
    with_reducible refine (K.out _ X_5.out).mono ?_
    rintro e w9 ⟨rfl, hb⟩
    go_wp2
    go_ret
    exact ⟨ret_bool HF.out.symm, X_5.out.trans hb⟩
  have Q6 := Lib.hid hq
  have K := Lib.hid (K6.out true (tr hq))
  clear hq
  go_wp2_with fail
  with_reducible refine (K.out _ X_5.out).mono ?_
  rintro e w6 ⟨rfl, hb⟩
  have X_6 := Lib.hid (X_5.out.trans hb)
  have HA_6 := Lib.hid (hb.blockAt HA_5.out)
  have HB_6 := Lib.hid (hb.blockAt HB_5.out)
  clear hb K X_5 HA_5 HB_5 ca6 cb6 
  have HF := Lib.hid (yes_eq HV.out (by
    show (⟨x.now, x.gp.xs, x.gq.xs, x.outl, x.assets, x.ents.map EntL.ent, x.enem⟩ : Bank) = ⟨y.now, y.gp.xs, y.gq.xs, y.outl, y.assets, y.ents.map EntL.ent, y.enem⟩
    rw [Q0.out, Q1.out, Q2.out, Q3.out, Q4.out, Q5.out, Q6.out]))
  go_wp2
  go_ret
  exact ⟨ret_bool HF.out.symm, X_6.out⟩
end Bk
end Go.Proofs.YtfnmgcblhebdbaaGreatDoor
