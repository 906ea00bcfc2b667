/- bank.Apply of the first topic, the law's first example: contracts. Conditions: those of each theorem. -/
import Derived.Test.YtfnmgcblhebdbaaGreatDoorBkU
import Derived.Test.YtfnmgcblhebdbaaGreatDoorBkN
namespace Go.Proofs.YtfnmgcblhebdbaaGreatDoor
open Go.RowKit
namespace Bk
theorem all_set {CS : Array Value} {i : Nat} {v : Value} (h : CS.all (·.oneCell') = true) (hv : v.oneCell' = true) : (CS.setIfInBounds i v).all (·.oneCell') = true := by
  rw [Array.all_eq_true] at h ⊢
  intro j hj
  have hj2 : j < CS.size := by rw [Array.size_setIfInBounds] at hj; exact hj
  rw [Array.getElem_setIfInBounds hj2]
  split
  · exact hv
  · exact h j hj2
set_option maxRecDepth 100000 in
set_option maxHeartbeats 12800000 in
theorem applyE_any (b : BankL) (CC : Array Value) (w : World) (h : b.In w) (hz : BankSz b.bank) (hnow : b.now = 0) (hou : b.outl = []) (hoA : b.oA = none) (hnc : (Tryz.prog.info? 48).map (·.size) = some CC.size)
    (h0 : CC[0]? = some (.int .i64 1)) (h1 : CC[1]? = some (.int .i64 1)) (h2 : CC[2]? = some (.int .i64 16)) (h3 : CC[3]? = some (.int .i64 5)) (hA : CC[24]? = some (.string cA)) (hT : CC[25]? = some (.string cT)) (hG : Gm w) :
    Calls Tryz.prog 11 #[b.agg, .agg CC] w fun e w' => (∃ (CF : Array Value) (A : Option Addr) (c : Nat), e = .returned (.tuple #[.agg CF, .int .i64 0]) ∧ CF.size = 7 ∧ CF.all (·.oneCell') = true ∧ CF[0]? = some (.int .i64 5) ∧ CF[3]? = some (.slice A 1 c)) ∧ Ext w w' := by
  obtain ⟨CBK, hcb, hnb, h1b, hkb⟩ := b.packed
  have HCP := Lib.hid (fun (W : World) (hx : Ext w W) => bcopyBank_any b W (h.ext hx) hz)
  rw [hcb] at HCP ⊢
  obtain ⟨W0, hW0⟩ : ∃ W, ((w.alloc (.cells CBK 31)).alloc (.cells CC 48)).alloc (.cells #[.int .i64 0, .slice none 0 0, .slice none 0 0, .slice none 0 0, .slice none 0 0, .slice none 0 0, .slice none 0 0] 31) = W := ⟨_, rfl⟩
  have HX0 : Hid (Ext w (((w.alloc (.cells CBK 31)).alloc (.cells CC 48)).alloc (.cells #[.int .i64 0, .slice none 0 0, .slice none 0 0, .slice none 0 0, .slice none 0 0, .slice none 0 0, .slice none 0 0] 31))) := Lib.hid ((((Ext.refl _).alloc _).alloc _).alloc _)
  have HB0 : Hid ((((w.alloc (.cells CBK 31)).alloc (.cells CC 48)).alloc (.cells #[.int .i64 0, .slice none 0 0, .slice none 0 0, .slice none 0 0, .slice none 0 0, .slice none 0 0, .slice none 0 0] 31)).heap[w.heap.size]? = some (.cells CBK 31 (0, 0))) := Lib.hid ((((Ext.refl _).alloc _).alloc _).blockAt (heap_alloc_new w _))
  have HC0 : Hid ((((w.alloc (.cells CBK 31)).alloc (.cells CC 48)).alloc (.cells #[.int .i64 0, .slice none 0 0, .slice none 0 0, .slice none 0 0, .slice none 0 0, .slice none 0 0, .slice none 0 0] 31)).heap[w.heap.size + 1]? = some (.cells CC 48 (0, 0))) := Lib.hid (((Ext.refl _).alloc _).blockAt (heap_new_at _ _ _ (by simp)))
  have HZ0 : Hid ((((w.alloc (.cells CBK 31)).alloc (.cells CC 48)).alloc (.cells #[.int .i64 0, .slice none 0 0, .slice none 0 0, .slice none 0 0, .slice none 0 0, .slice none 0 0, .slice none 0 0] 31)).heap[w.heap.size + 1 + 1]? = some (.cells #[.int .i64 0, .slice none 0 0, .slice none 0 0, .slice none 0 0, .slice none 0 0, .slice none 0 0, .slice none 0 0] 31 (0, 0))) := Lib.hid (heap_new_at _ _ _ (by simp))
  have cb0 : (((w.alloc (.cells CBK 31)).alloc (.cells CC 48)).alloc (.cells #[.int .i64 0, .slice none 0 0, .slice none 0 0, .slice none 0 0, .slice none 0 0, .slice none 0 0, .slice none 0 0] 31)).cell? ⟨w.heap.size, 0, none⟩ = some (.int .i64 0) := (cell_of_row _ _ 0 _ _ _ HB0.out).trans (by rw [← hkb, ← hnow]; rfl)
  have cc0 : (((w.alloc (.cells CBK 31)).alloc (.cells CC 48)).alloc (.cells #[.int .i64 0, .slice none 0 0, .slice none 0 0, .slice none 0 0, .slice none 0 0, .slice none 0 0, .slice none 0 0] 31)).cell? ⟨w.heap.size + 1, 0, none⟩ = some (.int .i64 1) := (cell_of_row _ _ 0 _ _ _ HC0.out).trans h0
  have cc1 : (((w.alloc (.cells CBK 31)).alloc (.cells CC 48)).alloc (.cells #[.int .i64 0, .slice none 0 0, .slice none 0 0, .slice none 0 0, .slice none 0 0, .slice none 0 0, .slice none 0 0] 31)).cell? ⟨w.heap.size + 1, 1, none⟩ = some (.int .i64 1) := (cell_of_row _ _ 1 _ _ _ HC0.out).trans h1
  have cc3 : (((w.alloc (.cells CBK 31)).alloc (.cells CC 48)).alloc (.cells #[.int .i64 0, .slice none 0 0, .slice none 0 0, .slice none 0 0, .slice none 0 0, .slice none 0 0, .slice none 0 0] 31)).cell? ⟨w.heap.size + 1, 3, none⟩ = some (.int .i64 5) := (cell_of_row _ _ 3 _ _ _ HC0.out).trans h3
  have IB : Hid ((Tryz.prog.info? 31).map (·.size) = some CBK.size) := Lib.hid (infoBk hnb)
  have IC := Lib.hid hnc
  have H0 := Lib.hid h0
  have H2 := Lib.hid h2
  have H3 := Lib.hid h3
  have HA := Lib.hid hA
  have HT := Lib.hid hT
  have HGM := Lib.hid hG
  have HOU := Lib.hid hou
  have HOA := Lib.hid hoA
  clear h hz hnow hou hoA hnc h0 h1 h2 h3 hA hT hG hcb hnb h1b hkb hW0 W0
  go_enter Tryz.func11, Tryz.ntmps11
  go_wp2_with (with_reducible refine wpList_load_row rfl 31 (.tmp 2) rfl (w.heap.size) (by with_unfolding_all rfl) _ CBK _ _ HB0.out Tryz.underlying31 rfl IB.out ?_)
  with_reducible refine (HCP.out _ HX0.out).mono ?_
  rintro r w1 ⟨⟨b', rfl, hbb, hin, hoo⟩, hb1⟩
  obtain ⟨CN, hcn, hnn, h1n, hkn⟩ := b'.packed
  rw [hcn]
  have HNN : Hid ((#[.int .i64 0, .slice none 0 0, .slice none 0 0, .slice none 0 0, .slice none 0 0, .slice none 0 0, .slice none 0 0] : Array Value).size = CN.size) := Lib.hid hnn.symm
  have HN7 := Lib.hid hnn
  have IN_ : Hid ((Tryz.prog.info? 31).map (·.size) = some CN.size) := Lib.hid (infoBk hnn)
  have ON := Lib.hid h1n
  have HX1 := Lib.hid (HX0.out.trans hb1)
  have HX1b := Lib.hid hb1
  have HN3 : Hid (CN[3]? = some (.slice none 0 0)) := Lib.hid (by
    have e1 : b'.outl = [] := by
      have := congrArg Bank.outl hbb
      unfold BankL.bank at this
      rw [← HOU.out]
      exact this
    obtain ⟨e2, e3⟩ := hoo HOA.out
    rw [← hkn]
    unfold BankL.cells
    rw [e1, e2, e3]
    rfl)
  have HC1 := Lib.hid (hb1.blockAt HC0.out)
  have HZ1 := Lib.hid (hb1.blockAt HZ0.out)
  have XA : Hid (Ext w1 (w1.alloc (.cells CN 31))) := Lib.hid ((Ext.refl _).alloc _)
  have HC2 := Lib.hid (XA.out.blockAt HC1.out)
  have c1 : (w1.alloc (.cells CN 31)).cell? ⟨w.heap.size + 1, 0, none⟩ = some (.int .i64 1) := (cell_of_row _ _ 0 _ _ _ HC2.out).trans H0.out
  have HG2 : Hid ((w1.alloc (.cells CN 31)).heap[w1.heap.size]? = some (.cells CN 31 (0, 0))) := Lib.hid (heap_alloc_new w1 _)
  clear hbb hin hoo hb1 hcn hnn h1n hkn cb0 cc0 cc1 cc3
  go_wp2_with (first | (with_reducible refine wpList_store_newN rfl 31 (.tmp 6) (.tmp 43) rfl (w1.heap.size) (by simp) _ CN 31 (by with_unfolding_all rfl) (by with_unfolding_all rfl) IN_.out (by with_unfolding_all exact HN7.out.symm) ON.out ?_) | (with_reducible refine wpList_load_row rfl 48 (.tmp 3) rfl (w.heap.size + 1) (by with_unfolding_all rfl) _ CC _ _ HC2.out Tryz.underlying48 rfl IC.out ?_))
  with_reducible refine (addE_any w1 w1.heap.size CN CC _ XA.out (Nat.le_refl _) HG2.out HN3.out HN7.out IC.out H2.out HA.out HT.out (HGM.out.ext HX1.out)).mono ?_
  rintro r w2 ⟨⟨rfl, A, c, hrw, hbk⟩, hb2⟩
  have HX2 := Lib.hid hb2
  have HC3 := Lib.hid (hb2.blockAt HC1.out)
  have HZ3 := Lib.hid (hb2.blockAt HZ1.out)
  have ct : w2.cell? ⟨w.heap.size + 1, 3, none⟩ = some (.int .i64 5) := (cell_of_row _ _ 3 _ _ _ HC3.out).trans H3.out
  obtain ⟨v0, hv0⟩ : ∃ v, CN[0]? = some v := ⟨_, Array.getElem?_eq_getElem (by rw [HN7.out]; decide)⟩
  have cg : w2.cell? ⟨w1.heap.size, 0, none⟩ = some v0 := (cell_of_row _ _ 0 _ _ _ hbk).trans (by rw [Array.getElem?_setIfInBounds, if_neg (by decide)]; exact hv0)
  have fz := frozen_of_row _ _ 0 _ _ hbk
  obtain ⟨CF, hCF⟩ : ∃ C, (CN.setIfInBounds 3 (.slice A 1 c)).setIfInBounds 0 (.int .i64 5) = C := ⟨_, rfl⟩
  have HF : Hid ((w2.setCell ⟨w1.heap.size, 0, none⟩ (.int .i64 5)).heap[w1.heap.size]? = some (.cells CF 31 (0, 0))) := Lib.hid (by rw [← hCF]; exact heap_setCell_same _ _ _ _ _ _ hbk)
  have HSZ : Hid (CF.size = 7) := Lib.hid (by rw [← hCF]; simp [HN7.out])
  have IF_ : Hid ((Tryz.prog.info? 31).map (·.size) = some CF.size) := Lib.hid (infoBk HSZ.out)
  have HZF : Hid ((#[.int .i64 0, .slice none 0 0, .slice none 0 0, .slice none 0 0, .slice none 0 0, .slice none 0 0, .slice none 0 0] : Array Value).size = CF.size) := Lib.hid HSZ.out.symm
  have OF : Hid (CF.all (·.oneCell') = true) := Lib.hid (by rw [← hCF]; exact all_set (all_set ON.out rfl) rfl)
  have HF0 : Hid (CF[0]? = some (.int .i64 5)) := Lib.hid (by rw [← hCF, Array.getElem?_setIfInBounds, if_pos rfl, if_pos (by simp [HN7.out])])
  have HF3 : Hid (CF[3]? = some (.slice A 1 c)) := Lib.hid (by rw [← hCF, Array.getElem?_setIfInBounds, if_neg (by decide), Array.getElem?_setIfInBounds, if_pos rfl, if_pos (by rw [HN7.out]; decide)])
  have HZ4 : Hid ((w2.setCell ⟨w1.heap.size, 0, none⟩ (.int .i64 5)).heap[w.heap.size + 1 + 1]? = some (.cells #[.int .i64 0, .slice none 0 0, .slice none 0 0, .slice none 0 0, .slice none 0 0, .slice none 0 0, .slice none 0 0] 31 (0, 0))) := Lib.hid (by
    have h1 := blk_lt HZ1.out
    rw [(But.setCell w2 ⟨w1.heap.size, 0, none⟩ (.int .i64 5)).2 _ (blk_lt HZ3.out) (by show _ ≠ w1.heap.size; omega)]
    exact HZ3.out)
  have HX4 : Hid (Ext w1 (w2.setCell ⟨w1.heap.size, 0, none⟩ (.int .i64 5))) := Lib.hid (HX2.out.setCell (Nat.le_refl _) _)
  clear hb2 hrw hbk hv0 hCF c1
  go_wp2_with (first | (with_reducible refine wpList_load_row rfl 31 (.tmp 6) rfl (w1.heap.size) (by with_unfolding_all rfl) _ CF _ _ HF.out Tryz.underlying31 rfl IF_.out ?_) | (with_reducible refine wpList_store_row rfl 31 (.tmp 4) (.tmp 82) rfl (w.heap.size + 1 + 1) CF (by with_unfolding_all rfl) (by with_unfolding_all rfl) _ _ HZ4.out IF_.out HZF.out OF.out ?_))
  refine bodyPost_ret (v := .tuple #[.agg CF, .int .i64 0]) (results_ct Tryz.results11 _ _ (w.heap.size + 1 + 1) _ _ _ _ rfl (setRow_heap _ _ _ _ _ _ HZ4.out) Tryz.underlying31 rfl IF_.out rfl) rfl ?_
  exact ⟨⟨CF, A, c, rfl, HSZ.out, OF.out, HF0.out, HF3.out⟩, (HX1.out.trans HX4.out).rowSet (by omega) _⟩
end Bk
end Go.Proofs.YtfnmgcblhebdbaaGreatDoor
