/- The law's first example: a contract. Conditions: those of each theorem. -/
import Derived.Test.YtfnmgcblhebdbaaGreatDoorBkV
namespace Go.Proofs.YtfnmgcblhebdbaaGreatDoor
open Go.RowKit
namespace Bk
theorem pts_in (a b : Int) (ha : In64 a) (hb : In64 b) {w : World} {g : Nat} (h : Sl w 1 (some ⟨g, 0, none⟩) ([.int .i64 a, .int .i64 b].map fun v => [v])) : IL.In w ⟨some ⟨g, 0, none⟩, 2, [a, b]⟩ :=
  ⟨h, Nat.le_refl _, (by show 2 ≤ maxLen; unfold maxLen; decide), fun x hx => by
    rcases List.mem_cons.1 hx with rfl | hx
    · exact ha
    · rw [List.mem_singleton] at hx; rw [hx]; exact hb⟩
set_option maxRecDepth 100000 in
set_option maxHeartbeats 12800000 in
theorem awake_any (w : World) (hG : Gm w) : Calls Tryz.prog 9 #[] w fun e w' => e = .returned (.bool true) ∧ Ext w w' := by
  have HGM := Lib.hid hG
  have X1 : Hid (Ext (w.alloc (.cells #[.int .i64 (-100), .int .i64 100] 3)) (((w.alloc (.cells #[.int .i64 (-100), .int .i64 100] 3)).alloc (.cells #[.int .i64 1, .int .i64 1] 3)).alloc (.cells #[.slice (some ⟨w.heap.size, 0, none⟩) 2 2, .slice (some ⟨w.heap.size + 1, 0, none⟩) 2 2] 24))) := Lib.hid (((Ext.refl _).alloc _).alloc _)
  have X3 : Hid (Ext w (((w.alloc (.cells #[.int .i64 (-100), .int .i64 100] 3)).alloc (.cells #[.int .i64 1, .int .i64 1] 3)).alloc (.cells #[.slice (some ⟨w.heap.size, 0, none⟩) 2 2, .slice (some ⟨w.heap.size + 1, 0, none⟩) 2 2] 24))) := Lib.hid ((((Ext.refl _).alloc _).alloc _).alloc _)
  have HP : Hid (IL.In (((w.alloc (.cells #[.int .i64 (-100), .int .i64 100] 3)).alloc (.cells #[.int .i64 1, .int .i64 1] 3)).alloc (.cells #[.slice (some ⟨w.heap.size, 0, none⟩) 2 2, .slice (some ⟨w.heap.size + 1, 0, none⟩) 2 2] 24)) ⟨some ⟨w.heap.size, 0, none⟩, 2, [-100, 100]⟩) := Lib.hid (pts_in _ _ (by unfold In64; decide) (by unfold In64; decide) (Sl.ext (Sl.new_at w _ 3 _ rfl) X1.out))
  have HQ : Hid (IL.In (((w.alloc (.cells #[.int .i64 (-100), .int .i64 100] 3)).alloc (.cells #[.int .i64 1, .int .i64 1] 3)).alloc (.cells #[.slice (some ⟨w.heap.size, 0, none⟩) 2 2, .slice (some ⟨w.heap.size + 1, 0, none⟩) 2 2] 24)) ⟨some ⟨w.heap.size + 1, 0, none⟩, 2, [1, 1]⟩) := Lib.hid (pts_in _ _ (by unfold In64; decide) (by unfold In64; decide) (Sl.ext (Sl.new_at (w.alloc (.cells #[.int .i64 (-100), .int .i64 100] 3)) _ 3 _ (by simp)) ((Ext.refl _).alloc _)))
  have hgv : Gv.gridE [-100, 100] [1, 1] = 0 := by decide
  have K := Lib.hid (bNew_any _ _ (n := 2) (m := 2) rfl rfl hgv _ HP.out HQ.out (by omega) (by omega))
  have HNB : Hid (BankSz (nBank [-100, 100] [1, 1])) := Lib.hid ⟨by decide, by decide, by decide, by decide, by decide, fun e he => (by cases he), by decide⟩
  clear hG hgv
  go_enter Tryz.func9, Tryz.ntmps9
  go_wp2_with fail
  refine K.out.mono ?_
  rintro r w1 ⟨⟨b', rfl, hbb, hin, hoo⟩, hb1⟩
  simp only [if_true] at hbb hoo
  have HX1 := Lib.hid (X3.out.trans hb1)
  have HXA : Hid (Ext w1 (w1.alloc (.cells b'.cells.toArray 31))) := Lib.hid ((Ext.refl _).alloc _)
  have hpts : b'.gp.xs.length = 2 := by
    have h := congrArg (fun b : Bank => b.pts.length) hbb
    exact h
  have K2 := Lib.hid (fun (CC : Array Value) (W : World) (hx : Ext w1 W) => applyE_any b' CC W (hin.ext hx) (by rw [hbb]; exact HNB.out) (congrArg Bank.now hbb) (congrArg Bank.outl hbb) (hoo rfl).1)
  obtain ⟨gA, hgA⟩ : ∃ A, b'.gp.A = A := ⟨_, rfl⟩
  obtain ⟨gc, hgc⟩ : ∃ A, b'.gp.c = A := ⟨_, rfl⟩
  obtain ⟨CN, hcn, hnn, h1n, hkn⟩ := b'.packed
  rw [hcn] at K2
  rw [hkn] at HXA
  rw [hcn]
  have HN7 := Lib.hid hnn
  have INN : Hid ((Tryz.prog.info? 31).map (·.size) = some CN.size) := Lib.hid (infoBk hnn)
  have ON := Lib.hid h1n
  have HG2 : Hid ((w1.alloc (.cells CN 31)).heap[w1.heap.size]? = some (.cells CN 31 (0, 0))) := Lib.hid (heap_alloc_new w1 _)
  have c1 : (w1.alloc (.cells CN 31)).cell? ⟨w1.heap.size, 1, none⟩ = some (.slice gA 2 gc) := (cell_of_row _ _ 1 _ _ _ HG2.out).trans (by rw [← hkn, ← hpts, ← hgA, ← hgc]; rfl)
  clear hbb hin hoo hb1 hcn hnn h1n hkn hpts hgA hgc
  go_wp2_with (first | (with_reducible refine wpList_store_newN rfl 31 (.tmp 2) (.tmp 10) rfl (w1.heap.size) (by simp) _ CN 31 (by with_unfolding_all rfl) (by with_unfolding_all rfl) INN.out (by with_unfolding_all exact HN7.out.symm) ON.out ?_) | (with_reducible refine wpList_load_row rfl 31 (.tmp 2) rfl (w1.heap.size) (by with_unfolding_all rfl) _ CN _ _ HG2.out Tryz.underlying31 rfl INN.out ?_))
  refine (K2.out _ _ HXA.out ?i ?a0 ?a1 ?a2 ?a3 ?a4 ?a5 ((HGM.out.ext HX1.out).ext HXA.out)).mono ?_
  case i => kernel_rfl
  case a0 => rfl
  case a1 => rfl
  case a2 => rfl
  case a3 => rfl
  case a4 => rfl
  case a5 => rfl
  rintro r w3 ⟨⟨CF, A, c, rfl, hsz, hall, hf0, hf3⟩, hb3⟩
  have HG3 := Lib.hid (hb3.blockAt HG2.out)
  have HX3 := Lib.hid ((HX1.out.trans HXA.out).trans hb3)
  have IF_ : Hid ((Tryz.prog.info? 31).map (·.size) = some CF.size) := Lib.hid (infoBk hsz)
  have HZF : Hid (CN.size = CF.size) := Lib.hid (by rw [HN7.out, hsz])
  have OF := Lib.hid hall
  have HG4 : Hid ((w3.setRow w1.heap.size CF).heap[w1.heap.size]? = some (.cells CF 31 (0, 0))) := Lib.hid (setRow_heap _ _ _ _ _ _ HG3.out)
  have d0 : (w3.setRow w1.heap.size CF).cell? ⟨w1.heap.size, 0, none⟩ = some (.int .i64 5) := (cell_of_row _ _ 0 _ _ _ HG4.out).trans hf0
  have d3 : (w3.setRow w1.heap.size CF).cell? ⟨w1.heap.size, 3, none⟩ = some (.slice A 1 c) := (cell_of_row _ _ 3 _ _ _ HG4.out).trans hf3
  have HLE := Lib.hid HX1.out.size
  clear hb3 hsz hall hf0 hf3 c1
  go_wp2_with (with_reducible refine wpList_store_row rfl 31 (.tmp 2) (.tmp 26) rfl (w1.heap.size) CF (by with_unfolding_all rfl) (by with_unfolding_all rfl) _ _ HG3.out IF_.out HZF.out OF.out ?_)
  go_ret
  exact ⟨rfl, HX3.out.rowSet HLE.out _⟩
end Bk
end Go.Proofs.YtfnmgcblhebdbaaGreatDoor
