/- Version, in the package and in the reference: contracts. Conditions: those of each theorem. -/
import Derived.Test.YtfnmgcblhebdbaaGreatDoorBkI
namespace Go.Proofs.YtfnmgcblhebdbaaGreatDoor
open Go.RowKit
namespace Bk
theorem vno_step {l : List ItL} {v : Int} {k : Nat} {x : ItL} (hx : l[k]? = some x) (hn : x.1.ver ≠ v) (h : ∀ (j : Nat) (y : ItL), j < k → l[j]? = some y → y.1.ver ≠ v) : ∀ (j : Nat) (y : ItL), j < k + 1 → l[j]? = some y → y.1.ver ≠ v := fun j y hj hy => by
  rcases Nat.lt_or_ge j k with g | g
  · exact h j y g hy
  · obtain rfl : j = k := by omega
    rw [hx] at hy
    injection hy with hy
    subst hy
    exact hn
set_option maxRecDepth 100000 in
set_option maxHeartbeats 12800000 in
theorem bVersion_any (b : BankL) (id v : Int) (w : World) (h : b.In w) (hz : BankSz b.bank) :
    Calls Tryz.prog 21 #[b.agg, .int .i64 id, .int .i64 v] w fun r w' => RetFI (verF b.bank id v) r w' ∧ Ext w w' := by
  obtain ⟨CB, hcb, hnb, h1b, hkb⟩ := b.packed
  rw [hcb]
  have HFI := Lib.hid (fun v hv w h => bfind_any b id (v := v) hv w h)
  rw [hcb] at HFI
  obtain ⟨W0, hW0⟩ : ∃ W, (w.alloc (.cells CB 31)).alloc (.cells #[.int .i64 0, .int .i64 0, .int .i64 0, .string ⟨#[]⟩, .slice none 0 0, .slice none 0 0, .int .i64 0, .int .i64 0, .slice none 0 0, .int .i64 0, .string ⟨#[]⟩, .int .i64 0, .int .i64 0, .int .i64 0, .int .i64 0, .slice none 0 0, .int .i64 0] 39) = W := ⟨_, rfl⟩
  have HX0 : Hid (Ext w W0) := Lib.hid (by rw [← hW0]; exact ((Ext.refl _).alloc _).alloc _)
  have HB0 : Hid (W0.heap[w.heap.size]? = some (.cells CB 31 (0, 0))) := Lib.hid (by rw [← hW0]; exact two_fst' _ _ _)
  have HZ0 : Hid (W0.heap[w.heap.size + 1]? = some (.cells #[.int .i64 0, .int .i64 0, .int .i64 0, .string ⟨#[]⟩, .slice none 0 0, .slice none 0 0, .int .i64 0, .int .i64 0, .slice none 0 0, .int .i64 0, .string ⟨#[]⟩, .int .i64 0, .int .i64 0, .int .i64 0, .int .i64 0, .slice none 0 0, .int .i64 0] 39 (0, 0))) := Lib.hid (by rw [← hW0]; exact heap_new_at _ _ _ (by simp))
  have HWH := Lib.hid hW0
  have H := Lib.hid h
  have HSZ := Lib.hid hz
  have IB := Lib.hid (infoBk hnb)
  have j5 : CB[5]? = some (.slice b.eA b.ents.length b.ec) := by rw [← hkb]; rfl
  obtain ⟨n, hn⟩ : ∃ n, b.ents.length = n := ⟨_, rfl⟩
  rw [hn] at j5
  have h63 : n ≤ 9223372036854775807 := by have := h.ec; unfold maxLen at this; omega
  have J5 := Lib.hid j5
  have HN := Lib.hid hn
  obtain ⟨o, ho⟩ : ∃ o, fnd (b.ents.map (·.ent)) id = o := ⟨_, rfl⟩
  have HO := Lib.hid ho
  have HIX : Hid (ixV (fnd (b.ents.map (·.ent)) id) = ixV o) := Lib.hid (by rw [ho])
  clear hW0 h hz hnb h1b hkb hcb j5 hn ho
  cases o with
  | none =>
    obtain ⟨iv, hiv⟩ : ∃ v : Int, (-1 : Int) = v := ⟨_, rfl⟩
    have HF : Hid (ixV (fnd (b.ents.map (·.ent)) id) = -1) := HIX
    go_enter Tryz.func21, Tryz.ntmps21
    go_wp2_with (with_reducible refine wpList_load_row rfl 31 (.tmp 3) rfl (w.heap.size) (by with_unfolding_all rfl) _ CB _ _ (two_fst' w _ _) Tryz.underlying31 rfl IB.out ?_)
    rw [HWH.out]
    with_reducible refine (HFI.out (-1) HF.out W0 (H.out.ext HX0.out)).mono ?_
    rintro r w1 ⟨rfl, hb1⟩
    have HZ1 := Lib.hid (hb1.blockAt HZ0.out)
    have HX1 := Lib.hid (HX0.out.trans hb1)
    clear hb1
    have INZ : Hid ((Tryz.prog.info? 39).map (·.size) = some (#[.int .i64 0, .int .i64 0, .int .i64 0, .string ⟨#[]⟩, .slice none 0 0, .slice none 0 0, .int .i64 0, .int .i64 0, .slice none 0 0, .int .i64 0, .string ⟨#[]⟩, .int .i64 0, .int .i64 0, .int .i64 0, .int .i64 0, .slice none 0 0, .int .i64 0] : Array Value).size) := Lib.hid (infoItem rfl)
    go_wp2_with (with_reducible refine wpList_store_row rfl 39 (.tmp 6) (.tmp 16) rfl (w.heap.size + 1) #[.int .i64 0, .int .i64 0, .int .i64 0, .string ⟨#[]⟩, .slice none 0 0, .slice none 0 0, .int .i64 0, .int .i64 0, .slice none 0 0, .int .i64 0, .string ⟨#[]⟩, .int .i64 0, .int .i64 0, .int .i64 0, .int .i64 0, .slice none 0 0, .int .i64 0] (by with_unfolding_all rfl) (by with_unfolding_all rfl) _ _ HZ1.out INZ.out rfl (by simp [Value.oneCell']) ?_)
    refine bodyPost_ret (v := .tuple #[.agg #[.int .i64 0, .int .i64 0, .int .i64 0, .string ⟨#[]⟩, .slice none 0 0, .slice none 0 0, .int .i64 0, .int .i64 0, .slice none 0 0, .int .i64 0, .string ⟨#[]⟩, .int .i64 0, .int .i64 0, .int .i64 0, .int .i64 0, .slice none 0 0, .int .i64 0], .bool false]) (results_ct Tryz.results21 _ _ (w.heap.size + 1) _ _ _ _ rfl (setRow_heap _ _ _ _ _ _ HZ1.out) Tryz.underlying39 rfl INZ.out rfl) rfl ?_
    exact ⟨⟨(zItem, zLoc), by rw [verF_none (entF_none HO.out)]; rfl, by rw [verF_none (entF_none HO.out)]; rfl, zItem_in _⟩, HX1.out.rowSet (by omega) _⟩
  | some k =>
    have HF : Hid (ixV (fnd (b.ents.map (·.ent)) id) = (k : Int)) := HIX
    obtain ⟨e, hx, hp, -⟩ := fnd_lt HO.out
    have HEN := Lib.hid (entF_some HO.out hx)
    have hkn : k < n := by rw [← HN.out]; exact (List.getElem?_eq_some_iff.1 hx).1
    have ki0 : (0 : Int) ≤ (k : Int) := by omega
    have ki1 : (k : Int) < (n : Int) := by omega
    obtain ⟨EA, hEA⟩ : ∃ A, b.eA = A := ⟨_, rfl⟩
    obtain ⟨bb, off, hA, hbl, hc, hin⟩ := (H.out.ents.ext HX0.out).at_ hx
    have HSE : Hid (EntSz e.ent) := Lib.hid (HSZ.out.ent e.ent (List.mem_map.2 ⟨e, List.mem_of_getElem? hx, rfl⟩))
    rw [hEA] at J5 hA
    subst hA
    have HRG : Hid (W0.rangeAt bb (off + k * 7) e.cells) := Lib.hid hc
    have HIN := Lib.hid hin
    clear hEA hc hin hx hbl
    go_enter Tryz.func21, Tryz.ntmps21
    go_wp2_with (with_reducible refine wpList_load_row rfl 31 (.tmp 3) rfl (w.heap.size) (by with_unfolding_all rfl) _ CB _ _ (two_fst' w _ _) Tryz.underlying31 rfl IB.out ?_)
    rw [HWH.out]
    with_reducible refine (HFI.out (k : Int) HF.out W0 (H.out.ext HX0.out)).mono ?_
    rintro r w1 ⟨rfl, hb1⟩
    have HZ1 := Lib.hid (hb1.blockAt HZ0.out)
    have HX1 := Lib.hid (HX0.out.trans hb1)
    have c5 : w1.cell? ⟨w.heap.size, 5, none⟩ = some (.slice (some ⟨bb, off, none⟩) n b.ec) := (cell_of_row _ _ 5 _ _ _ (hb1.blockAt HB0.out)).trans J5.out
    have HR1 := Lib.hid (hb1.range HRG.out)
    have HI1 := Lib.hid (HIN.out.ext hb1)
    clear hb1
    obtain ⟨nv, hnv⟩ : ∃ n, e.vs.length = n := ⟨_, rfl⟩
    obtain ⟨VA, hVA⟩ : ∃ A, e.vA = A := ⟨_, rfl⟩
    have cv : w1.cell? ⟨bb, off + k * 7, none⟩ = some (.slice VA nv e.vc) := by rw [← hVA, ← hnv]; exact HR1.out 0 _ rfl
    have hv63 : nv ≤ 9223372036854775807 := by have := HI1.out.vc; unfold maxLen at this; omega
    have HVS : Hid (SlX eIt w1 VA e.vs) := Lib.hid (by rw [← hVA]; exact HI1.out.vs)
    have HNV := Lib.hid hnv
    clear hVA hnv hp
    go_wp2
    go_loopw [24] (fun i wr => ∃ m : Nat, m ≤ nv ∧ i = .int .i64 m ∧ Hid (∀ (j : Nat) (x : ItL), j < m → e.vs[j]? = some x → x.1.ver ≠ v) ∧ Hid (Ext w1 wr)) (fun i _ => nv - (intOf i).toNat)
    case atStart => exact ⟨0, by omega, rfl, Lib.hid (fun j x hj => absurd hj (by omega)), Lib.hid (Ext.refl _)⟩
    case round =>
    obtain ⟨m, hm, rfl, HA, HE⟩ := hrel
    clear c5 cv
    by_cases hlt : m < nv
    · obtain ⟨x, hx⟩ : ∃ x, e.vs[m]? = some x := ⟨e.vs[m]'(by rw [HNV.out]; exact hlt), List.getElem?_eq_getElem _⟩
      obtain ⟨bv, ov, rfl, hbl, hcv, hinv⟩ := (HVS.out.ext HE.out).at_ hx
      obtain ⟨CI, hci, hni, h1i, hki⟩ := itp x
      have HC : Hid (wr.rangeAt bv (ov + m * 17) CI.toList) := Lib.hid (by rw [← hki]; exact hcv)
      have II := Lib.hid (infoItem hni)
      have NI := Lib.hid hni
      have OI := Lib.hid h1i
      have HX := Lib.hid hx
      have HIV : Hid (It.In wr x.1 x.2) := Lib.hid hinv
      have K := Lib.hid (fun w h => bcopyItem_any x.1 x.2 w h (HSE.out.its x.1 (List.mem_map.2 ⟨x, List.mem_of_getElem? hx, rfl⟩)))
      rw [hci] at K
      have mi0 : (0 : Int) ≤ (m : Int) := by omega
      have mi1 : (m : Int) < (nv : Int) := by omega
      obtain ⟨q, hq⟩ : ∃ q, x.1.ver = q := ⟨_, rfl⟩
      have j1 : CI[1]? = some (.int .i64 q) := by rw [← hki, ← hq]; rfl
      have HQ := Lib.hid hq
      have XW : Hid (Ext wr (wr.alloc (.cells CI 39))) := Lib.hid ((Ext.refl _).alloc _)
      have c1 : (wr.alloc (.cells CI 39)).cell? ⟨wr.heap.size, 1, none⟩ = some (.int .i64 q) := (World.cell?_alloc_new _ _ _ _).trans j1
      clear hx hcv hinv hci hni h1i hki hq j1
      by_cases hqv : q = v
      · have t0 : (q == v) = true := by rw [beq_iff_eq]; exact hqv
        have HF2 := Lib.hid (verF_yes HEN.out HX.out (by rw [HQ.out]; exact hqv) HA.out)
        have HZR := Lib.hid ((HE.out.trans XW.out).blockAt HZ1.out)
        have HXR := Lib.hid (HX1.out.trans (HE.out.trans XW.out))
        clear hqv
        go_wp2_with (first
          | (with_reducible refine wpList_load_arr rfl 39 (.tmp 26) rfl bv (ov + m * 17) (by with_unfolding_all rfl) CI _ HC.out Tryz.underlying39 rfl II.out ?_)
          | (with_reducible refine wpList_store_new rfl 39 (.tmp 10) (.tmp 27) rfl _ CI 39 (by with_unfolding_all rfl) (by with_unfolding_all rfl) II.out (by with_unfolding_all exact NI.out.symm) OI.out ?_)
          | (with_reducible refine wpList_load_row rfl 39 (.tmp 10) rfl wr.heap.size (by with_unfolding_all rfl) _ CI _ _ (heap_alloc_last wr _) Tryz.underlying39 rfl II.out ?_))
        with_reducible refine (K.out _ (HIV.out.ext XW.out)).mono ?_
        rintro r w2 ⟨⟨L, rfl, he2, he3⟩, hb2⟩
        obtain ⟨CF, hcf, hnf, h1f, hkf⟩ := itp (x.1, L)
        dsimp only at hcf
        rw [hcf]
        have HZ2 := Lib.hid (hb2.blockAt HZR.out)
        have HX2 := Lib.hid (HXR.out.trans hb2)
        have IF := Lib.hid (infoItem hnf)
        have OF := Lib.hid h1f
        have HCF := Lib.hid hcf
        have HE2 := Lib.hid he2
        have HE3 := Lib.hid he3
        have IZ : Hid ((#[.int .i64 0, .int .i64 0, .int .i64 0, .string ⟨#[]⟩, .slice none 0 0, .slice none 0 0, .int .i64 0, .int .i64 0, .slice none 0 0, .int .i64 0, .string ⟨#[]⟩, .int .i64 0, .int .i64 0, .int .i64 0, .int .i64 0, .slice none 0 0, .int .i64 0] : Array Value).size = CF.size) := Lib.hid hnf.symm
        clear hb2 he2 he3 hcf hnf h1f hkf
        go_wp2_with (with_reducible refine wpList_store_row rfl 39 (.tmp 6) (.tmp 33) rfl (w.heap.size + 1) CF (by with_unfolding_all rfl) (by with_unfolding_all rfl) _ _ HZ2.out IF.out IZ.out OF.out ?_)
        refine bodyPost_ret (v := .tuple #[.agg CF, .bool true]) (results_ct Tryz.results21 _ _ (w.heap.size + 1) _ _ _ _ rfl (setRow_heap _ _ _ _ _ _ HZ2.out) Tryz.underlying39 rfl IF.out rfl) rfl ?_
        have hoff : ItOff (w.heap.size + 1) (x.1, L) := eIt.frm HE3.out (by have := blk_lt HZR.out; omega)
        exact ⟨⟨(x.1, L), by rw [HF2.out]; show _ = Ending.returned (.tuple #[It.agg x.1 L, _]); rw [HCF.out]; rfl, by rw [HF2.out]; rfl, eIt.but HE2.out hoff (But.setRow _ _ _)⟩, HX2.out.rowSet (by omega) _⟩
      · have t0 : (q == v) = false := by rw [beq_eq_false_iff_ne]; exact hqv
        have HF2 := Lib.hid (vno_step HX.out (by rw [HQ.out]; exact hqv) HA.out)
        clear hqv
        go_wp2_with (first
          | (with_reducible refine wpList_load_arr rfl 39 (.tmp 26) rfl bv (ov + m * 17) (by with_unfolding_all rfl) CI _ HC.out Tryz.underlying39 rfl II.out ?_)
          | (with_reducible refine wpList_store_new rfl 39 (.tmp 10) (.tmp 27) rfl _ CI 39 (by with_unfolding_all rfl) (by with_unfolding_all rfl) II.out (by with_unfolding_all exact NI.out.symm) OI.out ?_))
        go_roundw
        case rel => exact ⟨m + 1, by omega, by go_num, HF2, Lib.hid (HE.out.trans XW.out)⟩
        case measure => simp [intOf]; omega
    · obtain rfl : m = nv := by omega
      have HF2 := Lib.hid (verF_no HEN.out HNV.out HA.out)
      have INZ : Hid ((Tryz.prog.info? 39).map (·.size) = some (#[.int .i64 0, .int .i64 0, .int .i64 0, .string ⟨#[]⟩, .slice none 0 0, .slice none 0 0, .int .i64 0, .int .i64 0, .slice none 0 0, .int .i64 0, .string ⟨#[]⟩, .int .i64 0, .int .i64 0, .int .i64 0, .int .i64 0, .slice none 0 0, .int .i64 0] : Array Value).size) := Lib.hid (infoItem rfl)
      have HZR := Lib.hid (HE.out.blockAt HZ1.out)
      have HXR := Lib.hid (HX1.out.trans HE.out)
      go_wp2_with (with_reducible refine wpList_store_row rfl 39 (.tmp 6) (.tmp 35) rfl (w.heap.size + 1) #[.int .i64 0, .int .i64 0, .int .i64 0, .string ⟨#[]⟩, .slice none 0 0, .slice none 0 0, .int .i64 0, .int .i64 0, .slice none 0 0, .int .i64 0, .string ⟨#[]⟩, .int .i64 0, .int .i64 0, .int .i64 0, .int .i64 0, .slice none 0 0, .int .i64 0] (by with_unfolding_all rfl) (by with_unfolding_all rfl) _ _ HZR.out INZ.out rfl (by simp [Value.oneCell']) ?_)
      refine bodyPost_ret (v := .tuple #[.agg #[.int .i64 0, .int .i64 0, .int .i64 0, .string ⟨#[]⟩, .slice none 0 0, .slice none 0 0, .int .i64 0, .int .i64 0, .slice none 0 0, .int .i64 0, .string ⟨#[]⟩, .int .i64 0, .int .i64 0, .int .i64 0, .int .i64 0, .slice none 0 0, .int .i64 0], .bool false]) (results_ct Tryz.results21 _ _ (w.heap.size + 1) _ _ _ _ rfl (setRow_heap _ _ _ _ _ _ HZR.out) Tryz.underlying39 rfl INZ.out rfl) rfl ?_
      exact ⟨⟨(zItem, zLoc), by rw [HF2.out]; rfl, by rw [HF2.out]; rfl, zItem_in _⟩, HXR.out.rowSet (by omega) _⟩
set_option maxRecDepth 100000 in
set_option maxHeartbeats 12800000 in
theorem rVersion_any (b : BankL) (id v : Int) (w : World) (h : b.In w) (hz : BankSz b.bank) :
    Calls Tryz.prog 22 #[b.agg, .int .i64 id, .int .i64 v] w fun r w' => RetFI (verF b.bank id v) r w' ∧ Ext w w' := by
  obtain ⟨CB, hcb, hnb, h1b, hkb⟩ := b.packed
  rw [hcb]
  have HFI := Lib.hid (fun v hv w h => rat_any b id (v := v) hv w h)
  rw [hcb] at HFI
  obtain ⟨W0, hW0⟩ : ∃ W, (w.alloc (.cells CB 31)).alloc (.cells #[.int .i64 0, .int .i64 0, .int .i64 0, .string ⟨#[]⟩, .slice none 0 0, .slice none 0 0, .int .i64 0, .int .i64 0, .slice none 0 0, .int .i64 0, .string ⟨#[]⟩, .int .i64 0, .int .i64 0, .int .i64 0, .int .i64 0, .slice none 0 0, .int .i64 0] 39) = W := ⟨_, rfl⟩
  have HX0 : Hid (Ext w W0) := Lib.hid (by rw [← hW0]; exact ((Ext.refl _).alloc _).alloc _)
  have HB0 : Hid (W0.heap[w.heap.size]? = some (.cells CB 31 (0, 0))) := Lib.hid (by rw [← hW0]; exact two_fst' _ _ _)
  have HZ0 : Hid (W0.heap[w.heap.size + 1]? = some (.cells #[.int .i64 0, .int .i64 0, .int .i64 0, .string ⟨#[]⟩, .slice none 0 0, .slice none 0 0, .int .i64 0, .int .i64 0, .slice none 0 0, .int .i64 0, .string ⟨#[]⟩, .int .i64 0, .int .i64 0, .int .i64 0, .int .i64 0, .slice none 0 0, .int .i64 0] 39 (0, 0))) := Lib.hid (by rw [← hW0]; exact heap_new_at _ _ _ (by simp))
  have HWH := Lib.hid hW0
  have H := Lib.hid h
  have HSZ := Lib.hid hz
  have IB := Lib.hid (infoBk hnb)
  have j5 : CB[5]? = some (.slice b.eA b.ents.length b.ec) := by rw [← hkb]; rfl
  obtain ⟨n, hn⟩ : ∃ n, b.ents.length = n := ⟨_, rfl⟩
  rw [hn] at j5
  have h63 : n ≤ 9223372036854775807 := by have := h.ec; unfold maxLen at this; omega
  have J5 := Lib.hid j5
  have HN := Lib.hid hn
  obtain ⟨o, ho⟩ : ∃ o, fnd (b.ents.map (·.ent)) id = o := ⟨_, rfl⟩
  have HO := Lib.hid ho
  have HIX : Hid (ixV (fnd (b.ents.map (·.ent)) id) = ixV o) := Lib.hid (by rw [ho])
  clear hW0 h hz hnb h1b hkb hcb j5 hn ho
  cases o with
  | none =>
    obtain ⟨iv, hiv⟩ : ∃ v : Int, (-1 : Int) = v := ⟨_, rfl⟩
    have HF : Hid (ixV (fnd (b.ents.map (·.ent)) id) = -1) := HIX
    go_enter Tryz.func22, Tryz.ntmps22
    go_wp2_with (with_reducible refine wpList_load_row rfl 31 (.tmp 3) rfl (w.heap.size) (by with_unfolding_all rfl) _ CB _ _ (two_fst' w _ _) Tryz.underlying31 rfl IB.out ?_)
    rw [HWH.out]
    with_reducible refine (HFI.out (-1) HF.out W0 (H.out.ext HX0.out)).mono ?_
    rintro r w1 ⟨rfl, hb1⟩
    have HZ1 := Lib.hid (hb1.blockAt HZ0.out)
    have HX1 := Lib.hid (HX0.out.trans hb1)
    clear hb1
    have INZ : Hid ((Tryz.prog.info? 39).map (·.size) = some (#[.int .i64 0, .int .i64 0, .int .i64 0, .string ⟨#[]⟩, .slice none 0 0, .slice none 0 0, .int .i64 0, .int .i64 0, .slice none 0 0, .int .i64 0, .string ⟨#[]⟩, .int .i64 0, .int .i64 0, .int .i64 0, .int .i64 0, .slice none 0 0, .int .i64 0] : Array Value).size) := Lib.hid (infoItem rfl)
    go_wp2_with (with_reducible refine wpList_store_row rfl 39 (.tmp 6) (.tmp 16) rfl (w.heap.size + 1) #[.int .i64 0, .int .i64 0, .int .i64 0, .string ⟨#[]⟩, .slice none 0 0, .slice none 0 0, .int .i64 0, .int .i64 0, .slice none 0 0, .int .i64 0, .string ⟨#[]⟩, .int .i64 0, .int .i64 0, .int .i64 0, .int .i64 0, .slice none 0 0, .int .i64 0] (by with_unfolding_all rfl) (by with_unfolding_all rfl) _ _ HZ1.out INZ.out rfl (by simp [Value.oneCell']) ?_)
    refine bodyPost_ret (v := .tuple #[.agg #[.int .i64 0, .int .i64 0, .int .i64 0, .string ⟨#[]⟩, .slice none 0 0, .slice none 0 0, .int .i64 0, .int .i64 0, .slice none 0 0, .int .i64 0, .string ⟨#[]⟩, .int .i64 0, .int .i64 0, .int .i64 0, .int .i64 0, .slice none 0 0, .int .i64 0], .bool false]) (results_ct Tryz.results22 _ _ (w.heap.size + 1) _ _ _ _ rfl (setRow_heap _ _ _ _ _ _ HZ1.out) Tryz.underlying39 rfl INZ.out rfl) rfl ?_
    exact ⟨⟨(zItem, zLoc), by rw [verF_none (entF_none HO.out)]; rfl, by rw [verF_none (entF_none HO.out)]; rfl, zItem_in _⟩, HX1.out.rowSet (by omega) _⟩
  | some k =>
    have HF : Hid (ixV (fnd (b.ents.map (·.ent)) id) = (k : Int)) := HIX
    obtain ⟨e, hx, hp, -⟩ := fnd_lt HO.out
    have HEN := Lib.hid (entF_some HO.out hx)
    have hkn : k < n := by rw [← HN.out]; exact (List.getElem?_eq_some_iff.1 hx).1
    have ki0 : (0 : Int) ≤ (k : Int) := by omega
    have ki1 : (k : Int) < (n : Int) := by omega
    obtain ⟨EA, hEA⟩ : ∃ A, b.eA = A := ⟨_, rfl⟩
    obtain ⟨bb, off, hA, hbl, hc, hin⟩ := (H.out.ents.ext HX0.out).at_ hx
    have HSE : Hid (EntSz e.ent) := Lib.hid (HSZ.out.ent e.ent (List.mem_map.2 ⟨e, List.mem_of_getElem? hx, rfl⟩))
    rw [hEA] at J5 hA
    subst hA
    have HRG : Hid (W0.rangeAt bb (off + k * 7) e.cells) := Lib.hid hc
    have HIN := Lib.hid hin
    clear hEA hc hin hx hbl
    go_enter Tryz.func22, Tryz.ntmps22
    go_wp2_with (with_reducible refine wpList_load_row rfl 31 (.tmp 3) rfl (w.heap.size) (by with_unfolding_all rfl) _ CB _ _ (two_fst' w _ _) Tryz.underlying31 rfl IB.out ?_)
    rw [HWH.out]
    with_reducible refine (HFI.out (k : Int) HF.out W0 (H.out.ext HX0.out)).mono ?_
    rintro r w1 ⟨rfl, hb1⟩
    have HZ1 := Lib.hid (hb1.blockAt HZ0.out)
    have HX1 := Lib.hid (HX0.out.trans hb1)
    have c5 : w1.cell? ⟨w.heap.size, 5, none⟩ = some (.slice (some ⟨bb, off, none⟩) n b.ec) := (cell_of_row _ _ 5 _ _ _ (hb1.blockAt HB0.out)).trans J5.out
    have HR1 := Lib.hid (hb1.range HRG.out)
    have HI1 := Lib.hid (HIN.out.ext hb1)
    clear hb1
    obtain ⟨nv, hnv⟩ : ∃ n, e.vs.length = n := ⟨_, rfl⟩
    obtain ⟨VA, hVA⟩ : ∃ A, e.vA = A := ⟨_, rfl⟩
    have cv : w1.cell? ⟨bb, off + k * 7, none⟩ = some (.slice VA nv e.vc) := by rw [← hVA, ← hnv]; exact HR1.out 0 _ rfl
    have hv63 : nv ≤ 9223372036854775807 := by have := HI1.out.vc; unfold maxLen at this; omega
    have HVS : Hid (SlX eIt w1 VA e.vs) := Lib.hid (by rw [← hVA]; exact HI1.out.vs)
    have HNV := Lib.hid hnv
    clear hVA hnv hp
    obtain ⟨wr, hwr⟩ : ∃ W, w1 = W := ⟨_, rfl⟩
    have HE : Hid (Ext w1 wr) := Lib.hid (by rw [← hwr]; exact Ext.refl _)
    clear hwr
    have HZR := Lib.hid (HE.out.blockAt HZ1.out)
    have HXR := Lib.hid (HX1.out.trans HE.out)
    go_wp2
    go_loopw [10] (fun i wr => ∃ m : Nat, m ≤ nv ∧ i = .int .i64 m ∧ Hid (∀ (j : Nat) (x : ItL), j < m → e.vs[j]? = some x → x.1.ver ≠ v) ∧ Hid (Ext w1 wr)) (fun i _ => nv - (intOf i).toNat)
    case atStart => exact ⟨0, by omega, rfl, Lib.hid (fun j x hj => absurd hj (by omega)), Lib.hid (Ext.refl _)⟩
    case round =>
    clear HZR HXR HE
    obtain ⟨m, hm, rfl, HA, HE⟩ := hrel
    clear c5 cv
    have HZR := Lib.hid (HE.out.blockAt HZ1.out)
    have HXR := Lib.hid (HX1.out.trans HE.out)
    by_cases hlt : m < nv
    · obtain ⟨x, hx⟩ : ∃ x, e.vs[m]? = some x := ⟨e.vs[m]'(by rw [HNV.out]; exact hlt), List.getElem?_eq_getElem _⟩
      obtain ⟨bv, ov, rfl, hbl, hcv, hinv⟩ := (HVS.out.ext HE.out).at_ hx
      obtain ⟨CI, hci, hni, h1i, hki⟩ := itp x
      have HC : Hid (wr.rangeAt bv (ov + m * 17) CI.toList) := Lib.hid (by rw [← hki]; exact hcv)
      have II := Lib.hid (infoItem hni)
      have NI := Lib.hid hni
      have OI := Lib.hid h1i
      have HX := Lib.hid hx
      have HIV : Hid (It.In wr x.1 x.2) := Lib.hid hinv
      have K := Lib.hid (fun w h => ritem_any x.1 x.2 w h (HSE.out.its x.1 (List.mem_map.2 ⟨x, List.mem_of_getElem? hx, rfl⟩)))
      rw [hci] at K
      have mi0 : (0 : Int) ≤ (m : Int) := by omega
      have mi1 : (m : Int) < (nv : Int) := by omega
      obtain ⟨q, hq⟩ : ∃ q, x.1.ver = q := ⟨_, rfl⟩
      have j1 : CI[1]? = some (.int .i64 q) := by rw [← hki, ← hq]; rfl
      have HQ := Lib.hid hq
      have c1 : wr.cell? ⟨bv, ov + m * 17 + 1, none⟩ = some (.int .i64 q) := by
        have := HC.out 1 (.int .i64 q) (by simpa using j1)
        exact this
      clear hx hcv hinv hci hni h1i hki hq j1
      by_cases hqv : q = v
      · have t0 : (q == v) = true := by rw [beq_iff_eq]; exact hqv
        have HF2 := Lib.hid (verF_yes HEN.out HX.out (by rw [HQ.out]; exact hqv) HA.out)
        clear hqv
        go_wp2_with (with_reducible refine wpList_load_arr rfl 39 (.tmp 38) rfl bv (ov + m * 17) (by with_unfolding_all rfl) CI _ HC.out Tryz.underlying39 rfl II.out ?_)
        with_reducible refine (K.out _ HIV.out).mono ?_
        rintro r w2 ⟨⟨L, rfl, he2, he3⟩, hb2⟩
        obtain ⟨CF, hcf, hnf, h1f, hkf⟩ := itp (x.1, L)
        dsimp only at hcf
        rw [hcf]
        have HZ2 := Lib.hid (hb2.blockAt HZR.out)
        have HX2 := Lib.hid (HXR.out.trans hb2)
        have IF := Lib.hid (infoItem hnf)
        have OF := Lib.hid h1f
        have HCF := Lib.hid hcf
        have HE2 := Lib.hid he2
        have HE3 := Lib.hid he3
        have IZ : Hid ((#[.int .i64 0, .int .i64 0, .int .i64 0, .string ⟨#[]⟩, .slice none 0 0, .slice none 0 0, .int .i64 0, .int .i64 0, .slice none 0 0, .int .i64 0, .string ⟨#[]⟩, .int .i64 0, .int .i64 0, .int .i64 0, .int .i64 0, .slice none 0 0, .int .i64 0] : Array Value).size = CF.size) := Lib.hid hnf.symm
        clear hb2 he2 he3 hcf hnf h1f hkf
        go_wp2_with (with_reducible refine wpList_store_row rfl 39 (.tmp 6) (.tmp 40) rfl (w.heap.size + 1) CF (by with_unfolding_all rfl) (by with_unfolding_all rfl) _ _ HZ2.out IF.out IZ.out OF.out ?_)
        refine bodyPost_ret (v := .tuple #[.agg CF, .bool true]) (results_ct Tryz.results22 _ _ (w.heap.size + 1) _ _ _ _ rfl (setRow_heap _ _ _ _ _ _ HZ2.out) Tryz.underlying39 rfl IF.out rfl) rfl ?_
        have hoff : ItOff (w.heap.size + 1) (x.1, L) := eIt.frm HE3.out (by have := blk_lt HZR.out; omega)
        exact ⟨⟨(x.1, L), by rw [HF2.out]; show _ = Ending.returned (.tuple #[It.agg x.1 L, _]); rw [HCF.out]; rfl, by rw [HF2.out]; rfl, eIt.but HE2.out hoff (But.setRow _ _ _)⟩, HX2.out.rowSet (by omega) _⟩
      · have t0 : (q == v) = false := by rw [beq_eq_false_iff_ne]; exact hqv
        have HF2 := Lib.hid (vno_step HX.out (by rw [HQ.out]; exact hqv) HA.out)
        clear hqv
        go_wp2_with (with_reducible refine wpList_load_arr rfl 39 (.tmp 38) rfl bv (ov + m * 17) (by with_unfolding_all rfl) CI _ HC.out Tryz.underlying39 rfl II.out ?_)
        go_roundw
        case rel => exact ⟨m + 1, by omega, by go_num, HF2, HE⟩
        case measure => simp [intOf]; omega
    · obtain rfl : m = nv := by omega
      have HF2 := Lib.hid (verF_no HEN.out HNV.out HA.out)
      have INZ : Hid ((Tryz.prog.info? 39).map (·.size) = some (#[.int .i64 0, .int .i64 0, .int .i64 0, .string ⟨#[]⟩, .slice none 0 0, .slice none 0 0, .int .i64 0, .int .i64 0, .slice none 0 0, .int .i64 0, .string ⟨#[]⟩, .int .i64 0, .int .i64 0, .int .i64 0, .int .i64 0, .slice none 0 0, .int .i64 0] : Array Value).size) := Lib.hid (infoItem rfl)
      go_wp2_with (with_reducible refine wpList_store_row rfl 39 (.tmp 6) (.tmp 41) rfl (w.heap.size + 1) #[.int .i64 0, .int .i64 0, .int .i64 0, .string ⟨#[]⟩, .slice none 0 0, .slice none 0 0, .int .i64 0, .int .i64 0, .slice none 0 0, .int .i64 0, .string ⟨#[]⟩, .int .i64 0, .int .i64 0, .int .i64 0, .int .i64 0, .slice none 0 0, .int .i64 0] (by with_unfolding_all rfl) (by with_unfolding_all rfl) _ _ HZR.out INZ.out rfl (by simp [Value.oneCell']) ?_)
      refine bodyPost_ret (v := .tuple #[.agg #[.int .i64 0, .int .i64 0, .int .i64 0, .string ⟨#[]⟩, .slice none 0 0, .slice none 0 0, .int .i64 0, .int .i64 0, .slice none 0 0, .int .i64 0, .string ⟨#[]⟩, .int .i64 0, .int .i64 0, .int .i64 0, .int .i64 0, .slice none 0 0, .int .i64 0], .bool false]) (results_ct Tryz.results22 _ _ (w.heap.size + 1) _ _ _ _ rfl (setRow_heap _ _ _ _ _ _ HZR.out) Tryz.underlying39 rfl INZ.out rfl) rfl ?_
      exact ⟨⟨(zItem, zLoc), by rw [HF2.out]; rfl, by rw [HF2.out]; rfl, zItem_in _⟩, HXR.out.rowSet (by omega) _⟩
end Bk
end Go.Proofs.YtfnmgcblhebdbaaGreatDoor
