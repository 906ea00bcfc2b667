/- Lists of items: how they lie; the rules of a list, where an item is, in the package and in the reference: contracts. Conditions: those of each theorem. Where the item with a number is, in the package and in the reference: contracts. Conditions: those of each theorem. copyItem, fits: contracts. Conditions: those of each theorem. rescore.Items: a contract. Conditions: those of each theorem. Steps scored by items, in the package and in the reference: contracts. Conditions: those of each theorem. The reference's SameItem and SameItems, of lists that say the same: contracts. Conditions: those of each theorem. What differs between two lists of steps, in the package and in the reference; comparing equal lists: contracts. Conditions: those of each theorem. -/
import Derived.Test.YtgaepmddbjdhfaaGreatDoorP31
import Derived.Test.YtgaepmddbjdhfaaGreatDoorP6
import Derived.Test.YtgaepmddbjdhfaaGreatDoorP34
namespace Go.Proofs.YtgaepmddbjdhfaaGreatDoor
open Go.ChangeShapes Go.WideShapes Go.ChangeAt Go.RowKit
namespace Rt
/-- An item with where its parts lie. -/
abbrev ItL := It.Item × It.Loc
def cl (x : ItL) : List Value := It.cells x.1 x.2
/-- A slice of items. -/
def SlIt (w : World) (A : Option Addr) (xs : List ItL) : Prop := Sl w 17 A (xs.map cl) ∧ ∀ x ∈ xs, It.In w x.1 x.2
theorem SlIt.ext {w w' : World} {A : Option Addr} {xs : List ItL} (h : SlIt w A xs) (he : Ext w w') : SlIt w' A xs := ⟨h.1.ext he, fun x hx => (h.2 x hx).ext he⟩
theorem SlIt.at_ {w : World} {A : Option Addr} {xs : List ItL} (h : SlIt w A xs) {i : Nat} {x : ItL} (hi : xs[i]? = some x) :
    ∃ b off, A = some ⟨b, off, none⟩ ∧ b < w.heap.size ∧ w.rangeAt b (off + i * 17) (cl x) ∧ It.In w x.1 x.2 := by
  obtain ⟨b, off, hA, hb, hc⟩ := h.1.range (i := i) (cs := cl x) (by simp [hi])
  exact ⟨b, off, hA, hb, hc, h.2 x (List.mem_of_getElem? hi)⟩
theorem SlIt.id {w : World} {b o : Nat} {x : ItL} (h : w.rangeAt b o (cl x)) : w.cell? ⟨b, o, none⟩ = some (.int .i64 x.1.id) := h 0 _ rfl
def its (xs : List ItL) : List It.Item := xs.map (·.1)
theorem its_len (xs : List ItL) : (its xs).length = xs.length := List.length_map _
theorem its_at {xs : List ItL} {i : Nat} {x : ItL} (h : xs[i]? = some x) : (its xs)[i]? = some x.1 := by unfold its; rw [List.getElem?_map, h]; rfl
theorem ordI_no {l : List It.Item} {k : Nat} {x y : It.Item} (hx : l[k + 1]? = some x) (hy : l[k]? = some y) (h : x.id ≤ y.id) : Rs.ordI l = false :=
  It.allN_no (k := k + 1) (List.getElem?_eq_some_iff.1 hx).1 (by unfold Rs.ordA; rw [Nat.add_sub_cancel, Rs.idAt_at hx, Rs.idAt_at hy]; simp; omega)
theorem ordI_next {l : List It.Item} {k : Nat} {x y : It.Item} (hx : l[k + 1]? = some x) (hy : l[k]? = some y) (h : y.id < x.id) (ha : It.allN (Rs.ordA l) (k + 1) = true) : It.allN (Rs.ordA l) (k + 1 + 1) = true :=
  It.allN_next ha (by unfold Rs.ordA; rw [Nat.add_sub_cancel, Rs.idAt_at hx, Rs.idAt_at hy]; simp; omega)
theorem chkI_many {l : List It.Item} (h : 60 < l.length) : Rs.chkI l = 5 := by unfold Rs.chkI; rw [if_pos h]
theorem chkI_bad {l : List It.Item} (h : l.length ≤ 60) (ho : Rs.ordI l = false) : Rs.chkI l = 23 := by unfold Rs.chkI; rw [if_neg (by omega), if_pos ho]
theorem chkI_rest {l : List It.Item} (h : l.length ≤ 60) (ho : Rs.ordI l = true) : Rs.chkI l = Rs.fstN (Rs.vldAt l) l.length := by unfold Rs.chkI; rw [if_neg (by omega), if_neg (by rw [ho]; simp)]
theorem infoItem {CS : Array Value} (h : CS.size = 17) : (Tryz.prog.info? 55).map (·.size) = some CS.size := by rw [h]; kernel_rfl
end Rt
set_option maxRecDepth 100000 in
set_option maxHeartbeats 6400000 in
theorem kcheck_any (A : Option Addr) (c : Nat) (xs : List Rt.ItL) {n : Nat} (hn : xs.length = n) {v : Int} (hv : Rs.chkI (Rt.its xs) = v) (w : World) (h : Rt.SlIt w A xs) (hl : n ≤ 9223372036854775807) (hg : Gm w) :
    Calls Tryz.prog 24 #[.slice A n c] w fun e w' => e = .returned (.int .i64 v) ∧ Ext w w' := by
  have H := Lib.hid h
  have HV := Lib.hid hv
  have HN := Lib.hid hn
  have HL : Hid ((Rt.its xs).length = n) := Lib.hid ((Rt.its_len xs).trans hn)
  clear h hv hn
  have HG := Lib.hid hg
  clear hg
  by_cases h60 : 60 < n
  · have HF : Hid (v = 5) := Lib.hid (by rw [← HV.out]; exact Rt.chkI_many (by rw [HL.out]; exact h60))
    go_enter Tryz.func24, Tryz.ntmps24
    go_wp2
    go_ret
    exact ⟨ret_int HF.out.symm, Ext.refl _⟩
  go_enter Tryz.func24, Tryz.ntmps24
  go_wp2
  go_loopw [3] (fun i wr => ∃ k : Nat, (k + 1 ≤ n ∨ k = 0) ∧ i = .int .i64 (k + 1) ∧ Hid (It.allN (Rs.ordA (Rt.its xs)) (k + 1) = true) ∧ Hid (Ext w wr)) (fun i _ => n + 1 - (intOf i).toNat)
  case atStart => exact ⟨0, by omega, rfl, Lib.hid rfl, Lib.hid (Ext.refl _)⟩
  case round =>
    obtain ⟨k, hk, rfl, HA, HE⟩ := hrel
    by_cases hlt : k + 1 < n
    · obtain ⟨x, hx⟩ : ∃ x, xs[k + 1]? = some x := ⟨xs[k + 1]'(by rw [HN.out]; exact hlt), List.getElem?_eq_getElem _⟩
      obtain ⟨y, hy⟩ : ∃ y, xs[k]? = some y := ⟨xs[k]'(by rw [HN.out]; omega), List.getElem?_eq_getElem _⟩
      obtain ⟨b, off, rfl, hb, hc, -⟩ := (H.out.ext HE.out).at_ hx
      obtain ⟨b', off', e', hb', hc', -⟩ := (H.out.ext HE.out).at_ hy
      obtain ⟨rfl, rfl⟩ : b = b' ∧ off = off' := by cases e'; exact ⟨rfl, rfl⟩
      have c0 := Rt.SlIt.id hc
      have c1 := Rt.SlIt.id hc'
      have HX := Lib.hid (Rt.its_at hx)
      have HY := Lib.hid (Rt.its_at hy)
      have ki0 : (0 : Int) ≤ (k : Int) := by omega
      have ki1 : (k : Int) + 1 < (n : Int) := by omega
      clear hx hy e' hc hc'
      by_cases hxy : x.1.id ≤ y.1.id
      · have HF : Hid (v = 23) := Lib.hid (by rw [← HV.out]; exact Rt.chkI_bad (by rw [HL.out]; omega) (Rt.ordI_no HX.out HY.out hxy))
        go_wp2_with fail
        go_quiet (fail)
        go_wp2
        go_ret
        exact ⟨ret_int HF.out.symm, HE.out.drewN _⟩
      · have hxy' : y.1.id < x.1.id := by omega
        have HF := Lib.hid (Rt.ordI_next HX.out HY.out hxy' HA.out)
        clear hxy
        go_wp2_with fail
        go_quiet (fail)
        go_wp2
        go_roundw
        case rel => exact ⟨k + 1, by omega, by go_num, HF, Lib.hid (HE.out.drewN _)⟩
        case measure => simp [intOf]; omega
    · have HF : Hid (v = Rs.fstN (Rs.vldAt (Rt.its xs)) n) := Lib.hid (by
        rw [← HV.out, Rt.chkI_rest (by rw [HL.out]; omega) ?_, HL.out]
        unfold Rs.ordI
        rw [HL.out]
        rcases Nat.eq_zero_or_pos n with h0 | h0
        · rw [h0]; rfl
        · rw [show n = k + 1 by omega]; exact HA.out)
      clear hk
      have hlt' : ¬ (k : Int) + 1 < (n : Int) := by omega
      go_wp2
      go_loopw [30] (fun i wr => ∃ k : Nat, k ≤ n ∧ i = .int .i64 k ∧ Hid (Rs.fstN (Rs.vldAt (Rt.its xs)) k = 0) ∧ Hid (Ext w wr)) (fun i _ => n - (intOf i).toNat)
      case atStart => exact ⟨0, by omega, rfl, Lib.hid rfl, HE⟩
      case round =>
        clear HE HA hlt hlt'
        obtain ⟨k, hk, rfl, HA, HE⟩ := hrel
        by_cases hlt : k < n
        · obtain ⟨x, hx⟩ : ∃ x, xs[k]? = some x := ⟨xs[k]'(by rw [HN.out]; exact hlt), List.getElem?_eq_getElem _⟩
          obtain ⟨b, off, rfl, hb, hc, hin⟩ := (H.out.ext HE.out).at_ hx
          obtain ⟨CA, hca, hna, h1a, hka⟩ := rs_packed x.1 x.2
          have HC : Hid (wr.rangeAt b (off + k * 17) CA.toList) := Lib.hid (by rw [← hka]; exact hc)
          have HX := Lib.hid (Rt.its_at hx)
          have HI := Lib.hid hin
          have IA := Lib.hid (Rt.infoItem hna)
          have NA := Lib.hid hna
          have OA := Lib.hid h1a
          have ki0 : (0 : Int) ≤ (k : Int) := by omega
          have ki1 : (k : Int) < (n : Int) := by omega
          obtain ⟨q, hq⟩ : ∃ q, It.vld x.1 = q := ⟨_, rfl⟩
          have HQ : Hid (Rs.vldAt (Rt.its xs) k = q) := Lib.hid (by rw [Rs.vldAt_at HX.out]; exact hq)
          have HV2 := Lib.hid (valid_any x.1 x.2)
          rw [hq, hca] at HV2
          clear hx hc hin hca hka hna h1a hq
          by_cases hq0 : q = 0
          · subst hq0
            go_wp2_with (first
              | (with_reducible refine wpList_load_arr rfl 55 (.tmp 32) rfl b (off + k * 17) (by with_unfolding_all rfl) CA _ HC.out Tryz.underlying55 rfl IA.out ?_)
              | (with_reducible refine wpList_store_new rfl 55 (.tmp 5) (.tmp 33) rfl _ CA 55 (by with_unfolding_all rfl) (by with_unfolding_all rfl) IA.out (by with_unfolding_all exact NA.out.symm) OA.out ?_)
              | (with_reducible refine wpList_load_row rfl 55 (.tmp 5) rfl wr.heap.size (by with_unfolding_all rfl) _ CA _ _ (heap_alloc_last wr _) Tryz.underlying55 rfl IA.out ?_))
            have X0 : Ext wr (wr.alloc (.cells CA 55)) := (Ext.refl _).alloc _
            have X1 := HE.out.trans X0
            with_reducible refine (HV2.out _ (HI.out.ext X0) (HG.out.ext X1)).mono ?_
            rintro e w3 ⟨rfl, hb3⟩
            have HE3 := Lib.hid (X1.trans hb3)
            clear hb3 X0 X1
            have HF2 : Hid (Rs.fstN (Rs.vldAt (Rt.its xs)) (k + 1) = 0) := Lib.hid (Rs.fstN_next HA.out HQ.out)
            go_wp2
            go_roundw
            case rel => exact ⟨k + 1, by omega, by go_num, HF2, HE3⟩
            case measure => simp [intOf]; omega
          · have t0 : (q != 0) = true := by rw [bne_iff_ne]; exact hq0
            have HF2 : Hid (v = q) := Lib.hid (by rw [HF.out]; exact Rs.fstN_hit hlt HA.out HQ.out hq0)
            clear hq0
            go_wp2_with (first
              | (with_reducible refine wpList_load_arr rfl 55 (.tmp 32) rfl b (off + k * 17) (by with_unfolding_all rfl) CA _ HC.out Tryz.underlying55 rfl IA.out ?_)
              | (with_reducible refine wpList_store_new rfl 55 (.tmp 5) (.tmp 33) rfl _ CA 55 (by with_unfolding_all rfl) (by with_unfolding_all rfl) IA.out (by with_unfolding_all exact NA.out.symm) OA.out ?_)
              | (with_reducible refine wpList_load_row rfl 55 (.tmp 5) rfl wr.heap.size (by with_unfolding_all rfl) _ CA _ _ (heap_alloc_last wr _) Tryz.underlying55 rfl IA.out ?_))
            have X0 : Ext wr (wr.alloc (.cells CA 55)) := (Ext.refl _).alloc _
            have X1 := HE.out.trans X0
            with_reducible refine (HV2.out _ (HI.out.ext X0) (HG.out.ext X1)).mono ?_
            rintro e w3 ⟨rfl, hb3⟩
            have HE3 := Lib.hid (X1.trans hb3)
            clear hb3 X0 X1
            go_wp2
            go_ret
            exact ⟨ret_int HF2.out.symm, HE3.out⟩
        · obtain rfl : k = n := by omega
          have HF2 : Hid (v = 0) := Lib.hid (by rw [HF.out]; exact HA.out)
          go_wp2
          go_ret
          exact ⟨ret_int HF2.out.symm, HE.out⟩
set_option maxRecDepth 100000 in
set_option maxHeartbeats 6400000 in
theorem ritems_any (A : Option Addr) (c : Nat) (xs : List Rt.ItL) {n : Nat} (hn : xs.length = n) {v : Int} (hv : Rs.chkI (Rt.its xs) = v) (w : World) (h : Rt.SlIt w A xs) (hl : n ≤ 9223372036854775807) :
    Calls Tryz.prog 27 #[.slice A n c] w fun e w' => e = .returned (.int .i64 v) ∧ Ext w w' := by
  have H := Lib.hid h
  have HV := Lib.hid hv
  have HN := Lib.hid hn
  have HL : Hid ((Rt.its xs).length = n) := Lib.hid ((Rt.its_len xs).trans hn)
  clear h hv hn
  by_cases h60 : 60 < n
  · have HF : Hid (v = 5) := Lib.hid (by rw [← HV.out]; exact Rt.chkI_many (by rw [HL.out]; exact h60))
    go_enter Tryz.func27, Tryz.ntmps27
    go_wp2
    go_ret
    exact ⟨ret_int HF.out.symm, Ext.refl _⟩
  go_enter Tryz.func27, Tryz.ntmps27
  go_wp2
  go_loopw [3] (fun i wr => ∃ k : Nat, (k + 1 ≤ n ∨ k = 0) ∧ i = .int .i64 (k + 1) ∧ Hid (It.allN (Rs.ordA (Rt.its xs)) (k + 1) = true) ∧ Hid (Ext w wr)) (fun i _ => n + 1 - (intOf i).toNat)
  case atStart => exact ⟨0, by omega, rfl, Lib.hid rfl, Lib.hid (Ext.refl _)⟩
  case round =>
    obtain ⟨k, hk, rfl, HA, HE⟩ := hrel
    by_cases hlt : k + 1 < n
    · obtain ⟨x, hx⟩ : ∃ x, xs[k + 1]? = some x := ⟨xs[k + 1]'(by rw [HN.out]; exact hlt), List.getElem?_eq_getElem _⟩
      obtain ⟨y, hy⟩ : ∃ y, xs[k]? = some y := ⟨xs[k]'(by rw [HN.out]; omega), List.getElem?_eq_getElem _⟩
      obtain ⟨b, off, rfl, hb, hc, -⟩ := (H.out.ext HE.out).at_ hx
      obtain ⟨b', off', e', hb', hc', -⟩ := (H.out.ext HE.out).at_ hy
      obtain ⟨rfl, rfl⟩ : b = b' ∧ off = off' := by cases e'; exact ⟨rfl, rfl⟩
      have c0 := Rt.SlIt.id hc
      have c1 := Rt.SlIt.id hc'
      have HX := Lib.hid (Rt.its_at hx)
      have HY := Lib.hid (Rt.its_at hy)
      have ki0 : (0 : Int) ≤ (k : Int) := by omega
      have ki1 : (k : Int) + 1 < (n : Int) := by omega
      clear hx hy e' hc hc'
      by_cases hxy : x.1.id ≤ y.1.id
      · have HF : Hid (v = 23) := Lib.hid (by rw [← HV.out]; exact Rt.chkI_bad (by rw [HL.out]; omega) (Rt.ordI_no HX.out HY.out hxy))
        go_wp2_with fail
        go_quiet (fail)
        go_wp2
        go_ret
        exact ⟨ret_int HF.out.symm, HE.out.drewN _⟩
      · have hxy' : y.1.id < x.1.id := by omega
        have HF := Lib.hid (Rt.ordI_next HX.out HY.out hxy' HA.out)
        clear hxy
        go_wp2_with fail
        go_quiet (fail)
        go_wp2
        go_roundw
        case rel => exact ⟨k + 1, by omega, by go_num, HF, Lib.hid (HE.out.drewN _)⟩
        case measure => simp [intOf]; omega
    · have HF : Hid (v = Rs.fstN (Rs.vldAt (Rt.its xs)) n) := Lib.hid (by
        rw [← HV.out, Rt.chkI_rest (by rw [HL.out]; omega) ?_, HL.out]
        unfold Rs.ordI
        rw [HL.out]
        rcases Nat.eq_zero_or_pos n with h0 | h0
        · rw [h0]; rfl
        · rw [show n = k + 1 by omega]; exact HA.out)
      clear hk
      have hlt' : ¬ (k : Int) + 1 < (n : Int) := by omega
      go_wp2
      go_loopw [4] (fun i wr => ∃ k : Nat, k ≤ n ∧ i = .int .i64 k ∧ Hid (Rs.fstN (Rs.vldAt (Rt.its xs)) k = 0) ∧ Hid (Ext w wr)) (fun i _ => n - (intOf i).toNat)
      case atStart => exact ⟨0, by omega, rfl, Lib.hid rfl, HE⟩
      case round =>
        clear HE HA hlt hlt'
        obtain ⟨k, hk, rfl, HA, HE⟩ := hrel
        by_cases hlt : k < n
        · obtain ⟨x, hx⟩ : ∃ x, xs[k]? = some x := ⟨xs[k]'(by rw [HN.out]; exact hlt), List.getElem?_eq_getElem _⟩
          obtain ⟨b, off, rfl, hb, hc, hin⟩ := (H.out.ext HE.out).at_ hx
          obtain ⟨CA, hca, hna, h1a, hka⟩ := rs_packed x.1 x.2
          have HC : Hid (wr.rangeAt b (off + k * 17) CA.toList) := Lib.hid (by rw [← hka]; exact hc)
          have HX := Lib.hid (Rt.its_at hx)
          have HI := Lib.hid hin
          have IA := Lib.hid (Rt.infoItem hna)
          have NA := Lib.hid hna
          have OA := Lib.hid h1a
          have ki0 : (0 : Int) ≤ (k : Int) := by omega
          have ki1 : (k : Int) < (n : Int) := by omega
          obtain ⟨q, hq⟩ : ∃ q, It.vld x.1 = q := ⟨_, rfl⟩
          have HQ : Hid (Rs.vldAt (Rt.its xs) k = q) := Lib.hid (by rw [Rs.vldAt_at HX.out]; exact hq)
          have HV2 := Lib.hid (rvalid_any x.1 x.2)
          rw [hq, hca] at HV2
          clear hx hc hin hca hka hna h1a hq
          by_cases hq0 : q = 0
          · subst hq0
            go_wp2_with (with_reducible refine wpList_load_arr rfl 55 (.tmp 35) rfl b (off + k * 17) (by with_unfolding_all rfl) CA _ HC.out Tryz.underlying55 rfl IA.out ?_)
            have X1 := HE.out
            with_reducible refine (HV2.out _ HI.out).mono ?_
            rintro e w3 ⟨rfl, hb3⟩
            have HE3 := Lib.hid (X1.trans hb3)
            clear hb3 X1
            have HF2 : Hid (Rs.fstN (Rs.vldAt (Rt.its xs)) (k + 1) = 0) := Lib.hid (Rs.fstN_next HA.out HQ.out)
            go_wp2
            go_roundw
            case rel => exact ⟨k + 1, by omega, by go_num, HF2, HE3⟩
            case measure => simp [intOf]; omega
          · have t0 : (q != 0) = true := by rw [bne_iff_ne]; exact hq0
            have HF2 : Hid (v = q) := Lib.hid (by rw [HF.out]; exact Rs.fstN_hit hlt HA.out HQ.out hq0)
            clear hq0
            go_wp2_with (with_reducible refine wpList_load_arr rfl 55 (.tmp 35) rfl b (off + k * 17) (by with_unfolding_all rfl) CA _ HC.out Tryz.underlying55 rfl IA.out ?_)
            have X1 := HE.out
            with_reducible refine (HV2.out _ HI.out).mono ?_
            rintro e w3 ⟨rfl, hb3⟩
            have HE3 := Lib.hid (X1.trans hb3)
            clear hb3 X1
            go_wp2
            go_ret
            exact ⟨ret_int HF2.out.symm, HE3.out⟩
        · obtain rfl : k = n := by omega
          have HF2 : Hid (v = 0) := Lib.hid (by rw [HF.out]; exact HA.out)
          go_wp2
          go_ret
          exact ⟨ret_int HF2.out.symm, HE.out⟩
end Go.Proofs.YtgaepmddbjdhfaaGreatDoor
namespace Go.Proofs.YtgaepmddbjdhfaaGreatDoor
open Go.ChangeShapes Go.WideShapes Go.ChangeAt Go.RowKit
namespace Rt
def ixV : Option Nat → Int
  | some k => (k : Int)
  | none => -1
theorem ix_none {xs : List ItL} {n : Nat} (hn : xs.length = n) {id : Int} (h : ∀ (j : Nat) (x : ItL), j < n → xs[j]? = some x → x.1.id ≠ id) : ixV (Rs.fnd (its xs) id) = -1 := by
  rw [Rs.fnd_none (fun i it hi => ?_)]
  · rfl
  · unfold its at hi
    rw [List.getElem?_map] at hi
    obtain ⟨x, hx, rfl⟩ := Option.map_eq_some_iff.1 hi
    exact h i x (by rw [← hn]; exact (List.getElem?_eq_some_iff.1 hx).1) hx
theorem ix_some {xs : List ItL} {id : Int} {k : Nat} {x : ItL} (hx : xs[k]? = some x) (he : x.1.id = id) (h : ∀ (j : Nat) (x : ItL), j < k → xs[j]? = some x → x.1.id ≠ id) : ixV (Rs.fnd (its xs) id) = (k : Int) := by
  rw [Rs.fnd_some (its_at hx) he (fun i it hi hj => ?_)]
  · rfl
  · unfold its at hj
    rw [List.getElem?_map] at hj
    obtain ⟨y, hy, rfl⟩ := Option.map_eq_some_iff.1 hj
    exact h i y hi hy
end Rt
set_option maxRecDepth 100000 in
set_option maxHeartbeats 3200000 in
theorem clos_any (it : It.Item) (L : It.Loc) (p : Addr) (id : Int) {v : Bool} (hv : (it.id == id) = v) (w : World) (hc : w.cell? p = some (.int .i64 id)) :
    Calls Tryz.prog 49 #[It.agg it L, .pointer (some p)] w fun e w' => e = .returned (.bool v) ∧ Ext w w' := by
  obtain ⟨CA, hca, hna, -, hka⟩ := rs_packed it L
  rw [hca]
  have ja0 : CA[0]? = some (.int .i64 it.id) := by rw [← hka]; rfl
  have X0 : Ext w (w.alloc (.cells CA 55)) := (Ext.refl _).alloc _
  have c0 : (w.alloc (.cells CA 55)).cell? ⟨w.heap.size, 0, none⟩ = some (.int .i64 it.id) := (World.cell?_alloc_new _ _ _ _).trans ja0
  have c1 := X0.keep hc
  have HV := Lib.hid hv
  clear hca hna hka ja0 hv hc
  go_enter Tryz.func49, Tryz.ntmps49
  go_wp2
  go_ret
  exact ⟨ret_bool HV.out, X0⟩
set_option maxRecDepth 100000 in
set_option maxHeartbeats 6400000 in
theorem ixf_any (A : Option Addr) (c : Nat) (xs : List Rt.ItL) {n : Nat} (hn : xs.length = n) (p : Addr) (id : Int) {v : Int} (hv : Rt.ixV (Rs.fnd (Rt.its xs) id) = v) (w : World) (h : Rt.SlIt w A xs) (hl : n ≤ 9223372036854775807) (hc : w.cell? p = some (.int .i64 id)) :
    Calls Tryz.prog 48 #[.slice A n c, .func (.func 49) #[] #[.pointer (some p)]] w fun e w' => e = .returned (.int .i64 v) ∧ Ext w w' := by
  have H := Lib.hid h
  have HV := Lib.hid hv
  have HN := Lib.hid hn
  have HC := Lib.hid hc
  clear h hv hn hc
  go_enter Tryz.func48, Tryz.ntmps48
  go_wp2
  go_loopw [8] (fun i wr => ∃ k : Nat, k ≤ n ∧ i = .int .i64 k ∧ Hid (∀ (j : Nat) (x : Rt.ItL), j < k → xs[j]? = some x → x.1.id ≠ id) ∧ Hid (Ext w wr)) (fun i _ => n - (intOf i).toNat)
  case atStart => exact ⟨0, by omega, rfl, Lib.hid (fun j x hj => absurd hj (by omega)), Lib.hid (Ext.refl _)⟩
  case round =>
    obtain ⟨k, hk, rfl, HA, HE⟩ := hrel
    by_cases hlt : k < n
    · obtain ⟨x, hx⟩ : ∃ x, xs[k]? = some x := ⟨xs[k]'(by rw [HN.out]; exact hlt), List.getElem?_eq_getElem _⟩
      obtain ⟨b, off, rfl, hb, hc, hin⟩ := (H.out.ext HE.out).at_ hx
      obtain ⟨CA, hca, hna, -, hka⟩ := rs_packed x.1 x.2
      have HR : Hid (wr.rangeAt b (off + k * 17) CA.toList) := Lib.hid (by rw [← hka]; exact hc)
      have HX := Lib.hid hx
      have IA := Lib.hid (Rt.infoItem hna)
      have ki0 : (0 : Int) ≤ (k : Int) := by omega
      have ki1 : (k : Int) < (n : Int) := by omega
      obtain ⟨q, hq⟩ : ∃ q, (x.1.id == id) = q := ⟨_, rfl⟩
      have HCL := Lib.hid (clos_any x.1 x.2 p id hq wr (HE.out.keep HC.out))
      rw [hca] at HCL
      have HQ := Lib.hid hq
      clear hx hc hin hca hka hna hq
      cases q with
      | true =>
        have HF : Hid (v = (k : Int)) := Lib.hid (by rw [← HV.out]; exact Rt.ix_some HX.out (by simpa using HQ.out) HA.out)
        go_wp2_with (with_reducible refine wpList_load_arr rfl 55 (.tmp 14) rfl b (off + k * 17) (by with_unfolding_all rfl) CA _ HR.out Tryz.underlying55 rfl IA.out ?_)
        with_reducible refine HCL.out.mono ?_
        rintro e w3 ⟨rfl, hb3⟩
        go_wp2
        go_ret
        exact ⟨ret_int HF.out.symm, HE.out.trans hb3⟩
      | false =>
        have HA2 : Hid (∀ (j : Nat) (x : Rt.ItL), j < k + 1 → xs[j]? = some x → x.1.id ≠ id) := Lib.hid (fun j y hj hy => by
          rcases Nat.lt_or_ge j k with g | g
          · exact HA.out j y g hy
          · obtain rfl : j = k := by omega
            rw [HX.out] at hy
            injection hy with hy
            subst hy
            simpa using HQ.out)
        go_wp2_with (with_reducible refine wpList_load_arr rfl 55 (.tmp 14) rfl b (off + k * 17) (by with_unfolding_all rfl) CA _ HR.out Tryz.underlying55 rfl IA.out ?_)
        with_reducible refine HCL.out.mono ?_
        rintro e w3 ⟨rfl, hb3⟩
        have HE3 := Lib.hid (HE.out.trans hb3)
        clear hb3
        go_wp2
        go_roundw
        case rel => exact ⟨k + 1, by omega, by go_num, HA2, HE3⟩
        case measure => simp [intOf]; omega
    · obtain rfl : k = n := by omega
      have HF : Hid (v = -1) := Lib.hid (by rw [← HV.out]; exact Rt.ix_none HN.out HA.out)
      go_wp2
      go_ret
      exact ⟨ret_int HF.out.symm, HE.out⟩
set_option maxRecDepth 100000 in
set_option maxHeartbeats 3200000 in
theorem kindex_it (A : Option Addr) (c : Nat) (xs : List Rt.ItL) {n : Nat} (hn : xs.length = n) (id : Int) {v : Int} (hv : Rt.ixV (Rs.fnd (Rt.its xs) id) = v) (w : World) (h : Rt.SlIt w A xs) (hl : n ≤ 9223372036854775807) :
    Calls Tryz.prog 25 #[.slice A n c, .int .i64 id] w fun e w' => e = .returned (.int .i64 v) ∧ Ext w w' := by
  have X0 : Ext w (w.alloc (.cells #[.int .i64 id] 3)) := (Ext.refl _).alloc _
  have HI := Lib.hid (ixf_any A c xs hn ⟨w.heap.size, 0, none⟩ id hv _ (h.ext X0) hl (World.cell?_alloc_new _ _ _ _))
  clear hn hv h
  go_enter Tryz.func25, Tryz.ntmps25
  go_wp2_with fail
  with_reducible refine HI.out.mono ?_
  rintro e w1 ⟨rfl, hb1⟩
  go_wp2
  go_ret
  exact ⟨rfl, X0.trans hb1⟩
set_option maxRecDepth 100000 in
set_option maxHeartbeats 3200000 in
theorem rfind_it (A : Option Addr) (c : Nat) (xs : List Rt.ItL) {n : Nat} (hn : xs.length = n) (id : Int) {v : Int} (hv : Rt.ixV (Rs.fnd (Rt.its xs) id) = v) (w : World) (h : Rt.SlIt w A xs) (hl : n ≤ 9223372036854775807) :
    Calls Tryz.prog 28 #[.slice A n c, .int .i64 id] w fun e w' => e = .returned (.int .i64 v) ∧ w = w' := by
  have H := Lib.hid h
  have HV := Lib.hid hv
  have HN := Lib.hid hn
  clear h hv hn
  go_enter Tryz.func28, Tryz.ntmps28
  go_wp2
  go_loop [5] (fun i => ∃ k : Nat, k ≤ n ∧ i = .int .i64 k ∧ Hid (∀ (j : Nat) (x : Rt.ItL), j < k → xs[j]? = some x → x.1.id ≠ id)) (fun i => n - (intOf i).toNat)
  case atStart => exact ⟨0, by omega, rfl, Lib.hid (fun j x hj => absurd hj (by omega))⟩
  case round =>
    obtain ⟨k, hk, rfl, HA⟩ := hrel
    by_cases hlt : k < n
    · obtain ⟨x, hx⟩ : ∃ x, xs[k]? = some x := ⟨xs[k]'(by rw [HN.out]; exact hlt), List.getElem?_eq_getElem _⟩
      obtain ⟨b, off, rfl, hb, hc, -⟩ := H.out.at_ hx
      have c0 := Rt.SlIt.id hc
      have HX := Lib.hid hx
      have ki0 : (0 : Int) ≤ (k : Int) := by omega
      have ki1 : (k : Int) < (n : Int) := by omega
      clear hx hc
      by_cases hq : x.1.id = id
      · have t0 : (x.1.id == id) = true := by rw [beq_iff_eq]; exact hq
        have HF : Hid (v = (k : Int)) := Lib.hid (by rw [← HV.out]; exact Rt.ix_some HX.out hq HA.out)
        clear hq
        go_wp2
        go_ret
        exact ⟨ret_int HF.out.symm, rfl⟩
      · have t0 : (x.1.id == id) = false := by rw [beq_eq_false_iff_ne]; exact hq
        have HA2 : Hid (∀ (j : Nat) (x : Rt.ItL), j < k + 1 → xs[j]? = some x → x.1.id ≠ id) := Lib.hid (fun j y hj hy => by
          rcases Nat.lt_or_ge j k with g | g
          · exact HA.out j y g hy
          · obtain rfl : j = k := by omega
            rw [HX.out] at hy
            injection hy with hy
            subst hy
            exact hq)
        clear hq
        go_wp2
        go_round
        case rel => exact ⟨k + 1, by omega, by go_num, HA2⟩
        case measure => simp [intOf]; omega
    · obtain rfl : k = n := by omega
      have HF : Hid (v = -1) := Lib.hid (by rw [← HV.out]; exact Rt.ix_none HN.out HA.out)
      go_wp2
      go_ret
      exact ⟨ret_int HF.out.symm, rfl⟩
end Go.Proofs.YtgaepmddbjdhfaaGreatDoor
namespace Go.Proofs.YtgaepmddbjdhfaaGreatDoor
open Go.ChangeShapes Go.WideShapes Go.ChangeAt Go.RowKit
theorem results_cell_one {P : Program} {fn : Func} {p : Tmp} {ty : TypeId} (h : fn.results = #[.cell p ty]) (tmps : Array Value) (w : World) (g : Nat) (t : TypeId) (cs : Array Value) (fr : Nat × Nat) (d : TypeDesc)
    (hp : tmps.getD p undef = .pointer (some ⟨g, 0, none⟩)) (hg : w.heap[g]? = some (.cells cs t fr))
    (hu : P.underlying ty = some d) (hd : (match d with | .struct _ | .array _ _ => true | _ => false) = true) (hi : (P.info? ty).map (·.size) = some cs.size) :
    (results fn tmps).run P w = .ok (.agg cs) w := results_cell_row h tmps w g t cs fr d hp hg hu hd hi
theorem SlS.of_own {w : World} {base : Nat} {e : TypeId} {v : Value} {n : Nat} {xs : List ByteArray} (h : w.ownsRow base e 1 v n (xs.map Value.string)) : ∃ A c, v = .slice A n c ∧ xs.length ≤ c ∧ c ≤ maxLen ∧ (∀ a, A = some a → base ≤ a.block) ∧ SlS w A xs := by
  have hf : (xs.map fun s => [Value.string s]).flatten = xs.map Value.string := by
    clear h
    induction xs with
    | nil => rfl
    | cons x l ih => simp only [List.map_cons, List.flatten_cons, ih]; rfl
  have hl : xs.length = n := by have := h.1; simpa using this
  have hge := own_ge h
  rw [← hf] at h
  obtain ⟨A, c, h1, h2, h3, h4⟩ := Sl.of_own (fun c hc => by obtain ⟨s, -, rfl⟩ := List.mem_map.1 hc; rfl) (by simpa using hl) h
  simp only [List.length_map] at h1 h2
  exact ⟨A, c, by rw [h1, hl], h2, h3, fun a ha => hge a.block (by rw [h1, ha]; rfl), h4⟩
theorem SlI.of_own' {w : World} {base : Nat} {e : TypeId} {v : Value} {n : Nat} {xs : List Int} (h : w.ownsRow base e 1 v n (xs.map (Value.int .i64))) : ∃ A c, v = .slice A n c ∧ xs.length ≤ c ∧ c ≤ maxLen ∧ (∀ a, A = some a → base ≤ a.block) ∧ SlI w A xs := by
  have hl : xs.length = n := by have := h.1; simpa using this
  have hge := own_ge h
  obtain ⟨A, c, h1, h2, h3, h4⟩ := SlI.of_own h
  exact ⟨A, c, by rw [h1, hl], h2, h3, fun a ha => hge a.block (by rw [h1, ha]; rfl), h4⟩
/-- The parts lie from block N on. -/
structure Rt.LocF (L : It.Loc) (N : Nat) : Prop where
  o : ∀ a, L.oA = some a → N ≤ a.block
  c : ∀ a, L.cA = some a → N ≤ a.block
  t : ∀ a, L.tA = some a → N ≤ a.block
  s : ∀ a, L.sA = some a → N ≤ a.block
theorem Rt.LocF.mono {L : It.Loc} {N M : Nat} (h : Rt.LocF L N) (hm : M ≤ N) : Rt.LocF L M := ⟨fun a ha => Nat.le_trans hm (h.o a ha), fun a ha => Nat.le_trans hm (h.c a ha), fun a ha => Nat.le_trans hm (h.t a ha), fun a ha => Nat.le_trans hm (h.s a ha)⟩
theorem Sl.setCells {k : Nat} {A : Option Addr} {xs : List (List Value)} {g : Nat} (hp : ∀ a, A = some a → a.block ≠ g) : ∀ (vs : List Value) (o : Nat) (w : World), Sl w k A xs → Sl (w.setCells g o vs) k A xs
  | [], _, _, h => h
  | v :: r, o, w, h => by rw [World.setCells]; exact Sl.setCells hp r (o + 1) _ (Sl.setCell h hp v)
theorem It.In.setCells {w : World} {it : It.Item} {L : It.Loc} (h : It.In w it L) {g : Nat} (hf : Rt.LocF L (g + 1)) (o : Nat) (vs : List Value) : It.In (w.setCells g o vs) it L :=
  ⟨h.ok, Sl.setCells (fun a ha => by have := hf.o a ha; omega) vs o w h.o, Sl.setCells (fun a ha => by have := hf.c a ha; omega) vs o w h.c, Sl.setCells (fun a ha => by have := hf.t a ha; omega) vs o w h.t, Sl.setCells (fun a ha => by have := hf.s a ha; omega) vs o w h.s, h.oc, h.cc, h.tc, h.sc⟩
theorem cells_all (it : It.Item) (L : It.Loc) : (It.cells it L).toArray.all (·.oneCell') = true := by
  obtain ⟨CS, -, -, h2, h3⟩ := rs_packed it L
  rw [h3]; exact h2
theorem set4_items (it : It.Item) (L : It.Loc) (A1 A2 A3 A4 : Option Addr) (c1 c2 c3 c4 : Nat) :
    ((((It.cells it L).toArray.setIfInBounds 4 (.slice A1 it.opts.length c1)).setIfInBounds 5 (.slice A2 it.chs.length c2)).setIfInBounds 8 (.slice A3 it.texts.length c3)).setIfInBounds 15 (.slice A4 it.assets.length c4) = (It.cells it ⟨A1, c1, A2, c2, A3, c3, A4, c4⟩).toArray := rfl
set_option maxRecDepth 100000 in
set_option maxHeartbeats 12800000 in
theorem copyItem_any (it : It.Item) (L : It.Loc) (w : World) (h : It.In w it L) (hv : It.vld it = 0) :
    Calls Tryz.prog 41 #[It.agg it L] w fun e w' => (∃ L', e = .returned (It.agg it L') ∧ It.In w' it L' ∧ Rt.LocF L' w.heap.size) ∧ Ext w w' := by
  obtain ⟨CA, hca, hna, -, hka⟩ := rs_packed it L
  rw [hca]
  obtain ⟨sm1, sm2, sm3, sm4⟩ := It.vld_small hv
  have ja4 : CA[4]? = some (.slice L.oA it.opts.length L.oc) := by rw [← hka]; rfl
  have ja5 : CA[5]? = some (.slice L.cA it.chs.length L.cc) := by rw [← hka]; rfl
  have ja8 : CA[8]? = some (.slice L.tA it.texts.length L.tc) := by rw [← hka]; rfl
  have ja15 : CA[15]? = some (.slice L.sA it.assets.length L.sc) := by rw [← hka]; rfl
  have H := Lib.hid h
  have HKA := Lib.hid hka
  have HNA := Lib.hid hna
  obtain ⟨n1, hn1⟩ : ∃ n, it.opts.length = n := ⟨_, rfl⟩
  obtain ⟨n2, hn2⟩ : ∃ n, it.chs.length = n := ⟨_, rfl⟩
  obtain ⟨n3, hn3⟩ : ∃ n, it.texts.length = n := ⟨_, rfl⟩
  obtain ⟨n4, hn4⟩ : ∃ n, it.assets.length = n := ⟨_, rfl⟩
  rw [hn1] at ja4 sm1
  rw [hn2] at ja5 sm2
  rw [hn3] at ja8 sm3
  rw [hn4] at ja15 sm4
  have HN := Lib.hid (And.intro hn1 (And.intro hn2 (And.intro hn3 hn4)))
  clear h hca hka hna hv hn1 hn2 hn3 hn4
  have B0 : ((w.alloc (.cells CA 55)).alloc (.cells #[.int .i64 0, .int .i64 0, .int .i64 0, .string ⟨#[]⟩, .slice none 0 0, .slice none 0 0, .int .i64 0, .int .i64 0, .slice none 0 0, .int .i64 0, .string ⟨#[]⟩, .int .i64 0, .int .i64 0, .int .i64 0, .int .i64 0, .slice none 0 0, .int .i64 0] 55)).heap[w.heap.size]? = some (.cells CA 55 (0, 0)) := two_fst _ _ _
  have D0 : ((w.alloc (.cells CA 55)).alloc (.cells #[.int .i64 0, .int .i64 0, .int .i64 0, .string ⟨#[]⟩, .slice none 0 0, .slice none 0 0, .int .i64 0, .int .i64 0, .slice none 0 0, .int .i64 0, .string ⟨#[]⟩, .int .i64 0, .int .i64 0, .int .i64 0, .int .i64 0, .slice none 0 0, .int .i64 0] 55)).heap[w.heap.size + 1]? = some (.cells #[.int .i64 0, .int .i64 0, .int .i64 0, .string ⟨#[]⟩, .slice none 0 0, .slice none 0 0, .int .i64 0, .int .i64 0, .slice none 0 0, .int .i64 0, .string ⟨#[]⟩, .int .i64 0, .int .i64 0, .int .i64 0, .int .i64 0, .slice none 0 0, .int .i64 0] 55 (0, 0)) := two_snd _ _ _
  have X0 : Ext w ((w.alloc (.cells CA 55)).alloc (.cells #[.int .i64 0, .int .i64 0, .int .i64 0, .string ⟨#[]⟩, .slice none 0 0, .slice none 0 0, .int .i64 0, .int .i64 0, .slice none 0 0, .int .i64 0, .string ⟨#[]⟩, .int .i64 0, .int .i64 0, .int .i64 0, .int .i64 0, .slice none 0 0, .int .i64 0] 55)) := ((Ext.refl w).alloc _).alloc _
  have c4 := (cell_of_row _ _ 4 _ _ _ B0).trans ja4
  have c5 := (cell_of_row _ _ 5 _ _ _ B0).trans ja5
  have c8 := (cell_of_row _ _ 8 _ _ _ B0).trans ja8
  have c15 := (cell_of_row _ _ 15 _ _ _ B0).trans ja15
  clear ja4 ja5 ja8 ja15
  have HB0 := Lib.hid B0
  have HD0 := Lib.hid D0
  have HX0 := Lib.hid X0
  clear B0 D0 X0
  go_enter Tryz.func41, Tryz.ntmps41
  go_wp2_with fail
  have T0 := Lib.hid (H.out.ext HX0.out).o
  have G0 : Hid (it.opts.length = n1) := Lib.hid HN.out.1
  with_reducible refine (cloneS_own L.oA L.oc it.opts G0.out _ T0.out (by omega)).mono ?_
  rintro e w1 ⟨v1, rfl, ho1, hb1⟩
  obtain ⟨A1, d1, rfl, hl1, hm1, hf1, hs1⟩ := SlS.of_own ho1
  have HF1 : Hid (∀ a, A1 = some a → a.block ≠ w.heap.size ∧ a.block ≠ w.heap.size + 1 ∧ w.heap.size ≤ a.block) := Lib.hid (fun a ha => by have h8 := hf1 a ha; have h9 := (Array.getElem?_eq_some_iff.1 HD0.out).1; omega)
  have HS1 := Lib.hid (And.intro hs1 (And.intro hl1 hm1))
  have HB1w := Lib.hid (hb1.blockAt HB0.out)
  have HD1w := Lib.hid (hb1.blockAt HD0.out)
  have HZ1 : Hid (w.heap.size < w1.heap.size) := Lib.hid (by have := HX0.out.size; have := hb1.size; have h9 := Array.getElem?_eq_some_iff.1 HB0.out; exact Nat.lt_of_lt_of_le h9.1 hb1.size)
  have q4 := hb1.keep c4
  have f4 : w1.frozen? ⟨w.heap.size, 4, none⟩ = false := frozen_of_row _ _ _ _ _ HB1w.out
  have p5_1 := hb1.keep c5
  have p8_1 := hb1.keep c8
  have p15_1 := hb1.keep c15
  have HE1 := Lib.hid hb1
  have HB1 : Hid ((w1.setCell ⟨w.heap.size, 4, none⟩ (.slice A1 n1 d1)).heap[w.heap.size]? = some (.cells (CA.setIfInBounds 4 (.slice A1 n1 d1)) 55 (0, 0))) := Lib.hid (heap_setCell_same _ _ _ _ _ _ HB1w.out)
  have HD1 : Hid ((w1.setCell ⟨w.heap.size, 4, none⟩ (.slice A1 n1 d1)).heap[w.heap.size + 1]? = some (.cells #[.int .i64 0, .int .i64 0, .int .i64 0, .string ⟨#[]⟩, .slice none 0 0, .slice none 0 0, .int .i64 0, .int .i64 0, .slice none 0 0, .int .i64 0, .string ⟨#[]⟩, .int .i64 0, .int .i64 0, .int .i64 0, .int .i64 0, .slice none 0 0, .int .i64 0] 55 (0, 0))) := Lib.hid ((heap_setCell_other _ _ _ _ (by simp)).trans HD1w.out)
  have HX1 : Hid (Ext w (w1.setCell ⟨w.heap.size, 4, none⟩ (.slice A1 n1 d1))) := Lib.hid ((HX0.out.trans HE1.out).setCell (Nat.le_refl _) _)
  have c5_1 : (w1.setCell ⟨w.heap.size, 4, none⟩ (.slice A1 n1 d1)).cell? ⟨w.heap.size, 5, none⟩ = _ := (World.cell?_setCell_other _ _ _ _ (by simp)).trans p5_1
  have c8_1 : (w1.setCell ⟨w.heap.size, 4, none⟩ (.slice A1 n1 d1)).cell? ⟨w.heap.size, 8, none⟩ = _ := (World.cell?_setCell_other _ _ _ _ (by simp)).trans p8_1
  have c15_1 : (w1.setCell ⟨w.heap.size, 4, none⟩ (.slice A1 n1 d1)).cell? ⟨w.heap.size, 15, none⟩ = _ := (World.cell?_setCell_other _ _ _ _ (by simp)).trans p15_1
  clear ho1 hb1 hl1 hm1 hs1 hf1 c5 p5_1 c8 p8_1 c15 p15_1 c4
  have c5 := c5_1
  clear c5_1
  have c8 := c8_1
  clear c8_1
  have c15 := c15_1
  clear c15_1
  go_wp2_with fail
  clear q4 f4
  have T1 := Lib.hid (H.out.ext HX1.out).c
  have G1 : Hid (it.chs.length = n2) := Lib.hid HN.out.2.1
  with_reducible refine (clone_own L.cA L.cc it.chs G1.out _ T1.out (by omega)).mono ?_
  rintro e w2 ⟨v2, rfl, ho2, hb2⟩
  obtain ⟨A2, d2, rfl, hl2, hm2, hf2, hs2⟩ := SlI.of_own' ho2
  have HF2 : Hid (∀ a, A2 = some a → a.block ≠ w.heap.size ∧ a.block ≠ w.heap.size + 1 ∧ w.heap.size ≤ a.block) := Lib.hid (fun a ha => by have h8 := hf2 a ha; have h9 := (Array.getElem?_eq_some_iff.1 HD1.out).1; omega)
  have HS2 := Lib.hid (And.intro hs2 (And.intro hl2 hm2))
  have HB2w := Lib.hid (hb2.blockAt HB1.out)
  have HD2w := Lib.hid (hb2.blockAt HD1.out)
  have HZ2 : Hid (w.heap.size < w2.heap.size) := Lib.hid (by have := HX1.out.size; have := hb2.size; have h9 := Array.getElem?_eq_some_iff.1 HB1.out; exact Nat.lt_of_lt_of_le h9.1 hb2.size)
  have q5 := hb2.keep c5
  have f5 : w2.frozen? ⟨w.heap.size, 5, none⟩ = false := frozen_of_row _ _ _ _ _ HB2w.out
  have p8_2 := hb2.keep c8
  have p15_2 := hb2.keep c15
  have HE2 := Lib.hid hb2
  have HB2 : Hid ((w2.setCell ⟨w.heap.size, 5, none⟩ (.slice A2 n2 d2)).heap[w.heap.size]? = some (.cells ((CA.setIfInBounds 4 (.slice A1 n1 d1)).setIfInBounds 5 (.slice A2 n2 d2)) 55 (0, 0))) := Lib.hid (heap_setCell_same _ _ _ _ _ _ HB2w.out)
  have HD2 : Hid ((w2.setCell ⟨w.heap.size, 5, none⟩ (.slice A2 n2 d2)).heap[w.heap.size + 1]? = some (.cells #[.int .i64 0, .int .i64 0, .int .i64 0, .string ⟨#[]⟩, .slice none 0 0, .slice none 0 0, .int .i64 0, .int .i64 0, .slice none 0 0, .int .i64 0, .string ⟨#[]⟩, .int .i64 0, .int .i64 0, .int .i64 0, .int .i64 0, .slice none 0 0, .int .i64 0] 55 (0, 0))) := Lib.hid ((heap_setCell_other _ _ _ _ (by simp)).trans HD2w.out)
  have HX2 : Hid (Ext w (w2.setCell ⟨w.heap.size, 5, none⟩ (.slice A2 n2 d2))) := Lib.hid ((HX1.out.trans HE2.out).setCell (Nat.le_refl _) _)
  have c8_2 : (w2.setCell ⟨w.heap.size, 5, none⟩ (.slice A2 n2 d2)).cell? ⟨w.heap.size, 8, none⟩ = _ := (World.cell?_setCell_other _ _ _ _ (by simp)).trans p8_2
  have c15_2 : (w2.setCell ⟨w.heap.size, 5, none⟩ (.slice A2 n2 d2)).cell? ⟨w.heap.size, 15, none⟩ = _ := (World.cell?_setCell_other _ _ _ _ (by simp)).trans p15_2
  clear ho2 hb2 hl2 hm2 hs2 hf2 c8 p8_2 c15 p15_2 c5
  have c8 := c8_2
  clear c8_2
  have c15 := c15_2
  clear c15_2
  go_wp2_with fail
  clear q5 f5
  have T2 := Lib.hid (H.out.ext HX2.out).t
  have G2 : Hid (it.texts.length = n3) := Lib.hid HN.out.2.2.1
  with_reducible refine (cloneS_own L.tA L.tc it.texts G2.out _ T2.out (by omega)).mono ?_
  rintro e w3 ⟨v3, rfl, ho3, hb3⟩
  obtain ⟨A3, d3, rfl, hl3, hm3, hf3, hs3⟩ := SlS.of_own ho3
  have HF3 : Hid (∀ a, A3 = some a → a.block ≠ w.heap.size ∧ a.block ≠ w.heap.size + 1 ∧ w.heap.size ≤ a.block) := Lib.hid (fun a ha => by have h8 := hf3 a ha; have h9 := (Array.getElem?_eq_some_iff.1 HD2.out).1; omega)
  have HS3 := Lib.hid (And.intro hs3 (And.intro hl3 hm3))
  have HB3w := Lib.hid (hb3.blockAt HB2.out)
  have HD3w := Lib.hid (hb3.blockAt HD2.out)
  have HZ3 : Hid (w.heap.size < w3.heap.size) := Lib.hid (by have := HX2.out.size; have := hb3.size; have h9 := Array.getElem?_eq_some_iff.1 HB2.out; exact Nat.lt_of_lt_of_le h9.1 hb3.size)
  have q8 := hb3.keep c8
  have f8 : w3.frozen? ⟨w.heap.size, 8, none⟩ = false := frozen_of_row _ _ _ _ _ HB3w.out
  have p15_3 := hb3.keep c15
  have HE3 := Lib.hid hb3
  have HB3 : Hid ((w3.setCell ⟨w.heap.size, 8, none⟩ (.slice A3 n3 d3)).heap[w.heap.size]? = some (.cells (((CA.setIfInBounds 4 (.slice A1 n1 d1)).setIfInBounds 5 (.slice A2 n2 d2)).setIfInBounds 8 (.slice A3 n3 d3)) 55 (0, 0))) := Lib.hid (heap_setCell_same _ _ _ _ _ _ HB3w.out)
  have HD3 : Hid ((w3.setCell ⟨w.heap.size, 8, none⟩ (.slice A3 n3 d3)).heap[w.heap.size + 1]? = some (.cells #[.int .i64 0, .int .i64 0, .int .i64 0, .string ⟨#[]⟩, .slice none 0 0, .slice none 0 0, .int .i64 0, .int .i64 0, .slice none 0 0, .int .i64 0, .string ⟨#[]⟩, .int .i64 0, .int .i64 0, .int .i64 0, .int .i64 0, .slice none 0 0, .int .i64 0] 55 (0, 0))) := Lib.hid ((heap_setCell_other _ _ _ _ (by simp)).trans HD3w.out)
  have HX3 : Hid (Ext w (w3.setCell ⟨w.heap.size, 8, none⟩ (.slice A3 n3 d3))) := Lib.hid ((HX2.out.trans HE3.out).setCell (Nat.le_refl _) _)
  have c15_3 : (w3.setCell ⟨w.heap.size, 8, none⟩ (.slice A3 n3 d3)).cell? ⟨w.heap.size, 15, none⟩ = _ := (World.cell?_setCell_other _ _ _ _ (by simp)).trans p15_3
  clear ho3 hb3 hl3 hm3 hs3 hf3 c15 p15_3 c8
  have c15 := c15_3
  clear c15_3
  go_wp2_with fail
  clear q8 f8
  have T3 := Lib.hid (H.out.ext HX3.out).s
  have G3 : Hid (it.assets.length = n4) := Lib.hid HN.out.2.2.2
  with_reducible refine (clone_own L.sA L.sc it.assets G3.out _ T3.out (by omega)).mono ?_
  rintro e w4 ⟨v4, rfl, ho4, hb4⟩
  obtain ⟨A4, d4, rfl, hl4, hm4, hf4, hs4⟩ := SlI.of_own' ho4
  have HF4 : Hid (∀ a, A4 = some a → a.block ≠ w.heap.size ∧ a.block ≠ w.heap.size + 1 ∧ w.heap.size ≤ a.block) := Lib.hid (fun a ha => by have h8 := hf4 a ha; have h9 := (Array.getElem?_eq_some_iff.1 HD3.out).1; omega)
  have HS4 := Lib.hid (And.intro hs4 (And.intro hl4 hm4))
  have HB4w := Lib.hid (hb4.blockAt HB3.out)
  have HD4w := Lib.hid (hb4.blockAt HD3.out)
  have HZ4 : Hid (w.heap.size < w4.heap.size) := Lib.hid (by have := HX3.out.size; have := hb4.size; have h9 := Array.getElem?_eq_some_iff.1 HB3.out; exact Nat.lt_of_lt_of_le h9.1 hb4.size)
  have q15 := hb4.keep c15
  have f15 : w4.frozen? ⟨w.heap.size, 15, none⟩ = false := frozen_of_row _ _ _ _ _ HB4w.out
  have HE4 := Lib.hid hb4
  have HB4 : Hid ((w4.setCell ⟨w.heap.size, 15, none⟩ (.slice A4 n4 d4)).heap[w.heap.size]? = some (.cells ((((CA.setIfInBounds 4 (.slice A1 n1 d1)).setIfInBounds 5 (.slice A2 n2 d2)).setIfInBounds 8 (.slice A3 n3 d3)).setIfInBounds 15 (.slice A4 n4 d4)) 55 (0, 0))) := Lib.hid (heap_setCell_same _ _ _ _ _ _ HB4w.out)
  have HD4 : Hid ((w4.setCell ⟨w.heap.size, 15, none⟩ (.slice A4 n4 d4)).heap[w.heap.size + 1]? = some (.cells #[.int .i64 0, .int .i64 0, .int .i64 0, .string ⟨#[]⟩, .slice none 0 0, .slice none 0 0, .int .i64 0, .int .i64 0, .slice none 0 0, .int .i64 0, .string ⟨#[]⟩, .int .i64 0, .int .i64 0, .int .i64 0, .int .i64 0, .slice none 0 0, .int .i64 0] 55 (0, 0))) := Lib.hid ((heap_setCell_other _ _ _ _ (by simp)).trans HD4w.out)
  have HX4 : Hid (Ext w (w4.setCell ⟨w.heap.size, 15, none⟩ (.slice A4 n4 d4))) := Lib.hid ((HX3.out.trans HE4.out).setCell (Nat.le_refl _) _)
  clear ho4 hb4 hl4 hm4 hs4 hf4  c15
  have HSZ : Hid (((((CA.setIfInBounds 4 (.slice A1 n1 d1)).setIfInBounds 5 (.slice A2 n2 d2)).setIfInBounds 8 (.slice A3 n3 d3)).setIfInBounds 15 (.slice A4 n4 d4)).size = 17) := Lib.hid (by simp only [Array.size_setIfInBounds]; exact HNA.out)
  have H1C : Hid (((((CA.setIfInBounds 4 (.slice A1 n1 d1)).setIfInBounds 5 (.slice A2 n2 d2)).setIfInBounds 8 (.slice A3 n3 d3)).setIfInBounds 15 (.slice A4 n4 d4)).all (·.oneCell') = true) := Lib.hid (by
    rw [← HKA.out, ← HN.out.1, ← HN.out.2.1, ← HN.out.2.2.1, ← HN.out.2.2.2, set4_items]
    exact cells_all _ _)
  have HFIN : Hid (((((CA.setIfInBounds 4 (.slice A1 n1 d1)).setIfInBounds 5 (.slice A2 n2 d2)).setIfInBounds 8 (.slice A3 n3 d3)).setIfInBounds 15 (.slice A4 n4 d4)) = (It.cells it ⟨A1, d1, A2, d2, A3, d3, A4, d4⟩).toArray) := Lib.hid (by
    rw [← HKA.out, ← HN.out.1, ← HN.out.2.1, ← HN.out.2.2.1, ← HN.out.2.2.2, set4_items])
  obtain ⟨CF, hcf⟩ : ∃ CF, ((((CA.setIfInBounds 4 (.slice A1 n1 d1)).setIfInBounds 5 (.slice A2 n2 d2)).setIfInBounds 8 (.slice A3 n3 d3)).setIfInBounds 15 (.slice A4 n4 d4)) = CF := ⟨_, rfl⟩
  rw [hcf] at HSZ H1C HFIN HB4
  clear hcf
  have INF := Lib.hid (Rt.infoItem HSZ.out)
  have IZ : Hid ((#[.int .i64 0, .int .i64 0, .int .i64 0, .string ⟨#[]⟩, .slice none 0 0, .slice none 0 0, .int .i64 0, .int .i64 0, .slice none 0 0, .int .i64 0, .string ⟨#[]⟩, .int .i64 0, .int .i64 0, .int .i64 0, .int .i64 0, .slice none 0 0, .int .i64 0] : Array Value).size = CF.size) := Lib.hid HSZ.out.symm
  go_wp2_with (first
    | (with_reducible refine wpList_load_row rfl 55 (.tmp 1) rfl w.heap.size (by with_unfolding_all rfl) _ CF _ _ HB4.out Tryz.underlying55 rfl INF.out ?_)
    | (with_reducible refine wpList_store_row rfl 55 (.tmp 2) (.tmp 19) rfl (w.heap.size + 1) CF (by with_unfolding_all rfl) (by with_unfolding_all rfl) _ _ HD4.out INF.out IZ.out H1C.out ?_))
  refine bodyPost_ret (v := .agg CF) (results_cell_one Tryz.results41 _ _ (w.heap.size + 1) _ CF _ _ rfl (setRow_heap _ _ _ _ _ _ HD4.out) Tryz.underlying55 rfl INF.out) rfl ?_
  have XF : Ext w (((w4.setCell ⟨w.heap.size, 15, none⟩ (.slice A4 n4 d4))).setRow (w.heap.size + 1) CF) := HX4.out.rowSet (by omega) _
  refine ⟨⟨⟨A1, d1, A2, d2, A3, d3, A4, d4⟩, ?_, ?_, ⟨fun a ha => (HF1.out a ha).2.2, fun a ha => (HF2.out a ha).2.2, fun a ha => (HF3.out a ha).2.2, fun a ha => (HF4.out a ha).2.2⟩⟩, XF⟩
  · rw [HFIN.out]; rfl
  · have k1 := HS1.out.1
    have k2 := HS2.out.1
    have k3 := HS3.out.1
    have k4 := HS4.out.1
    have F1 : SlS (((w4.setCell ⟨w.heap.size, 15, none⟩ (.slice A4 n4 d4))).setRow (w.heap.size + 1) CF) A1 it.opts := Sl.rowSet (Sl.setCell (Sl.ext (Sl.setCell (Sl.ext (Sl.setCell (Sl.ext (Sl.setCell k1 (fun a ha => (HF1.out a ha).1) _) HE2.out) (fun a ha => (HF1.out a ha).1) _) HE3.out) (fun a ha => (HF1.out a ha).1) _) HE4.out) (fun a ha => (HF1.out a ha).1) _) (fun a ha => (HF1.out a ha).2.1) CF
    have F2 : SlI (((w4.setCell ⟨w.heap.size, 15, none⟩ (.slice A4 n4 d4))).setRow (w.heap.size + 1) CF) A2 it.chs := Sl.rowSet (Sl.setCell (Sl.ext (Sl.setCell (Sl.ext (Sl.setCell k2 (fun a ha => (HF2.out a ha).1) _) HE3.out) (fun a ha => (HF2.out a ha).1) _) HE4.out) (fun a ha => (HF2.out a ha).1) _) (fun a ha => (HF2.out a ha).2.1) CF
    have F3 : SlS (((w4.setCell ⟨w.heap.size, 15, none⟩ (.slice A4 n4 d4))).setRow (w.heap.size + 1) CF) A3 it.texts := Sl.rowSet (Sl.setCell (Sl.ext (Sl.setCell k3 (fun a ha => (HF3.out a ha).1) _) HE4.out) (fun a ha => (HF3.out a ha).1) _) (fun a ha => (HF3.out a ha).2.1) CF
    have F4 : SlI (((w4.setCell ⟨w.heap.size, 15, none⟩ (.slice A4 n4 d4))).setRow (w.heap.size + 1) CF) A4 it.assets := Sl.rowSet (Sl.setCell k4 (fun a ha => (HF4.out a ha).1) _) (fun a ha => (HF4.out a ha).2.1) CF
    exact ⟨H.out.ok, F1, F2, F3, F4, HS1.out.2, HS2.out.2, HS3.out.2, HS4.out.2⟩
namespace Rt
theorem fitE_bad {old it : It.Item} (h : It.vld it ≠ 0) : Rs.fitE old it = It.vld it := by unfold Rs.fitE; rw [if_pos h]
theorem fitE_con {old it : It.Item} (h : It.vld it = 0) (hc : it.kind ≠ old.kind ∨ it.pts ≠ old.pts ∨ it.opts.length ≠ old.opts.length) : Rs.fitE old it = 11 := by
  unfold Rs.fitE
  rw [if_neg (by rw [h]; simp), if_pos]
  simp only [Bool.and_eq_false_iff, decide_eq_false_iff_not]
  exact hc
theorem fitE_ver {old it : It.Item} (h : It.vld it = 0) (h1 : it.kind = old.kind) (h2 : it.pts = old.pts) (h3 : it.opts.length = old.opts.length) : Rs.fitE old it = if it.ver = old.ver + 1 then 0 else 18 := by
  unfold Rs.fitE
  rw [if_neg (by rw [h]; simp), if_neg (by simp [h1, h2, h3])]
theorem vld_rng {it : It.Item} (h : It.vld it = 0) : It.ranges it = true := by
  unfold It.vld at h
  split at h
  · cases h
  · rename_i g
    simpa using g
theorem vld_ver {it : It.Item} (h : It.vld it = 0) : 1 ≤ it.ver ∧ it.ver ≤ 50 ∧ 1 ≤ it.id ∧ it.id ≤ 9999999 ∧ 1 ≤ it.pts ∧ it.pts ≤ 5 := by
  have := vld_rng h
  unfold It.ranges at this
  simp only [Bool.and_eq_true] at this
  obtain ⟨⟨⟨⟨⟨⟨⟨h1, h2⟩, h3⟩, -⟩, -⟩, -⟩, -⟩, -⟩ := this
  have g1 := It.wi_iff.1 h1
  have g2 := It.wi_iff.1 h2
  have g3 := It.wi_iff.1 h3
  omega
end Rt
set_option maxRecDepth 100000 in
set_option maxHeartbeats 12800000 in
theorem fits_any (a b : It.Item) (La Lb : It.Loc) {v : Int} (hv : Rs.fitE a b = v) (w : World) (ha : It.In w a La) (hb : It.In w b Lb) (hg : Gm w) (h0 : 0 ≤ a.ver) (h1 : a.ver ≤ 1000) :
    Calls Tryz.prog 42 #[It.agg a La, It.agg b Lb] w fun e w' => e = .returned (.int .i64 v) ∧ Ext w w' := by
  obtain ⟨CA, hca, hna, -, hka⟩ := rs_packed a La
  obtain ⟨CB, hcb, hnb, -, hkb⟩ := rs_packed b Lb
  have HV2 := Lib.hid (valid_any b Lb)
  rw [hcb] at HV2
  rw [hca, hcb]
  have ja1 : CA[1]? = some (.int .i64 a.ver) := by rw [← hka]; rfl
  have ja2 : CA[2]? = some (.int .i64 a.kind) := by rw [← hka]; rfl
  have ja4 : CA[4]? = some (.slice La.oA a.opts.length La.oc) := by rw [← hka]; rfl
  have ja9 : CA[9]? = some (.int .i64 a.pts) := by rw [← hka]; rfl
  have jb1 : CB[1]? = some (.int .i64 b.ver) := by rw [← hkb]; rfl
  have jb2 : CB[2]? = some (.int .i64 b.kind) := by rw [← hkb]; rfl
  have jb4 : CB[4]? = some (.slice Lb.oA b.opts.length Lb.oc) := by rw [← hkb]; rfl
  have jb9 : CB[9]? = some (.int .i64 b.pts) := by rw [← hkb]; rfl
  have la : a.opts.length ≤ 140737488351232 := ha.ok.ol
  have lb : b.opts.length ≤ 140737488351232 := hb.ok.ol
  have JA := Lib.hid (And.intro ja1 (And.intro ja2 (And.intro ja4 ja9)))
  have JB := Lib.hid (And.intro jb1 (And.intro jb2 (And.intro jb4 jb9)))
  have HB := Lib.hid hb
  have HG := Lib.hid hg
  have IB := Lib.hid (Rt.infoItem hnb)
  have HV := Lib.hid hv
  clear ja1 ja2 ja4 ja9 jb1 jb2 jb4 jb9 hca hcb hna hnb hka hkb ha hb hg hv
  obtain ⟨q, hq⟩ : ∃ q, It.vld b = q := ⟨_, rfl⟩
  rw [hq] at HV2
  have HQ := Lib.hid hq
  clear hq
  go_enter Tryz.func42, Tryz.ntmps42
  go_wp2_with (with_reducible refine wpList_load_row rfl 55 (.tmp 3) rfl (w.heap.size + 1) (by with_unfolding_all rfl) _ CB _ _ (two_snd _ _ _) Tryz.underlying55 rfl IB.out ?_)
  have X0 := ((Ext.refl w).alloc (.cells CA 55)).alloc (.cells CB 55)
  with_reducible refine (HV2.out _ (HB.out.ext X0) (HG.out.ext X0)).mono ?_
  rintro e w1 ⟨rfl, hb1⟩
  have A1 := hb1.blockAt (two_fst w (.cells CA 55) (.cells CB 55))
  have B1 := hb1.blockAt (two_snd w (.cells CA 55) (.cells CB 55))
  have X1 := Lib.hid (X0.trans hb1)
  by_cases hq0 : q = 0
  case neg =>
    have t0 : (q != 0) = true := by rw [bne_iff_ne]; exact hq0
    have HF : Hid (v = q) := Lib.hid (by rw [← HV.out, Rt.fitE_bad (by rw [HQ.out]; exact hq0), HQ.out])
    clear hq0 hb1 A1 B1 X0
    go_wp2
    go_ret
    exact ⟨ret_int HF.out.symm, X1.out⟩
  subst hq0
  have a1 : w1.cell? ⟨w.heap.size, 1, none⟩ = some (.int .i64 a.ver) := (cell_of_row _ _ 1 _ _ _ A1).trans JA.out.1
  have a2 : w1.cell? ⟨w.heap.size, 2, none⟩ = some (.int .i64 a.kind) := (cell_of_row _ _ 2 _ _ _ A1).trans JA.out.2.1
  have a4 : w1.cell? ⟨w.heap.size, 4, none⟩ = some (.slice La.oA a.opts.length La.oc) := (cell_of_row _ _ 4 _ _ _ A1).trans JA.out.2.2.1
  have a9 : w1.cell? ⟨w.heap.size, 9, none⟩ = some (.int .i64 a.pts) := (cell_of_row _ _ 9 _ _ _ A1).trans JA.out.2.2.2
  have b1 : w1.cell? ⟨w.heap.size + 1, 1, none⟩ = some (.int .i64 b.ver) := (cell_of_row _ _ 1 _ _ _ B1).trans JB.out.1
  have b2 : w1.cell? ⟨w.heap.size + 1, 2, none⟩ = some (.int .i64 b.kind) := (cell_of_row _ _ 2 _ _ _ B1).trans JB.out.2.1
  have b4 : w1.cell? ⟨w.heap.size + 1, 4, none⟩ = some (.slice Lb.oA b.opts.length Lb.oc) := (cell_of_row _ _ 4 _ _ _ B1).trans JB.out.2.2.1
  have b9 : w1.cell? ⟨w.heap.size + 1, 9, none⟩ = some (.int .i64 b.pts) := (cell_of_row _ _ 9 _ _ _ B1).trans JB.out.2.2.2
  clear hb1 A1 B1 X0
  by_cases hk : b.kind = a.kind
  case neg =>
    have t1 : (b.kind != a.kind) = true := by rw [bne_iff_ne]; exact hk
    have HF : Hid (v = 11) := Lib.hid (by rw [← HV.out, Rt.fitE_con HQ.out (Or.inl hk)])
    clear hk
    go_wp2
    go_ret
    exact ⟨ret_int HF.out.symm, X1.out⟩
  have t1 : (b.kind != a.kind) = false := by rw [hk]; simp
  have HK := Lib.hid hk
  clear hk
  by_cases hp : b.pts = a.pts
  case neg =>
    have t2 : (b.pts != a.pts) = true := by rw [bne_iff_ne]; exact hp
    have HF : Hid (v = 11) := Lib.hid (by rw [← HV.out, Rt.fitE_con HQ.out (Or.inr (Or.inl hp))])
    clear hp
    go_wp2
    go_ret
    exact ⟨ret_int HF.out.symm, X1.out⟩
  have t2 : (b.pts != a.pts) = false := by rw [hp]; simp
  have HP := Lib.hid hp
  clear hp
  obtain ⟨na, hna⟩ : ∃ n, a.opts.length = n := ⟨_, rfl⟩
  obtain ⟨nb, hnb⟩ : ∃ n, b.opts.length = n := ⟨_, rfl⟩
  rw [hna] at a4 la
  rw [hnb] at b4 lb
  have HNA := Lib.hid hna
  have HNB := Lib.hid hnb
  clear hna hnb
  by_cases hn : nb = na
  case neg =>
    have t3 : ((nb : Int) != (na : Int)) = true := by rw [bne_iff_ne]; omega
    have HF : Hid (v = 11) := Lib.hid (by rw [← HV.out, Rt.fitE_con HQ.out (Or.inr (Or.inr (by rw [HNA.out, HNB.out]; exact hn)))])
    clear hn
    go_wp2
    go_ret
    exact ⟨ret_int HF.out.symm, X1.out⟩
  subst hn
  have t3 : ((nb : Int) != (nb : Int)) = false := by simp
  have HF0 := Lib.hid (Rt.fitE_ver HQ.out HK.out HP.out (HNB.out.trans HNA.out.symm))
  by_cases hv1 : b.ver = a.ver + 1
  · have t4 : (b.ver != a.ver + 1) = false := by rw [hv1]; simp
    have HF : Hid (v = 0) := Lib.hid (by rw [← HV.out, HF0.out, if_pos hv1])
    clear hv1
    go_wp2
    go_ret
    exact ⟨ret_int HF.out.symm, X1.out⟩
  · have t4 : (b.ver != a.ver + 1) = true := by rw [bne_iff_ne]; exact hv1
    have HF : Hid (v = 18) := Lib.hid (by rw [← HV.out, HF0.out, if_neg hv1])
    clear hv1
    go_wp2
    go_ret
    exact ⟨ret_int HF.out.symm, X1.out⟩
end Go.Proofs.YtgaepmddbjdhfaaGreatDoor
namespace Go.Proofs.YtgaepmddbjdhfaaGreatDoor
open Go.ChangeShapes Go.WideShapes Go.ChangeAt Go.RowKit
namespace Rt
/-- A change: an item with where its parts lie, and a time. -/
abbrev ChL := ItL × Int
def cch (x : ChL) : List Value := cl x.1 ++ [.int .i64 x.2]
def SlCh (w : World) (A : Option Addr) (cs : List ChL) : Prop := Sl w 18 A (cs.map cch) ∧ ∀ x ∈ cs, It.In w x.1.1 x.1.2
theorem SlCh.ext {w w' : World} {A : Option Addr} {xs : List ChL} (h : SlCh w A xs) (he : Ext w w') : SlCh w' A xs := ⟨h.1.ext he, fun x hx => (h.2 x hx).ext he⟩
theorem SlCh.at_ {w : World} {A : Option Addr} {xs : List ChL} (h : SlCh w A xs) {i : Nat} {x : ChL} (hi : xs[i]? = some x) :
    ∃ b off, A = some ⟨b, off, none⟩ ∧ b < w.heap.size ∧ w.rangeAt b (off + i * 18) (cch x) ∧ It.In w x.1.1 x.1.2 := by
  obtain ⟨b, off, hA, hb, hc⟩ := h.1.range (i := i) (cs := cch x) (by simp [hi])
  exact ⟨b, off, hA, hb, hc, h.2 x (List.mem_of_getElem? hi)⟩
theorem SlCh.time {w : World} {b o : Nat} {x : ChL} (h : w.rangeAt b o (cch x)) : w.cell? ⟨b, o + 17, none⟩ = some (.int .i64 x.2) := h 17 _ rfl
theorem cch_packed (x : ChL) : ∃ CC : Array Value, (cch x).toArray = CC ∧ CC.size = 18 ∧ CC.all (·.oneCell') = true := by
  refine ⟨_, rfl, rfl, ?_⟩
  rw [Array.all_eq_true_iff_forall_mem]
  intro v hv
  rcases List.mem_append.1 (show v ∈ cl x.1 ++ [.int .i64 x.2] by simpa [cch] using hv) with h | h
  · exact (Array.all_eq_true_iff_forall_mem.1 (cells_all x.1.1 x.1.2)) v (by simpa [cl] using h)
  · obtain rfl : v = .int .i64 x.2 := by simpa using h
    rfl
theorem infoCh {CS : Array Value} (h : CS.size = 18) : (Tryz.prog.info? 57).map (·.size) = some CS.size := by rw [h]; kernel_rfl
theorem range_pre {w : World} {b : Nat} {CC : Array Value} {t : TypeId} {fr : Nat × Nat} (hb : w.heap[b]? = some (.cells CC t fr)) {l r : List Value} (h : l ++ r = CC.toList) : w.rangeAt b 0 l := fun j v hv => by
  rw [cell_of_row w b (0 + j) CC t fr hb, Nat.zero_add]
  have h1 : (l ++ r)[j]? = some v := by rw [List.getElem?_append_left (List.getElem?_eq_some_iff.1 hv).1]; exact hv
  rw [h] at h1
  simpa using h1
def chs (cs : List ChL) : List Rs.Chg := cs.map fun x => (x.1.1, x.2)
theorem chs_len (cs : List ChL) : (chs cs).length = cs.length := List.length_map _
theorem chs_at {cs : List ChL} {i : Nat} {x : ChL} (h : cs[i]? = some x) : (chs cs)[i]? = some (x.1.1, x.2) := by unfold chs; rw [List.getElem?_map, h]; rfl
/-- The post of a function that returns items and an error. -/
def RetIt (er : Int) (l : List It.Item) (e : Ending) (w' : World) : Prop :=
  ∃ (A : Option Addr) (c : Nat) (ys : List ItL), its ys = l ∧ e = .returned (.tuple #[.slice A ys.length c, .int .i64 er]) ∧ SlIt w' A ys ∧ ys.length ≤ c ∧ c ≤ maxLen
theorem RetIt.none (er : Int) (w : World) : RetIt er [] (.returned (.tuple #[.slice .none 0 0, .int .i64 er])) w := ⟨.none, 0, [], rfl, rfl, ⟨Or.inl rfl, fun x hx => by simp at hx⟩, Nat.le_refl _, Nat.zero_le _⟩
theorem itmE_chk {its : List It.Item} {l : List Rs.Chg} (h : Rs.chkI its ≠ 0) : Rs.itmE its l = Rs.chkI its := by unfold Rs.itmE; rw [if_pos h]
theorem itmE_many {its : List It.Item} {l : List Rs.Chg} (h : Rs.chkI its = 0) (hl : 50 < l.length) : Rs.itmE its l = 5 := by unfold Rs.itmE; rw [if_neg (by rw [h]; simp), if_pos hl]
theorem itmE_time {its : List It.Item} {l : List Rs.Chg} (h : Rs.chkI its = 0) (hl : l.length ≤ 50) (ht : Rs.timO (l.map (·.2)) = false) : Rs.itmE its l = 15 := by unfold Rs.itmE; rw [if_neg (by rw [h]; simp), if_neg (by omega), if_pos ht]
theorem itmE_app {its : List It.Item} {l : List Rs.Chg} (h : Rs.chkI its = 0) (hl : l.length ≤ 50) (ht : Rs.timO (l.map (·.2)) = true) : Rs.itmE its l = (Rs.app its (l.map (·.1))).1 := by unfold Rs.itmE; rw [if_neg (by rw [h]; simp), if_neg (by omega), if_neg (by rw [ht]; simp)]
theorem itmL_bad {its : List It.Item} {l : List Rs.Chg} (h : Rs.itmE its l ≠ 0) : Rs.itmL its l = [] := by unfold Rs.itmL; rw [if_pos h]
theorem itmL_ok {its : List It.Item} {l : List Rs.Chg} (h : Rs.itmE its l = 0) : Rs.itmL its l = (Rs.app its (l.map (·.1))).2 := by unfold Rs.itmL; rw [if_neg (by rw [h]; simp)]
theorem timO_no {l : List Rs.Chg} {k : Nat} {x y : Rs.Chg} (hx : l[k + 1]? = some x) (hy : l[k]? = some y) (h : x.2 < y.2) : Rs.timO (l.map (·.2)) = false :=
  It.allN_no (k := k + 1) (by rw [List.length_map]; exact (List.getElem?_eq_some_iff.1 hx).1) (by
    unfold Rs.timA
    rw [Nat.add_sub_cancel, List.getD_eq_getElem?_getD, List.getD_eq_getElem?_getD, List.getElem?_map, List.getElem?_map, hx, hy]
    simp; omega)
theorem timO_next {l : List Rs.Chg} {k : Nat} {x y : Rs.Chg} (hx : l[k + 1]? = some x) (hy : l[k]? = some y) (h : y.2 ≤ x.2) (ha : It.allN (Rs.timA (l.map (·.2))) (k + 1) = true) : It.allN (Rs.timA (l.map (·.2))) (k + 1 + 1) = true :=
  It.allN_next ha (by
    unfold Rs.timA
    rw [Nat.add_sub_cancel, List.getD_eq_getElem?_getD, List.getD_eq_getElem?_getD, List.getElem?_map, List.getElem?_map, hx, hy]
    simp; omega)
theorem row_step {α : Type} {l : List α} {z v : α} {m : Nat} : (l ++ List.replicate (m + 1) z).set l.length v = (l ++ [v]) ++ List.replicate m z := by
  rw [List.replicate_succ, List.set_append_right _ _ (Nat.le_refl _), Nat.sub_self, List.set_cons_zero]
  simp
/-- The row of copies: its items, and zeros behind. -/
structure OutR (w : World) (g n : Nat) (ys : List ItL) : Prop where
  row : RowW w 17 g (ys.map cl ++ List.replicate (n - ys.length) ([.int .i64 0, .int .i64 0, .int .i64 0, .string ⟨#[]⟩, .slice none 0 0, .slice none 0 0, .int .i64 0, .int .i64 0, .slice none 0 0, .int .i64 0, .string ⟨#[]⟩, .int .i64 0, .int .i64 0, .int .i64 0, .int .i64 0, .slice none 0 0, .int .i64 0] : List Value))
  ins : ∀ y ∈ ys, It.In w y.1 y.2 ∧ LocF y.2 (g + 1)
theorem OutR.ext {w w' : World} {g n : Nat} {ys : List ItL} (h : OutR w g n ys) (he : Ext w w') : OutR w' g n ys := ⟨h.row.ext he, fun y hy => ⟨(h.ins y hy).1.ext he, (h.ins y hy).2⟩⟩
theorem OutR.made (w : World) (n : Nat) (t : TypeId) : OutR (w.alloc (.cells (madeCells ([.int .i64 0, .int .i64 0, .int .i64 0, .string ⟨#[]⟩, .slice none 0 0, .slice none 0 0, .int .i64 0, .int .i64 0, .slice none 0 0, .int .i64 0, .string ⟨#[]⟩, .int .i64 0, .int .i64 0, .int .i64 0, .int .i64 0, .slice none 0 0, .int .i64 0] : List Value).toArray (n * 17)) t)) w.heap.size n [] :=
  ⟨by simpa using RowW.made w 17 n ([.int .i64 0, .int .i64 0, .int .i64 0, .string ⟨#[]⟩, .slice none 0 0, .slice none 0 0, .int .i64 0, .int .i64 0, .slice none 0 0, .int .i64 0, .string ⟨#[]⟩, .int .i64 0, .int .i64 0, .int .i64 0, .int .i64 0, .slice none 0 0, .int .i64 0] : List Value) rfl t, fun y hy => by simp at hy⟩
theorem OutR.put {w : World} {g n : Nat} {ys : List ItL} (h : OutR w g n ys) (hn : ys.length < n) (y : ItL) (hy : It.In w y.1 y.2) (hf : LocF y.2 (g + 1)) {CS : Array Value} (hc : (cl y).toArray = CS) : OutR (w.setCells g (ys.length * 17) CS.toList) g n (ys ++ [y]) := by
  subst hc
  constructor
  · have h1 := h.row.set (i := ys.length) (by simp; omega) (cs := cl y) rfl
    have e : (ys.map cl ++ List.replicate (n - ys.length) ([.int .i64 0, .int .i64 0, .int .i64 0, .string ⟨#[]⟩, .slice none 0 0, .slice none 0 0, .int .i64 0, .int .i64 0, .slice none 0 0, .int .i64 0, .string ⟨#[]⟩, .int .i64 0, .int .i64 0, .int .i64 0, .int .i64 0, .slice none 0 0, .int .i64 0] : List Value)).set ys.length (cl y) = (ys ++ [y]).map cl ++ List.replicate (n - (ys ++ [y]).length) ([.int .i64 0, .int .i64 0, .int .i64 0, .string ⟨#[]⟩, .slice none 0 0, .slice none 0 0, .int .i64 0, .int .i64 0, .slice none 0 0, .int .i64 0, .string ⟨#[]⟩, .int .i64 0, .int .i64 0, .int .i64 0, .int .i64 0, .slice none 0 0, .int .i64 0] : List Value) := by
      have := row_step (l := ys.map cl) (z := ([.int .i64 0, .int .i64 0, .int .i64 0, .string ⟨#[]⟩, .slice none 0 0, .slice none 0 0, .int .i64 0, .int .i64 0, .slice none 0 0, .int .i64 0, .string ⟨#[]⟩, .int .i64 0, .int .i64 0, .int .i64 0, .int .i64 0, .slice none 0 0, .int .i64 0] : List Value)) (v := cl y) (m := n - (ys.length + 1))
      rw [List.length_map] at this
      rw [show n - ys.length = n - (ys.length + 1) + 1 by omega, this]
      simp
    rw [e] at h1
    exact h1
  · intro z hz
    rcases List.mem_append.1 hz with hz | hz
    · exact ⟨(h.ins z hz).1.setCells (h.ins z hz).2 _ _, (h.ins z hz).2⟩
    · obtain rfl : z = y := by simpa using hz
      exact ⟨hy.setCells hf _ _, hf⟩
theorem OutR.full {w : World} {g n : Nat} {ys : List ItL} (h : OutR w g n ys) (hn : ys.length = n) : RowW w 17 g (ys.map cl) := by
  have := h.row
  rw [hn, Nat.sub_self, List.replicate_zero, List.append_nil] at this
  exact this
theorem OutR.sl {w : World} {g n : Nat} {ys : List ItL} (h : OutR w g n ys) (hn : ys.length = n) : SlIt w (some ⟨g, 0, none⟩) ys := ⟨(h.full hn).sl, fun y hy => (h.ins y hy).1⟩
theorem OutR.swap {w : World} {g n : Nat} {ys : List ItL} (h : OutR w g n ys) (hn : ys.length = n) {i : Nat} (hi : i < n) (y : ItL) (hy : It.In w y.1 y.2) (hf : LocF y.2 (g + 1)) {CS : Array Value} (hc : (cl y).toArray = CS) : OutR (w.setCells g (i * 17) CS.toList) g n (ys.set i y) := by
  subst hc
  constructor
  · have h1 := (h.full hn).set (i := i) (by rw [List.length_map]; omega) (cs := cl y) rfl
    rw [← List.map_set] at h1
    rw [List.length_set, hn, Nat.sub_self, List.replicate_zero, List.append_nil]
    exact h1
  · intro z hz
    rcases List.mem_or_eq_of_mem_set hz with hz | rfl
    · exact ⟨(h.ins z hz).1.setCells (h.ins z hz).2 _ _, (h.ins z hz).2⟩
    · exact ⟨hy.setCells hf _ _, hf⟩
theorem its_set (ys : List ItL) (i : Nat) (y : ItL) : its (ys.set i y) = (its ys).set i y.1 := by unfold its; rw [List.map_set]
theorem fitE_vld {a b : It.Item} (h : Rs.fitE a b = 0) : It.vld b = 0 := by
  unfold Rs.fitE at h
  split at h
  · exact absurd h (by assumption)
  · rename_i g; simpa using g
theorem fnd_ix {ys : List ItL} {id : Int} {i : Int} (h : ixV (Rs.fnd (its ys) id) = i) (h0 : 0 ≤ i) : ∃ (k : Nat) (y : ItL), i = (k : Int) ∧ Rs.fnd (its ys) id = some k ∧ ys[k]? = some y := by
  cases hf : Rs.fnd (its ys) id with
  | none => rw [hf] at h; simp [ixV] at h; omega
  | some k =>
    rw [hf] at h
    obtain ⟨x, hx, -⟩ := Rs.fnd_at hf
    unfold its at hx
    rw [List.getElem?_map] at hx
    obtain ⟨y, hy, -⟩ := Option.map_eq_some_iff.1 hx
    exact ⟨k, y, by rw [← h]; rfl, rfl, hy⟩
theorem fnd_neg {ys : List ItL} {id : Int} {i : Int} (h : ixV (Rs.fnd (its ys) id) = i) (h0 : i < 0) : Rs.fnd (its ys) id = none := by
  cases hf : Rs.fnd (its ys) id with
  | none => rfl
  | some k => rw [hf] at h; simp [ixV] at h; omega
end Rt
theorem Tryz.infoIt : (Tryz.prog.info? 55).map (fun i => (i.zero, i.size, i.bytes)) = some (some (.agg #[.int .i64 0, .int .i64 0, .int .i64 0, .string ⟨#[]⟩, .slice none 0 0, .slice none 0 0, .int .i64 0, .int .i64 0, .slice none 0 0, .int .i64 0, .string ⟨#[]⟩, .int .i64 0, .int .i64 0, .int .i64 0, .int .i64 0, .slice none 0 0, .int .i64 0]), 17, 216) := by kernel_rfl
theorem make_it (n : Nat) (hn : n ≤ 1000) (w : World) : (Instr.makeSlice 22 (.int .i64 (n : Int)) (.int .i64 (n : Int))).run Tryz.prog w = .ok (.slice (some ⟨w.heap.size, 0, none⟩) n n) (w.alloc (.cells (madeCells ([.int .i64 0, .int .i64 0, .int .i64 0, .string ⟨#[]⟩, .slice none 0 0, .slice none 0 0, .int .i64 0, .int .i64 0, .slice none 0 0, .int .i64 0, .string ⟨#[]⟩, .int .i64 0, .int .i64 0, .int .i64 0, .int .i64 0, .slice none 0 0, .int .i64 0] : List Value).toArray (n * 17)) 55)) := by
  obtain ⟨i, hi, hzz⟩ := Option.map_eq_some_iff.1 Tryz.infoIt
  simp only [Prod.mk.injEq] at hzz
  obtain ⟨hz, hs, hb⟩ := hzz
  have hr := run_make (P := Tryz.prog) w 22 55 i _ Tryz.underlying22 hi hz .i64 .i64 n n (by omega) (Int.le_refl _) (by rw [hb]; omega) (by omega)
  simp only [Int.toNat_natCast, hs] at hr
  exact hr
/-- What each operation of the region leaves. -/
def rteL (g n kk wb : Nat) (CA CB : Array Value) (q : Int) : List (Option Value → World → Prop) := [fun u _ => u = some (.slice (some ⟨g, 0, none⟩) n n),
  fun u _ => u = some (.int .i64 (kk : Int)),
  fun u _ => u = some (.pointer (some ⟨g, kk * 17, none⟩)),
  fun u _ => u = some (.agg CA),
  fun u _ => u = some (.pointer (some ⟨wb, 0, none⟩)),
  fun u _ => u = some (.agg CB),
  fun u _ => u = some (.int .i64 q),
  fun u _ => u = some (.int .i64 q)]
theorem rteL_mono (g n kk wb : Nat) (CA CB : Array Value) (q : Int) : AllMono (rteL g n kk wb CA CB q) := ⟨mono_val _, mono_val _, mono_val _, mono_val _, mono_val _, mono_val _, mono_val _, mono_val _, trivial⟩
def rteR (g n kk wb : Nat) (CA CB : Array Value) (q : Int) (j : Nat) (u : Option Value) (w : World) : Prop := (rteL g n kk wb CA CB q).getD j (fun _ _ => True) u w
theorem rteR_ext (g n kk wb : Nat) (CA CB : Array Value) (q : Int) (j : Nat) (u : Option Value) (w w' : World) (he : Ext w w') (h : rteR g n kk wb CA CB q j u w) : rteR g n kk wb CA CB q j u w' := ((rteL_mono g n kk wb CA CB q).at_ j) u w w' he h
def rteD : List Nat := [70, 71, 72, 73, 74, 75, 76, 14]
def rteE (g n kk wb : Nat) (t : Array Value) : Prop := t.getD 8 undef = .slice (some ⟨g, 0, none⟩) n n ∧ t.getD 12 undef = .pointer (some ⟨wb, 0, none⟩) ∧ t.getD 13 undef = .int .i64 (kk : Int) ∧ t.size = 88
set_option maxRecDepth 100000 in
set_option maxHeartbeats 25600000 in
theorem kitems_any (A : Option Addr) (c : Nat) (xs : List Rt.ItL) (A' : Option Addr) (c' : Nat) (cs : List Rt.ChL) {n m : Nat} (hn : xs.length = n) (hm : cs.length = m) (w : World) (h : Rt.SlIt w A xs) (h' : Rt.SlCh w A' cs) (hl : n ≤ 9223372036854775807) (hl' : m ≤ 9223372036854775807) (hg : Gm w) :
    Calls Tryz.prog 19 #[.slice A n c, .slice A' m c'] w fun e w' => Rt.RetIt (Rs.itmE (Rt.its xs) (Rt.chs cs)) (Rs.itmL (Rt.its xs) (Rt.chs cs)) e w' ∧ Ext w w' := by
  have H := Lib.hid h
  have H' := Lib.hid h'
  have HN := Lib.hid hn
  have HM := Lib.hid hm
  have HG := Lib.hid hg
  have HCL : Hid ((Rt.chs cs).length = m) := Lib.hid ((Rt.chs_len cs).trans hm)
  obtain ⟨er, her⟩ : ∃ er, Rs.itmE (Rt.its xs) (Rt.chs cs) = er := ⟨_, rfl⟩
  obtain ⟨ol, hol⟩ : ∃ ol, Rs.itmL (Rt.its xs) (Rt.chs cs) = ol := ⟨_, rfl⟩
  rw [her, hol]
  have HER := Lib.hid her
  have HOL := Lib.hid hol
  have HBAD : Hid (er ≠ 0 → ol = []) := Lib.hid (fun h => by rw [← hol]; exact Rt.itmL_bad (by rw [her]; exact h))
  obtain ⟨v, hv⟩ : ∃ v, Rs.chkI (Rt.its xs) = v := ⟨_, rfl⟩
  have HV := Lib.hid hv
  have ENS := Lib.hid (enters_of Tryz.func42 (by kernel_rfl) rfl)
  clear h h' hn hm hg her hol hv
  go_enter Tryz.func19, Tryz.ntmps19
  go_wp2_with fail
  with_reducible refine (kcheck_any A c xs HN.out HV.out w H.out hl HG.out).mono ?_
  rintro e w0 ⟨rfl, hb0⟩
  have HX0 := Lib.hid hb0
  clear hb0
  by_cases hv0 : v = 0
  case neg =>
    have t0 : (v != 0) = true := by rw [bne_iff_ne]; exact hv0
    have HF : Hid (er = v) := Lib.hid (by rw [← HER.out, Rt.itmE_chk (by rw [HV.out]; exact hv0), HV.out])
    have HF2 : Hid (ol = []) := Lib.hid (HBAD.out (by rw [HF.out]; exact hv0))
    clear hv0
    go_wp2
    go_ret2
    rw [HF2.out, HF.out]
    exact ⟨Rt.RetIt.none v _, HX0.out⟩
  subst hv0
  by_cases hm50 : 50 < m
  · have HF : Hid (er = 5) := Lib.hid (by rw [← HER.out, Rt.itmE_many HV.out (by rw [HCL.out]; exact hm50)])
    have HF2 : Hid (ol = []) := Lib.hid (HBAD.out (by rw [HF.out]; decide))
    go_wp2
    go_ret2
    rw [HF2.out, HF.out]
    exact ⟨Rt.RetIt.none 5 _, HX0.out⟩
  have n60 : n ≤ 60 := by have := Rs.chkI_few HV.out; rw [Rt.its_len, HN.out] at this; exact this
  go_wp2
  go_loopw [7] (fun i wr => ∃ k : Nat, (k + 1 ≤ m ∨ k = 0) ∧ i = .int .i64 (k + 1) ∧ Hid (It.allN (Rs.timA ((Rt.chs cs).map (·.2))) (k + 1) = true) ∧ Hid (Ext w wr)) (fun i _ => m + 1 - (intOf i).toNat)
  case atStart => exact ⟨0, by omega, rfl, Lib.hid rfl, HX0⟩
  case round =>
    clear HX0
    obtain ⟨k, hk, rfl, HA, HE⟩ := hrel
    by_cases hlt : k + 1 < m
    · obtain ⟨x, hx⟩ : ∃ x, cs[k + 1]? = some x := ⟨cs[k + 1]'(by rw [HM.out]; exact hlt), List.getElem?_eq_getElem _⟩
      obtain ⟨y, hy⟩ : ∃ y, cs[k]? = some y := ⟨cs[k]'(by rw [HM.out]; omega), List.getElem?_eq_getElem _⟩
      obtain ⟨b, off, rfl, hb, hc, -⟩ := (H'.out.ext HE.out).at_ hx
      obtain ⟨b', off', e', hb', hc', -⟩ := (H'.out.ext HE.out).at_ hy
      obtain ⟨rfl, rfl⟩ : b = b' ∧ off = off' := by cases e'; exact ⟨rfl, rfl⟩
      have c0 := Rt.SlCh.time hc
      have c1 := Rt.SlCh.time hc'
      have HX := Lib.hid (Rt.chs_at hx)
      have HY := Lib.hid (Rt.chs_at hy)
      have ki0 : (0 : Int) ≤ (k : Int) := by omega
      have ki1 : (k : Int) + 1 < (m : Int) := by omega
      clear hx hy e' hc hc'
      by_cases hxy : x.2 < y.2
      · have HF : Hid (er = 15) := Lib.hid (by rw [← HER.out]; exact Rt.itmE_time HV.out (by rw [HCL.out]; omega) (Rt.timO_no HX.out HY.out hxy))
        have HF2 : Hid (ol = []) := Lib.hid (HBAD.out (by rw [HF.out]; decide))
        go_wp2_with fail
        go_quiet (fail)
        go_wp2
        go_ret2
        rw [HF2.out, HF.out]
        exact ⟨Rt.RetIt.none 15 _, HE.out.drewN _⟩
      · have hxy' : y.2 ≤ x.2 := by omega
        have HF := Lib.hid (Rt.timO_next HX.out HY.out hxy' HA.out)
        clear hxy
        go_wp2_with fail
        go_quiet (fail)
        go_wp2
        go_roundw
        case rel => exact ⟨k + 1, by omega, by go_num, HF, Lib.hid (HE.out.drewN _)⟩
        case measure => simp [intOf]; omega
    · have HT : Hid (er = (Rs.app (Rt.its xs) ((Rt.chs cs).map (·.1))).1) := Lib.hid (by
        rw [← HER.out]
        refine Rt.itmE_app HV.out (by rw [HCL.out]; omega) ?_
        unfold Rs.timO
        rw [List.length_map, HCL.out]
        rcases Nat.eq_zero_or_pos m with h0 | h0
        · rw [h0]; rfl
        · rw [show m = k + 1 by omega]; exact HA.out)
      have hlt' : ¬ (k : Int) + 1 < (m : Int) := by omega
      have hmk := make_it n (by omega)
      clear hk
      have HEK := HE
      clear HA
      go_wp2
      have HZ1 : Hid (w.heap.size ≤ wr.heap.size) := Lib.hid HE.out.size
      have HO0 : Hid (Rt.OutR (wr.alloc (.cells (madeCells ([.int .i64 0, .int .i64 0, .int .i64 0, .string ⟨#[]⟩, .slice none 0 0, .slice none 0 0, .int .i64 0, .int .i64 0, .slice none 0 0, .int .i64 0, .string ⟨#[]⟩, .int .i64 0, .int .i64 0, .int .i64 0, .int .i64 0, .slice none 0 0, .int .i64 0] : List Value).toArray (n * 17)) 55)) wr.heap.size n []) := Lib.hid (Rt.OutR.made wr n _)
      have HE1 : Hid (Ext w (wr.alloc (.cells (madeCells ([.int .i64 0, .int .i64 0, .int .i64 0, .string ⟨#[]⟩, .slice none 0 0, .slice none 0 0, .int .i64 0, .int .i64 0, .slice none 0 0, .int .i64 0, .string ⟨#[]⟩, .int .i64 0, .int .i64 0, .int .i64 0, .int .i64 0, .slice none 0 0, .int .i64 0] : List Value).toArray (n * 17)) 55))) := Lib.hid (HE.out.alloc _)
      generalize hG : wr.heap.size = G at HO0 HZ1 ⊢
      clear hG HE HEK hmk
      go_loopw [46] (fun i wr => ∃ (k : Nat) (ys : List Rt.ItL), k ≤ n ∧ i = .int .i64 k ∧ Hid (ys.length = k) ∧ Hid (Rt.its ys = (Rt.its xs).take k) ∧ Hid (Rt.OutR wr G n ys) ∧ Hid (Ext w wr)) (fun i _ => n - (intOf i).toNat)
      case atStart => exact ⟨0, [], by omega, rfl, Lib.hid rfl, Lib.hid rfl, HO0, HE1⟩
      case round =>
        clear HO0 HE1
        obtain ⟨k, ys, hk, rfl, HYL, HI, HO, HE⟩ := hrel
        by_cases hlt : k < n
        · obtain ⟨x, hx⟩ : ∃ x, xs[k]? = some x := ⟨xs[k]'(by rw [HN.out]; exact hlt), List.getElem?_eq_getElem _⟩
          obtain ⟨b, off, rfl, hb, hc, hin⟩ := (H.out.ext HE.out).at_ hx
          obtain ⟨CA, hca, hna, h1a, hka⟩ := rs_packed x.1 x.2
          have HC : Hid (wr.rangeAt b (off + k * 17) CA.toList) := Lib.hid (by rw [← hka]; exact hc)
          have HI2 := Lib.hid hin
          have IA := Lib.hid (Rt.infoItem hna)
          have NA := Lib.hid hna
          have OA := Lib.hid h1a
          have HVX : Hid (It.vld x.1 = 0) := Lib.hid (Rs.chkI_vld HV.out (List.mem_of_getElem? (Rt.its_at hx)))
          have HCP := Lib.hid (copyItem_any x.1 x.2)
          rw [hca] at HCP
          have HX := Lib.hid hx
          have ki0 : (0 : Int) ≤ (k : Int) := by omega
          have ki1 : (k : Int) < (n : Int) := by omega
          clear hx hc hin hca hna h1a hka
          go_wp2_with (first
            | (with_reducible refine wpList_load_arr rfl 55 (.tmp 49) rfl b (off + k * 17) (by with_unfolding_all rfl) CA _ HC.out Tryz.underlying55 rfl IA.out ?_)
            | (with_reducible refine wpList_store_new rfl 55 (.tmp 10) (.tmp 50) rfl _ CA 55 (by with_unfolding_all rfl) (by with_unfolding_all rfl) IA.out (by with_unfolding_all exact NA.out.symm) OA.out ?_)
            | (with_reducible refine wpList_load_row rfl 55 (.tmp 10) rfl wr.heap.size (by with_unfolding_all rfl) _ CA _ _ (heap_alloc_last wr _) Tryz.underlying55 rfl IA.out ?_))
          have X0 : Ext wr (wr.alloc (.cells CA 55)) := (Ext.refl _).alloc _
          with_reducible refine (HCP.out _ (HI2.out.ext X0) HVX.out).mono ?_
          rintro e w3 ⟨⟨L', rfl, hin', hf'⟩, hb3⟩
          obtain ⟨CB, hcb, hnb, h1b, hkb⟩ := rs_packed x.1 L'
          rw [hcb]
          have X3 := X0.trans hb3
          have HO3 := Lib.hid (HO.out.ext X3)
          have HTH : Hid (w3.there G (k * 17) CB.size) := Lib.hid (by rw [hnb]; exact HO3.out.row.part (i := k) (by rw [List.length_append, List.length_map, List.length_replicate, HYL.out]; omega))
          have LF : Hid (Rt.LocF L' (G + 1)) := Lib.hid (hf'.mono (by have := HO.out.row.lt; simp; omega))
          have HPUT := Lib.hid (HO3.out.put (by rw [HYL.out]; exact hlt) (x.1, L') hin' LF.out hkb)
          rw [HYL.out] at HPUT
          have HEX := Lib.hid (HE.out.trans X3)
          have IB := Lib.hid (Rt.infoItem hnb)
          have OB := Lib.hid h1b
          have HIN : Hid (Rt.its (ys ++ [(x.1, L')]) = (Rt.its xs).take (k + 1)) := Lib.hid (by
            rw [List.take_add_one, Rt.its_at HX.out, ← HI.out]
            unfold Rt.its
            rw [List.map_append]
            rfl)
          clear hcb hnb h1b hkb hin' hf' hb3 X3 X0
          go_wp2_with (with_reducible refine wpList_store_arr rfl 55 (.tmp 55) (.tmp 54) rfl G (k * 17) CB (by with_unfolding_all rfl) (by with_unfolding_all rfl) HTH.out IB.out OB.out ?_)
          go_roundw
          case rel => exact ⟨k + 1, ys ++ [(x.1, L')], by omega, by go_num, Lib.hid (by rw [List.length_append, HYL.out]; rfl), HIN, HPUT, Lib.hid (Ext.setCells HZ1.out _ _ _ HEX.out)⟩
          case measure => simp [intOf]; omega
        · obtain rfl : n = k := by omega
          have HI0 : Hid (Rt.its ys = Rt.its xs) := Lib.hid (by rw [HI.out, List.take_of_length_le (by rw [Rt.its_len, HN.out]; exact Nat.le_refl _)])
          have HV0 : Hid (∀ y ∈ ys, It.vld y.1 = 0) := Lib.hid (fun y hy => Rs.chkI_vld HV.out (by rw [← HI0.out]; exact List.mem_map.2 ⟨y, hy, rfl⟩))
          clear HI hlt hk
          go_wp2
          go_loopw [59] (fun i wr => ∃ (j : Nat) (ys : List Rt.ItL), j ≤ m ∧ i = .int .i64 j ∧ Hid (ys.length = n) ∧ Hid (Rs.app (Rt.its xs) (((Rt.chs cs).map (·.1)).take j) = (0, Rt.its ys)) ∧ Hid (∀ y ∈ ys, It.vld y.1 = 0) ∧ Hid (Rt.OutR wr G n ys) ∧ Hid (Ext w wr)) (fun i _ => m - (intOf i).toNat)
          case atStart => exact ⟨0, ys, by omega, rfl, HYL, Lib.hid (by rw [HI0.out]; rfl), HV0, HO, HE⟩
          case round =>
            clear HYL HI0 HV0 HO HE
            obtain ⟨j, ys, hj, rfl, HYL, HAP, HVL, HO, HE⟩ := hrel
            by_cases hjt : j < m
            · obtain ⟨x, hx⟩ : ∃ x, cs[j]? = some x := ⟨cs[j]'(by rw [HM.out]; exact hjt), List.getElem?_eq_getElem _⟩
              obtain ⟨b, off, rfl, hb, hc, hin⟩ := (H'.out.ext HE.out).at_ hx
              obtain ⟨CC, hcc, hn18, h1c⟩ := Rt.cch_packed x
              have HC : Hid (wr.rangeAt b (off + j * 18) CC.toList) := Lib.hid (by rw [← hcc]; exact hc)
              have IC := Lib.hid (Rt.infoCh hn18)
              have NC := Lib.hid hn18
              have OC := Lib.hid h1c
              have j0 : CC[0]? = some (.int .i64 x.1.1.id) := by rw [← hcc]; rfl
              obtain ⟨CB, hcb, hnb, h1b, hkb⟩ := rs_packed x.1.1 x.1.2
              have HPRE : Hid (CB.toList ++ [.int .i64 x.2] = CC.toList) := Lib.hid (by rw [← hcc, ← hkb]; rfl)
              have HXC : Hid (((Rt.chs cs).map (·.1))[j]? = some x.1.1) := Lib.hid (by rw [List.getElem?_map, Rt.chs_at hx]; rfl)
              have X0 : Ext wr (wr.alloc (.cells CC 57)) := (Ext.refl _).alloc _
              have c0 : (wr.alloc (.cells CC 57)).cell? ⟨wr.heap.size, 0, none⟩ = some (.int .i64 x.1.1.id) := (World.cell?_alloc_new _ _ _ _).trans j0
              obtain ⟨i, hi⟩ : ∃ i, Rt.ixV (Rs.fnd (Rt.its ys) x.1.1.id) = i := ⟨_, rfl⟩
              have HIX := Lib.hid (kindex_it (some ⟨G, 0, none⟩) n ys HYL.out x.1.1.id hi _ ((HO.out.sl HYL.out).ext X0) (by omega))
              have HXI := Lib.hid hi
              have HIB0 := Lib.hid hin
              have IB := Lib.hid (Rt.infoItem hnb)
              have HFT := Lib.hid (fun (y : Rt.ItL) (v : Int) (hv : Rs.fitE y.1 x.1.1 = v) => fits_any y.1 x.1.1 y.2 x.1.2 hv)
              have HCP := Lib.hid (copyItem_any x.1.1 x.1.2)
              rw [hcb] at HFT HCP
              have ki0 : (0 : Int) ≤ (j : Int) := by omega
              have ki1 : (j : Int) < (m : Int) := by omega
              clear hx hc hin hcc hn18 h1c j0 hcb hnb h1b hkb hi
              go_wp2_with (first
                | (with_reducible refine wpList_load_arr rfl 57 (.tmp 61) rfl b (off + j * 18) (by with_unfolding_all rfl) CC _ HC.out Tryz.underlying57 rfl IC.out ?_)
                | (with_reducible refine wpList_store_new rfl 57 (.tmp 12) (.tmp 62) rfl _ CC 57 (by with_unfolding_all rfl) (by with_unfolding_all rfl) IC.out (by with_unfolding_all exact NC.out.symm) OC.out ?_))
              with_reducible refine HIX.out.mono ?_
              rintro e w3 ⟨rfl, hb3⟩
              have X3 := Lib.hid (X0.trans hb3)
              have HB3 : Hid (w3.heap[wr.heap.size]? = some (.cells CC 57 (0, 0))) := Lib.hid (hb3.blockAt (heap_alloc_new wr _))
              have HE3 := Lib.hid (HE.out.trans X3.out)
              clear hb3 X0 c0
              by_cases hi0 : i < 0
              · have HF : Hid (er = 6 ∧ ol = []) := Lib.hid (by
                  have e1 := Rs.app_bad HXC.out HAP.out (Rs.chgE_none (Rt.fnd_neg HXI.out hi0)) (by decide)
                  have e2 : er = 6 := by rw [HT.out, e1]
                  exact ⟨e2, HBAD.out (by rw [e2]; decide)⟩)
                go_wp2
                go_ret2
                rw [HF.out.1, HF.out.2]
                exact ⟨Rt.RetIt.none 6 _, HE3.out⟩
              · obtain ⟨kk, y, hik, hf, hy⟩ := Rt.fnd_ix HXI.out (by omega)
                subst hik
                have hkn : kk < n := by rw [← HYL.out]; exact (List.getElem?_eq_some_iff.1 hy).1
                have HFD := Lib.hid hf
                obtain ⟨CA, hca, hna, -, hka⟩ := rs_packed y.1 y.2
                have HO3 := Lib.hid (HO.out.ext X3.out)
                have HRA : Hid (w3.rangeAt G (kk * 17) CA.toList) := Lib.hid (by rw [← hka]; exact (HO3.out.full HYL.out).rows kk (Rt.cl y) (by rw [List.getElem?_map, hy]; rfl))
                have HRB : Hid (w3.rangeAt wr.heap.size 0 CB.toList) := Lib.hid (Rt.range_pre HB3.out HPRE.out)
                have IA := Lib.hid (Rt.infoItem hna)
                have HVY : Hid (It.vld y.1 = 0) := Lib.hid (HVL.out y (List.mem_of_getElem? hy))
                have HIA : Hid (It.In w3 y.1 y.2) := Lib.hid (HO3.out.ins y (List.mem_of_getElem? hy)).1
                have HIB : Hid (It.In w3 x.1.1 x.1.2) := Lib.hid (HIB0.out.ext X3.out)
                have HG2 : Hid (Gm w3) := Lib.hid (HG.out.ext HE3.out)
                obtain ⟨q, hq⟩ : ∃ q, Rs.fitE y.1 x.1.1 = q := ⟨_, rfl⟩
                have HQ := Lib.hid hq
                have HS : Hid (∀ w, It.In w y.1 y.2 → It.In w x.1.1 x.1.2 → Gm w → Calls Tryz.prog 42 #[.agg CA, .agg CB] w fun e w' => e = .returned (.int .i64 q) ∧ Ext w w') := Lib.hid (fun w h1 h2 h3 => by
                  have := HFT.out y q hq w h1 h2 h3 (by have := Rt.vld_ver HVY.out; omega) (by have := Rt.vld_ver HVY.out; omega)
                  rw [hca] at this
                  exact this)
                have HCG : Hid (Rs.chgE (Rt.its ys) x.1.1 = q) := Lib.hid (by rw [Rs.chgE_some hf (Rt.its_at hy)]; exact hq)
                have ki : (kk : Int) < (n : Int) := by omega
                have KI := Lib.hid (And.intro ki hkn)
                clear hf hy hca hna hka hq ki
                go_wp2_with fail
                refine region_tb (by kernel_rfl) (by decide +kernel) (rteE G n kk wr.heap.size) ⟨rfl, rfl, rfl, rfl⟩ 8 rteD (fun _ => none) (rteR G n kk wr.heap.size CA CB q) w3 (Ext.refl _) (fun i h1 h2 => absurd h2 (Nat.not_lt.2 h1)) ?_ ?_
                · intro Tv dd lv U wz i o hE ho hlv hd hT
                  obtain ⟨t8, t12, t13, tz⟩ := hE
                  have hx := hT.ext
                  match i, ho, hlv, hd with
                  | 0, ho, hlv, hd =>
                    obtain rfl := Option.some.inj ho
                    have v0 := eval_old (d := dd) (hT.out 8 (by decide)) (by omega) t8
                    refine tbw_yield (v := .slice (some ⟨G, 0, none⟩) n n) (rteR_ext G n kk wr.heap.size CA CB q) hT ho hd (wanted_plain rfl) rfl (by decide) (by decide) ?_ (Ext.refl _) rfl
                    generalize Act.eval ⟨over Tv U, dd⟩ = ev at *
                    simp [execOp, go_sem, v0]
                  | 1, ho, hlv, hd =>
                    obtain rfl := Option.some.inj ho
                    have v0 := eval_old (d := dd) (hT.out 13 (by decide)) (by omega) t13
                    refine tbw_yield (v := .int .i64 (kk : Int)) (rteR_ext G n kk wr.heap.size CA CB q) hT ho hd (wanted_plain rfl) rfl (by decide) (by decide) ?_ (Ext.refl _) rfl
                    generalize Act.eval ⟨over Tv U, dd⟩ = ev at *
                    simp [execOp, go_sem, v0]
                  | 2, ho, hlv, hd =>
                    obtain rfl := Option.some.inj ho
                    have f0 : U 70 = some (.slice (some ⟨G, 0, none⟩) n n) := hT.facts 0 (by decide) (dep hd 0 (by kernel_rfl)) (fun c e => by cases e)
                    have v0 : Act.eval ⟨over Tv U, dd⟩ (.tmp 70) = _ := eval_new (t := Tv) (d := dd) f0 (by show 70 < Tv.size; omega)
                    have f1 : U 71 = some (.int .i64 (kk : Int)) := hT.facts 1 (by decide) (dep hd 1 (by kernel_rfl)) (fun c e => by cases e)
                    have v1 : Act.eval ⟨over Tv U, dd⟩ (.tmp 71) = _ := eval_new (t := Tv) (d := dd) f1 (by show 71 < Tv.size; omega)
                    have ki := KI.out
                    refine tbw_yield (v := .pointer (some ⟨G, kk * 17, none⟩)) (rteR_ext G n kk wr.heap.size CA CB q) hT ho hd (wanted_plain rfl) rfl (by decide) (by decide) ?_ (Ext.refl _) rfl
                    generalize Act.eval ⟨over Tv U, dd⟩ = ev at *
                    simp [execOp, go_sem, v0, v1, ki]
                  | 3, ho, hlv, hd =>
                    obtain rfl := Option.some.inj ho
                    have f0 : U 72 = some (.pointer (some ⟨G, kk * 17, none⟩)) := hT.facts 2 (by decide) (dep hd 2 (by kernel_rfl)) (fun c e => by cases e)
                    have v0 : Act.eval ⟨over Tv U, dd⟩ (.tmp 72) = _ := eval_new (t := Tv) (d := dd) f0 (by show 72 < Tv.size; omega)
                    refine tbw_yield (v := .agg CA) (rteR_ext G n kk wr.heap.size CA CB q) hT ho hd (wanted_plain rfl) rfl (by decide) (by decide) (exec_load_arr _ _ rfl G (kk * 17) v0 CA _ (hx.range HRA.out) Tryz.underlying55 rfl IA.out) (Ext.refl _) rfl
                  | 4, ho, hlv, hd =>
                    obtain rfl := Option.some.inj ho
                    have v0 := eval_old (d := dd) (hT.out 12 (by decide)) (by omega) t12
                    refine tbw_yield (v := .pointer (some ⟨wr.heap.size, 0, none⟩)) (rteR_ext G n kk wr.heap.size CA CB q) hT ho hd (wanted_plain rfl) rfl (by decide) (by decide) ?_ (Ext.refl _) rfl
                    generalize Act.eval ⟨over Tv U, dd⟩ = ev at *
                    simp [execOp, go_sem, v0]
                  | 5, ho, hlv, hd =>
                    obtain rfl := Option.some.inj ho
                    have f0 : U 74 = some (.pointer (some ⟨wr.heap.size, 0, none⟩)) := hT.facts 4 (by decide) (dep hd 4 (by kernel_rfl)) (fun c e => by cases e)
                    have v0 : Act.eval ⟨over Tv U, dd⟩ (.tmp 74) = _ := eval_new (t := Tv) (d := dd) f0 (by show 74 < Tv.size; omega)
                    refine tbw_yield (v := .agg CB) (rteR_ext G n kk wr.heap.size CA CB q) hT ho hd (wanted_plain rfl) rfl (by decide) (by decide) (exec_load_arr _ _ rfl wr.heap.size (0) v0 CB _ (hx.range HRB.out) Tryz.underlying55 rfl IB.out) (Ext.refl _) rfl
                  | 6, ho, hlv, hd =>
                    obtain rfl := Option.some.inj ho
                    have f0 : U 73 = some (.agg CA) := hT.facts 3 (by decide) (dep hd 3 (by kernel_rfl)) (fun c e => by cases e)
                    have v0 : Act.eval ⟨over Tv U, dd⟩ (.tmp 73) = _ := eval_new (t := Tv) (d := dd) f0 (by show 73 < Tv.size; omega)
                    have f1 : U 75 = some (.agg CB) := hT.facts 5 (by decide) (dep hd 5 (by kernel_rfl)) (fun c e => by cases e)
                    have v1 : Act.eval ⟨over Tv U, dd⟩ (.tmp 75) = _ := eval_new (t := Tv) (d := dd) f1 (by show 75 < Tv.size; omega)
                    refine tbw_call (f := 42) (args := #[.agg CA, .agg CB]) (rteR_ext G n kk wr.heap.size CA CB q) hT ho hd (wanted_plain rfl) rfl (by decide) (by decide) (exec_call2 rfl rfl v0 v1 ENS.out) ?_
                    refine (HS.out wz (HIA.out.ext hx) (HIB.out.ext hx) (HG2.out.ext hx)).mono ?_
                    rintro e w' ⟨rfl, hb⟩
                    exact ⟨_, rfl, hb, rfl⟩
                  | 7, ho, hlv, hd =>
                    obtain rfl := Option.some.inj ho
                    have f0 : U 76 = some (.int .i64 q) := hT.facts 6 (by decide) (dep hd 6 (by kernel_rfl)) (fun c e => by cases e)
                    have v0 : Act.eval ⟨over Tv U, dd⟩ (.tmp 76) = _ := eval_new (t := Tv) (d := dd) f0 (by show 76 < Tv.size; omega)
                    refine tbw_yield (v := .int .i64 q) (rteR_ext G n kk wr.heap.size CA CB q) hT ho hd (wanted_plain rfl) rfl (by decide) (by decide) ?_ (Ext.refl _) rfl
                    generalize Act.eval ⟨over Tv U, dd⟩ = ev at *
                    simp [execOp, go_sem, v0]
                  | i + 8, ho, _, _ => exact absurd ho (by simp)
                intro U wz hex hout hfin
                have f14 : U 14 = some (.int .i64 q) := hfin 7 (by decide) rfl
                have XE := Lib.hid hex
                clear hex hfin
                rw [over_list]
                simp (disch := decide) only [overL, Nat.reduceAdd, hout, Option.getD_none]
                rw [f14]
                simp only [Option.getD_some]
                clear hout f14
                by_cases hq0 : q = 0
                case neg =>
                  have t0 : (q != 0) = true := by rw [bne_iff_ne]; exact hq0
                  have HF : Hid (er = q ∧ ol = []) := Lib.hid (by
                    have e1 := Rs.app_bad HXC.out HAP.out HCG.out hq0
                    have e2 : er = q := by rw [HT.out, e1]
                    exact ⟨e2, HBAD.out (by rw [e2]; exact hq0)⟩)
                  clear hq0
                  go_wp2
                  go_ret2
                  rw [HF.out.1, HF.out.2]
                  exact ⟨Rt.RetIt.none q _, HE3.out.trans XE.out⟩
                subst hq0
                have HVC : Hid (It.vld x.1.1 = 0) := Lib.hid (Rt.fitE_vld HQ.out)
                have HRB2 : Hid (wz.rangeAt wr.heap.size 0 CB.toList) := Lib.hid (XE.out.range HRB.out)
                go_wp2_with (with_reducible refine wpList_load_arr rfl 55 (.tmp 82) rfl wr.heap.size 0 (by with_unfolding_all rfl) CB _ HRB2.out Tryz.underlying55 rfl IB.out ?_)
                with_reducible refine (HCP.out _ (HIB.out.ext XE.out) HVC.out).mono ?_
                rintro e w5 ⟨⟨L', rfl, hin', hf'⟩, hb5⟩
                obtain ⟨CD, hcd, hnd, h1d, hkd⟩ := rs_packed x.1.1 L'
                rw [hcd]
                have X5 := XE.out.trans hb5
                have HO5 := Lib.hid (HO3.out.ext X5)
                have HTH : Hid (w5.there G (kk * 17) CD.size) := Lib.hid (by rw [hnd]; exact (HO5.out.full HYL.out).part (i := kk) (by rw [List.length_map, HYL.out]; exact hkn))
                have LF : Hid (Rt.LocF L' (G + 1)) := Lib.hid (hf'.mono (by have := HO3.out.row.lt; have := XE.out.size; omega))
                have HPUT := Lib.hid (HO5.out.swap HYL.out hkn (x.1.1, L') hin' LF.out hkd)
                have HEX := Lib.hid (HE3.out.trans X5)
                have ID := Lib.hid (Rt.infoItem hnd)
                have OD := Lib.hid h1d
                have HAN : Hid (Rs.app (Rt.its xs) (((Rt.chs cs).map (·.1)).take (j + 1)) = (0, Rt.its (ys.set kk (x.1.1, L')))) := Lib.hid (by
                  rw [Rs.app_good HXC.out HAP.out HCG.out, Rs.upd_some HFD.out, Rt.its_set])
                have HVN : Hid (∀ y ∈ ys.set kk (x.1.1, L'), It.vld y.1 = 0) := Lib.hid (fun z hz => by
                  rcases List.mem_or_eq_of_mem_set hz with hz | rfl
                  · exact HVL.out z hz
                  · exact HVC.out)
                clear hcd hnd h1d hkd hin' hf' hb5 X5
                have ki2 : (kk : Int) < (n : Int) := KI.out.1
                go_wp2_with (with_reducible refine wpList_store_arr rfl 55 (.tmp 85) (.tmp 84) rfl G (kk * 17) CD (by with_unfolding_all rfl) (by with_unfolding_all rfl) HTH.out ID.out OD.out ?_)
                go_roundw
                case rel => exact ⟨j + 1, ys.set kk (x.1.1, L'), by omega, by go_num, Lib.hid (by rw [List.length_set]; exact HYL.out), HAN, HVN, HPUT, Lib.hid (Ext.setCells HZ1.out _ _ _ HEX.out)⟩
                case measure => simp [intOf]; omega
            · obtain rfl : m = j := by omega
              have HAF : Hid (Rs.app (Rt.its xs) ((Rt.chs cs).map (·.1)) = (0, Rt.its ys)) := Lib.hid (by
                have := HAP.out
                rwa [List.take_of_length_le (by rw [List.length_map, HCL.out]; exact Nat.le_refl _)] at this)
              have HF : Hid (er = 0) := Lib.hid (by rw [HT.out, HAF.out])
              have HF2 : Hid (ol = Rt.its ys) := Lib.hid (by rw [← HOL.out, Rt.itmL_ok (by rw [HER.out]; exact HF.out), HAF.out])
              go_wp2
              go_ret2
              rw [HF2.out, HF.out]
              exact ⟨⟨some ⟨G, 0, none⟩, n, ys, rfl, by rw [HYL.out]; rfl, HO.out.sl HYL.out, by rw [HYL.out]; exact Nat.le_refl _, by unfold maxLen; omega⟩, HE.out⟩
end Go.Proofs.YtgaepmddbjdhfaaGreatDoor
namespace Go.Proofs.YtgaepmddbjdhfaaGreatDoor
open Go.ChangeShapes Go.WideShapes Go.ChangeAt Go.RowKit
namespace Rt
abbrev AnL := Rs.Ans × Rs.ALoc
def acl (x : AnL) : List Value := Rs.Ans.cells x.1 x.2
def SlAn (w : World) (A : Option Addr) (xs : List AnL) : Prop := Sl w 5 A (xs.map acl) ∧ ∀ x ∈ xs, x.1.In w x.2
theorem SlAn.ext {w w' : World} {A : Option Addr} {xs : List AnL} (h : SlAn w A xs) (he : Ext w w') : SlAn w' A xs := ⟨h.1.ext he, fun x hx => (h.2 x hx).ext he⟩
theorem SlAn.at_ {w : World} {A : Option Addr} {xs : List AnL} (h : SlAn w A xs) {i : Nat} {x : AnL} (hi : xs[i]? = some x) :
    ∃ b off, A = some ⟨b, off, none⟩ ∧ b < w.heap.size ∧ w.rangeAt b (off + i * 5) (acl x) ∧ x.1.In w x.2 := by
  obtain ⟨b, off, hA, hb, hc⟩ := h.1.range (i := i) (cs := acl x) (by simp [hi])
  exact ⟨b, off, hA, hb, hc, h.2 x (List.mem_of_getElem? hi)⟩
def ans (xs : List AnL) : List Rs.Ans := xs.map (·.1)
theorem ans_len (xs : List AnL) : (ans xs).length = xs.length := List.length_map _
theorem ans_at {xs : List AnL} {i : Nat} {x : AnL} (h : xs[i]? = some x) : (ans xs)[i]? = some x.1 := by unfold ans; rw [List.getElem?_map, h]; rfl
def scl (s : Rs.Stp) : List Value := [.int .i64 s.1, .int .i64 s.2]
def SlSt (w : World) (A : Option Addr) (ss : List Rs.Stp) : Prop := Sl w 2 A (ss.map scl)
theorem SlSt.ext {w w' : World} {A : Option Addr} {xs : List Rs.Stp} (h : SlSt w A xs) (he : Ext w w') : SlSt w' A xs := Sl.ext h he
theorem SlSt.at_ {w : World} {A : Option Addr} {ss : List Rs.Stp} (h : SlSt w A ss) {i : Nat} {s : Rs.Stp} (hi : ss[i]? = some s) :
    ∃ b off, A = some ⟨b, off, none⟩ ∧ b < w.heap.size ∧ w.cell? ⟨b, off + i * 2, none⟩ = some (.int .i64 s.1) ∧ w.cell? ⟨b, off + i * 2 + 1, none⟩ = some (.int .i64 s.2) := by
  obtain ⟨b, off, hA, hb, hc⟩ := Sl.range h (i := i) (cs := scl s) (by simp [hi])
  exact ⟨b, off, hA, hb, hc 0 _ rfl, hc 1 _ rfl⟩
/-- The post of a function that returns steps and an error. -/
def RetSt (er : Int) (l : List Rs.Stp) (e : Ending) (w' : World) : Prop :=
  ∃ (A : Option Addr) (c : Nat), e = .returned (.tuple #[.slice A l.length c, .int .i64 er]) ∧ SlSt w' A l ∧ l.length ≤ c ∧ c ≤ maxLen
theorem RetSt.none (er : Int) (w : World) : RetSt er [] (.returned (.tuple #[.slice .none 0 0, .int .i64 er])) w := ⟨.none, 0, rfl, Or.inl rfl, Nat.le_refl _, Nat.zero_le _⟩
theorem infoAn {CS : Array Value} (h : CS.size = 5) : (Tryz.prog.info? 64).map (·.size) = some CS.size := by rw [h]; kernel_rfl
theorem stsE_many {its : List It.Item} {an : List Rs.Ans} {ss : List Rs.Stp} (h : 18 < ss.length) : Rs.stsE its an ss = 5 := by unfold Rs.stsE; rw [if_pos h]
theorem stsE_len {its : List It.Item} {an : List Rs.Ans} {ss : List Rs.Stp} (h : ss.length ≤ 18) (h2 : an.length ≠ ss.length) : Rs.stsE its an ss = 1 := by unfold Rs.stsE; rw [if_neg (by omega), if_pos h2]
theorem stsE_chk {its : List It.Item} {an : List Rs.Ans} {ss : List Rs.Stp} (h : ss.length ≤ 18) (h2 : an.length = ss.length) (h3 : Rs.chkI its ≠ 0) : Rs.stsE its an ss = Rs.chkI its := by unfold Rs.stsE; rw [if_neg (by omega), if_neg (by omega), if_pos h3]
theorem stsE_rest {its : List It.Item} {an : List Rs.Ans} {ss : List Rs.Stp} (h : ss.length ≤ 18) (h2 : an.length = ss.length) (h3 : Rs.chkI its = 0) : Rs.stsE its an ss = Rs.fstN (Rs.stpA its an ss) ss.length := by unfold Rs.stsE; rw [if_neg (by omega), if_neg (by omega), if_neg (by simpa using h3)]
theorem stsL_bad {its : List It.Item} {an : List Rs.Ans} {ss : List Rs.Stp} (h : Rs.stsE its an ss ≠ 0) : Rs.stsL its an ss = [] := by unfold Rs.stsL; rw [if_pos h]
theorem stsL_ok {its : List It.Item} {an : List Rs.Ans} {ss : List Rs.Stp} (h : Rs.stsE its an ss = 0) : Rs.stsL its an ss = Rs.stsV its an ss := by unfold Rs.stsL; rw [if_neg (by simpa using h)]
theorem stsV_next {its : List It.Item} {an : List Rs.Ans} {ss : List Rs.Stp} {k : Nat} {a : Rs.Ans} {s : Rs.Stp} (ha : an[k]? = some a) (hs : ss[k]? = some s) : (Rs.stsV its an ss).take (k + 1) = (Rs.stsV its an ss).take k ++ [Rs.stpV its a s] := by
  unfold Rs.stsV
  rw [List.take_add_one, List.getElem?_zipWith, ha, hs]
  rfl
theorem stsV_len {its : List It.Item} {an : List Rs.Ans} {ss : List Rs.Stp} (h : an.length = ss.length) : (Rs.stsV its an ss).length = ss.length := by unfold Rs.stsV; rw [List.length_zipWith, h, Nat.min_self]
theorem scl_one (x y : Int) : (#[.int .i64 x, .int .i64 y] : Array Value).all (·.oneCell') = true := by
  rw [Array.all_eq_true_iff_forall_mem]
  intro v hv
  simp at hv
  rcases hv with rfl | rfl <;> rfl
theorem infoSt (x y : Int) : (Tryz.prog.info? 50).map (·.size) = some (#[.int .i64 x, .int .i64 y] : Array Value).size := by kernel_rfl
/-- The row of scored steps: the ones that are done, and zeros behind. -/
def OutS (w : World) (g n : Nat) (l : List Rs.Stp) : Prop := RowW w 2 g (l.map scl ++ List.replicate (n - l.length) ([.int .i64 0, .int .i64 0] : List Value))
theorem OutS.made (w : World) (n : Nat) (t : TypeId) : OutS (w.alloc (.cells (madeCells ([.int .i64 0, .int .i64 0] : List Value).toArray (n * 2)) t)) w.heap.size n [] := by
  have := RowW.made w 2 n ([.int .i64 0, .int .i64 0] : List Value) rfl t
  simpa [OutS] using this
theorem OutS.put {w : World} {g n : Nat} {l : List Rs.Stp} (h : OutS w g n l) (hn : l.length < n) (s : Rs.Stp) : OutS (w.setCells g (l.length * 2) (#[.int .i64 s.1, .int .i64 s.2] : Array Value).toList) g n (l ++ [s]) := by
  have h1 := RowW.set h (i := l.length) (by simp; omega) (cs := scl s) rfl
  have e : (l.map scl ++ List.replicate (n - l.length) ([.int .i64 0, .int .i64 0] : List Value)).set l.length (scl s) = (l ++ [s]).map scl ++ List.replicate (n - (l ++ [s]).length) ([.int .i64 0, .int .i64 0] : List Value) := by
    have := row_step (l := l.map scl) (z := ([.int .i64 0, .int .i64 0] : List Value)) (v := scl s) (m := n - (l.length + 1))
    rw [List.length_map] at this
    rw [show n - l.length = n - (l.length + 1) + 1 by omega, this]
    simp
  rw [e] at h1
  exact h1
theorem OutS.sl {w : World} {g n : Nat} {l : List Rs.Stp} (h : OutS w g n l) (hn : l.length = n) : SlSt w (some ⟨g, 0, none⟩) l := by
  have := RowW.sl h
  rw [hn, Nat.sub_self, List.replicate_zero, List.append_nil] at this
  exact this
theorem OutS.there {w : World} {g n : Nat} {l : List Rs.Stp} (h : OutS w g n l) (hn : l.length < n) : w.there g (l.length * 2) 2 := RowW.part h (i := l.length) (by simp; omega)
/-- The row of scored steps that is appended to. -/
def OwnS (B w : World) (v : Value) (l : List Rs.Stp) : Prop := w.ownsRow B.heap.size 50 2 v l.length (l.map scl).flatten
theorem OwnS.sl {B w : World} {v : Value} {l : List Rs.Stp} (h : OwnS B w v l) : ∃ A c, v = .slice A l.length c ∧ l.length ≤ c ∧ c ≤ maxLen ∧ SlSt w A l := by
  obtain ⟨A, c, h1, h2, h3, h4⟩ := Sl.of_own (k := 2) (xs := l.map scl) (fun c hc => by obtain ⟨s, -, rfl⟩ := List.mem_map.1 hc; rfl) (List.length_map _) h
  rw [List.length_map] at h1 h2
  exact ⟨A, c, h1, h2, h3, h4⟩
end Rt
theorem Tryz.infoStep : (Tryz.prog.info? 50).map (fun i => (i.zero, i.size, i.bytes)) = some (some (.agg #[.int .i64 0, .int .i64 0]), 2, 16) := by kernel_rfl
theorem make_st (n : Nat) (hn : n ≤ 1000) (w : World) : (Instr.makeSlice 24 (.int .i64 (n : Int)) (.int .i64 (n : Int))).run Tryz.prog w = .ok (.slice (some ⟨w.heap.size, 0, none⟩) n n) (w.alloc (.cells (madeCells ([.int .i64 0, .int .i64 0] : List Value).toArray (n * 2)) 50)) := by
  obtain ⟨i, hi, hzz⟩ := Option.map_eq_some_iff.1 Tryz.infoStep
  simp only [Prod.mk.injEq] at hzz
  obtain ⟨hz, hs, hb⟩ := hzz
  have hr := run_make (P := Tryz.prog) w 24 50 i _ Tryz.underlying24 hi hz .i64 .i64 n n (by omega) (Int.le_refl _) (by rw [hb]; omega) (by omega)
  simp only [Int.toNat_natCast, hs] at hr
  exact hr
/-- What each operation of the region leaves. -/
def rtfkL (b off n c kk b2 off2 m c2 k : Nat) (CA CB : Array Value) (q e : Int) : List (Option Value → World → Prop) := [fun u _ => u = some (.slice (some ⟨b, off, none⟩) n c),
  fun u _ => u = some (.int .i64 (kk : Int)),
  fun u _ => u = some (.pointer (some ⟨b, off + kk * 17, none⟩)),
  fun u _ => u = some (.agg CA),
  fun u _ => u = some (.slice (some ⟨b2, off2, none⟩) m c2),
  fun u _ => u = some (.int .i64 (k : Int)),
  fun u _ => u = some (.pointer (some ⟨b2, off2 + k * 5, none⟩)),
  fun u _ => u = some (.agg CB),
  fun u _ => u = some (.tuple #[.int .i64 q, .int .i64 e]),
  fun u _ => u = some (.tuple #[.int .i64 q, .int .i64 e]),
  fun u _ => u = some (.int .i64 q),
  fun u _ => u = some (.int .i64 e),
  fun u _ => u = some (.int .i64 q),
  fun u _ => u = some (.int .i64 e)]
theorem rtfkL_mono (b off n c kk b2 off2 m c2 k : Nat) (CA CB : Array Value) (q e : Int) : AllMono (rtfkL b off n c kk b2 off2 m c2 k CA CB q e) := ⟨mono_val _, mono_val _, mono_val _, mono_val _, mono_val _, mono_val _, mono_val _, mono_val _, mono_val _, mono_val _, mono_val _, mono_val _, mono_val _, mono_val _, trivial⟩
def rtfkR (b off n c kk b2 off2 m c2 k : Nat) (CA CB : Array Value) (q e : Int) (j : Nat) (u : Option Value) (w : World) : Prop := (rtfkL b off n c kk b2 off2 m c2 k CA CB q e).getD j (fun _ _ => True) u w
theorem rtfkR_ext (b off n c kk b2 off2 m c2 k : Nat) (CA CB : Array Value) (q e : Int) (j : Nat) (u : Option Value) (w w' : World) (he : Ext w w') (h : rtfkR b off n c kk b2 off2 m c2 k CA CB q e j u w) : rtfkR b off n c kk b2 off2 m c2 k CA CB q e j u w' := ((rtfkL_mono b off n c kk b2 off2 m c2 k CA CB q e).at_ j) u w w' he h
def rtfkD : List Nat := [53, 54, 55, 56, 57, 58, 59, 60, 61, 52, 62, 63, 13, 14]
def rtfkE (b off n c kk b2 off2 m c2 k : Nat) (t : Array Value) : Prop := t.getD 0 undef = .slice (some ⟨b, off, none⟩) n c ∧ t.getD 1 undef = .slice (some ⟨b2, off2, none⟩) m c2 ∧ t.getD 10 undef = .int .i64 (k : Int) ∧ t.getD 12 undef = .int .i64 (kk : Int) ∧ t.size = 76
set_option maxRecDepth 100000 in
set_option maxHeartbeats 25600000 in
theorem ksteps_any (A : Option Addr) (c : Nat) (xs : List Rt.ItL) (A2 : Option Addr) (c2 : Nat) (al : List Rt.AnL) (A3 : Option Addr) (c3 : Nat) (ss : List Rs.Stp) {n m s : Nat} (hn : xs.length = n) (hm : al.length = m) (hs : ss.length = s) (w : World) (h : Rt.SlIt w A xs) (h2 : Rt.SlAn w A2 al) (h3 : Rt.SlSt w A3 ss) (hl : n ≤ 9223372036854775807) (hl2 : m ≤ 9223372036854775807) (hl3 : s ≤ 9223372036854775807) (hg : Gm w) :
    Calls Tryz.prog 9 #[.slice A n c, .slice A2 m c2, .slice A3 s c3] w fun e w' => Rt.RetSt (Rs.stsE (Rt.its xs) (Rt.ans al) ss) (Rs.stsL (Rt.its xs) (Rt.ans al) ss) e w' ∧ Ext w w' := by
  have H := Lib.hid h
  have H2 := Lib.hid h2
  have H3 := Lib.hid h3
  have HN := Lib.hid hn
  have HM := Lib.hid hm
  have HS0 := Lib.hid hs
  have HG := Lib.hid hg
  have HAL : Hid ((Rt.ans al).length = m) := Lib.hid ((Rt.ans_len al).trans hm)
  obtain ⟨er, her⟩ : ∃ er, Rs.stsE (Rt.its xs) (Rt.ans al) ss = er := ⟨_, rfl⟩
  obtain ⟨ol, hol⟩ : ∃ ol, Rs.stsL (Rt.its xs) (Rt.ans al) ss = ol := ⟨_, rfl⟩
  rw [her, hol]
  have HER := Lib.hid her
  have HOL := Lib.hid hol
  have HBAD : Hid (er ≠ 0 → ol = []) := Lib.hid (fun h => by rw [← hol]; exact Rt.stsL_bad (by rw [her]; exact h))
  obtain ⟨v, hv⟩ : ∃ v, Rs.chkI (Rt.its xs) = v := ⟨_, rfl⟩
  have HV := Lib.hid hv
  have ENS := Lib.hid (enters_of Tryz.func26 (by kernel_rfl) rfl)
  clear h h2 h3 hn hm hs her hol hv hg
  by_cases h18 : 18 < s
  · have HF : Hid (er = 5) := Lib.hid (by rw [← HER.out, Rt.stsE_many (by rw [HS0.out]; exact h18)])
    have HF2 : Hid (ol = []) := Lib.hid (HBAD.out (by rw [HF.out]; decide))
    go_enter Tryz.func9, Tryz.ntmps9
    go_wp2
    go_ret2
    rw [HF2.out, HF.out]
    exact ⟨Rt.RetSt.none 5 _, Ext.refl _⟩
  by_cases hms : m = s
  case neg =>
    have HF : Hid (er = 1) := Lib.hid (by rw [← HER.out, Rt.stsE_len (by rw [HS0.out]; omega) (by rw [HAL.out, HS0.out]; exact hms)])
    have HF2 : Hid (ol = []) := Lib.hid (HBAD.out (by rw [HF.out]; decide))
    have t0 : ((m : Int) != (s : Int)) = true := by rw [bne_iff_ne]; omega
    clear hms
    go_enter Tryz.func9, Tryz.ntmps9
    go_wp2
    go_ret2
    rw [HF2.out, HF.out]
    exact ⟨Rt.RetSt.none 1 _, Ext.refl _⟩
  subst hms
  have t0 : ((m : Int) != (m : Int)) = false := by simp
  have m18 : m ≤ 18 := by omega
  clear h18
  go_enter Tryz.func9, Tryz.ntmps9
  go_wp2_with fail
  with_reducible refine (kcheck_any A c xs HN.out HV.out w H.out hl HG.out).mono ?_
  rintro e w0 ⟨rfl, hb0⟩
  have HX0 := Lib.hid hb0
  clear hb0
  by_cases hv0 : v = 0
  case neg =>
    have t1 : (v != 0) = true := by rw [bne_iff_ne]; exact hv0
    have HF : Hid (er = v) := Lib.hid (by rw [← HER.out, Rt.stsE_chk (by rw [HS0.out]; omega) (by rw [HAL.out, HS0.out]) (by rw [HV.out]; exact hv0), HV.out])
    have HF2 : Hid (ol = []) := Lib.hid (HBAD.out (by rw [HF.out]; exact hv0))
    clear hv0
    go_wp2
    go_ret2
    rw [HF2.out, HF.out]
    exact ⟨Rt.RetSt.none v _, HX0.out⟩
  subst hv0
  have HT : Hid (er = Rs.fstN (Rs.stpA (Rt.its xs) (Rt.ans al) ss) m) := Lib.hid (by rw [← HER.out, Rt.stsE_rest (by rw [HS0.out]; omega) (by rw [HAL.out, HS0.out]) HV.out, HS0.out])
  have n60 : n ≤ 60 := by have := Rs.chkI_few HV.out; rw [Rt.its_len, HN.out] at this; exact this
  have hmk := make_st m (by omega)
  go_wp2
  have HZ1 : Hid (w.heap.size ≤ w0.heap.size) := Lib.hid HX0.out.size
  have HO0 : Hid (Rt.OutS (w0.alloc (.cells (madeCells ([.int .i64 0, .int .i64 0] : List Value).toArray (m * 2)) 50)) w0.heap.size m ((Rs.stsV (Rt.its xs) (Rt.ans al) ss).take 0)) := Lib.hid (Rt.OutS.made w0 m _)
  have HE1 : Hid (Ext w (w0.alloc (.cells (madeCells ([.int .i64 0, .int .i64 0] : List Value).toArray (m * 2)) 50))) := Lib.hid (HX0.out.alloc _)
  generalize hG : w0.heap.size = G at HO0 HZ1 ⊢
  clear hG HX0 hmk
  go_loopw [33] (fun i wr => ∃ k : Nat, k ≤ m ∧ i = .int .i64 k ∧ Hid (Rs.fstN (Rs.stpA (Rt.its xs) (Rt.ans al) ss) k = 0) ∧ Hid (Rt.OutS wr G m ((Rs.stsV (Rt.its xs) (Rt.ans al) ss).take k)) ∧ Hid (Ext w wr)) (fun i _ => m - (intOf i).toNat)
  case atStart => exact ⟨0, by omega, rfl, Lib.hid rfl, HO0, HE1⟩
  case round =>
    clear HO0 HE1
    obtain ⟨k, hk, rfl, HZ, HO, HE⟩ := hrel
    by_cases hlt : k < m
    · obtain ⟨st, hst⟩ : ∃ x, ss[k]? = some x := ⟨ss[k]'(by rw [HS0.out]; exact hlt), List.getElem?_eq_getElem _⟩
      obtain ⟨an, han⟩ : ∃ x, al[k]? = some x := ⟨al[k]'(by rw [HM.out]; exact hlt), List.getElem?_eq_getElem _⟩
      obtain ⟨b3, off3, rfl, hb3', s0, s1⟩ := (H3.out.ext HE.out).at_ hst
      obtain ⟨b2, off2, rfl, hb2', ha, hain⟩ := (H2.out.ext HE.out).at_ han
      obtain ⟨CB, hcb, hnb, -, hkb⟩ := Rs.Ans.packed an.1 an.2
      have HRB0 : Hid (wr.rangeAt b2 (off2 + k * 5) CB.toList) := Lib.hid (by rw [← hkb]; exact ha)
      have ca0 : wr.cell? ⟨b2, off2 + k * 5, none⟩ = some (.int .i64 an.1.item) := ha 0 _ rfl
      have IB := Lib.hid (Rt.infoAn hnb)
      have HIB0 := Lib.hid hain
      have HST := Lib.hid hst
      have HAN := Lib.hid (Rt.ans_at han)
      have HSA := Lib.hid (Rs.stpA_at (its := Rt.its xs) (Rt.ans_at han) hst)
      obtain ⟨i, hi⟩ : ∃ i, Rt.ixV (Rs.fnd (Rt.its xs) st.1) = i := ⟨_, rfl⟩
      have HXI := Lib.hid hi
      have HSC := Lib.hid (fun (x : Rt.ItL) => kscore_any x.1 x.2 an.1 an.2)
      rw [hcb] at HSC
      have ki0 : (0 : Int) ≤ (k : Int) := by omega
      have ki1 : (k : Int) < (m : Int) := by omega
      have X0 : Ext wr (wr.alloc (.cells #[.int .i64 st.1, .int .i64 st.2] 50)) := (Ext.refl _).alloc _
      have HIX := Lib.hid (kindex_it A c xs HN.out st.1 hi _ (H.out.ext (HE.out.trans X0)) hl)
      clear hst han ha hain hcb hnb hkb hi
      go_wp2_with fail
      with_reducible refine HIX.out.mono ?_
      rintro e w3 ⟨rfl, hb3⟩
      have X3 := Lib.hid (X0.trans hb3)
      have c0 : w3.cell? ⟨wr.heap.size, 0, none⟩ = some (.int .i64 st.1) := hb3.keep (World.cell?_alloc_new _ _ _ _)
      have ca1 := X3.out.keep ca0
      have HCC := Lib.hid c0
      clear hb3 X0 ca0 s0 s1
      have HE3 := Lib.hid (HE.out.trans X3.out)
      by_cases hi0 : i < 0
      · have HF : Hid (er = 6) := Lib.hid (by rw [HT.out]; exact Rs.fstN_hit hlt HZ.out (HSA.out.trans (Rs.stpE_none (Rt.fnd_neg HXI.out hi0))) (by decide))
        have HF2 : Hid (ol = []) := Lib.hid (HBAD.out (by rw [HF.out]; decide))
        go_wp2
        go_ret2
        rw [HF2.out, HF.out]
        exact ⟨Rt.RetSt.none 6 _, HE3.out⟩
      obtain ⟨kk, y, hik, hf, hy⟩ := Rt.fnd_ix HXI.out (by omega)
      subst hik
      have hkn : kk < n := by rw [← HN.out]; exact (List.getElem?_eq_some_iff.1 hy).1
      have HFD := Lib.hid hf
      have HIY := Lib.hid (Rt.its_at hy)
      by_cases hit : an.1.item = st.1
      case neg =>
        have t2 : (an.1.item != st.1) = true := by rw [bne_iff_ne]; exact hit
        have HF : Hid (er = 1) := Lib.hid (by rw [HT.out]; exact Rs.fstN_hit hlt HZ.out (HSA.out.trans (Rs.stpE_not hf hit)) (by decide))
        have HF2 : Hid (ol = []) := Lib.hid (HBAD.out (by rw [HF.out]; decide))
        clear hit hf hy
        go_wp2_with fail
        go_quiet (fail)
        go_wp2
        go_ret2
        rw [HF2.out, HF.out]
        exact ⟨Rt.RetSt.none 1 _, HE3.out.drewN _⟩
      have t2 : (an.1.item != st.1) = false := by rw [hit]; simp
      obtain ⟨b, off, rfl, hb', hyr, hyin⟩ := (H.out.ext HE3.out).at_ hy
      obtain ⟨CA, hca, hna, -, hka⟩ := rs_packed y.1 y.2
      obtain ⟨q, hq⟩ : ∃ q, Rs.sc y.1 an.1 = q := ⟨_, rfl⟩
      obtain ⟨e, he⟩ : ∃ e, Rs.scE y.1 an.1 = e := ⟨_, rfl⟩
      have HS : Hid (∀ w, It.In w y.1 y.2 → an.1.In w an.2 → Gm w → Calls Tryz.prog 26 #[.agg CA, .agg CB] w fun r w' => r = .returned (.tuple #[.int .i64 q, .int .i64 e]) ∧ Ext w w') := Lib.hid (fun w h1 h2 h3 => by
        have := HSC.out y w h1 h2 (fun w' he => h3.ext he)
        rw [hca, hq, he] at this
        exact this)
      have HSE : Hid (Rs.stpA (Rt.its xs) (Rt.ans al) ss k = e) := Lib.hid (by rw [HSA.out, Rs.stpE_some hf hit HIY.out]; exact he)
      have HSV : Hid (Rs.stpV (Rt.its xs) an.1 st = (st.1, q)) := Lib.hid (by rw [Rs.stpV_some hf HIY.out, hq])
      have HRA0 : Hid (w3.rangeAt b (off + kk * 17) CA.toList) := Lib.hid (by rw [← hka]; exact hyr)
      have HIA0 := Lib.hid hyin
      have IA := Lib.hid (Rt.infoItem hna)
      have ki : (kk : Int) < (n : Int) := by omega
      have KI := Lib.hid (And.intro ki hkn)
      have KJ := Lib.hid (And.intro ki1 hlt)
      clear hit hf hy hyr hyin hca hna hka hq he ki
      go_wp2_with fail
      go_quiet (fail)
      have HRA := Lib.hid (((Ext.refl w3).drewN nq).range HRA0.out)
      have HRB := Lib.hid ((X3.out.drewN nq).range HRB0.out)
      have HIA := Lib.hid (HIA0.out.ext ((Ext.refl w3).drewN nq))
      have HIB := Lib.hid (HIB0.out.ext (X3.out.drewN nq))
      have HG2 := Lib.hid (HG.out.ext (HE3.out.drewN nq))
      go_wp2_with fail
      refine region_tb (by kernel_rfl) (by decide +kernel) (rtfkE b off n c kk b2 off2 m c2 k) ⟨rfl, rfl, rfl, rfl, rfl⟩ 14 rtfkD (fun _ => none) (rtfkR b off n c kk b2 off2 m c2 k CA CB q e) (w3.drewN nq) (Ext.refl _) (fun i h1 h2 => absurd h2 (Nat.not_lt.2 h1)) ?_ ?_
      · intro Tv dd lv U wz i o hE ho hlv hd hT
        obtain ⟨t0, t1, t10, t12, tz⟩ := hE
        have hx := hT.ext
        match i, ho, hlv, hd with
        | 0, ho, hlv, hd =>
          obtain rfl := Option.some.inj ho
          have v0 := eval_old (d := dd) (hT.out 0 (by decide)) (by omega) t0
          refine tbw_yield (v := .slice (some ⟨b, off, none⟩) n c) (rtfkR_ext b off n c kk b2 off2 m c2 k CA CB q e) hT ho hd (wanted_plain rfl) rfl (by decide) (by decide) ?_ (Ext.refl _) rfl
          generalize Act.eval ⟨over Tv U, dd⟩ = ev at *
          simp [execOp, go_sem, v0]
        | 1, ho, hlv, hd =>
          obtain rfl := Option.some.inj ho
          have v0 := eval_old (d := dd) (hT.out 12 (by decide)) (by omega) t12
          refine tbw_yield (v := .int .i64 (kk : Int)) (rtfkR_ext b off n c kk b2 off2 m c2 k CA CB q e) hT ho hd (wanted_plain rfl) rfl (by decide) (by decide) ?_ (Ext.refl _) rfl
          generalize Act.eval ⟨over Tv U, dd⟩ = ev at *
          simp [execOp, go_sem, v0]
        | 2, ho, hlv, hd =>
          obtain rfl := Option.some.inj ho
          have f0 : U 53 = some (.slice (some ⟨b, off, none⟩) n c) := hT.facts 0 (by decide) (dep hd 0 (by kernel_rfl)) (fun c e => by cases e)
          have v0 : Act.eval ⟨over Tv U, dd⟩ (.tmp 53) = _ := eval_new (t := Tv) (d := dd) f0 (by show 53 < Tv.size; omega)
          have f1 : U 54 = some (.int .i64 (kk : Int)) := hT.facts 1 (by decide) (dep hd 1 (by kernel_rfl)) (fun c e => by cases e)
          have v1 : Act.eval ⟨over Tv U, dd⟩ (.tmp 54) = _ := eval_new (t := Tv) (d := dd) f1 (by show 54 < Tv.size; omega)
          have ki := KI.out
          refine tbw_yield (v := .pointer (some ⟨b, off + kk * 17, none⟩)) (rtfkR_ext b off n c kk b2 off2 m c2 k CA CB q e) hT ho hd (wanted_plain rfl) rfl (by decide) (by decide) ?_ (Ext.refl _) rfl
          generalize Act.eval ⟨over Tv U, dd⟩ = ev at *
          simp [execOp, go_sem, v0, v1, ki]
        | 3, ho, hlv, hd =>
          obtain rfl := Option.some.inj ho
          have f0 : U 55 = some (.pointer (some ⟨b, off + kk * 17, none⟩)) := hT.facts 2 (by decide) (dep hd 2 (by kernel_rfl)) (fun c e => by cases e)
          have v0 : Act.eval ⟨over Tv U, dd⟩ (.tmp 55) = _ := eval_new (t := Tv) (d := dd) f0 (by show 55 < Tv.size; omega)
          refine tbw_yield (v := .agg CA) (rtfkR_ext b off n c kk b2 off2 m c2 k CA CB q e) hT ho hd (wanted_plain rfl) rfl (by decide) (by decide) (exec_load_arr _ _ rfl b (off + kk * 17) v0 CA _ (hx.range HRA.out) Tryz.underlying55 rfl IA.out) (Ext.refl _) rfl
        | 4, ho, hlv, hd =>
          obtain rfl := Option.some.inj ho
          have v0 := eval_old (d := dd) (hT.out 1 (by decide)) (by omega) t1
          refine tbw_yield (v := .slice (some ⟨b2, off2, none⟩) m c2) (rtfkR_ext b off n c kk b2 off2 m c2 k CA CB q e) hT ho hd (wanted_plain rfl) rfl (by decide) (by decide) ?_ (Ext.refl _) rfl
          generalize Act.eval ⟨over Tv U, dd⟩ = ev at *
          simp [execOp, go_sem, v0]
        | 5, ho, hlv, hd =>
          obtain rfl := Option.some.inj ho
          have v0 := eval_old (d := dd) (hT.out 10 (by decide)) (by omega) t10
          refine tbw_yield (v := .int .i64 (k : Int)) (rtfkR_ext b off n c kk b2 off2 m c2 k CA CB q e) hT ho hd (wanted_plain rfl) rfl (by decide) (by decide) ?_ (Ext.refl _) rfl
          generalize Act.eval ⟨over Tv U, dd⟩ = ev at *
          simp [execOp, go_sem, v0]
        | 6, ho, hlv, hd =>
          obtain rfl := Option.some.inj ho
          have f0 : U 57 = some (.slice (some ⟨b2, off2, none⟩) m c2) := hT.facts 4 (by decide) (dep hd 4 (by kernel_rfl)) (fun c e => by cases e)
          have v0 : Act.eval ⟨over Tv U, dd⟩ (.tmp 57) = _ := eval_new (t := Tv) (d := dd) f0 (by show 57 < Tv.size; omega)
          have f1 : U 58 = some (.int .i64 (k : Int)) := hT.facts 5 (by decide) (dep hd 5 (by kernel_rfl)) (fun c e => by cases e)
          have v1 : Act.eval ⟨over Tv U, dd⟩ (.tmp 58) = _ := eval_new (t := Tv) (d := dd) f1 (by show 58 < Tv.size; omega)
          have ki := KJ.out
          refine tbw_yield (v := .pointer (some ⟨b2, off2 + k * 5, none⟩)) (rtfkR_ext b off n c kk b2 off2 m c2 k CA CB q e) hT ho hd (wanted_plain rfl) rfl (by decide) (by decide) ?_ (Ext.refl _) rfl
          generalize Act.eval ⟨over Tv U, dd⟩ = ev at *
          simp [execOp, go_sem, v0, v1, ki]
        | 7, ho, hlv, hd =>
          obtain rfl := Option.some.inj ho
          have f0 : U 59 = some (.pointer (some ⟨b2, off2 + k * 5, none⟩)) := hT.facts 6 (by decide) (dep hd 6 (by kernel_rfl)) (fun c e => by cases e)
          have v0 : Act.eval ⟨over Tv U, dd⟩ (.tmp 59) = _ := eval_new (t := Tv) (d := dd) f0 (by show 59 < Tv.size; omega)
          refine tbw_yield (v := .agg CB) (rtfkR_ext b off n c kk b2 off2 m c2 k CA CB q e) hT ho hd (wanted_plain rfl) rfl (by decide) (by decide) (exec_load_arr _ _ rfl b2 (off2 + k * 5) v0 CB _ (hx.range HRB.out) Tryz.underlying64 rfl IB.out) (Ext.refl _) rfl
        | 8, ho, hlv, hd =>
          obtain rfl := Option.some.inj ho
          have f0 : U 56 = some (.agg CA) := hT.facts 3 (by decide) (dep hd 3 (by kernel_rfl)) (fun c e => by cases e)
          have v0 : Act.eval ⟨over Tv U, dd⟩ (.tmp 56) = _ := eval_new (t := Tv) (d := dd) f0 (by show 56 < Tv.size; omega)
          have f1 : U 60 = some (.agg CB) := hT.facts 7 (by decide) (dep hd 7 (by kernel_rfl)) (fun c e => by cases e)
          have v1 : Act.eval ⟨over Tv U, dd⟩ (.tmp 60) = _ := eval_new (t := Tv) (d := dd) f1 (by show 60 < Tv.size; omega)
          refine tbw_call (f := 26) (args := #[.agg CA, .agg CB]) (rtfkR_ext b off n c kk b2 off2 m c2 k CA CB q e) hT ho hd (wanted_plain rfl) rfl (by decide) (by decide) (exec_call2 rfl rfl v0 v1 ENS.out) ?_
          refine (HS.out wz (HIA.out.ext hx) (HIB.out.ext hx) (HG2.out.ext hx)).mono ?_
          rintro e w' ⟨rfl, hb⟩
          exact ⟨_, rfl, hb, rfl⟩
        | 9, ho, hlv, hd =>
          obtain rfl := Option.some.inj ho
          have f0 : U 61 = some (.tuple #[.int .i64 q, .int .i64 e]) := hT.facts 8 (by decide) (dep hd 8 (by kernel_rfl)) (fun c e => by cases e)
          have v0 : Act.eval ⟨over Tv U, dd⟩ (.tmp 61) = _ := eval_new (t := Tv) (d := dd) f0 (by show 61 < Tv.size; omega)
          refine tbw_yield (v := .tuple #[.int .i64 q, .int .i64 e]) (rtfkR_ext b off n c kk b2 off2 m c2 k CA CB q e) hT ho hd (wanted_plain rfl) rfl (by decide) (by decide) ?_ (Ext.refl _) rfl
          generalize Act.eval ⟨over Tv U, dd⟩ = ev at *
          simp [execOp, go_sem, v0]
        | 10, ho, hlv, hd =>
          obtain rfl := Option.some.inj ho
          have f0 : U 52 = some (.tuple #[.int .i64 q, .int .i64 e]) := hT.facts 9 (by decide) (dep hd 9 (by kernel_rfl)) (fun c e => by cases e)
          have v0 : Act.eval ⟨over Tv U, dd⟩ (.tmp 52) = _ := eval_new (t := Tv) (d := dd) f0 (by show 52 < Tv.size; omega)
          refine tbw_yield (v := .int .i64 q) (rtfkR_ext b off n c kk b2 off2 m c2 k CA CB q e) hT ho hd (wanted_plain rfl) rfl (by decide) (by decide) ?_ (Ext.refl _) rfl
          generalize Act.eval ⟨over Tv U, dd⟩ = ev at *
          simp [execOp, go_sem, v0]
        | 11, ho, hlv, hd =>
          obtain rfl := Option.some.inj ho
          have f0 : U 52 = some (.tuple #[.int .i64 q, .int .i64 e]) := hT.facts 9 (by decide) (dep hd 9 (by kernel_rfl)) (fun c e => by cases e)
          have v0 : Act.eval ⟨over Tv U, dd⟩ (.tmp 52) = _ := eval_new (t := Tv) (d := dd) f0 (by show 52 < Tv.size; omega)
          refine tbw_yield (v := .int .i64 e) (rtfkR_ext b off n c kk b2 off2 m c2 k CA CB q e) hT ho hd (wanted_plain rfl) rfl (by decide) (by decide) ?_ (Ext.refl _) rfl
          generalize Act.eval ⟨over Tv U, dd⟩ = ev at *
          simp [execOp, go_sem, v0]
        | 12, ho, hlv, hd =>
          obtain rfl := Option.some.inj ho
          have f0 : U 62 = some (.int .i64 q) := hT.facts 10 (by decide) (dep hd 10 (by kernel_rfl)) (fun c e => by cases e)
          have v0 : Act.eval ⟨over Tv U, dd⟩ (.tmp 62) = _ := eval_new (t := Tv) (d := dd) f0 (by show 62 < Tv.size; omega)
          refine tbw_yield (v := .int .i64 q) (rtfkR_ext b off n c kk b2 off2 m c2 k CA CB q e) hT ho hd (wanted_plain rfl) rfl (by decide) (by decide) ?_ (Ext.refl _) rfl
          generalize Act.eval ⟨over Tv U, dd⟩ = ev at *
          simp [execOp, go_sem, v0]
        | 13, ho, hlv, hd =>
          obtain rfl := Option.some.inj ho
          have f0 : U 63 = some (.int .i64 e) := hT.facts 11 (by decide) (dep hd 11 (by kernel_rfl)) (fun c e => by cases e)
          have v0 : Act.eval ⟨over Tv U, dd⟩ (.tmp 63) = _ := eval_new (t := Tv) (d := dd) f0 (by show 63 < Tv.size; omega)
          refine tbw_yield (v := .int .i64 e) (rtfkR_ext b off n c kk b2 off2 m c2 k CA CB q e) hT ho hd (wanted_plain rfl) rfl (by decide) (by decide) ?_ (Ext.refl _) rfl
          generalize Act.eval ⟨over Tv U, dd⟩ = ev at *
          simp [execOp, go_sem, v0]
        | i + 14, ho, _, _ => exact absurd ho (by simp)
      intro U wz hex hout hfin
      have f13 : U 13 = some (.int .i64 q) := hfin 12 (by decide) rfl
      have f14 : U 14 = some (.int .i64 e) := hfin 13 (by decide) rfl
      have XE := Lib.hid hex
      clear hex hfin
      rw [over_list]
      simp (disch := decide) only [overL, Nat.reduceAdd, hout, Option.getD_none]
      rw [f13, f14]
      simp only [Option.getD_some]
      clear hout f13 f14
      have X4 := Lib.hid ((X3.out.drewN nq).trans XE.out)
      have HE4 := Lib.hid ((HE3.out.drewN nq).trans XE.out)
      by_cases hq0 : e = 0
      case neg =>
        have t3 : (e != 0) = true := by rw [bne_iff_ne]; exact hq0
        have HF : Hid (er = e) := Lib.hid (by rw [HT.out]; exact Rs.fstN_hit hlt HZ.out HSE.out hq0)
        have HF2 : Hid (ol = []) := Lib.hid (HBAD.out (by rw [HF.out]; exact hq0))
        clear hq0
        go_wp2
        go_ret2
        rw [HF2.out, HF.out]
        exact ⟨Rt.RetSt.none e _, HE4.out⟩
      subst hq0
      have HZN : Hid (Rs.fstN (Rs.stpA (Rt.its xs) (Rt.ans al) ss) (k + 1) = 0) := Lib.hid (Rs.fstN_next HZ.out HSE.out)
      have HTK : Hid ((Rs.stsV (Rt.its xs) (Rt.ans al) ss).take (k + 1) = (Rs.stsV (Rt.its xs) (Rt.ans al) ss).take k ++ [(st.1, q)]) := Lib.hid (by rw [Rt.stsV_next HAN.out HST.out, HSV.out])
      have HTL : Hid (((Rs.stsV (Rt.its xs) (Rt.ans al) ss).take k).length = k) := Lib.hid (by rw [List.length_take, Rt.stsV_len (by rw [HAL.out, HS0.out]), HS0.out]; omega)
      have d0 : wz.cell? ⟨wr.heap.size, 0, none⟩ = some (.int .i64 st.1) := XE.out.keep (((Ext.refl w3).drewN nq).keep HCC.out)
      have HO3 := Lib.hid (RowW.ext HO.out X4.out)
      have HTH0 := Lib.hid (Rt.OutS.there HO3.out (by rw [HTL.out]; exact hlt))
      have HPUT := Lib.hid (Rt.OutS.put HO3.out (by rw [HTL.out]; exact hlt) (st.1, q))
      rw [HTL.out] at HTH0 HPUT
      rw [← HTK.out] at HPUT
      have HTH1 : Hid (wz.there G (k * 2) (#[.int .i64 st.1, .int .i64 q] : Array Value).size) := HTH0
      have ki2 : (k : Int) < (m : Int) := KJ.out.1
      go_wp2_with (with_reducible refine wpList_store_arr rfl 50 (.tmp 73) (.tmp 72) rfl G (k * 2) #[.int .i64 st.1, .int .i64 q] (by with_unfolding_all rfl) (by with_unfolding_all rfl) HTH1.out (Rt.infoSt st.1 q) (Rt.scl_one st.1 q) ?_)
      go_roundw
      case rel => exact ⟨k + 1, by omega, by go_num, HZN, HPUT, Lib.hid (Ext.setCells HZ1.out _ _ _ HE4.out)⟩
      case measure => simp [intOf]; omega
    · obtain rfl : m = k := by omega
      have HF : Hid (er = 0) := Lib.hid (by rw [HT.out]; exact HZ.out)
      have HF2 : Hid (ol = Rs.stsV (Rt.its xs) (Rt.ans al) ss) := Lib.hid (by rw [← HOL.out, Rt.stsL_ok (by rw [HER.out]; exact HF.out)])
      have HVL : Hid ((Rs.stsV (Rt.its xs) (Rt.ans al) ss).length = m) := Lib.hid (by rw [Rt.stsV_len (by rw [HAL.out, HS0.out]), HS0.out])
      have HTA : Hid ((Rs.stsV (Rt.its xs) (Rt.ans al) ss).take m = Rs.stsV (Rt.its xs) (Rt.ans al) ss) := Lib.hid (List.take_of_length_le (by rw [HVL.out]; exact Nat.le_refl _))
      have HSL := HO.out
      rw [HTA.out] at HSL
      go_wp2
      go_ret2
      rw [HF2.out, HF.out]
      exact ⟨⟨some ⟨G, 0, none⟩, m, by rw [HVL.out]; rfl, Rt.OutS.sl HSL HVL.out, by rw [HVL.out]; exact Nat.le_refl _, by unfold maxLen; omega⟩, HE.out⟩
/-- What each operation of the region leaves. -/
def rtfrL (b off n c kk b2 off2 m c2 k : Nat) (CA CB : Array Value) (q e : Int) : List (Option Value → World → Prop) := [fun u _ => u = some (.slice (some ⟨b, off, none⟩) n c),
  fun u _ => u = some (.int .i64 (kk : Int)),
  fun u _ => u = some (.pointer (some ⟨b, off + kk * 17, none⟩)),
  fun u _ => u = some (.agg CA),
  fun u _ => u = some (.slice (some ⟨b2, off2, none⟩) m c2),
  fun u _ => u = some (.int .i64 (k : Int)),
  fun u _ => u = some (.pointer (some ⟨b2, off2 + k * 5, none⟩)),
  fun u _ => u = some (.agg CB),
  fun u _ => u = some (.tuple #[.int .i64 q, .int .i64 e]),
  fun u _ => u = some (.tuple #[.int .i64 q, .int .i64 e]),
  fun u _ => u = some (.int .i64 q),
  fun u _ => u = some (.int .i64 e),
  fun u _ => u = some (.int .i64 q),
  fun u _ => u = some (.int .i64 e)]
theorem rtfrL_mono (b off n c kk b2 off2 m c2 k : Nat) (CA CB : Array Value) (q e : Int) : AllMono (rtfrL b off n c kk b2 off2 m c2 k CA CB q e) := ⟨mono_val _, mono_val _, mono_val _, mono_val _, mono_val _, mono_val _, mono_val _, mono_val _, mono_val _, mono_val _, mono_val _, mono_val _, mono_val _, mono_val _, trivial⟩
def rtfrR (b off n c kk b2 off2 m c2 k : Nat) (CA CB : Array Value) (q e : Int) (j : Nat) (u : Option Value) (w : World) : Prop := (rtfrL b off n c kk b2 off2 m c2 k CA CB q e).getD j (fun _ _ => True) u w
theorem rtfrR_ext (b off n c kk b2 off2 m c2 k : Nat) (CA CB : Array Value) (q e : Int) (j : Nat) (u : Option Value) (w w' : World) (he : Ext w w') (h : rtfrR b off n c kk b2 off2 m c2 k CA CB q e j u w) : rtfrR b off n c kk b2 off2 m c2 k CA CB q e j u w' := ((rtfrL_mono b off n c kk b2 off2 m c2 k CA CB q e).at_ j) u w w' he h
def rtfrD : List Nat := [55, 56, 57, 58, 59, 60, 61, 62, 63, 54, 64, 65, 12, 13]
def rtfrE (b off n c kk b2 off2 m c2 k : Nat) (t : Array Value) : Prop := t.getD 0 undef = .slice (some ⟨b, off, none⟩) n c ∧ t.getD 1 undef = .slice (some ⟨b2, off2, none⟩) m c2 ∧ t.getD 10 undef = .int .i64 (k : Int) ∧ t.getD 11 undef = .int .i64 (kk : Int) ∧ t.size = 80
set_option maxRecDepth 100000 in
set_option maxHeartbeats 25600000 in
theorem rsteps_any (A : Option Addr) (c : Nat) (xs : List Rt.ItL) (A2 : Option Addr) (c2 : Nat) (al : List Rt.AnL) (A3 : Option Addr) (c3 : Nat) (ss : List Rs.Stp) {n m s : Nat} (hn : xs.length = n) (hm : al.length = m) (hs : ss.length = s) (w : World) (h : Rt.SlIt w A xs) (h2 : Rt.SlAn w A2 al) (h3 : Rt.SlSt w A3 ss) (hl : n ≤ 9223372036854775807) (hl2 : m ≤ 9223372036854775807) (hl3 : s ≤ 9223372036854775807) :
    Calls Tryz.prog 10 #[.slice A n c, .slice A2 m c2, .slice A3 s c3] w fun e w' => Rt.RetSt (Rs.stsE (Rt.its xs) (Rt.ans al) ss) (Rs.stsL (Rt.its xs) (Rt.ans al) ss) e w' ∧ Ext w w' := by
  have H := Lib.hid h
  have H2 := Lib.hid h2
  have H3 := Lib.hid h3
  have HN := Lib.hid hn
  have HM := Lib.hid hm
  have HS0 := Lib.hid hs
  have HAL : Hid ((Rt.ans al).length = m) := Lib.hid ((Rt.ans_len al).trans hm)
  obtain ⟨er, her⟩ : ∃ er, Rs.stsE (Rt.its xs) (Rt.ans al) ss = er := ⟨_, rfl⟩
  obtain ⟨ol, hol⟩ : ∃ ol, Rs.stsL (Rt.its xs) (Rt.ans al) ss = ol := ⟨_, rfl⟩
  rw [her, hol]
  have HER := Lib.hid her
  have HOL := Lib.hid hol
  have HBAD : Hid (er ≠ 0 → ol = []) := Lib.hid (fun h => by rw [← hol]; exact Rt.stsL_bad (by rw [her]; exact h))
  obtain ⟨v, hv⟩ : ∃ v, Rs.chkI (Rt.its xs) = v := ⟨_, rfl⟩
  have HV := Lib.hid hv
  have ENS := Lib.hid (enters_of Tryz.func29 (by kernel_rfl) rfl)
  obtain ⟨i0, pi0, pz0, pz1, pz2⟩ := info_parts Tryz.infoStep
  clear h h2 h3 hn hm hs her hol hv
  by_cases h18 : 18 < s
  · have HF : Hid (er = 5) := Lib.hid (by rw [← HER.out, Rt.stsE_many (by rw [HS0.out]; exact h18)])
    have HF2 : Hid (ol = []) := Lib.hid (HBAD.out (by rw [HF.out]; decide))
    go_enter Tryz.func10, Tryz.ntmps10
    go_wp2
    go_ret2
    rw [HF2.out, HF.out]
    exact ⟨Rt.RetSt.none 5 _, Ext.refl _⟩
  by_cases hms : m = s
  case neg =>
    have HF : Hid (er = 1) := Lib.hid (by rw [← HER.out, Rt.stsE_len (by rw [HS0.out]; omega) (by rw [HAL.out, HS0.out]; exact hms)])
    have HF2 : Hid (ol = []) := Lib.hid (HBAD.out (by rw [HF.out]; decide))
    have t0 : ((m : Int) != (s : Int)) = true := by rw [bne_iff_ne]; omega
    clear hms
    go_enter Tryz.func10, Tryz.ntmps10
    go_wp2
    go_ret2
    rw [HF2.out, HF.out]
    exact ⟨Rt.RetSt.none 1 _, Ext.refl _⟩
  subst hms
  have t0 : ((m : Int) != (m : Int)) = false := by simp
  have m18 : m ≤ 18 := by omega
  clear h18
  go_enter Tryz.func10, Tryz.ntmps10
  go_wp2_with fail
  with_reducible refine (ritems_any A c xs HN.out HV.out w H.out hl).mono ?_
  rintro e w0 ⟨rfl, hb0⟩
  have HX0 := Lib.hid hb0
  clear hb0
  by_cases hv0 : v = 0
  case neg =>
    have t1 : (v != 0) = true := by rw [bne_iff_ne]; exact hv0
    have HF : Hid (er = v) := Lib.hid (by rw [← HER.out, Rt.stsE_chk (by rw [HS0.out]; omega) (by rw [HAL.out, HS0.out]) (by rw [HV.out]; exact hv0), HV.out])
    have HF2 : Hid (ol = []) := Lib.hid (HBAD.out (by rw [HF.out]; exact hv0))
    clear hv0
    go_wp2
    go_ret2
    rw [HF2.out, HF.out]
    exact ⟨Rt.RetSt.none v _, HX0.out⟩
  subst hv0
  have HT : Hid (er = Rs.fstN (Rs.stpA (Rt.its xs) (Rt.ans al) ss) m) := Lib.hid (by rw [← HER.out, Rt.stsE_rest (by rw [HS0.out]; omega) (by rw [HAL.out, HS0.out]) HV.out, HS0.out])
  have n60 : n ≤ 60 := by have := Rs.chkI_few HV.out; rw [Rt.its_len, HN.out] at this; exact this
  go_wp2
  have HO0 : Hid (Rt.OwnS w (w0.alloc (.cells #[] 50)) (.slice (some ⟨w0.heap.size, 0, none⟩) 0 0) ((Rs.stsV (Rt.its xs) (Rt.ans al) ss).take 0)) := Lib.hid ⟨by simp, Or.inr ⟨w0.heap.size, 0, #[], rfl, HX0.out.size, heap_alloc_new _ _, Nat.le_refl _, Nat.zero_le _, by simp, by simp⟩⟩
  have HE1 : Hid (Ext w (w0.alloc (.cells #[] 50))) := Lib.hid (HX0.out.alloc _)
  go_loopw [10, 9] (fun i v wr => ∃ k : Nat, k ≤ m ∧ i = .int .i64 k ∧ Hid (Rs.fstN (Rs.stpA (Rt.its xs) (Rt.ans al) ss) k = 0) ∧ Hid (Rt.OwnS w wr v ((Rs.stsV (Rt.its xs) (Rt.ans al) ss).take k)) ∧ Hid (Ext w wr) ∧ ∃ O oc, v = .slice O k oc) (fun i _ _ => m - (intOf i).toNat)
  case atStart => exact ⟨0, by omega, rfl, Lib.hid rfl, HO0, HE1, _, _, rfl⟩
  case round =>
    clear HX0 HO0 HE1
    obtain ⟨k, hk, rfl, HZ, HO, HE, O, oc, rfl⟩ := hrel
    by_cases hlt : k < m
    · obtain ⟨st, hst⟩ : ∃ x, ss[k]? = some x := ⟨ss[k]'(by rw [HS0.out]; exact hlt), List.getElem?_eq_getElem _⟩
      obtain ⟨an, han⟩ : ∃ x, al[k]? = some x := ⟨al[k]'(by rw [HM.out]; exact hlt), List.getElem?_eq_getElem _⟩
      obtain ⟨b3, off3, rfl, hb3', s0, s1⟩ := (H3.out.ext HE.out).at_ hst
      obtain ⟨b2, off2, rfl, hb2', ha, hain⟩ := (H2.out.ext HE.out).at_ han
      obtain ⟨CB, hcb, hnb, -, hkb⟩ := Rs.Ans.packed an.1 an.2
      have HRB0 : Hid (wr.rangeAt b2 (off2 + k * 5) CB.toList) := Lib.hid (by rw [← hkb]; exact ha)
      have ca0 : wr.cell? ⟨b2, off2 + k * 5, none⟩ = some (.int .i64 an.1.item) := ha 0 _ rfl
      have IB := Lib.hid (Rt.infoAn hnb)
      have HIB0 := Lib.hid hain
      have HST := Lib.hid hst
      have HAN := Lib.hid (Rt.ans_at han)
      have HSA := Lib.hid (Rs.stpA_at (its := Rt.its xs) (Rt.ans_at han) hst)
      obtain ⟨i, hi⟩ : ∃ i, Rt.ixV (Rs.fnd (Rt.its xs) st.1) = i := ⟨_, rfl⟩
      have HXI := Lib.hid hi
      have HSC := Lib.hid (fun (x : Rt.ItL) => rscore_any x.1 x.2 an.1 an.2)
      rw [hcb] at HSC
      have ki0 : (0 : Int) ≤ (k : Int) := by omega
      have ki1 : (k : Int) < (m : Int) := by omega
      have X0 : Ext wr wr := Ext.refl _
      have HIX := Lib.hid (rfind_it A c xs HN.out st.1 hi _ (H.out.ext HE.out) hl)
      have HS00 := Lib.hid s0
      have HCA0 := Lib.hid ca0
      clear hst han ha hain hcb hnb hkb hi s1
      go_wp2_with fail
      with_reducible refine HIX.out.mono ?_
      rintro e w3 ⟨rfl, rfl⟩
      have X3 : Hid (Ext wr wr) := Lib.hid X0
      have ca1 := HCA0.out
      clear X0 ca0
      have HE3 := Lib.hid (HE.out.trans X3.out)
      by_cases hi0 : i < 0
      · have HF : Hid (er = 6) := Lib.hid (by rw [HT.out]; exact Rs.fstN_hit hlt HZ.out (HSA.out.trans (Rs.stpE_none (Rt.fnd_neg HXI.out hi0))) (by decide))
        have HF2 : Hid (ol = []) := Lib.hid (HBAD.out (by rw [HF.out]; decide))
        go_wp2
        go_ret2
        rw [HF2.out, HF.out]
        exact ⟨Rt.RetSt.none 6 _, HE3.out⟩
      obtain ⟨kk, y, hik, hf, hy⟩ := Rt.fnd_ix HXI.out (by omega)
      subst hik
      have hkn : kk < n := by rw [← HN.out]; exact (List.getElem?_eq_some_iff.1 hy).1
      have HFD := Lib.hid hf
      have HIY := Lib.hid (Rt.its_at hy)
      by_cases hit : an.1.item = st.1
      case neg =>
        have t2 : (an.1.item != st.1) = true := by rw [bne_iff_ne]; exact hit
        have HF : Hid (er = 1) := Lib.hid (by rw [HT.out]; exact Rs.fstN_hit hlt HZ.out (HSA.out.trans (Rs.stpE_not hf hit)) (by decide))
        have HF2 : Hid (ol = []) := Lib.hid (HBAD.out (by rw [HF.out]; decide))
        clear hit hf hy
        go_wp2_with fail
        go_quiet (fail)
        go_wp2
        go_ret2
        rw [HF2.out, HF.out]
        exact ⟨Rt.RetSt.none 1 _, HE3.out.drewN _⟩
      have t2 : (an.1.item != st.1) = false := by rw [hit]; simp
      obtain ⟨b, off, rfl, hb', hyr, hyin⟩ := (H.out.ext HE3.out).at_ hy
      obtain ⟨CA, hca, hna, -, hka⟩ := rs_packed y.1 y.2
      obtain ⟨q, hq⟩ : ∃ q, Rs.sc y.1 an.1 = q := ⟨_, rfl⟩
      obtain ⟨e, he⟩ : ∃ e, Rs.scE y.1 an.1 = e := ⟨_, rfl⟩
      have HS : Hid (∀ w, It.In w y.1 y.2 → an.1.In w an.2 → Calls Tryz.prog 29 #[.agg CA, .agg CB] w fun r w' => r = .returned (.tuple #[.int .i64 q, .int .i64 e]) ∧ Ext w w') := Lib.hid (fun w h1 h2 => by
        have := HSC.out y w h1 h2
        rw [hca, hq, he] at this
        exact this)
      have HSE : Hid (Rs.stpA (Rt.its xs) (Rt.ans al) ss k = e) := Lib.hid (by rw [HSA.out, Rs.stpE_some hf hit HIY.out]; exact he)
      have HSV : Hid (Rs.stpV (Rt.its xs) an.1 st = (st.1, q)) := Lib.hid (by rw [Rs.stpV_some hf HIY.out, hq])
      have HRA0 : Hid (wr.rangeAt b (off + kk * 17) CA.toList) := Lib.hid (by rw [← hka]; exact hyr)
      have HIA0 := Lib.hid hyin
      have IA := Lib.hid (Rt.infoItem hna)
      have ki : (kk : Int) < (n : Int) := by omega
      have KI := Lib.hid (And.intro ki hkn)
      have KJ := Lib.hid (And.intro ki1 hlt)
      clear hit hf hy hyr hyin hca hna hka hq he ki
      go_wp2_with fail
      go_quiet (fail)
      have HRA := Lib.hid (((Ext.refl wr).drewN nq).range HRA0.out)
      have HRB := Lib.hid ((X3.out.drewN nq).range HRB0.out)
      have HIA := Lib.hid (HIA0.out.ext ((Ext.refl wr).drewN nq))
      have HIB := Lib.hid (HIB0.out.ext (X3.out.drewN nq))
      go_wp2_with fail
      refine region_tb (by kernel_rfl) (by decide +kernel) (rtfrE b off n c kk b2 off2 m c2 k) ⟨rfl, rfl, rfl, rfl, rfl⟩ 14 rtfrD (fun _ => none) (rtfrR b off n c kk b2 off2 m c2 k CA CB q e) (wr.drewN nq) (Ext.refl _) (fun i h1 h2 => absurd h2 (Nat.not_lt.2 h1)) ?_ ?_
      · intro Tv dd lv U wz i o hE ho hlv hd hT
        obtain ⟨t0, t1, t10, t11, tz⟩ := hE
        have hx := hT.ext
        match i, ho, hlv, hd with
        | 0, ho, hlv, hd =>
          obtain rfl := Option.some.inj ho
          have v0 := eval_old (d := dd) (hT.out 0 (by decide)) (by omega) t0
          refine tbw_yield (v := .slice (some ⟨b, off, none⟩) n c) (rtfrR_ext b off n c kk b2 off2 m c2 k CA CB q e) hT ho hd (wanted_plain rfl) rfl (by decide) (by decide) ?_ (Ext.refl _) rfl
          generalize Act.eval ⟨over Tv U, dd⟩ = ev at *
          simp [execOp, go_sem, v0]
        | 1, ho, hlv, hd =>
          obtain rfl := Option.some.inj ho
          have v0 := eval_old (d := dd) (hT.out 11 (by decide)) (by omega) t11
          refine tbw_yield (v := .int .i64 (kk : Int)) (rtfrR_ext b off n c kk b2 off2 m c2 k CA CB q e) hT ho hd (wanted_plain rfl) rfl (by decide) (by decide) ?_ (Ext.refl _) rfl
          generalize Act.eval ⟨over Tv U, dd⟩ = ev at *
          simp [execOp, go_sem, v0]
        | 2, ho, hlv, hd =>
          obtain rfl := Option.some.inj ho
          have f0 : U 55 = some (.slice (some ⟨b, off, none⟩) n c) := hT.facts 0 (by decide) (dep hd 0 (by kernel_rfl)) (fun c e => by cases e)
          have v0 : Act.eval ⟨over Tv U, dd⟩ (.tmp 55) = _ := eval_new (t := Tv) (d := dd) f0 (by show 55 < Tv.size; omega)
          have f1 : U 56 = some (.int .i64 (kk : Int)) := hT.facts 1 (by decide) (dep hd 1 (by kernel_rfl)) (fun c e => by cases e)
          have v1 : Act.eval ⟨over Tv U, dd⟩ (.tmp 56) = _ := eval_new (t := Tv) (d := dd) f1 (by show 56 < Tv.size; omega)
          have ki := KI.out
          refine tbw_yield (v := .pointer (some ⟨b, off + kk * 17, none⟩)) (rtfrR_ext b off n c kk b2 off2 m c2 k CA CB q e) hT ho hd (wanted_plain rfl) rfl (by decide) (by decide) ?_ (Ext.refl _) rfl
          generalize Act.eval ⟨over Tv U, dd⟩ = ev at *
          simp [execOp, go_sem, v0, v1, ki]
        | 3, ho, hlv, hd =>
          obtain rfl := Option.some.inj ho
          have f0 : U 57 = some (.pointer (some ⟨b, off + kk * 17, none⟩)) := hT.facts 2 (by decide) (dep hd 2 (by kernel_rfl)) (fun c e => by cases e)
          have v0 : Act.eval ⟨over Tv U, dd⟩ (.tmp 57) = _ := eval_new (t := Tv) (d := dd) f0 (by show 57 < Tv.size; omega)
          refine tbw_yield (v := .agg CA) (rtfrR_ext b off n c kk b2 off2 m c2 k CA CB q e) hT ho hd (wanted_plain rfl) rfl (by decide) (by decide) (exec_load_arr _ _ rfl b (off + kk * 17) v0 CA _ (hx.range HRA.out) Tryz.underlying55 rfl IA.out) (Ext.refl _) rfl
        | 4, ho, hlv, hd =>
          obtain rfl := Option.some.inj ho
          have v0 := eval_old (d := dd) (hT.out 1 (by decide)) (by omega) t1
          refine tbw_yield (v := .slice (some ⟨b2, off2, none⟩) m c2) (rtfrR_ext b off n c kk b2 off2 m c2 k CA CB q e) hT ho hd (wanted_plain rfl) rfl (by decide) (by decide) ?_ (Ext.refl _) rfl
          generalize Act.eval ⟨over Tv U, dd⟩ = ev at *
          simp [execOp, go_sem, v0]
        | 5, ho, hlv, hd =>
          obtain rfl := Option.some.inj ho
          have v0 := eval_old (d := dd) (hT.out 10 (by decide)) (by omega) t10
          refine tbw_yield (v := .int .i64 (k : Int)) (rtfrR_ext b off n c kk b2 off2 m c2 k CA CB q e) hT ho hd (wanted_plain rfl) rfl (by decide) (by decide) ?_ (Ext.refl _) rfl
          generalize Act.eval ⟨over Tv U, dd⟩ = ev at *
          simp [execOp, go_sem, v0]
        | 6, ho, hlv, hd =>
          obtain rfl := Option.some.inj ho
          have f0 : U 59 = some (.slice (some ⟨b2, off2, none⟩) m c2) := hT.facts 4 (by decide) (dep hd 4 (by kernel_rfl)) (fun c e => by cases e)
          have v0 : Act.eval ⟨over Tv U, dd⟩ (.tmp 59) = _ := eval_new (t := Tv) (d := dd) f0 (by show 59 < Tv.size; omega)
          have f1 : U 60 = some (.int .i64 (k : Int)) := hT.facts 5 (by decide) (dep hd 5 (by kernel_rfl)) (fun c e => by cases e)
          have v1 : Act.eval ⟨over Tv U, dd⟩ (.tmp 60) = _ := eval_new (t := Tv) (d := dd) f1 (by show 60 < Tv.size; omega)
          have ki := KJ.out
          refine tbw_yield (v := .pointer (some ⟨b2, off2 + k * 5, none⟩)) (rtfrR_ext b off n c kk b2 off2 m c2 k CA CB q e) hT ho hd (wanted_plain rfl) rfl (by decide) (by decide) ?_ (Ext.refl _) rfl
          generalize Act.eval ⟨over Tv U, dd⟩ = ev at *
          simp [execOp, go_sem, v0, v1, ki]
        | 7, ho, hlv, hd =>
          obtain rfl := Option.some.inj ho
          have f0 : U 61 = some (.pointer (some ⟨b2, off2 + k * 5, none⟩)) := hT.facts 6 (by decide) (dep hd 6 (by kernel_rfl)) (fun c e => by cases e)
          have v0 : Act.eval ⟨over Tv U, dd⟩ (.tmp 61) = _ := eval_new (t := Tv) (d := dd) f0 (by show 61 < Tv.size; omega)
          refine tbw_yield (v := .agg CB) (rtfrR_ext b off n c kk b2 off2 m c2 k CA CB q e) hT ho hd (wanted_plain rfl) rfl (by decide) (by decide) (exec_load_arr _ _ rfl b2 (off2 + k * 5) v0 CB _ (hx.range HRB.out) Tryz.underlying64 rfl IB.out) (Ext.refl _) rfl
        | 8, ho, hlv, hd =>
          obtain rfl := Option.some.inj ho
          have f0 : U 58 = some (.agg CA) := hT.facts 3 (by decide) (dep hd 3 (by kernel_rfl)) (fun c e => by cases e)
          have v0 : Act.eval ⟨over Tv U, dd⟩ (.tmp 58) = _ := eval_new (t := Tv) (d := dd) f0 (by show 58 < Tv.size; omega)
          have f1 : U 62 = some (.agg CB) := hT.facts 7 (by decide) (dep hd 7 (by kernel_rfl)) (fun c e => by cases e)
          have v1 : Act.eval ⟨over Tv U, dd⟩ (.tmp 62) = _ := eval_new (t := Tv) (d := dd) f1 (by show 62 < Tv.size; omega)
          refine tbw_call (f := 29) (args := #[.agg CA, .agg CB]) (rtfrR_ext b off n c kk b2 off2 m c2 k CA CB q e) hT ho hd (wanted_plain rfl) rfl (by decide) (by decide) (exec_call2 rfl rfl v0 v1 ENS.out) ?_
          refine (HS.out wz (HIA.out.ext hx) (HIB.out.ext hx)).mono ?_
          rintro e w' ⟨rfl, hb⟩
          exact ⟨_, rfl, hb, rfl⟩
        | 9, ho, hlv, hd =>
          obtain rfl := Option.some.inj ho
          have f0 : U 63 = some (.tuple #[.int .i64 q, .int .i64 e]) := hT.facts 8 (by decide) (dep hd 8 (by kernel_rfl)) (fun c e => by cases e)
          have v0 : Act.eval ⟨over Tv U, dd⟩ (.tmp 63) = _ := eval_new (t := Tv) (d := dd) f0 (by show 63 < Tv.size; omega)
          refine tbw_yield (v := .tuple #[.int .i64 q, .int .i64 e]) (rtfrR_ext b off n c kk b2 off2 m c2 k CA CB q e) hT ho hd (wanted_plain rfl) rfl (by decide) (by decide) ?_ (Ext.refl _) rfl
          generalize Act.eval ⟨over Tv U, dd⟩ = ev at *
          simp [execOp, go_sem, v0]
        | 10, ho, hlv, hd =>
          obtain rfl := Option.some.inj ho
          have f0 : U 54 = some (.tuple #[.int .i64 q, .int .i64 e]) := hT.facts 9 (by decide) (dep hd 9 (by kernel_rfl)) (fun c e => by cases e)
          have v0 : Act.eval ⟨over Tv U, dd⟩ (.tmp 54) = _ := eval_new (t := Tv) (d := dd) f0 (by show 54 < Tv.size; omega)
          refine tbw_yield (v := .int .i64 q) (rtfrR_ext b off n c kk b2 off2 m c2 k CA CB q e) hT ho hd (wanted_plain rfl) rfl (by decide) (by decide) ?_ (Ext.refl _) rfl
          generalize Act.eval ⟨over Tv U, dd⟩ = ev at *
          simp [execOp, go_sem, v0]
        | 11, ho, hlv, hd =>
          obtain rfl := Option.some.inj ho
          have f0 : U 54 = some (.tuple #[.int .i64 q, .int .i64 e]) := hT.facts 9 (by decide) (dep hd 9 (by kernel_rfl)) (fun c e => by cases e)
          have v0 : Act.eval ⟨over Tv U, dd⟩ (.tmp 54) = _ := eval_new (t := Tv) (d := dd) f0 (by show 54 < Tv.size; omega)
          refine tbw_yield (v := .int .i64 e) (rtfrR_ext b off n c kk b2 off2 m c2 k CA CB q e) hT ho hd (wanted_plain rfl) rfl (by decide) (by decide) ?_ (Ext.refl _) rfl
          generalize Act.eval ⟨over Tv U, dd⟩ = ev at *
          simp [execOp, go_sem, v0]
        | 12, ho, hlv, hd =>
          obtain rfl := Option.some.inj ho
          have f0 : U 64 = some (.int .i64 q) := hT.facts 10 (by decide) (dep hd 10 (by kernel_rfl)) (fun c e => by cases e)
          have v0 : Act.eval ⟨over Tv U, dd⟩ (.tmp 64) = _ := eval_new (t := Tv) (d := dd) f0 (by show 64 < Tv.size; omega)
          refine tbw_yield (v := .int .i64 q) (rtfrR_ext b off n c kk b2 off2 m c2 k CA CB q e) hT ho hd (wanted_plain rfl) rfl (by decide) (by decide) ?_ (Ext.refl _) rfl
          generalize Act.eval ⟨over Tv U, dd⟩ = ev at *
          simp [execOp, go_sem, v0]
        | 13, ho, hlv, hd =>
          obtain rfl := Option.some.inj ho
          have f0 : U 65 = some (.int .i64 e) := hT.facts 11 (by decide) (dep hd 11 (by kernel_rfl)) (fun c e => by cases e)
          have v0 : Act.eval ⟨over Tv U, dd⟩ (.tmp 65) = _ := eval_new (t := Tv) (d := dd) f0 (by show 65 < Tv.size; omega)
          refine tbw_yield (v := .int .i64 e) (rtfrR_ext b off n c kk b2 off2 m c2 k CA CB q e) hT ho hd (wanted_plain rfl) rfl (by decide) (by decide) ?_ (Ext.refl _) rfl
          generalize Act.eval ⟨over Tv U, dd⟩ = ev at *
          simp [execOp, go_sem, v0]
        | i + 14, ho, _, _ => exact absurd ho (by simp)
      intro U wz hex hout hfin
      have f12 : U 12 = some (.int .i64 q) := hfin 12 (by decide) rfl
      have f13 : U 13 = some (.int .i64 e) := hfin 13 (by decide) rfl
      have XE := Lib.hid hex
      clear hex hfin
      rw [over_list]
      simp (disch := decide) only [overL, Nat.reduceAdd, hout, Option.getD_none]
      rw [f12, f13]
      simp only [Option.getD_some]
      clear hout f12 f13
      have X4 := Lib.hid ((X3.out.drewN nq).trans XE.out)
      have HE4 := Lib.hid ((HE3.out.drewN nq).trans XE.out)
      by_cases hq0 : e = 0
      case neg =>
        have t3 : (e != 0) = true := by rw [bne_iff_ne]; exact hq0
        have HF : Hid (er = e) := Lib.hid (by rw [HT.out]; exact Rs.fstN_hit hlt HZ.out HSE.out hq0)
        have HF2 : Hid (ol = []) := Lib.hid (HBAD.out (by rw [HF.out]; exact hq0))
        clear hq0
        go_wp2
        go_ret2
        rw [HF2.out, HF.out]
        exact ⟨Rt.RetSt.none e _, HE4.out⟩
      subst hq0
      have HZN : Hid (Rs.fstN (Rs.stpA (Rt.its xs) (Rt.ans al) ss) (k + 1) = 0) := Lib.hid (Rs.fstN_next HZ.out HSE.out)
      have HTK : Hid ((Rs.stsV (Rt.its xs) (Rt.ans al) ss).take (k + 1) = (Rs.stsV (Rt.its xs) (Rt.ans al) ss).take k ++ [(st.1, q)]) := Lib.hid (by rw [Rt.stsV_next HAN.out HST.out, HSV.out])
      have HTL : Hid (((Rs.stsV (Rt.its xs) (Rt.ans al) ss).take k).length = k) := Lib.hid (by rw [List.length_take, Rt.stsV_len (by rw [HAL.out, HS0.out]), HS0.out]; omega)
      have d0 : wz.cell? ⟨b3, off3 + k * 2, none⟩ = some (.int .i64 st.1) := X4.out.keep HS00.out
      have HO3 : Hid (wz.ownsRow w.heap.size 50 2 (.slice O k oc) k (((Rs.stsV (Rt.its xs) (Rt.ans al) ss).take k).map Rt.scl).flatten) := Lib.hid (by
        have := own_ext HO.out X4.out
        rw [HTL.out] at this
        exact this)
      have ki2 : (k : Int) < (m : Int) := KJ.out.1
      go_wp2_with (at_builtin; refine wpList_push rfl _ _ 24 rfl w 50 i0 (.agg #[.int .i64 0, .int .i64 0]) 2 16 Tryz.underlying24 pi0 pz0 pz1 pz2 rfl (by decide) (.slice O k oc) k _ rfl HO3.out HE4.out #[.int .i64 st.1, .int .i64 q] 50 rfl (Rt.scl_one st.1 q) rfl (by unfold maxLen; omega) (by omega) ?_; intro O' oc' w6 hown6 hb6)
      have HO6 : Hid (Rt.OwnS w w6 (.slice O' (k + 1) oc') ((Rs.stsV (Rt.its xs) (Rt.ans al) ss).take (k + 1))) := Lib.hid (by
        unfold Rt.OwnS
        rw [HTK.out, List.map_append, List.flatten_append, List.length_append, HTL.out]
        exact hown6)
      have HB6 := Lib.hid hb6
      clear hown6 hb6
      go_wp2
      go_roundw
      case rel => exact ⟨k + 1, by omega, by go_num, HZN, HO6, HB6, _, _, rfl⟩
      case measure => simp [intOf]; omega
    · obtain rfl : m = k := by omega
      have HF : Hid (er = 0) := Lib.hid (by rw [HT.out]; exact HZ.out)
      have HF2 : Hid (ol = Rs.stsV (Rt.its xs) (Rt.ans al) ss) := Lib.hid (by rw [← HOL.out, Rt.stsL_ok (by rw [HER.out]; exact HF.out)])
      have HVL : Hid ((Rs.stsV (Rt.its xs) (Rt.ans al) ss).length = m) := Lib.hid (by rw [Rt.stsV_len (by rw [HAL.out, HS0.out]), HS0.out])
      have HTA : Hid ((Rs.stsV (Rt.its xs) (Rt.ans al) ss).take m = Rs.stsV (Rt.its xs) (Rt.ans al) ss) := Lib.hid (List.take_of_length_le (by rw [HVL.out]; exact Nat.le_refl _))
      have HSL := HO.out
      rw [HTA.out] at HSL
      obtain ⟨O2, oc2, e1, h2, h3, h4⟩ := HSL.sl
      rw [HVL.out] at e1 h2
      obtain ⟨rfl, rfl⟩ : O = O2 ∧ oc = oc2 := by cases e1; exact ⟨rfl, rfl⟩
      have HS4 := Lib.hid h4
      clear HSL h4 e1
      go_wp2
      go_ret2
      rw [HF2.out, HF.out]
      exact ⟨⟨O, oc, by rw [HVL.out]; rfl, HS4.out, by rw [HVL.out]; exact h2, h3⟩, HE.out⟩
end Go.Proofs.YtgaepmddbjdhfaaGreatDoor
namespace Go.Proofs.YtgaepmddbjdhfaaGreatDoor
open Go.ChangeShapes Go.WideShapes Go.ChangeAt Go.RowKit
namespace It
theorem beqB_refl (s : ByteArray) : eqB s s = true := by unfold eqB; first | exact decide_eq_true rfl | (rw [It.beqB]; exact decide_eq_true rfl) | simp
theorem beqS_refl (s : List ByteArray) : eqS s s = true := by unfold eqS; first | exact decide_eq_true rfl | simp
theorem beqI_refl (s : List Int) : eqI s s = true := by unfold eqI; first | exact decide_eq_true rfl | simp
theorem diff_same (a : Item) : diff a a = [] := by
  unfold diff pairs
  simp only [bne_self_eq_false, beqB_refl, beqS_refl, beqI_refl, Bool.not_true]
  rfl
end It
set_option maxRecDepth 100000 in
set_option maxHeartbeats 6400000 in
theorem sameItem_eq (a : It.Item) (La Lb : It.Loc) (w : World) (ha : It.In w a La) (hb : It.In w a Lb) :
    Calls Tryz.prog 45 #[It.agg a La, It.agg a Lb] w fun e w' => e = .returned (.bool true) ∧ Ext w w' := by
  obtain ⟨CA, hca, hna, -, -⟩ := rs_packed a La
  obtain ⟨CB, hcb, hnb, -, -⟩ := rs_packed a Lb
  have HD := Lib.hid (rdiff_any a a La Lb)
  rw [hca, hcb] at HD
  rw [hca, hcb]
  have HA := Lib.hid ha
  have HB := Lib.hid hb
  have IA := Lib.hid (Rt.infoItem hna)
  have IB := Lib.hid (Rt.infoItem hnb)
  clear ha hb hca hcb hna hnb
  go_enter Tryz.func45, Tryz.ntmps45
  go_wp2_with (first
    | (with_reducible refine wpList_load_row rfl 55 (.tmp 2) rfl w.heap.size (by with_unfolding_all rfl) _ CA _ _ (two_fst _ _ _) Tryz.underlying55 rfl IA.out ?_)
    | (with_reducible refine wpList_load_row rfl 55 (.tmp 3) rfl (w.heap.size + 1) (by with_unfolding_all rfl) _ CB _ _ (two_snd _ _ _) Tryz.underlying55 rfl IB.out ?_))
  have X0 : Ext w ((w.alloc (.cells CA 55)).alloc (.cells CB 55)) := ((Ext.refl _).alloc _).alloc _
  with_reducible refine (HD.out _ (HA.out.ext X0) (HB.out.ext X0)).mono ?_
  rintro e w1 ⟨⟨A, c, rfl, -, -, -⟩, hb1⟩
  have X1 := Lib.hid (X0.trans hb1)
  clear hb1 X0
  rw [It.diff_same]
  dsimp only [List.length_nil]
  go_wp2
  go_ret
  exact ⟨rfl, X1.out⟩
/-- What each operation of the region leaves. -/
def rtdL (b off n c b' off' c' k : Nat) (CA CB : Array Value) : List (Option Value → World → Prop) := [fun u _ => u = some (.slice (some ⟨b, off, none⟩) n c),
  fun u _ => u = some (.int .i64 (k : Int)),
  fun u _ => u = some (.pointer (some ⟨b, off + k * 17, none⟩)),
  fun u _ => u = some (.agg CA),
  fun u _ => u = some (.slice (some ⟨b', off', none⟩) n c'),
  fun u _ => u = some (.int .i64 (k : Int)),
  fun u _ => u = some (.pointer (some ⟨b', off' + k * 17, none⟩)),
  fun u _ => u = some (.agg CB),
  fun u _ => u = some (.bool true),
  fun u _ => u = some (.bool false)]
theorem rtdL_mono (b off n c b' off' c' k : Nat) (CA CB : Array Value) : AllMono (rtdL b off n c b' off' c' k CA CB) := ⟨mono_val _, mono_val _, mono_val _, mono_val _, mono_val _, mono_val _, mono_val _, mono_val _, mono_val _, mono_val _, trivial⟩
def rtdR (b off n c b' off' c' k : Nat) (CA CB : Array Value) (j : Nat) (u : Option Value) (w : World) : Prop := (rtdL b off n c b' off' c' k CA CB).getD j (fun _ _ => True) u w
theorem rtdR_ext (b off n c b' off' c' k : Nat) (CA CB : Array Value) (j : Nat) (u : Option Value) (w w' : World) (he : Ext w w') (h : rtdR b off n c b' off' c' k CA CB j u w) : rtdR b off n c b' off' c' k CA CB j u w' := ((rtdL_mono b off n c b' off' c' k CA CB).at_ j) u w w' he h
def rtdD : List Nat := [17, 18, 19, 20, 21, 22, 23, 24, 25, 26]
def rtdE (b off n c b' off' c' k : Nat) (t : Array Value) : Prop := t.getD 0 undef = .slice (some ⟨b, off, none⟩) n c ∧ t.getD 1 undef = .slice (some ⟨b', off', none⟩) n c' ∧ t.getD 5 undef = .int .i64 (k : Int) ∧ t.size = 27
set_option maxRecDepth 100000 in
set_option maxHeartbeats 12800000 in
theorem sameItems_eq (A A' : Option Addr) (c c' : Nat) (xs ys : List Rt.ItL) {n : Nat} (hn : xs.length = n) (hxy : Rt.its xs = Rt.its ys) (w : World) (h : Rt.SlIt w A xs) (h' : Rt.SlIt w A' ys) (hl : n ≤ 9223372036854775807) :
    Calls Tryz.prog 22 #[.slice A n c, .slice A' n c'] w fun e w' => e = .returned (.bool true) ∧ Ext w w' := by
  have H := Lib.hid h
  have H' := Lib.hid h'
  have HN := Lib.hid hn
  have HM : Hid (ys.length = n) := Lib.hid (by rw [← Rt.its_len ys, ← hxy, Rt.its_len]; exact hn)
  have HXY := Lib.hid hxy
  have ENS := Lib.hid (enters_of Tryz.func45 (by kernel_rfl) rfl)
  clear h h' hn hxy
  have t0 : ((n : Int) != (n : Int)) = false := by simp
  go_enter Tryz.func22, Tryz.ntmps22
  go_wp2
  go_loopw [5] (fun i wr => ∃ k : Nat, k ≤ n ∧ i = .int .i64 k ∧ Hid (Ext w wr)) (fun i _ => n - (intOf i).toNat)
  case atStart => exact ⟨0, by omega, rfl, Lib.hid (Ext.refl _)⟩
  case round =>
    obtain ⟨k, hk, rfl, HE⟩ := hrel
    by_cases hlt : k < n
    · obtain ⟨x, hx⟩ : ∃ x, xs[k]? = some x := ⟨xs[k]'(by rw [HN.out]; exact hlt), List.getElem?_eq_getElem _⟩
      obtain ⟨y, hy⟩ : ∃ x, ys[k]? = some x := ⟨ys[k]'(by rw [HM.out]; exact hlt), List.getElem?_eq_getElem _⟩
      have hs : x.1 = y.1 := by
        have h1 := Rt.its_at hx
        rw [HXY.out, Rt.its_at hy] at h1
        exact (Option.some.inj h1).symm
      obtain ⟨b, off, rfl, hb, hc, hin⟩ := (H.out.ext HE.out).at_ hx
      obtain ⟨b', off', rfl, hb', hc', hin'⟩ := (H'.out.ext HE.out).at_ hy
      obtain ⟨CA, hca, hna, -, hka⟩ := rs_packed x.1 x.2
      obtain ⟨CB, hcb, hnb, -, hkb⟩ := rs_packed y.1 y.2
      have HRA : Hid (wr.rangeAt b (off + k * 17) CA.toList) := Lib.hid (by rw [← hka]; exact hc)
      have HRB : Hid (wr.rangeAt b' (off' + k * 17) CB.toList) := Lib.hid (by rw [← hkb]; exact hc')
      have IA := Lib.hid (Rt.infoItem hna)
      have IB := Lib.hid (Rt.infoItem hnb)
      have HIA : Hid (It.In w x.1 x.2) := Lib.hid (H.out.2 x (List.mem_of_getElem? hx))
      have HIB : Hid (It.In w x.1 y.2) := Lib.hid (by rw [hs]; exact H'.out.2 y (List.mem_of_getElem? hy))
      have HS : Hid (∀ w, It.In w x.1 x.2 → It.In w x.1 y.2 → Calls Tryz.prog 45 #[.agg CA, .agg CB] w fun e w' => e = .returned (.bool true) ∧ Ext w w') := Lib.hid (fun w h1 h2 => by
        have := sameItem_eq x.1 x.2 y.2 w h1 h2
        rw [hca] at this
        rw [hs, hcb] at this
        exact this)
      have ki1 : (k : Int) < (n : Int) := by omega
      have KI := Lib.hid (And.intro ki1 hlt)
      clear hx hy hc hc' hin hin' hca hcb hna hnb hka hkb hs
      go_wp2_with fail
      refine region_tb (by kernel_rfl) (by decide +kernel) (rtdE b off n c b' off' c' k) ⟨rfl, rfl, rfl, rfl⟩ 10 rtdD (fun _ => none) (rtdR b off n c b' off' c' k CA CB) wr (Ext.refl _) (fun i h1 h2 => absurd h2 (Nat.not_lt.2 h1)) ?_ ?_
      · intro Tv dd lv U wz i o hE ho hlv hd hT
        obtain ⟨t0, t1, t5, tz⟩ := hE
        have hx := hT.ext
        match i, ho, hlv, hd with
        | 0, ho, hlv, hd =>
          obtain rfl := Option.some.inj ho
          have v0 := eval_old (d := dd) (hT.out 0 (by decide)) (by omega) t0
          refine tbw_yield (v := .slice (some ⟨b, off, none⟩) n c) (rtdR_ext b off n c b' off' c' k CA CB) hT ho hd (wanted_plain rfl) rfl (by decide) (by decide) ?_ (Ext.refl _) rfl
          generalize Act.eval ⟨over Tv U, dd⟩ = ev at *
          simp [execOp, go_sem, v0]
        | 1, ho, hlv, hd =>
          obtain rfl := Option.some.inj ho
          have v0 := eval_old (d := dd) (hT.out 5 (by decide)) (by omega) t5
          refine tbw_yield (v := .int .i64 (k : Int)) (rtdR_ext b off n c b' off' c' k CA CB) hT ho hd (wanted_plain rfl) rfl (by decide) (by decide) ?_ (Ext.refl _) rfl
          generalize Act.eval ⟨over Tv U, dd⟩ = ev at *
          simp [execOp, go_sem, v0]
        | 2, ho, hlv, hd =>
          obtain rfl := Option.some.inj ho
          have f0 : U 17 = some (.slice (some ⟨b, off, none⟩) n c) := hT.facts 0 (by decide) (dep hd 0 (by kernel_rfl)) (fun c e => by cases e)
          have v0 : Act.eval ⟨over Tv U, dd⟩ (.tmp 17) = _ := eval_new (t := Tv) (d := dd) f0 (by show 17 < Tv.size; omega)
          have f1 : U 18 = some (.int .i64 (k : Int)) := hT.facts 1 (by decide) (dep hd 1 (by kernel_rfl)) (fun c e => by cases e)
          have v1 : Act.eval ⟨over Tv U, dd⟩ (.tmp 18) = _ := eval_new (t := Tv) (d := dd) f1 (by show 18 < Tv.size; omega)
          have ki := KI.out
          refine tbw_yield (v := .pointer (some ⟨b, off + k * 17, none⟩)) (rtdR_ext b off n c b' off' c' k CA CB) hT ho hd (wanted_plain rfl) rfl (by decide) (by decide) ?_ (Ext.refl _) rfl
          generalize Act.eval ⟨over Tv U, dd⟩ = ev at *
          simp [execOp, go_sem, v0, v1, ki]
        | 3, ho, hlv, hd =>
          obtain rfl := Option.some.inj ho
          have f0 : U 19 = some (.pointer (some ⟨b, off + k * 17, none⟩)) := hT.facts 2 (by decide) (dep hd 2 (by kernel_rfl)) (fun c e => by cases e)
          have v0 : Act.eval ⟨over Tv U, dd⟩ (.tmp 19) = _ := eval_new (t := Tv) (d := dd) f0 (by show 19 < Tv.size; omega)
          refine tbw_yield (v := .agg CA) (rtdR_ext b off n c b' off' c' k CA CB) hT ho hd (wanted_plain rfl) rfl (by decide) (by decide) (exec_load_arr _ _ rfl b (off + k * 17) v0 CA _ (hx.range HRA.out) Tryz.underlying55 rfl IA.out) (Ext.refl _) rfl
        | 4, ho, hlv, hd =>
          obtain rfl := Option.some.inj ho
          have v0 := eval_old (d := dd) (hT.out 1 (by decide)) (by omega) t1
          refine tbw_yield (v := .slice (some ⟨b', off', none⟩) n c') (rtdR_ext b off n c b' off' c' k CA CB) hT ho hd (wanted_plain rfl) rfl (by decide) (by decide) ?_ (Ext.refl _) rfl
          generalize Act.eval ⟨over Tv U, dd⟩ = ev at *
          simp [execOp, go_sem, v0]
        | 5, ho, hlv, hd =>
          obtain rfl := Option.some.inj ho
          have v0 := eval_old (d := dd) (hT.out 5 (by decide)) (by omega) t5
          refine tbw_yield (v := .int .i64 (k : Int)) (rtdR_ext b off n c b' off' c' k CA CB) hT ho hd (wanted_plain rfl) rfl (by decide) (by decide) ?_ (Ext.refl _) rfl
          generalize Act.eval ⟨over Tv U, dd⟩ = ev at *
          simp [execOp, go_sem, v0]
        | 6, ho, hlv, hd =>
          obtain rfl := Option.some.inj ho
          have f0 : U 21 = some (.slice (some ⟨b', off', none⟩) n c') := hT.facts 4 (by decide) (dep hd 4 (by kernel_rfl)) (fun c e => by cases e)
          have v0 : Act.eval ⟨over Tv U, dd⟩ (.tmp 21) = _ := eval_new (t := Tv) (d := dd) f0 (by show 21 < Tv.size; omega)
          have f1 : U 22 = some (.int .i64 (k : Int)) := hT.facts 5 (by decide) (dep hd 5 (by kernel_rfl)) (fun c e => by cases e)
          have v1 : Act.eval ⟨over Tv U, dd⟩ (.tmp 22) = _ := eval_new (t := Tv) (d := dd) f1 (by show 22 < Tv.size; omega)
          have ki := KI.out
          refine tbw_yield (v := .pointer (some ⟨b', off' + k * 17, none⟩)) (rtdR_ext b off n c b' off' c' k CA CB) hT ho hd (wanted_plain rfl) rfl (by decide) (by decide) ?_ (Ext.refl _) rfl
          generalize Act.eval ⟨over Tv U, dd⟩ = ev at *
          simp [execOp, go_sem, v0, v1, ki]
        | 7, ho, hlv, hd =>
          obtain rfl := Option.some.inj ho
          have f0 : U 23 = some (.pointer (some ⟨b', off' + k * 17, none⟩)) := hT.facts 6 (by decide) (dep hd 6 (by kernel_rfl)) (fun c e => by cases e)
          have v0 : Act.eval ⟨over Tv U, dd⟩ (.tmp 23) = _ := eval_new (t := Tv) (d := dd) f0 (by show 23 < Tv.size; omega)
          refine tbw_yield (v := .agg CB) (rtdR_ext b off n c b' off' c' k CA CB) hT ho hd (wanted_plain rfl) rfl (by decide) (by decide) (exec_load_arr _ _ rfl b' (off' + k * 17) v0 CB _ (hx.range HRB.out) Tryz.underlying55 rfl IB.out) (Ext.refl _) rfl
        | 8, ho, hlv, hd =>
          obtain rfl := Option.some.inj ho
          have f0 : U 20 = some (.agg CA) := hT.facts 3 (by decide) (dep hd 3 (by kernel_rfl)) (fun c e => by cases e)
          have v0 : Act.eval ⟨over Tv U, dd⟩ (.tmp 20) = _ := eval_new (t := Tv) (d := dd) f0 (by show 20 < Tv.size; omega)
          have f1 : U 24 = some (.agg CB) := hT.facts 7 (by decide) (dep hd 7 (by kernel_rfl)) (fun c e => by cases e)
          have v1 : Act.eval ⟨over Tv U, dd⟩ (.tmp 24) = _ := eval_new (t := Tv) (d := dd) f1 (by show 24 < Tv.size; omega)
          refine tbw_call (f := 45) (args := #[.agg CA, .agg CB]) (rtdR_ext b off n c b' off' c' k CA CB) hT ho hd (wanted_plain rfl) rfl (by decide) (by decide) (exec_call2 rfl rfl v0 v1 ENS.out) ?_
          refine (HS.out wz (HIA.out.ext (HE.out.trans hx)) (HIB.out.ext (HE.out.trans hx))).mono ?_
          rintro e w' ⟨rfl, hb⟩
          exact ⟨_, rfl, hb, rfl⟩
        | 9, ho, hlv, hd =>
          obtain rfl := Option.some.inj ho
          have f0 : U 25 = some (.bool true) := hT.facts 8 (by decide) (dep hd 8 (by kernel_rfl)) (fun c e => by cases e)
          have v0 : Act.eval ⟨over Tv U, dd⟩ (.tmp 25) = _ := eval_new (t := Tv) (d := dd) f0 (by show 25 < Tv.size; omega)
          refine tbw_yield (v := .bool false) (rtdR_ext b off n c b' off' c' k CA CB) hT ho hd (wanted_plain rfl) rfl (by decide) (by decide) ?_ (Ext.refl _) rfl
          generalize Act.eval ⟨over Tv U, dd⟩ = ev at *
          simp [execOp, go_sem, v0]
        | i + 10, ho, _, _ => exact absurd ho (by simp)
      intro U wz hex hout hfin
      have f26 : U 26 = some (.bool false) := hfin 9 (by decide) rfl
      have XE := Lib.hid hex
      clear hex hfin
      rw [over_list]
      simp (disch := decide) only [overL, Nat.reduceAdd, hout, Option.getD_none]
      rw [f26]
      simp only [Option.getD_some]
      clear hout f26
      have HE3 := Lib.hid (HE.out.trans XE.out)
      go_wp2
      go_roundw
      case rel => exact ⟨k + 1, by omega, by go_num, HE3⟩
      case measure => simp [intOf]; omega
    · go_wp2
      go_ret
      exact ⟨rfl, HE.out⟩
end Go.Proofs.YtgaepmddbjdhfaaGreatDoor
namespace Go.Proofs.YtgaepmddbjdhfaaGreatDoor
open Go.ChangeShapes Go.WideShapes Go.ChangeAt Go.RowKit
namespace Rt
/-- The post of a function that returns numbers and an error. -/
def RetCh (er : Int) (l : List Int) (e : Ending) (w' : World) : Prop :=
  ∃ (A : Option Addr) (c : Nat), e = .returned (.tuple #[.slice A l.length c, .int .i64 er]) ∧ SlI w' A l ∧ l.length ≤ c ∧ c ≤ maxLen
theorem RetCh.none (er : Int) (w : World) : RetCh er [] (.returned (.tuple #[.slice .none 0 0, .int .i64 er])) w := ⟨.none, 0, rfl, SlI.nil _ _, Nat.le_refl _, Nat.zero_le _⟩
def OwnI (B w : World) (v : Value) (l : List Int) : Prop := w.ownsRow B.heap.size 3 1 v l.length (l.map (Value.int .i64))
theorem chdE_len {a b : List Rs.Stp} (h : a.length ≠ b.length) : Rs.chdE a b = 1 := by unfold Rs.chdE; rw [if_pos h]
theorem chdE_rest {a b : List Rs.Stp} (h : a.length = b.length) : Rs.chdE a b = Rs.fstN (Rs.chdA a b) a.length := by unfold Rs.chdE; rw [if_neg (by simpa using h)]
theorem chdL_bad {a b : List Rs.Stp} (h : Rs.chdE a b ≠ 0) : Rs.chdL a b = [] := by unfold Rs.chdL; rw [if_pos h]
theorem chdL_ok {a b : List Rs.Stp} (h : Rs.chdE a b = 0) : Rs.chdL a b = Rs.chdV a b a.length := by unfold Rs.chdL; rw [if_neg (by simpa using h)]
theorem itA_at {a : List Rs.Stp} {i : Nat} {s : Rs.Stp} (h : a[i]? = some s) : Rs.itA a i = s.1 ∧ Rs.ctA a i = s.2 := by unfold Rs.itA Rs.ctA; rw [h]; exact ⟨rfl, rfl⟩
theorem chdA_at {a b : List Rs.Stp} {i : Nat} {s t : Rs.Stp} (h : a[i]? = some s) (g : b[i]? = some t) : Rs.chdA a b i = if s.1 = t.1 then 0 else 1 := by unfold Rs.chdA; rw [(itA_at h).1, (itA_at g).1]
theorem one_int (x : Int) : (#[.int .i64 x] : Array Value).all (·.oneCell') = true := by
  rw [Array.all_eq_true_iff_forall_mem]
  intro v hv
  simp at hv
  subst hv
  rfl
end Rt
set_option maxRecDepth 100000 in
set_option maxHeartbeats 6400000 in
theorem same_eq (A A' : Option Addr) (c c' : Nat) (l : List Rs.Stp) {n : Nat} (hn : l.length = n) (w : World) (h : Rt.SlSt w A l) (h' : Rt.SlSt w A' l) (hl : n ≤ 9223372036854775807) :
    Calls Tryz.prog 11 #[.slice A n c, .slice A' n c'] w fun e w' => e = .returned (.bool true) ∧ Ext w w' := by
  have H := Lib.hid h
  have H' := Lib.hid h'
  have HN := Lib.hid hn
  clear h h' hn
  have t0 : ((n : Int) != (n : Int)) = false := by simp
  go_enter Tryz.func11, Tryz.ntmps11
  go_wp2
  go_loopw [5] (fun i wr => ∃ k : Nat, k ≤ n ∧ i = .int .i64 k ∧ Hid (Ext w wr)) (fun i _ => n - (intOf i).toNat)
  case atStart => exact ⟨0, by omega, rfl, Lib.hid (Ext.refl _)⟩
  case round =>
    obtain ⟨k, hk, rfl, HE⟩ := hrel
    by_cases hlt : k < n
    · obtain ⟨x, hx⟩ : ∃ x, l[k]? = some x := ⟨l[k]'(by rw [HN.out]; exact hlt), List.getElem?_eq_getElem _⟩
      obtain ⟨b, off, rfl, hb, c0, c1⟩ := (H.out.ext HE.out).at_ hx
      obtain ⟨b', off', rfl, hb', d0, d1⟩ := (H'.out.ext HE.out).at_ hx
      obtain ⟨x1, x2⟩ := x
      dsimp only at c0 c1 d0 d1
      have ki0 : (0 : Int) ≤ (k : Int) := by omega
      have ki1 : (k : Int) < (n : Int) := by omega
      have t1 : (x1 == x1) = true := by simp
      have t2 : (x2 == x2) = true := by simp
      clear hx
      go_wp2_with fail
      go_quiet (fail)
      go_wp2
      go_roundw
      case rel => exact ⟨k + 1, by omega, by go_num, Lib.hid (HE.out.drewN _)⟩
      case measure => simp [intOf]; omega
    · go_wp2
      go_ret
      exact ⟨rfl, HE.out⟩
set_option maxRecDepth 100000 in
set_option maxHeartbeats 6400000 in
theorem sameInts_eq (A A' : Option Addr) (c c' : Nat) (l : List Int) {n : Nat} (hn : l.length = n) (w : World) (h : SlI w A l) (h' : SlI w A' l) (hl : n ≤ 9223372036854775807) :
    Calls Tryz.prog 14 #[.slice A n c, .slice A' n c'] w fun e w' => e = .returned (.bool true) ∧ Ext w w' := by
  have H := Lib.hid h
  have H' := Lib.hid h'
  have HN := Lib.hid hn
  clear h h' hn
  have t0 : ((n : Int) != (n : Int)) = false := by simp
  go_enter Tryz.func14, Tryz.ntmps14
  go_wp2
  go_loopw [5] (fun i wr => ∃ k : Nat, k ≤ n ∧ i = .int .i64 k ∧ Hid (Ext w wr)) (fun i _ => n - (intOf i).toNat)
  case atStart => exact ⟨0, by omega, rfl, Lib.hid (Ext.refl _)⟩
  case round =>
    obtain ⟨k, hk, rfl, HE⟩ := hrel
    by_cases hlt : k < n
    · obtain ⟨b, off, x, rfl, hb, hx, c0⟩ := (H.out.ext HE.out).at_ (i := k) (by rw [HN.out]; exact hlt)
      obtain ⟨b', off', x', rfl, hb', hx', d0⟩ := (H'.out.ext HE.out).at_ (i := k) (by rw [HN.out]; exact hlt)
      obtain rfl : x = x' := by rw [hx] at hx'; exact Option.some.inj hx'
      have ki0 : (0 : Int) ≤ (k : Int) := by omega
      have ki1 : (k : Int) < (n : Int) := by omega
      have t1 : (x != x) = false := by simp
      clear hx hx'
      go_wp2_with fail
      go_quiet (fail)
      go_wp2
      go_roundw
      case rel => exact ⟨k + 1, by omega, by go_num, Lib.hid (HE.out.drewN _)⟩
      case measure => simp [intOf]; omega
    · go_wp2
      go_ret
      exact ⟨rfl, HE.out⟩
set_option maxRecDepth 100000 in
set_option maxHeartbeats 12800000 in
theorem kchanged_any (A A' : Option Addr) (c c' : Nat) (a b : List Rs.Stp) {n m : Nat} (hn : a.length = n) (hm : b.length = m) (w : World) (h : Rt.SlSt w A a) (h' : Rt.SlSt w A' b) (hl : n ≤ 9223372036854775807) (hl' : m ≤ 9223372036854775807) (hq : n * 8 ≤ 140737488355328) :
    Calls Tryz.prog 12 #[.slice A n c, .slice A' m c'] w fun e w' => Rt.RetCh (Rs.chdE a b) (Rs.chdL a b) e w' ∧ Ext w w' := by
  have H := Lib.hid h
  have H' := Lib.hid h'
  have HN := Lib.hid hn
  have HM := Lib.hid hm
  obtain ⟨er, her⟩ : ∃ er, Rs.chdE a b = er := ⟨_, rfl⟩
  obtain ⟨ol, hol⟩ : ∃ ol, Rs.chdL a b = ol := ⟨_, rfl⟩
  rw [her, hol]
  have HER := Lib.hid her
  have HOL := Lib.hid hol
  have HBAD : Hid (er ≠ 0 → ol = []) := Lib.hid (fun h => by rw [← hol]; exact Rt.chdL_bad (by rw [her]; exact h))
  obtain ⟨i0, pi0, pz0, pz1, pz2⟩ := info_parts Tryz.infoInt
  clear h h' hn hm her hol
  by_cases hnm : n = m
  case neg =>
    have HF : Hid (er = 1) := Lib.hid (by rw [← HER.out]; exact Rt.chdE_len (by rw [HN.out, HM.out]; exact hnm))
    have HF2 : Hid (ol = []) := Lib.hid (HBAD.out (by rw [HF.out]; decide))
    have t0 : ((n : Int) != (m : Int)) = true := by rw [bne_iff_ne]; omega
    clear hnm
    go_enter Tryz.func12, Tryz.ntmps12
    go_wp2
    go_ret2
    rw [HF2.out, HF.out]
    exact ⟨Rt.RetCh.none 1 _, Ext.refl _⟩
  subst hnm
  have t0 : ((n : Int) != (n : Int)) = false := by simp
  have HT : Hid (er = Rs.fstN (Rs.chdA a b) n) := Lib.hid (by rw [← HER.out, Rt.chdE_rest (by rw [HN.out, HM.out]), HN.out])
  go_enter Tryz.func12, Tryz.ntmps12
  go_wp2
  have HO0 : Hid (Rt.OwnI w w (.slice none 0 0) (Rs.chdV a b 0)) := Lib.hid (own_nil _ _ _ _)
  go_loopw [15, 6] (fun i v wr => ∃ k : Nat, k ≤ n ∧ i = .int .i64 k ∧ Hid (Rs.fstN (Rs.chdA a b) k = 0) ∧ Hid (Rt.OwnI w wr v (Rs.chdV a b k)) ∧ Hid (Ext w wr) ∧ ∃ O q oc, v = .slice O q oc ∧ q ≤ k) (fun i _ _ => n - (intOf i).toNat)
  case atStart => exact ⟨0, by omega, rfl, Lib.hid rfl, HO0, Lib.hid (Ext.refl _), _, _, _, rfl, Nat.le_refl _⟩
  case round =>
    clear HO0
    obtain ⟨k, hk, rfl, HZ, HO, HE, O, q, oc, rfl, hqk⟩ := hrel
    by_cases hlt : k < n
    · obtain ⟨x, hx⟩ : ∃ x, a[k]? = some x := ⟨a[k]'(by rw [HN.out]; exact hlt), List.getElem?_eq_getElem _⟩
      obtain ⟨y, hy⟩ : ∃ x, b[k]? = some x := ⟨b[k]'(by rw [HM.out]; exact hlt), List.getElem?_eq_getElem _⟩
      obtain ⟨g, off, rfl, hb, c0, c1⟩ := (H.out.ext HE.out).at_ hx
      obtain ⟨g', off', rfl, hb', d0, d1⟩ := (H'.out.ext HE.out).at_ hy
      have HA := Lib.hid (Rt.chdA_at hx hy)
      have HC := Lib.hid (And.intro (Rt.itA_at hx).2 (Rt.itA_at hy).2)
      obtain ⟨x1, x2⟩ := x
      obtain ⟨y1, y2⟩ := y
      dsimp only at c0 c1 d0 d1 HA HC
      have ki0 : (0 : Int) ≤ (k : Int) := by omega
      have ki1 : (k : Int) < (n : Int) := by omega
      clear hx hy
      by_cases hit : x1 = y1
      case neg =>
        have t1 : (x1 != y1) = true := by rw [bne_iff_ne]; exact hit
        have HF : Hid (er = 1) := Lib.hid (by rw [HT.out]; exact Rs.fstN_hit hlt HZ.out (by rw [HA.out, if_neg hit]) (by decide))
        have HF2 : Hid (ol = []) := Lib.hid (HBAD.out (by rw [HF.out]; decide))
        clear hit
        go_wp2_with fail
        go_quiet (fail)
        go_wp2
        go_ret2
        rw [HF2.out, HF.out]
        exact ⟨Rt.RetCh.none 1 _, HE.out.drewN _⟩
      have HZN : Hid (Rs.fstN (Rs.chdA a b) (k + 1) = 0) := Lib.hid (Rs.fstN_next HZ.out (by rw [HA.out, if_pos hit]))
      subst hit
      have t1 : (x1 != x1) = false := by simp
      by_cases hct : x2 = y2
      · subst hct
        have t2 : (x2 != x2) = false := by simp
        have HVN : Hid (Rs.chdV a b (k + 1) = Rs.chdV a b k) := Lib.hid (by rw [Rs.chdV_next, if_pos (by rw [HC.out.1, HC.out.2]), List.append_nil])
        go_wp2_with fail
        go_quiet (fail)
        go_wp2_with fail
        go_quiet (fail)
        go_wp2
        go_roundw
        case rel => exact ⟨k + 1, by omega, by go_num, HZN, Lib.hid (by rw [HVN.out]; exact own_ext HO.out ((Ext.refl _).drewN _)), Lib.hid (HE.out.drewN _), O, q, oc, rfl, by omega⟩
        case measure => simp [intOf]; omega
      · have t2 : (x2 != y2) = true := by rw [bne_iff_ne]; exact hct
        have HVN : Hid (Rs.chdV a b (k + 1) = Rs.chdV a b k ++ [(k : Int)]) := Lib.hid (by rw [Rs.chdV_next, if_neg (by rw [HC.out.1, HC.out.2]; exact hct)])
        have HQL : Hid ((Rs.chdV a b k).length = q) := Lib.hid (by
          obtain ⟨A9, c9, e9, -⟩ := SlI.of_own HO.out
          injection e9 with _ e9 _
          exact e9.symm)
        have HO2 : Hid (wr.ownsRow w.heap.size 3 1 (.slice O q oc) q ((Rs.chdV a b k).map (Value.int .i64))) := Lib.hid (by
          have := HO.out
          unfold Rt.OwnI at this
          rwa [HQL.out] at this)
        clear hct
        go_wp2_with fail
        go_quiet (fail)
        go_wp2_with fail
        go_quiet (fail)
        go_wp2_with (at_builtin; refine wpList_push rfl _ _ 29 rfl w 3 i0 (.int .i64 0) 1 8 Tryz.underlying29 pi0 pz0 pz1 pz2 rfl (by decide) (.slice O q oc) q _ rfl (own_ext HO2.out ((Ext.refl wr).drewN _)) (HE.out.drewN _) #[.int .i64 (k : Int)] 3 rfl (Rt.one_int _) rfl (by unfold maxLen; omega) (by omega) ?_; intro O' oc' w6 hown6 hb6)
        have HO6 : Hid (Rt.OwnI w w6 (.slice O' (q + 1) oc') (Rs.chdV a b (k + 1))) := Lib.hid (by
          unfold Rt.OwnI
          rw [HVN.out, List.map_append, List.length_append, HQL.out]
          exact hown6)
        have HB6 := Lib.hid hb6
        clear hown6 hb6
        go_wp2
        go_roundw
        case rel => exact ⟨k + 1, by omega, by go_num, HZN, HO6, HB6, O', q + 1, oc', rfl, by omega⟩
        case measure => simp [intOf]; omega
    · obtain rfl : n = k := by omega
      have HF : Hid (er = 0) := Lib.hid (by rw [HT.out]; exact HZ.out)
      have HF2 : Hid (ol = Rs.chdV a b n) := Lib.hid (by rw [← HOL.out, Rt.chdL_ok (by rw [HER.out]; exact HF.out), HN.out])
      obtain ⟨A9, c9, e9, h2, h3, h4⟩ := SlI.of_own HO.out
      obtain ⟨rfl, hq2, rfl⟩ : O = A9 ∧ q = (Rs.chdV a b n).length ∧ oc = c9 := by injection e9 with e1 e2 e3; exact ⟨e1, e2, e3⟩
      have HQ2 := Lib.hid hq2
      have HS4 := Lib.hid h4
      clear h4 e9 hq2
      go_wp2
      go_ret2
      rw [HF2.out, HF.out]
      exact ⟨⟨O, oc, by rw [← HQ2.out]; rfl, HS4.out, h2, h3⟩, HE.out⟩
set_option maxRecDepth 100000 in
set_option maxHeartbeats 12800000 in
theorem rchanged_any (A A' : Option Addr) (c c' : Nat) (a b : List Rs.Stp) {n m : Nat} (hn : a.length = n) (hm : b.length = m) (w : World) (h : Rt.SlSt w A a) (h' : Rt.SlSt w A' b) (hl : n ≤ 9223372036854775807) (hl' : m ≤ 9223372036854775807) (hq : n * 8 ≤ 140737488355328) :
    Calls Tryz.prog 13 #[.slice A n c, .slice A' m c'] w fun e w' => Rt.RetCh (Rs.chdE a b) (Rs.chdL a b) e w' ∧ Ext w w' := by
  have H := Lib.hid h
  have H' := Lib.hid h'
  have HN := Lib.hid hn
  have HM := Lib.hid hm
  obtain ⟨er, her⟩ : ∃ er, Rs.chdE a b = er := ⟨_, rfl⟩
  obtain ⟨ol, hol⟩ : ∃ ol, Rs.chdL a b = ol := ⟨_, rfl⟩
  rw [her, hol]
  have HER := Lib.hid her
  have HOL := Lib.hid hol
  have HBAD : Hid (er ≠ 0 → ol = []) := Lib.hid (fun h => by rw [← hol]; exact Rt.chdL_bad (by rw [her]; exact h))
  obtain ⟨i0, pi0, pz0, pz1, pz2⟩ := info_parts Tryz.infoInt
  clear h h' hn hm her hol
  by_cases hnm : n = m
  case neg =>
    have HF : Hid (er = 1) := Lib.hid (by rw [← HER.out]; exact Rt.chdE_len (by rw [HN.out, HM.out]; exact hnm))
    have HF2 : Hid (ol = []) := Lib.hid (HBAD.out (by rw [HF.out]; decide))
    have t0 : ((n : Int) != (m : Int)) = true := by rw [bne_iff_ne]; omega
    clear hnm
    go_enter Tryz.func13, Tryz.ntmps13
    go_wp2
    go_ret2
    rw [HF2.out, HF.out]
    exact ⟨Rt.RetCh.none 1 _, Ext.refl _⟩
  subst hnm
  have t0 : ((n : Int) != (n : Int)) = false := by simp
  have HT : Hid (er = Rs.fstN (Rs.chdA a b) n) := Lib.hid (by rw [← HER.out, Rt.chdE_rest (by rw [HN.out, HM.out]), HN.out])
  go_enter Tryz.func13, Tryz.ntmps13
  go_wp2
  have HO0 : Hid (Rt.OwnI w (w.alloc (.cells #[] 3)) (.slice (some ⟨w.heap.size, 0, none⟩) 0 0) (Rs.chdV a b 0)) := Lib.hid ⟨by simp [Rs.chdV], Or.inr ⟨w.heap.size, 0, #[], rfl, Nat.le_refl _, heap_alloc_new _ _, Nat.le_refl _, Nat.zero_le _, by simp, by simp [Rs.chdV]⟩⟩
  go_loopw [7, 6] (fun i v wr => ∃ k : Nat, k ≤ n ∧ i = .int .i64 k ∧ Hid (Rs.fstN (Rs.chdA a b) k = 0) ∧ Hid (Rt.OwnI w wr v (Rs.chdV a b k)) ∧ Hid (Ext w wr) ∧ ∃ O q oc, v = .slice O q oc ∧ q ≤ k) (fun i _ _ => n - (intOf i).toNat)
  case atStart => exact ⟨0, by omega, rfl, Lib.hid rfl, HO0, Lib.hid ((Ext.refl _).alloc _), _, _, _, rfl, Nat.le_refl _⟩
  case round =>
    clear HO0
    obtain ⟨k, hk, rfl, HZ, HO, HE, O, q, oc, rfl, hqk⟩ := hrel
    by_cases hlt : k < n
    · obtain ⟨x, hx⟩ : ∃ x, a[k]? = some x := ⟨a[k]'(by rw [HN.out]; exact hlt), List.getElem?_eq_getElem _⟩
      obtain ⟨y, hy⟩ : ∃ x, b[k]? = some x := ⟨b[k]'(by rw [HM.out]; exact hlt), List.getElem?_eq_getElem _⟩
      obtain ⟨g, off, rfl, hb, c0, c1⟩ := (H.out.ext HE.out).at_ hx
      obtain ⟨g', off', rfl, hb', d0, d1⟩ := (H'.out.ext HE.out).at_ hy
      have HA := Lib.hid (Rt.chdA_at hx hy)
      have HC := Lib.hid (And.intro (Rt.itA_at hx).2 (Rt.itA_at hy).2)
      obtain ⟨x1, x2⟩ := x
      obtain ⟨y1, y2⟩ := y
      dsimp only at c0 c1 d0 d1 HA HC
      have ki0 : (0 : Int) ≤ (k : Int) := by omega
      have ki1 : (k : Int) < (n : Int) := by omega
      clear hx hy
      by_cases hit : x1 = y1
      case neg =>
        have t1 : (x1 != y1) = true := by rw [bne_iff_ne]; exact hit
        have HF : Hid (er = 1) := Lib.hid (by rw [HT.out]; exact Rs.fstN_hit hlt HZ.out (by rw [HA.out, if_neg hit]) (by decide))
        have HF2 : Hid (ol = []) := Lib.hid (HBAD.out (by rw [HF.out]; decide))
        clear hit
        go_wp2_with fail
        go_quiet (fail)
        go_wp2
        go_ret2
        rw [HF2.out, HF.out]
        exact ⟨Rt.RetCh.none 1 _, HE.out.drewN _⟩
      have HZN : Hid (Rs.fstN (Rs.chdA a b) (k + 1) = 0) := Lib.hid (Rs.fstN_next HZ.out (by rw [HA.out, if_pos hit]))
      subst hit
      have t1 : (x1 != x1) = false := by simp
      by_cases hct : x2 = y2
      · subst hct
        have t2 : (x2 != x2) = false := by simp
        have HVN : Hid (Rs.chdV a b (k + 1) = Rs.chdV a b k) := Lib.hid (by rw [Rs.chdV_next, if_pos (by rw [HC.out.1, HC.out.2]), List.append_nil])
        go_wp2_with fail
        go_quiet (fail)
        go_wp2_with fail
        go_quiet (fail)
        go_wp2
        go_roundw
        case rel => exact ⟨k + 1, by omega, by go_num, HZN, Lib.hid (by rw [HVN.out]; exact own_ext HO.out ((Ext.refl _).drewN _)), Lib.hid (HE.out.drewN _), O, q, oc, rfl, by omega⟩
        case measure => simp [intOf]; omega
      · have t2 : (x2 != y2) = true := by rw [bne_iff_ne]; exact hct
        have HVN : Hid (Rs.chdV a b (k + 1) = Rs.chdV a b k ++ [(k : Int)]) := Lib.hid (by rw [Rs.chdV_next, if_neg (by rw [HC.out.1, HC.out.2]; exact hct)])
        have HQL : Hid ((Rs.chdV a b k).length = q) := Lib.hid (by
          obtain ⟨A9, c9, e9, -⟩ := SlI.of_own HO.out
          injection e9 with _ e9 _
          exact e9.symm)
        have HO2 : Hid (wr.ownsRow w.heap.size 3 1 (.slice O q oc) q ((Rs.chdV a b k).map (Value.int .i64))) := Lib.hid (by
          have := HO.out
          unfold Rt.OwnI at this
          rwa [HQL.out] at this)
        clear hct
        go_wp2_with fail
        go_quiet (fail)
        go_wp2_with fail
        go_quiet (fail)
        go_wp2_with (at_builtin; refine wpList_push rfl _ _ 29 rfl w 3 i0 (.int .i64 0) 1 8 Tryz.underlying29 pi0 pz0 pz1 pz2 rfl (by decide) (.slice O q oc) q _ rfl (own_ext HO2.out ((Ext.refl wr).drewN _)) (HE.out.drewN _) #[.int .i64 (k : Int)] 3 rfl (Rt.one_int _) rfl (by unfold maxLen; omega) (by omega) ?_; intro O' oc' w6 hown6 hb6)
        have HO6 : Hid (Rt.OwnI w w6 (.slice O' (q + 1) oc') (Rs.chdV a b (k + 1))) := Lib.hid (by
          unfold Rt.OwnI
          rw [HVN.out, List.map_append, List.length_append, HQL.out]
          exact hown6)
        have HB6 := Lib.hid hb6
        clear hown6 hb6
        go_wp2
        go_roundw
        case rel => exact ⟨k + 1, by omega, by go_num, HZN, HO6, HB6, O', q + 1, oc', rfl, by omega⟩
        case measure => simp [intOf]; omega
    · obtain rfl : n = k := by omega
      have HF : Hid (er = 0) := Lib.hid (by rw [HT.out]; exact HZ.out)
      have HF2 : Hid (ol = Rs.chdV a b n) := Lib.hid (by rw [← HOL.out, Rt.chdL_ok (by rw [HER.out]; exact HF.out), HN.out])
      obtain ⟨A9, c9, e9, h2, h3, h4⟩ := SlI.of_own HO.out
      obtain ⟨rfl, hq2, rfl⟩ : O = A9 ∧ q = (Rs.chdV a b n).length ∧ oc = c9 := by injection e9 with e1 e2 e3; exact ⟨e1, e2, e3⟩
      have HQ2 := Lib.hid hq2
      have HS4 := Lib.hid h4
      clear h4 e9 hq2
      go_wp2
      go_ret2
      rw [HF2.out, HF.out]
      exact ⟨⟨O, oc, by rw [← HQ2.out]; rfl, HS4.out, h2, h3⟩, HE.out⟩
end Go.Proofs.YtgaepmddbjdhfaaGreatDoor
