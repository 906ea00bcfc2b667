/- The rules of a whole pool, in the package and in the reference; where a pool's item is: contracts. Conditions: those of each theorem. Prior weights and updates, in the reference: contracts. Conditions: those of each theorem. Updated weights, in the reference: contracts. Conditions: those of each theorem. The new weights after steps, in the package and in the reference: contracts. Conditions: those of each theorem. The chapter's example in plain words: items, changes, answers, steps, a pool. No conditions. -/
import Derived.Test.YtgaepmddbjdhfaaGreatDoorP27
import Derived.Test.YtgaepmddbjdhfaaGreatDoorP32
import Derived.Test.YtgaepmddbjdhfaaGreatDoorP18
namespace Go.Proofs.YtgaepmddbjdhfaaGreatDoor
open Go.ChangeShapes Go.WideShapes Go.ChangeAt Go.RowKit
theorem pord_no {p : List Rw.PItem} {k : Nat} {x : Rw.PItem} (hx : p[k]? = some x) (h : It.wi x.id 1 9999999 = false) : Rw.pord p k = false := by unfold Rw.pord; rw [Rw.pidAt_at hx, h]; rfl
theorem numbered_q (k : Int) {v : Bool} (hv : It.wi k 1 9999999 = v) (w : World) : Calls Tryz.prog 61 #[.int .i64 k] w fun e w' => e = .returned (.bool v) ∧ w' = w := (numbered_any k hv w).mono fun _ _ h => ⟨h.1, h.2.symm⟩
theorem within33_q (k a b : Int) {v : Bool} (hv : It.wi k a b = v) (w : World) : Calls Tryz.prog 68 #[.int .i64 k, .int .i64 a, .int .i64 b] w fun e w' => e = .returned (.bool v) ∧ w' = w := (within33_any k a b hv w).mono fun _ _ h => ⟨h.1, h.2.symm⟩
set_option maxRecDepth 100000 in
set_option maxHeartbeats 12800000 in
theorem kpool_any (Ap : Option Addr) (c : Nat) (ps : List PL) {n : Nat} (hn : ps.length = n) (N : Int) {v : Int} (hv : Rw.poolE (pool ps) N = v) (w : World) (h : SlPo w Ap ps) (hl : n ≤ 9223372036854775807) (hg : Gm w) :
    Calls Tryz.prog 32 #[.slice Ap n c, .int .i64 N] w fun e w' => e = .returned (.int .i64 v) ∧ Ext w w' := by
  have H := Lib.hid h
  have HV := Lib.hid hv
  have HN := Lib.hid hn
  have HL : Hid ((pool ps).length = n) := Lib.hid ((pool_len ps).trans hn)
  have HG := Lib.hid hg
  clear h hv hn hg
  by_cases h18 : 18 < n
  · have HF : Hid (v = 5) := Lib.hid (by rw [← HV.out]; exact Rw.poolE_many (by rw [HL.out]; exact h18))
    go_enter Tryz.func32, Tryz.ntmps32
    go_wp2
    go_ret
    exact ⟨ret_int HF.out.symm, Ext.refl _⟩
  go_enter Tryz.func32, Tryz.ntmps32
  go_wp2
  go_loopw [15] (fun i wr => ∃ k : Nat, k ≤ n ∧ i = .int .i64 k ∧ Hid (It.allN (Rw.pord (pool ps)) k = true) ∧ Hid (Ext w wr)) (fun i _ => n - (intOf i).toNat)
  case atStart => exact ⟨0, by omega, rfl, Lib.hid rfl, Lib.hid (Ext.refl _)⟩
  case round =>
    obtain ⟨k, hk, rfl, HA, HE⟩ := hrel
    by_cases hlt : k < n
    · obtain ⟨x, hx⟩ : ∃ x, ps[k]? = some x := ⟨ps[k]'(by rw [HN.out]; exact hlt), List.getElem?_eq_getElem _⟩
      obtain ⟨b, off, rfl, hb, hc, -⟩ := (H.out.ext HE.out).at_ hx
      obtain ⟨CA, hca, hna, h1a, hka⟩ := x.packed
      have HC : Hid (wr.rangeAt b (off + k * 9) CA.toList) := Lib.hid (by rw [← hka]; exact hc)
      have HX := Lib.hid (pool_at hx)
      have IA := Lib.hid (infoPI hna)
      have NA := Lib.hid hna
      have OA := Lib.hid h1a
      obtain ⟨wq, hwq⟩ : ∃ W, wr.alloc (.cells CA 72) = W := ⟨_, rfl⟩
      have HX0 : Hid (Ext wr wq) := Lib.hid (by rw [← hwq]; exact (Ext.refl _).alloc _)
      have d0 : wq.cell? ⟨wr.heap.size, 0, none⟩ = some (.int .i64 x.x.id) := by
        rw [← hwq, World.cell?_alloc_new, ← Array.getElem?_toList, ← hka]
        rfl
      have HWQ := Lib.hid hwq
      have ki0 : (0 : Int) ≤ (k : Int) := by omega
      have ki1 : (k : Int) < (n : Int) := by omega
      clear hc hca hna h1a hka hwq
      obtain ⟨q, hq⟩ : ∃ q, It.wi x.x.id 1 9999999 = q := ⟨_, rfl⟩
      have HQ := Lib.hid hq
      clear hq
      cases q with
      | false =>
        have HF : Hid (v = 23) := Lib.hid (by rw [← HV.out]; exact Rw.poolE_bad (by rw [HL.out]; omega) (It.allN_no (k := k) (by rw [HL.out]; exact hlt) (pord_no HX.out HQ.out)))
        clear hx
        go_wp2_with (first
          | (with_reducible refine wpList_load_arr rfl 72 (.tmp 18) rfl b (off + k * 9) (by with_unfolding_all rfl) CA _ HC.out Tryz.underlying72 rfl IA.out ?_)
          | (with_reducible refine wpList_store_new rfl 72 (.tmp 6) (.tmp 19) rfl _ CA 72 (by with_unfolding_all rfl) (by with_unfolding_all rfl) IA.out (by with_unfolding_all exact NA.out.symm) OA.out ?_; rw [HWQ.out]))
        refine wp_region_quiet_lit (by kernel_rfl) (by kernel_rfl) ?_
        generalize hA : ({ tmps := _, defers := _ } : Act) = A
        repeat (
          refine wpQuiet_step (fun K hK => ?_)
          subst hA
          go_simp
          try (rw [if_neg (by intro h; cases h)])
          first
            | (generalize hA : ({ tmps := _, defers := _ } : Act) = A; refine hK A ?_; clear hK K)
            | (apply Exists.intro
               refine ⟨fun _ => ?_, ?_⟩
               · (go_at_call 61; with_reducible exact Calls.quiet_of_same (numbered_q x.x.id HQ.out _))
               generalize hA : ({ tmps := _, defers := _ } : Act) = A
               refine hK A ?_
               clear hK K))
        refine wpQuiet_nil ?_
        subst hA
        intro _ hw'
        obtain ⟨nq, hw''⟩ := hw'
        subst hw''
        go_wp2
        go_ret
        exact ⟨ret_int HF.out.symm, (HE.out.trans HX0.out).drewN _⟩
      | true =>
        rcases Nat.eq_zero_or_pos k with h0 | h0
        · subst h0
          have HA2 := Lib.hid (It.allN_next HA.out (by rw [Rw.pord_zero HX.out]; exact HQ.out))
          clear hx
          go_wp2_with (first
            | (with_reducible refine wpList_load_arr rfl 72 (.tmp 18) rfl b (off + 0 * 9) (by with_unfolding_all rfl) CA _ HC.out Tryz.underlying72 rfl IA.out ?_)
            | (with_reducible refine wpList_store_new rfl 72 (.tmp 6) (.tmp 19) rfl _ CA 72 (by with_unfolding_all rfl) (by with_unfolding_all rfl) IA.out (by with_unfolding_all exact NA.out.symm) OA.out ?_; rw [HWQ.out]))
          refine wp_region_quiet_lit (by kernel_rfl) (by kernel_rfl) ?_
          generalize hA : ({ tmps := _, defers := _ } : Act) = A
          repeat (
            refine wpQuiet_step (fun K hK => ?_)
            subst hA
            go_simp
            try (rw [if_neg (by intro h; cases h)])
            first
              | (generalize hA : ({ tmps := _, defers := _ } : Act) = A; refine hK A ?_; clear hK K)
              | (apply Exists.intro
                 refine ⟨fun _ => ?_, ?_⟩
                 · (go_at_call 61; with_reducible exact Calls.quiet_of_same (numbered_q x.x.id HQ.out _))
                 generalize hA : ({ tmps := _, defers := _ } : Act) = A
                 refine hK A ?_
                 clear hK K))
          refine wpQuiet_nil ?_
          subst hA
          intro _ hw'
          obtain ⟨nq, hw''⟩ := hw'
          subst hw''
          go_wp2
          go_roundw
          case rel => exact ⟨0 + 1, by omega, by go_num, HA2, Lib.hid ((HE.out.trans HX0.out).drewN _)⟩
          case measure => simp [intOf]; omega
        · obtain ⟨k, rfl⟩ : ∃ m, k = m + 1 := ⟨k - 1, by omega⟩
          obtain ⟨y, hy⟩ : ∃ y, ps[k]? = some y := ⟨ps[k]'(by rw [HN.out]; omega), List.getElem?_eq_getElem _⟩
          obtain ⟨b', off', e', hb', hc', -⟩ := (H.out.ext HE.out).at_ hy
          obtain ⟨rfl, rfl⟩ : b = b' ∧ off = off' := by cases e'; exact ⟨rfl, rfl⟩
          have HY := Lib.hid (pool_at hy)
          have d1 : wq.cell? ⟨b, off + k * 9, none⟩ = some (.int .i64 y.x.id) := HX0.out.keep (SlPo.id hc')
          rw [show ((k + 1 : Nat) : Int) = (k : Int) + 1 by omega]
          have kj0 : (0 : Int) ≤ (k : Int) := by omega
          have kj1 : (k : Int) + 1 < (n : Int) := by omega
          have kj2 : (k : Int) < (n : Int) := by omega
          have kj3 : (0 : Int) < (k : Int) + 1 := by omega
          have kj4 : IntKind.i64.wrap (k : Int) = (k : Int) := by
            simp only [IntKind.wrap, IntKind.bits, IntKind.signed]
            simp
            omega
          clear hx hy e' hc' hb'
          by_cases hxy : x.x.id ≤ y.x.id
          · have HF : Hid (v = 23) := Lib.hid (by rw [← HV.out]; exact Rw.poolE_bad (by rw [HL.out]; omega) (It.allN_no (k := k + 1) (by rw [HL.out]; exact hlt) (by rw [Rw.pord_next HX.out HY.out]; simp; omega)))
            go_wp2_with (first
              | (with_reducible refine wpList_load_arr rfl 72 (.tmp 18) rfl b (off + (k + 1) * 9) (by with_unfolding_all rfl) CA _ HC.out Tryz.underlying72 rfl IA.out ?_)
              | (with_reducible refine wpList_store_new rfl 72 (.tmp 6) (.tmp 19) rfl _ CA 72 (by with_unfolding_all rfl) (by with_unfolding_all rfl) IA.out (by with_unfolding_all exact NA.out.symm) OA.out ?_; rw [HWQ.out]))
            refine wp_region_quiet_lit (by kernel_rfl) (by kernel_rfl) ?_
            generalize hA : ({ tmps := _, defers := _ } : Act) = A
            repeat (
              refine wpQuiet_step (fun K hK => ?_)
              subst hA
              go_simp
              try (rw [if_neg (by intro h; cases h)])
              first
                | (generalize hA : ({ tmps := _, defers := _ } : Act) = A; refine hK A ?_; clear hK K)
                | (apply Exists.intro
                   refine ⟨fun _ => ?_, ?_⟩
                   · (go_at_call 61; with_reducible exact Calls.quiet_of_same (numbered_q x.x.id HQ.out _))
                   generalize hA : ({ tmps := _, defers := _ } : Act) = A
                   refine hK A ?_
                   clear hK K))
            refine wpQuiet_nil ?_
            subst hA
            intro _ hw'
            obtain ⟨nq, hw''⟩ := hw'
            subst hw''
            go_wp2
            go_ret
            exact ⟨ret_int HF.out.symm, (HE.out.trans HX0.out).drewN _⟩
          · have hxy' : y.x.id < x.x.id := by omega
            have HA2 := Lib.hid (It.allN_next HA.out (by rw [Rw.pord_next HX.out HY.out, HQ.out]; simp; omega))
            clear hxy
            go_wp2_with (first
              | (with_reducible refine wpList_load_arr rfl 72 (.tmp 18) rfl b (off + (k + 1) * 9) (by with_unfolding_all rfl) CA _ HC.out Tryz.underlying72 rfl IA.out ?_)
              | (with_reducible refine wpList_store_new rfl 72 (.tmp 6) (.tmp 19) rfl _ CA 72 (by with_unfolding_all rfl) (by with_unfolding_all rfl) IA.out (by with_unfolding_all exact NA.out.symm) OA.out ?_; rw [HWQ.out]))
            refine wp_region_quiet_lit (by kernel_rfl) (by kernel_rfl) ?_
            generalize hA : ({ tmps := _, defers := _ } : Act) = A
            repeat (
              refine wpQuiet_step (fun K hK => ?_)
              subst hA
              go_simp
              try (rw [if_neg (by intro h; cases h)])
              first
                | (generalize hA : ({ tmps := _, defers := _ } : Act) = A; refine hK A ?_; clear hK K)
                | (apply Exists.intro
                   refine ⟨fun _ => ?_, ?_⟩
                   · (go_at_call 61; with_reducible exact Calls.quiet_of_same (numbered_q x.x.id HQ.out _))
                   generalize hA : ({ tmps := _, defers := _ } : Act) = A
                   refine hK A ?_
                   clear hK K))
            refine wpQuiet_nil ?_
            subst hA
            intro _ hw'
            obtain ⟨nq, hw''⟩ := hw'
            subst hw''
            go_wp2
            go_roundw
            case rel => exact ⟨k + 1 + 1, by omega, by go_num, HA2, Lib.hid ((HE.out.trans HX0.out).drewN _)⟩
            case measure => simp [intOf]; omega
    · have HF : Hid (v = Rs.fstN (Rw.pitAt (pool ps) N) n) := Lib.hid (by
        rw [← HV.out, Rw.poolE_rest (by rw [HL.out]; omega) ?_, HL.out]
        rw [HL.out, show n = k by omega]; exact HA.out)
      obtain rfl : n = k := by omega
      go_wp2
      go_loopw [42] (fun i wr => ∃ k : Nat, k ≤ n ∧ i = .int .i64 k ∧ Hid (Rs.fstN (Rw.pitAt (pool ps) N) k = 0) ∧ Hid (Ext w wr)) (fun i _ => n - (intOf i).toNat)
      case atStart => exact ⟨0, by omega, rfl, Lib.hid rfl, HE⟩
      case round =>
        clear HE HA hlt
        obtain ⟨k, hk, rfl, HA, HE⟩ := hrel
        by_cases hlt : k < n
        · obtain ⟨x, hx⟩ : ∃ x, ps[k]? = some x := ⟨ps[k]'(by rw [HN.out]; exact hlt), List.getElem?_eq_getElem _⟩
          obtain ⟨b, off, rfl, hb, hc, hin⟩ := (H.out.ext HE.out).at_ hx
          obtain ⟨CA, hca, hna, h1a, hka⟩ := x.packed
          have HC : Hid (wr.rangeAt b (off + k * 9) CA.toList) := Lib.hid (by rw [← hka]; exact hc)
          have HX := Lib.hid (pool_at hx)
          have HI := Lib.hid hin
          have IA := Lib.hid (infoPI hna)
          have NA := Lib.hid hna
          have OA := Lib.hid h1a
          have ki0 : (0 : Int) ≤ (k : Int) := by omega
          have ki1 : (k : Int) < (n : Int) := by omega
          obtain ⟨q, hq⟩ : ∃ q, Rw.pitE x.x N = q := ⟨_, rfl⟩
          have HQ : Hid (Rw.pitAt (pool ps) N k = q) := Lib.hid (by rw [Rw.pitAt_at HX.out]; exact hq)
          have HV2 := Lib.hid (kitem33_any x N hq)
          rw [hca] at HV2
          clear hx hc hin hca hka hna h1a hq
          by_cases hq0 : q = 0
          · subst hq0
            go_wp2_with (first
              | (with_reducible refine wpList_load_arr rfl 72 (.tmp 44) rfl b (off + k * 9) (by with_unfolding_all rfl) CA _ HC.out Tryz.underlying72 rfl IA.out ?_)
              | (with_reducible refine wpList_store_new rfl 72 (.tmp 8) (.tmp 45) rfl _ CA 72 (by with_unfolding_all rfl) (by with_unfolding_all rfl) IA.out (by with_unfolding_all exact NA.out.symm) OA.out ?_)
              | (with_reducible refine wpList_load_row rfl 72 (.tmp 8) rfl wr.heap.size (by with_unfolding_all rfl) _ CA _ _ (heap_alloc_last wr _) Tryz.underlying72 rfl IA.out ?_))
            have X0 : Ext wr (wr.alloc (.cells CA 72)) := (Ext.refl _).alloc _
            have X1 := HE.out.trans X0
            with_reducible refine (HV2.out _ (HI.out.ext X0) (HG.out.ext X1)).mono ?_
            rintro e w3 ⟨rfl, hb3⟩
            have HE3 := Lib.hid (X1.trans hb3)
            clear hb3 X0 X1
            have HF2 : Hid (Rs.fstN (Rw.pitAt (pool ps) N) (k + 1) = 0) := Lib.hid (Rs.fstN_next HA.out HQ.out)
            go_wp2
            go_roundw
            case rel => exact ⟨k + 1, by omega, by go_num, HF2, HE3⟩
            case measure => simp [intOf]; omega
          · have t0 : (q != 0) = true := by rw [bne_iff_ne]; exact hq0
            have HF2 : Hid (v = q) := Lib.hid (by rw [HF.out]; exact Rs.fstN_hit hlt HA.out HQ.out hq0)
            clear hq0
            go_wp2_with (first
              | (with_reducible refine wpList_load_arr rfl 72 (.tmp 44) rfl b (off + k * 9) (by with_unfolding_all rfl) CA _ HC.out Tryz.underlying72 rfl IA.out ?_)
              | (with_reducible refine wpList_store_new rfl 72 (.tmp 8) (.tmp 45) rfl _ CA 72 (by with_unfolding_all rfl) (by with_unfolding_all rfl) IA.out (by with_unfolding_all exact NA.out.symm) OA.out ?_)
              | (with_reducible refine wpList_load_row rfl 72 (.tmp 8) rfl wr.heap.size (by with_unfolding_all rfl) _ CA _ _ (heap_alloc_last wr _) Tryz.underlying72 rfl IA.out ?_))
            have X0 : Ext wr (wr.alloc (.cells CA 72)) := (Ext.refl _).alloc _
            have X1 := HE.out.trans X0
            with_reducible refine (HV2.out _ (HI.out.ext X0) (HG.out.ext X1)).mono ?_
            rintro e w3 ⟨rfl, hb3⟩
            have HE3 := Lib.hid (X1.trans hb3)
            clear hb3 X0 X1
            go_wp2
            go_ret
            exact ⟨ret_int HF2.out.symm, HE3.out⟩
        · obtain rfl : k = n := by omega
          have HF2 : Hid (v = 0) := Lib.hid (by rw [HF.out]; exact HA.out)
          go_wp2
          go_ret
          exact ⟨ret_int HF2.out.symm, HE.out⟩
set_option maxRecDepth 100000 in
set_option maxHeartbeats 12800000 in
theorem rpool_any (Ap : Option Addr) (c : Nat) (ps : List PL) {n : Nat} (hn : ps.length = n) (N : Int) {v : Int} (hv : Rw.poolE (pool ps) N = v) (w : World) (h : SlPo w Ap ps) (hl : n ≤ 9223372036854775807) :
    Calls Tryz.prog 37 #[.slice Ap n c, .int .i64 N] w fun e w' => e = .returned (.int .i64 v) ∧ Ext w w' := by
  have H := Lib.hid h
  have HV := Lib.hid hv
  have HN := Lib.hid hn
  have HL : Hid ((pool ps).length = n) := Lib.hid ((pool_len ps).trans hn)
  clear h hv hn
  by_cases h18 : 18 < n
  · have HF : Hid (v = 5) := Lib.hid (by rw [← HV.out]; exact Rw.poolE_many (by rw [HL.out]; exact h18))
    go_enter Tryz.func37, Tryz.ntmps37
    go_wp2
    go_ret
    exact ⟨ret_int HF.out.symm, Ext.refl _⟩
  go_enter Tryz.func37, Tryz.ntmps37
  go_wp2
  go_loopw [15] (fun i wr => ∃ k : Nat, k ≤ n ∧ i = .int .i64 k ∧ Hid (It.allN (Rw.pord (pool ps)) k = true) ∧ Hid (Ext w wr)) (fun i _ => n - (intOf i).toNat)
  case atStart => exact ⟨0, by omega, rfl, Lib.hid rfl, Lib.hid (Ext.refl _)⟩
  case round =>
    obtain ⟨k, hk, rfl, HA, HE⟩ := hrel
    by_cases hlt : k < n
    · obtain ⟨x, hx⟩ : ∃ x, ps[k]? = some x := ⟨ps[k]'(by rw [HN.out]; exact hlt), List.getElem?_eq_getElem _⟩
      obtain ⟨b, off, rfl, hb, hc, -⟩ := (H.out.ext HE.out).at_ hx
      obtain ⟨CA, hca, hna, h1a, hka⟩ := x.packed
      have HC : Hid (wr.rangeAt b (off + k * 9) CA.toList) := Lib.hid (by rw [← hka]; exact hc)
      have HX := Lib.hid (pool_at hx)
      have IA := Lib.hid (infoPI hna)
      have NA := Lib.hid hna
      have OA := Lib.hid h1a
      obtain ⟨wq, hwq⟩ : ∃ W, wr.alloc (.cells CA 72) = W := ⟨_, rfl⟩
      have HX0 : Hid (Ext wr wq) := Lib.hid (by rw [← hwq]; exact (Ext.refl _).alloc _)
      have d0 : wq.cell? ⟨wr.heap.size, 0, none⟩ = some (.int .i64 x.x.id) := by
        rw [← hwq, World.cell?_alloc_new, ← Array.getElem?_toList, ← hka]
        rfl
      have HWQ := Lib.hid hwq
      have ki0 : (0 : Int) ≤ (k : Int) := by omega
      have ki1 : (k : Int) < (n : Int) := by omega
      clear hc hca hna h1a hka hwq
      obtain ⟨q, hq⟩ : ∃ q, It.wi x.x.id 1 9999999 = q := ⟨_, rfl⟩
      have HQ := Lib.hid hq
      clear hq
      cases q with
      | false =>
        have HF : Hid (v = 23) := Lib.hid (by rw [← HV.out]; exact Rw.poolE_bad (by rw [HL.out]; omega) (It.allN_no (k := k) (by rw [HL.out]; exact hlt) (pord_no HX.out HQ.out)))
        clear hx
        go_wp2_with (first
          | (with_reducible refine wpList_load_arr rfl 72 (.tmp 18) rfl b (off + k * 9) (by with_unfolding_all rfl) CA _ HC.out Tryz.underlying72 rfl IA.out ?_)
          | (with_reducible refine wpList_store_new rfl 72 (.tmp 6) (.tmp 19) rfl _ CA 72 (by with_unfolding_all rfl) (by with_unfolding_all rfl) IA.out (by with_unfolding_all exact NA.out.symm) OA.out ?_; rw [HWQ.out]))
        refine wp_region_quiet_lit (by kernel_rfl) (by kernel_rfl) ?_
        generalize hA : ({ tmps := _, defers := _ } : Act) = A
        repeat (
          refine wpQuiet_step (fun K hK => ?_)
          subst hA
          go_simp
          try (rw [if_neg (by intro h; cases h)])
          first
            | (generalize hA : ({ tmps := _, defers := _ } : Act) = A; refine hK A ?_; clear hK K)
            | (apply Exists.intro
               refine ⟨fun _ => ?_, ?_⟩
               · (go_at_call 68; with_reducible exact Calls.quiet_of_same (within33_q x.x.id 1 9999999 HQ.out _))
               generalize hA : ({ tmps := _, defers := _ } : Act) = A
               refine hK A ?_
               clear hK K))
        refine wpQuiet_nil ?_
        subst hA
        intro _ hw'
        obtain ⟨nq, hw''⟩ := hw'
        subst hw''
        go_wp2
        go_ret
        exact ⟨ret_int HF.out.symm, (HE.out.trans HX0.out).drewN _⟩
      | true =>
        rcases Nat.eq_zero_or_pos k with h0 | h0
        · subst h0
          have HA2 := Lib.hid (It.allN_next HA.out (by rw [Rw.pord_zero HX.out]; exact HQ.out))
          clear hx
          go_wp2_with (first
            | (with_reducible refine wpList_load_arr rfl 72 (.tmp 18) rfl b (off + 0 * 9) (by with_unfolding_all rfl) CA _ HC.out Tryz.underlying72 rfl IA.out ?_)
            | (with_reducible refine wpList_store_new rfl 72 (.tmp 6) (.tmp 19) rfl _ CA 72 (by with_unfolding_all rfl) (by with_unfolding_all rfl) IA.out (by with_unfolding_all exact NA.out.symm) OA.out ?_; rw [HWQ.out]))
          refine wp_region_quiet_lit (by kernel_rfl) (by kernel_rfl) ?_
          generalize hA : ({ tmps := _, defers := _ } : Act) = A
          repeat (
            refine wpQuiet_step (fun K hK => ?_)
            subst hA
            go_simp
            try (rw [if_neg (by intro h; cases h)])
            first
              | (generalize hA : ({ tmps := _, defers := _ } : Act) = A; refine hK A ?_; clear hK K)
              | (apply Exists.intro
                 refine ⟨fun _ => ?_, ?_⟩
                 · (go_at_call 68; with_reducible exact Calls.quiet_of_same (within33_q x.x.id 1 9999999 HQ.out _))
                 generalize hA : ({ tmps := _, defers := _ } : Act) = A
                 refine hK A ?_
                 clear hK K))
          refine wpQuiet_nil ?_
          subst hA
          intro _ hw'
          obtain ⟨nq, hw''⟩ := hw'
          subst hw''
          go_wp2
          go_roundw
          case rel => exact ⟨0 + 1, by omega, by go_num, HA2, Lib.hid ((HE.out.trans HX0.out).drewN _)⟩
          case measure => simp [intOf]; omega
        · obtain ⟨k, rfl⟩ : ∃ m, k = m + 1 := ⟨k - 1, by omega⟩
          obtain ⟨y, hy⟩ : ∃ y, ps[k]? = some y := ⟨ps[k]'(by rw [HN.out]; omega), List.getElem?_eq_getElem _⟩
          obtain ⟨b', off', e', hb', hc', -⟩ := (H.out.ext HE.out).at_ hy
          obtain ⟨rfl, rfl⟩ : b = b' ∧ off = off' := by cases e'; exact ⟨rfl, rfl⟩
          have HY := Lib.hid (pool_at hy)
          have d1 : wq.cell? ⟨b, off + k * 9, none⟩ = some (.int .i64 y.x.id) := HX0.out.keep (SlPo.id hc')
          rw [show ((k + 1 : Nat) : Int) = (k : Int) + 1 by omega]
          have kj0 : (0 : Int) ≤ (k : Int) := by omega
          have kj1 : (k : Int) + 1 < (n : Int) := by omega
          have kj2 : (k : Int) < (n : Int) := by omega
          have kj3 : (0 : Int) < (k : Int) + 1 := by omega
          have kj4 : IntKind.i64.wrap (k : Int) = (k : Int) := by
            simp only [IntKind.wrap, IntKind.bits, IntKind.signed]
            simp
            omega
          clear hx hy e' hc' hb'
          by_cases hxy : x.x.id ≤ y.x.id
          · have HF : Hid (v = 23) := Lib.hid (by rw [← HV.out]; exact Rw.poolE_bad (by rw [HL.out]; omega) (It.allN_no (k := k + 1) (by rw [HL.out]; exact hlt) (by rw [Rw.pord_next HX.out HY.out]; simp; omega)))
            go_wp2_with (first
              | (with_reducible refine wpList_load_arr rfl 72 (.tmp 18) rfl b (off + (k + 1) * 9) (by with_unfolding_all rfl) CA _ HC.out Tryz.underlying72 rfl IA.out ?_)
              | (with_reducible refine wpList_store_new rfl 72 (.tmp 6) (.tmp 19) rfl _ CA 72 (by with_unfolding_all rfl) (by with_unfolding_all rfl) IA.out (by with_unfolding_all exact NA.out.symm) OA.out ?_; rw [HWQ.out]))
            refine wp_region_quiet_lit (by kernel_rfl) (by kernel_rfl) ?_
            generalize hA : ({ tmps := _, defers := _ } : Act) = A
            repeat (
              refine wpQuiet_step (fun K hK => ?_)
              subst hA
              go_simp
              try (rw [if_neg (by intro h; cases h)])
              first
                | (generalize hA : ({ tmps := _, defers := _ } : Act) = A; refine hK A ?_; clear hK K)
                | (apply Exists.intro
                   refine ⟨fun _ => ?_, ?_⟩
                   · (go_at_call 68; with_reducible exact Calls.quiet_of_same (within33_q x.x.id 1 9999999 HQ.out _))
                   generalize hA : ({ tmps := _, defers := _ } : Act) = A
                   refine hK A ?_
                   clear hK K))
            refine wpQuiet_nil ?_
            subst hA
            intro _ hw'
            obtain ⟨nq, hw''⟩ := hw'
            subst hw''
            go_wp2
            go_ret
            exact ⟨ret_int HF.out.symm, (HE.out.trans HX0.out).drewN _⟩
          · have hxy' : y.x.id < x.x.id := by omega
            have HA2 := Lib.hid (It.allN_next HA.out (by rw [Rw.pord_next HX.out HY.out, HQ.out]; simp; omega))
            clear hxy
            go_wp2_with (first
              | (with_reducible refine wpList_load_arr rfl 72 (.tmp 18) rfl b (off + (k + 1) * 9) (by with_unfolding_all rfl) CA _ HC.out Tryz.underlying72 rfl IA.out ?_)
              | (with_reducible refine wpList_store_new rfl 72 (.tmp 6) (.tmp 19) rfl _ CA 72 (by with_unfolding_all rfl) (by with_unfolding_all rfl) IA.out (by with_unfolding_all exact NA.out.symm) OA.out ?_; rw [HWQ.out]))
            refine wp_region_quiet_lit (by kernel_rfl) (by kernel_rfl) ?_
            generalize hA : ({ tmps := _, defers := _ } : Act) = A
            repeat (
              refine wpQuiet_step (fun K hK => ?_)
              subst hA
              go_simp
              try (rw [if_neg (by intro h; cases h)])
              first
                | (generalize hA : ({ tmps := _, defers := _ } : Act) = A; refine hK A ?_; clear hK K)
                | (apply Exists.intro
                   refine ⟨fun _ => ?_, ?_⟩
                   · (go_at_call 68; with_reducible exact Calls.quiet_of_same (within33_q x.x.id 1 9999999 HQ.out _))
                   generalize hA : ({ tmps := _, defers := _ } : Act) = A
                   refine hK A ?_
                   clear hK K))
            refine wpQuiet_nil ?_
            subst hA
            intro _ hw'
            obtain ⟨nq, hw''⟩ := hw'
            subst hw''
            go_wp2
            go_roundw
            case rel => exact ⟨k + 1 + 1, by omega, by go_num, HA2, Lib.hid ((HE.out.trans HX0.out).drewN _)⟩
            case measure => simp [intOf]; omega
    · have HF : Hid (v = Rs.fstN (Rw.pitAt (pool ps) N) n) := Lib.hid (by
        rw [← HV.out, Rw.poolE_rest (by rw [HL.out]; omega) ?_, HL.out]
        rw [HL.out, show n = k by omega]; exact HA.out)
      obtain rfl : n = k := by omega
      go_wp2
      go_loopw [42] (fun i wr => ∃ k : Nat, k ≤ n ∧ i = .int .i64 k ∧ Hid (Rs.fstN (Rw.pitAt (pool ps) N) k = 0) ∧ Hid (Ext w wr)) (fun i _ => n - (intOf i).toNat)
      case atStart => exact ⟨0, by omega, rfl, Lib.hid rfl, HE⟩
      case round =>
        clear HE HA hlt
        obtain ⟨k, hk, rfl, HA, HE⟩ := hrel
        by_cases hlt : k < n
        · obtain ⟨x, hx⟩ : ∃ x, ps[k]? = some x := ⟨ps[k]'(by rw [HN.out]; exact hlt), List.getElem?_eq_getElem _⟩
          obtain ⟨b, off, rfl, hb, hc, hin⟩ := (H.out.ext HE.out).at_ hx
          obtain ⟨CA, hca, hna, h1a, hka⟩ := x.packed
          have HC : Hid (wr.rangeAt b (off + k * 9) CA.toList) := Lib.hid (by rw [← hka]; exact hc)
          have HX := Lib.hid (pool_at hx)
          have HI := Lib.hid hin
          have IA := Lib.hid (infoPI hna)
          have NA := Lib.hid hna
          have OA := Lib.hid h1a
          have ki0 : (0 : Int) ≤ (k : Int) := by omega
          have ki1 : (k : Int) < (n : Int) := by omega
          obtain ⟨q, hq⟩ : ∃ q, Rw.pitE x.x N = q := ⟨_, rfl⟩
          have HQ : Hid (Rw.pitAt (pool ps) N k = q) := Lib.hid (by rw [Rw.pitAt_at HX.out]; exact hq)
          have HV2 := Lib.hid (ritem33_any x N hq)
          rw [hca] at HV2
          clear hx hc hin hca hka hna h1a hq
          by_cases hq0 : q = 0
          · subst hq0
            go_wp2_with (first
              | (with_reducible refine wpList_load_arr rfl 72 (.tmp 44) rfl b (off + k * 9) (by with_unfolding_all rfl) CA _ HC.out Tryz.underlying72 rfl IA.out ?_)
              | (with_reducible refine wpList_store_new rfl 72 (.tmp 8) (.tmp 45) rfl _ CA 72 (by with_unfolding_all rfl) (by with_unfolding_all rfl) IA.out (by with_unfolding_all exact NA.out.symm) OA.out ?_)
              | (with_reducible refine wpList_load_row rfl 72 (.tmp 8) rfl wr.heap.size (by with_unfolding_all rfl) _ CA _ _ (heap_alloc_last wr _) Tryz.underlying72 rfl IA.out ?_))
            have X0 : Ext wr (wr.alloc (.cells CA 72)) := (Ext.refl _).alloc _
            have X1 := HE.out.trans X0
            with_reducible refine (HV2.out _ (HI.out.ext X0)).mono ?_
            rintro e w3 ⟨rfl, hb3⟩
            have HE3 := Lib.hid (X1.trans hb3)
            clear hb3 X0 X1
            have HF2 : Hid (Rs.fstN (Rw.pitAt (pool ps) N) (k + 1) = 0) := Lib.hid (Rs.fstN_next HA.out HQ.out)
            go_wp2
            go_roundw
            case rel => exact ⟨k + 1, by omega, by go_num, HF2, HE3⟩
            case measure => simp [intOf]; omega
          · have t0 : (q != 0) = true := by rw [bne_iff_ne]; exact hq0
            have HF2 : Hid (v = q) := Lib.hid (by rw [HF.out]; exact Rs.fstN_hit hlt HA.out HQ.out hq0)
            clear hq0
            go_wp2_with (first
              | (with_reducible refine wpList_load_arr rfl 72 (.tmp 44) rfl b (off + k * 9) (by with_unfolding_all rfl) CA _ HC.out Tryz.underlying72 rfl IA.out ?_)
              | (with_reducible refine wpList_store_new rfl 72 (.tmp 8) (.tmp 45) rfl _ CA 72 (by with_unfolding_all rfl) (by with_unfolding_all rfl) IA.out (by with_unfolding_all exact NA.out.symm) OA.out ?_)
              | (with_reducible refine wpList_load_row rfl 72 (.tmp 8) rfl wr.heap.size (by with_unfolding_all rfl) _ CA _ _ (heap_alloc_last wr _) Tryz.underlying72 rfl IA.out ?_))
            have X0 : Ext wr (wr.alloc (.cells CA 72)) := (Ext.refl _).alloc _
            have X1 := HE.out.trans X0
            with_reducible refine (HV2.out _ (HI.out.ext X0)).mono ?_
            rintro e w3 ⟨rfl, hb3⟩
            have HE3 := Lib.hid (X1.trans hb3)
            clear hb3 X0 X1
            go_wp2
            go_ret
            exact ⟨ret_int HF2.out.symm, HE3.out⟩
        · obtain rfl : k = n := by omega
          have HF2 : Hid (v = 0) := Lib.hid (by rw [HF.out]; exact HA.out)
          go_wp2
          go_ret
          exact ⟨ret_int HF2.out.symm, HE.out⟩
/-- Where a pool's item is: its index, or -1. -/
def IxR (ps : List PL) (id : Int) (v : Int) : Prop := (v = -1 ∧ ∀ (j : Nat) (x : PL), ps[j]? = some x → x.x.id ≠ id) ∨ ∃ (k : Nat) (x : PL), v = (k : Int) ∧ k < ps.length ∧ ps[k]? = some x ∧ x.x.id = id ∧ ∀ (j : Nat) (y : PL), j < k → ps[j]? = some y → y.x.id ≠ id
set_option maxRecDepth 100000 in
set_option maxHeartbeats 3200000 in
theorem wclos_any (x : PL) (g : Nat) (id : Int) {v : Bool} (hv : (x.x.id == id) = v) (w : World) (hc : w.cell? ⟨g, 0, none⟩ = some (.int .i64 id)) :
    Calls Tryz.prog 34 #[.agg x.cl.toArray, .pointer (some ⟨g, 0, none⟩)] w fun e w' => e = .returned (.bool v) ∧ Ext w w' := by
  obtain ⟨CA, hca, hna, -, hka⟩ := x.packed
  rw [hca]
  have ja0 : CA[0]? = some (.int .i64 x.x.id) := by rw [← Array.getElem?_toList, ← hka]; rfl
  have X0 : Ext w (w.alloc (.cells CA 72)) := (Ext.refl _).alloc _
  have c0 : (w.alloc (.cells CA 72)).cell? ⟨w.heap.size, 0, none⟩ = some (.int .i64 x.x.id) := (World.cell?_alloc_new _ _ _ _).trans ja0
  have c1 := X0.keep hc
  have HV := Lib.hid hv
  clear hca hna hka ja0 hv hc
  go_enter Tryz.func34, Tryz.ntmps34
  go_wp2
  go_ret
  exact ⟨ret_bool HV.out, X0⟩
set_option maxRecDepth 100000 in
set_option maxHeartbeats 6400000 in
theorem wix_any (A : Option Addr) (c : Nat) (ps : List PL) {n : Nat} (hn : ps.length = n) (g : Nat) (id : Int) (w : World) (h : SlPo w A ps) (hl : n ≤ 9223372036854775807) (hc : w.cell? ⟨g, 0, none⟩ = some (.int .i64 id)) :
    Calls Tryz.prog 33 #[.slice A n c, .func (.func 34) #[] #[.pointer (some ⟨g, 0, none⟩)]] w fun e w' => (∃ v, e = .returned (.int .i64 v) ∧ IxR ps id v) ∧ Ext w w' := by
  have H := Lib.hid h
  have HN := Lib.hid hn
  have HC := Lib.hid hc
  clear h hn hc
  go_enter Tryz.func33, Tryz.ntmps33
  go_wp2
  go_loopw [8] (fun i wr => ∃ k : Nat, k ≤ n ∧ i = .int .i64 k ∧ Hid (∀ (j : Nat) (x : PL), j < k → ps[j]? = some x → x.x.id ≠ id) ∧ Hid (Ext w wr)) (fun i _ => n - (intOf i).toNat)
  case atStart => exact ⟨0, by omega, rfl, Lib.hid (fun j x hj => absurd hj (by omega)), Lib.hid (Ext.refl _)⟩
  case round =>
    obtain ⟨k, hk, rfl, HA, HE⟩ := hrel
    by_cases hlt : k < n
    · obtain ⟨x, hx⟩ : ∃ x, ps[k]? = some x := ⟨ps[k]'(by rw [HN.out]; exact hlt), List.getElem?_eq_getElem _⟩
      obtain ⟨b, off, rfl, hb, hc, hin⟩ := (H.out.ext HE.out).at_ hx
      obtain ⟨CA, hca, hna, -, hka⟩ := x.packed
      have HR : Hid (wr.rangeAt b (off + k * 9) CA.toList) := Lib.hid (by rw [← hka]; exact hc)
      have HX := Lib.hid hx
      have IA := Lib.hid (infoPI hna)
      have ki0 : (0 : Int) ≤ (k : Int) := by omega
      have ki1 : (k : Int) < (n : Int) := by omega
      obtain ⟨q, hq⟩ : ∃ q, (x.x.id == id) = q := ⟨_, rfl⟩
      have HCL := Lib.hid (wclos_any x g id hq wr (HE.out.keep HC.out))
      rw [hca] at HCL
      have HQ := Lib.hid hq
      clear hx hc hin hca hka hna hq
      cases q with
      | true =>
        have HF : Hid (IxR ps id (k : Int)) := Lib.hid (Or.inr ⟨k, x, rfl, by rw [HN.out]; exact hlt, HX.out, by simpa using HQ.out, HA.out⟩)
        go_wp2_with (with_reducible refine wpList_load_arr rfl 72 (.tmp 14) rfl b (off + k * 9) (by with_unfolding_all rfl) CA _ HR.out Tryz.underlying72 rfl IA.out ?_)
        with_reducible refine HCL.out.mono ?_
        rintro e w3 ⟨rfl, hb3⟩
        go_wp2
        go_ret
        exact ⟨⟨_, rfl, HF.out⟩, HE.out.trans hb3⟩
      | false =>
        have HA2 : Hid (∀ (j : Nat) (x : PL), j < k + 1 → ps[j]? = some x → x.x.id ≠ id) := Lib.hid (fun j y hj hy => by
          rcases Nat.lt_or_ge j k with g | g
          · exact HA.out j y g hy
          · obtain rfl : j = k := by omega
            rw [HX.out] at hy
            injection hy with hy
            subst hy
            simpa using HQ.out)
        go_wp2_with (with_reducible refine wpList_load_arr rfl 72 (.tmp 14) rfl b (off + k * 9) (by with_unfolding_all rfl) CA _ HR.out Tryz.underlying72 rfl IA.out ?_)
        with_reducible refine HCL.out.mono ?_
        rintro e w3 ⟨rfl, hb3⟩
        have HE3 := Lib.hid (HE.out.trans hb3)
        clear hb3
        go_wp2
        go_roundw
        case rel => exact ⟨k + 1, by omega, by go_num, HA2, HE3⟩
        case measure => simp [intOf]; omega
    · obtain rfl : k = n := by omega
      have HF : Hid (IxR ps id (-1)) := Lib.hid (Or.inl ⟨rfl, fun j x hj => HA.out j x (by rw [← HN.out]; exact (List.getElem?_eq_some_iff.1 hj).1) hj⟩)
      go_wp2
      go_ret
      exact ⟨⟨_, rfl, HF.out⟩, HE.out⟩
end Go.Proofs.YtgaepmddbjdhfaaGreatDoor
namespace Go.Proofs.YtgaepmddbjdhfaaGreatDoor
open Go.ChangeShapes Go.WideShapes Go.ChangeAt Go.RowKit
/-- A number's limbs do not lie in the row's block. -/
def Apart (v : Value) (h : NL) : Prop := Rw.limbs h.v = [] ∨ ∀ a, h.A = some a → v.ownBlock ≠ some a.block
/-- A row of weights that is appended to. -/
structure OwnW (B w : World) (v : Value) (hs : List NL) : Prop where
  row : w.ownsRow B.heap.size 75 1 v hs.length (hs.map NL.val)
  ins : ∀ h ∈ hs, h.In w ∧ Apart v h
theorem OwnW.ext {B w w' : World} {v : Value} {hs : List NL} (h : OwnW B w v hs) (he : Ext w w') : OwnW B w' v hs := ⟨own_ext h.row he, fun x hx => ⟨(h.ins x hx).1.ext he, (h.ins x hx).2⟩⟩
theorem OwnW.form {B w : World} {v : Value} {hs : List NL} (h : OwnW B w v hs) : ∃ A c, v = .slice A hs.length c := own_form h.row
theorem SlU.some_ {w : World} {A : Option Addr} {xs : List Nat} (h : SlU w A xs) (hx : xs ≠ []) : ∃ b off, A = some ⟨b, off, none⟩ ∧ b < w.heap.size := by
  rcases h with h | ⟨b, off, hA, hb, -⟩
  · exact absurd (by simpa using h) hx
  · exact ⟨b, off, hA, hb⟩
theorem NL.In.grown {w w' : World} {v v' : Value} {h : NL} (hi : h.In w) (ha : Apart v h) (hg : w.grownBy w' v.ownBlock) (hob : v'.ownBlock = v.ownBlock ∨ v'.ownBlock = some w.heap.size) : h.In w' ∧ Apart v' h := by
  by_cases h0 : Rw.limbs h.v = []
  · refine ⟨⟨?_, hi.le, hi.cap⟩, Or.inl h0⟩
    rw [h0]; exact SlU.nil _ _
  · have hne : ∀ a, h.A = some a → v.ownBlock ≠ some a.block := by
      rcases ha with ha | ha
      · exact absurd ha h0
      · exact ha
    refine ⟨⟨Sl.grownX hi.s hg hne, hi.le, hi.cap⟩, Or.inr fun a haa => ?_⟩
    rcases hob with e | e
    · rw [e]; exact hne a haa
    · rw [e]
      intro e2
      injection e2 with e2
      obtain ⟨b, off, hA, hb⟩ := hi.s.some_ h0
      rw [hA] at haa
      injection haa with haa
      subst haa
      simp only at e2
      omega
theorem NL.oneCell (h : NL) : h.val.oneCell' = true := rfl
theorem flat_vals (hs : List NL) : (hs.map fun h => [h.val]).flatten = hs.map NL.val := by
  induction hs with
  | nil => rfl
  | cons x l ih => rw [List.map_cons, List.flatten_cons, ih]; rfl
/-- One number is appended. -/
theorem OwnW.app {B w : World} {v : Value} {hs : List NL} (h : OwnW B w v hs) (hB : Ext B w) {x : NL} (hx : x.In w) (hxf : Apart v x) {A : Option Addr} {c : Nat} (hs1 : Sl w 1 A [[x.val]]) (hl : hs.length ≤ 1000) :
    ∃ v' w', (∀ ty, (Builtin.append_ #[38, 38] ty #[v, .slice A 1 c]).run Tryz.prog w = .ok v' w') ∧ OwnW B w' v' (hs ++ [x]) ∧ Ext B w' := by
  obtain ⟨i0, pi0, pz0, pz1, pz2⟩ := info_parts Tryz.infoNatS
  obtain ⟨v', w', hrun, hown, hgr, hob⟩ := run_append_sl (P := Tryz.prog) w B.heap.size 38 38 75 i0 (.slice none 0 0) 1 24 Tryz.underlying38 pi0 pz0 pz1 pz2 rfl (by decide) v hs.length _ h.row A c [[x.val]] hs1
    (fun c hc => by obtain rfl : c = [x.val] := by simpa using hc
                    rfl)
    (fun c hc u hu => by obtain rfl : c = [x.val] := by simpa using hc
                         obtain rfl : u = x.val := by simpa using hu
                         exact x.oneCell)
    (by simp only [List.length_singleton]; unfold maxLen; omega) (by simp only [List.length_singleton]; omega) hB.size
  refine ⟨v', w', fun ty => hrun, ⟨?_, fun z hz => ?_⟩, hB.grown hgr (fun k hk => own_ge h.row k hk)⟩
  · rw [List.length_append, List.map_append]
    simpa using hown
  · rcases List.mem_append.1 hz with hz | hz
    · exact (h.ins z hz).1.grown (h.ins z hz).2 hgr hob
    · obtain rfl : z = x := by simpa using hz
      exact hx.grown hxf hgr hob
/-- The same as a step of a walk: the number lies in a block that was just laid. -/
theorem wpList_ownW {w : World} {ops : Array Oper} {rest : List Oper} {o : Oper} {a : Act} {Q : Exit → Act → World → Prop} (hgd : o.guard = none) (s y : Operand)
    (ho : o.op = .call { callee := .builtin .append, args := #[s, y], argTypes := #[38, 38] })
    {B : World} {v : Value} {hs : List NL} (h : OwnW B w v hs) (hB : Ext B w) {x : NL} (hx : x.In w) (hxf : Apart v x) (hl : hs.length ≤ 1000) (V : Value) (hV : x.val = V) (te : TypeId) (hs2 : a.eval s = v) (hy : a.eval y = .slice (some ⟨w.heap.size, 0, none⟩) 1 1)
    (k : ∀ v' w', OwnW B w' v' (hs ++ [x]) → Ext B w' → wpList Tryz.prog ops Q rest (a.put o.dst v') w') : wpList Tryz.prog ops Q (o :: rest) a (w.alloc (.cells #[V] te)) := by
  subst hV
  obtain ⟨v', w', hrun, h1, h2⟩ := (h.ext ((Ext.refl w).alloc (.cells #[x.val] te))).app (hB.alloc _) (hx.ext ((Ext.refl w).alloc _)) hxf (A := some ⟨w.heap.size, 0, none⟩) (c := 1) (Sl.new w [x.val] te) hl
  refine wpList_plain hgd fun K hK => ?_
  unfold Oper.wp
  rw [exec_append ho hs2 hy (hrun o.type)]
  exact hK _ _ (k v' w' h1 h2)
theorem Apart.fresh {B w : World} {v : Value} {hs : List NL} (h : OwnW B w v hs) {x : NL} (hf : ∀ a, x.A = some a → w.heap.size ≤ a.block) : Apart v x := Or.inr fun a ha e => by
  have h1 := own_lt h.row a.block e
  have h2 := hf a ha
  omega
theorem OwnW.ret {B w : World} {v : Value} {hs : List NL} (h : OwnW B w v hs) (er : Int) {vs : List Nat} (hv : hs.map (·.v) = vs) : RetW er vs (.returned (.tuple #[v, .int .i64 er])) w := by
  obtain ⟨A, c, h1, h2, h3, h4⟩ := Sl.of_own (k := 1) (xs := hs.map fun h => [h.val]) (fun c hc => by obtain ⟨s, -, rfl⟩ := List.mem_map.1 hc; rfl) (List.length_map _) (by rw [flat_vals]; exact h.row)
  rw [List.length_map] at h1 h2
  exact ⟨⟨A, c, hs⟩, by rw [h1]; rfl, ⟨h4, fun x hx => (h.ins x hx).1, h2, h3⟩, hv⟩
theorem OwnW.zero (B w : World) (hB : Ext B w) : OwnW B (w.alloc (.cells #[] 75)) (.slice (some ⟨w.heap.size, 0, none⟩) 0 0) [] :=
  ⟨⟨by simp, Or.inr ⟨w.heap.size, 0, #[], rfl, hB.size, heap_alloc_new _ _, Nat.le_refl _, Nat.zero_le _, by simp, by simp⟩⟩, fun h hh => by simp at hh⟩

set_option maxRecDepth 100000 in
set_option maxHeartbeats 12800000 in
theorem rstart_any (A : Option Addr) (c : Nat) (A' : Option Addr) (c' : Nat) (pt pr : List Int) {n m : Nat} (hn : pt.length = n) (hm : pr.length = m) {v : Int} (hv : Rw.gridE pt pr = v) {vs : List Nat} (hvs : Rw.priV pt pr = vs) (w : World) (h : SlI w A pt) (h' : SlI w A' pr) (hl : n ≤ 9223372036854775807) (hl' : m ≤ 9223372036854775807) :
    Calls Tryz.prog 38 #[.agg #[.slice A n c, .slice A' m c']] w fun e w' => RetW v vs e w' ∧ Ext w w' := by
  have H' := Lib.hid h'
  have HM := Lib.hid hm
  have HV := Lib.hid hv
  have HVS := Lib.hid hvs
  have X0 : Ext w (w.alloc (.cells #[.slice A n c, .slice A' m c'] 36)) := (Ext.refl _).alloc _
  have HGV := Lib.hid (rgrid_any A c A' c' pt pr hn hm hv _ (h.ext X0) (h'.ext X0) hl hl')
  clear h h' hn hm hv hvs
  go_enter Tryz.func38, Tryz.ntmps38
  go_wp2_with fail
  with_reducible refine HGV.out.mono ?_
  rintro e w1 ⟨rfl, hb1⟩
  have X1 := Lib.hid (X0.trans hb1)
  have c0 := hb1.keep (show (w.alloc (.cells #[.slice A n c, .slice A' m c'] 36)).cell? ⟨w.heap.size, 1, none⟩ = some (.slice A' m c') by rw [World.cell?_alloc_new]; rfl)
  clear hb1 X0
  by_cases hv0 : v = 0
  case neg =>
    have t0 : (v != 0) = true := by rw [bne_iff_ne]; exact hv0
    have HF : Hid (vs = []) := Lib.hid (by rw [← HVS.out]; exact Rw.priV_bad (by rw [HV.out]; exact hv0))
    clear hv0
    go_wp2
    go_ret2
    rw [HF.out]
    exact ⟨RetW.none v _, X1.out⟩
  subst hv0
  have HVP : Hid (vs = Rw.prior pr) := Lib.hid (by rw [← HVS.out]; exact Rw.priV_ok HV.out)
  have HOK := Lib.hid (Rw.gridE_ok HV.out)
  have hm21 : m ≤ 21 := by have := HOK.out; rw [HM.out] at this; omega
  have HO0 : Hid (OwnW w1 (w1.alloc (.cells #[] 75)) (.slice (some ⟨w1.heap.size, 0, none⟩) 0 0) []) := Lib.hid (OwnW.zero w1 w1 (Ext.refl w1))
  have HE1 : Hid (Ext w1 (w1.alloc (.cells #[] 75))) := Lib.hid ((Ext.refl w1).alloc _)
  have HC := Lib.hid c0
  clear c0
  go_wp2
  go_loopw [6, 5] (fun i v wr => ∃ (k : Nat) (hs : List NL), k ≤ m ∧ i = .int .i64 k ∧ Hid (hs.length = k) ∧ Hid (hs.map (·.v) = (Rw.prior pr).take k) ∧ Hid (OwnW w1 wr v hs) ∧ Hid (Ext w1 wr) ∧ ∃ O oc, v = .slice O k oc) (fun i _ _ => m - (intOf i).toNat)
  case atStart => exact ⟨0, [], by omega, rfl, Lib.hid rfl, Lib.hid rfl, HO0, HE1, _, _, rfl⟩
  case round =>
    clear HO0 HE1
    obtain ⟨k, hs, hk, rfl, HLN, HVV, HO, HE, O, oc, rfl⟩ := hrel
    have c0 := HE.out.keep HC.out
    by_cases hlt : k < m
    · obtain ⟨b, off, y, rfl, hb, hy, y0⟩ := (H'.out.ext (X1.out.trans HE.out)).at_ (i := k) (by rw [HM.out]; exact hlt)
      have hyb := HOK.out.2.2.2 y (List.mem_of_getElem? hy)
      obtain ⟨yn, rfl⟩ : ∃ yn : Nat, y = (yn : Int) := ⟨y.toNat, by omega⟩
      have HVN : Hid ((Rw.prior pr).take (k + 1) = (Rw.prior pr).take k ++ [yn]) := Lib.hid (by
        rw [List.take_add_one]
        unfold Rw.prior
        rw [List.getElem?_map, hy]
        rfl)
      have hyn : yn ≤ 1000 := by omega
      have ki0 : (0 : Int) ≤ (k : Int) := by omega
      have ki1 : (k : Int) < (m : Int) := by omega
      clear hy hyb
      go_wp2_with fail
      with_reducible refine (number26_any (yn : Int) (by omega) (by omega) _).mono ?_
      rintro e w3 ⟨⟨x, rfl, hxv, hxin, hxf⟩, hb3⟩
      have HXV : Hid (x.v = yn) := Lib.hid (by rw [hxv, Int.toNat_natCast])
      have HO3 := Lib.hid (HO.out.ext hb3)
      have HE3 := Lib.hid (HE.out.trans hb3)
      have HXI := Lib.hid hxin
      have HAP : Hid (Apart (.slice O k oc) x) := Lib.hid (Apart.fresh HO.out hxf)
      have HHL : Hid (hs.length ≤ 1000) := Lib.hid (by rw [HLN.out]; omega)
      obtain ⟨xA, xc, xv⟩ := x
      obtain ⟨xl, hxl⟩ : ∃ r, (Rw.limbs xv).length = r := ⟨_, rfl⟩
      have HXX : Hid (NL.val ⟨xA, xc, xv⟩ = .slice xA xl xc) := Lib.hid (by unfold NL.val; rw [hxl])
      rw [HXX.out]
      clear hxv hxin hxf hxl hb3 c0
      go_wp2_with (at_builtin; refine wpList_ownW rfl _ _ rfl HO3.out HE3.out HXI.out HAP.out HHL.out (.slice xA xl xc) HXX.out _ rfl rfl ?_; intro v' w6 ho6 hb6)
      obtain ⟨O', oc', hv'⟩ := ho6.form
      rw [List.length_append, HLN.out] at hv'
      subst hv'
      have HO6 := Lib.hid ho6
      have HB6 := Lib.hid hb6
      clear ho6 hb6
      go_wp2
      go_roundw
      case rel => exact ⟨k + 1, hs ++ [⟨xA, xc, xv⟩], by omega, by go_num, Lib.hid (by rw [List.length_append, HLN.out]; rfl), Lib.hid (by rw [List.map_append, HVV.out, HVN.out]; simp only [List.map_cons, List.map_nil]; rw [HXV.out]), HO6, HB6, _, _, rfl⟩
      case measure => simp [intOf]; omega
    · obtain rfl : m = k := by omega
      have HF : Hid (hs.map (·.v) = vs) := Lib.hid (by rw [HVV.out, HVP.out, List.take_of_length_le (by unfold Rw.prior; rw [List.length_map, HM.out]; exact Nat.le_refl _)])
      go_wp2
      go_ret2
      exact ⟨HO.out.ret 0 HF.out, X1.out.trans HE.out⟩
end Go.Proofs.YtgaepmddbjdhfaaGreatDoor
namespace Go.Proofs.YtgaepmddbjdhfaaGreatDoor
open Go.ChangeShapes Go.WideShapes Go.ChangeAt Go.RowKit
def RetWs (vs : List Nat) (e : Ending) (w' : World) : Prop := ∃ W : WL, e = .returned W.val ∧ W.In w' ∧ W.vs = vs
theorem OwnW.ret1 {B w : World} {v : Value} {hs : List NL} (h : OwnW B w v hs) {vs : List Nat} (hv : hs.map (·.v) = vs) : RetWs vs (.returned v) w := by
  obtain ⟨A, c, h1, h2, h3, h4⟩ := Sl.of_own (k := 1) (xs := hs.map fun h => [h.val]) (fun c hc => by obtain ⟨s, -, rfl⟩ := List.mem_map.1 hc; rfl) (List.length_map _) (by rw [flat_vals]; exact h.row)
  rw [List.length_map] at h1 h2
  exact ⟨⟨A, c, hs⟩, by rw [h1]; rfl, ⟨h4, fun x hx => (h.ins x hx).1, h2, h3⟩, hv⟩
/-- What each operation of the region leaves. -/
def rwgL (wb woff n Wc lb loff c yb yoff m lc g jx kk yn V oc : Nat) (O : Option Addr) (h : NL) (hs : List NL) (B0 : World) : List (Option Value → World → Prop) := [fun u _ => u = some (.slice O jx oc),
  fun u _ => u = some (.slice (some ⟨wb, woff, none⟩) n Wc),
  fun u _ => u = some (.int .i64 (jx : Int)),
  fun u _ => u = some (.pointer (some ⟨wb, woff + jx, none⟩)),
  fun u _ => u = some (NL.val h),
  fun u _ => u = some (.pointer (some ⟨g, 0, none⟩)),
  fun u _ => u = some (.slice (some ⟨lb, loff, none⟩) n c),
  fun u _ => u = some (.int .i64 (jx : Int)),
  fun u _ => u = some (.pointer (some ⟨lb, loff + jx, none⟩)),
  fun u _ => u = some (.slice (some ⟨yb, yoff, none⟩) m lc),
  fun u _ => u = some (.int .i64 (kk : Int)),
  fun u _ => u = some (.pointer (some ⟨yb, yoff + kk, none⟩)),
  fun u _ => u = some (.int .i64 (yn : Int)),
  fun u w => ∃ f : NL, u = some f.val ∧ (f.v = yn ∧ f.In w),
  fun u w => ∃ x : NL, u = some x.val ∧ (x.v = V ∧ x.In w ∧ Apart (.slice O jx oc) x),
  fun u w => ∃ W : NL × Nat, u = some (.slice (some ⟨W.2, 0, none⟩) 1 1) ∧ (Sl w 1 (some ⟨W.2, 0, none⟩) [[W.1.val]] ∧ W.1.v = V ∧ W.1.In w ∧ Apart (.slice O jx oc) W.1),
  fun u w => ∃ W : Value × NL, u = some W.1 ∧ (OwnW B0 w W.1 (hs ++ [W.2]) ∧ W.2.v = V),
  fun u w => ∃ W : Value × NL, u = some W.1 ∧ (OwnW B0 w W.1 (hs ++ [W.2]) ∧ W.2.v = V),
  fun u _ => u = none,
  fun _ w => OwnW B0 w (.slice O jx oc) hs]
theorem rwgL_mono (wb woff n Wc lb loff c yb yoff m lc g jx kk yn V oc : Nat) (O : Option Addr) (h : NL) (hs : List NL) (B0 : World) : AllMono (rwgL wb woff n Wc lb loff c yb yoff m lc g jx kk yn V oc O h hs B0) := ⟨mono_val _, mono_val _, mono_val _, mono_val _, mono_val _, mono_val _, mono_val _, mono_val _, mono_val _, mono_val _, mono_val _, mono_val _, mono_val _, fun _ _ _ he h => h.elim fun f h => ⟨f, h.1, h.2.1, h.2.2.ext he⟩, fun _ _ _ he h => h.elim fun f h => ⟨f, h.1, h.2.1, h.2.2.1.ext he, h.2.2.2⟩, fun _ _ _ he h => h.elim fun f h => ⟨f, h.1, h.2.1.ext he, h.2.2.1, h.2.2.2.1.ext he, h.2.2.2.2⟩, fun _ _ _ he h => h.elim fun f h => ⟨f, h.1, h.2.1.ext he, h.2.2⟩, fun _ _ _ he h => h.elim fun f h => ⟨f, h.1, h.2.1.ext he, h.2.2⟩, fun _ _ _ _ h => h, fun _ _ _ he h => OwnW.ext h he, trivial⟩
def rwgR (wb woff n Wc lb loff c yb yoff m lc g jx kk yn V oc : Nat) (O : Option Addr) (h : NL) (hs : List NL) (B0 : World) (j : Nat) (u : Option Value) (w : World) : Prop := (rwgL wb woff n Wc lb loff c yb yoff m lc g jx kk yn V oc O h hs B0).getD j (fun _ _ => True) u w
theorem rwgR_ext (wb woff n Wc lb loff c yb yoff m lc g jx kk yn V oc : Nat) (O : Option Addr) (h : NL) (hs : List NL) (B0 : World) (j : Nat) (u : Option Value) (w w' : World) (he : Ext w w') (hR : rwgR wb woff n Wc lb loff c yb yoff m lc g jx kk yn V oc O h hs B0 j u w) : rwgR wb woff n Wc lb loff c yb yoff m lc g jx kk yn V oc O h hs B0 j u w' := ((rwgL_mono wb woff n Wc lb loff c yb yoff m lc g jx kk yn V oc O h hs B0).at_ j) u w w' he hR
def rwgD : List Nat := [44, 45, 46, 47, 48, 49, 50, 51, 52, 53, 54, 55, 56, 57, 58, 59, 60, 9, 9, 10000]
def rwgC (j : Nat) : Option Nat := if j = 18 then some 17 else if j = 13 then some 16 else if j = 14 then some 16 else if j = 15 then some 16 else if j = 19 then some 16 else none
def rwgE (wb woff n Wc g jx kk oc : Nat) (O : Option Addr) (t : Array Value) : Prop := t.getD 0 undef = .slice (some ⟨wb, woff, none⟩) n Wc ∧ t.getD 2 undef = .int .i64 (kk : Int) ∧ t.getD 4 undef = .pointer (some ⟨g, 0, none⟩) ∧ t.getD 9 undef = .slice O jx oc ∧ t.getD 10 undef = .int .i64 (jx : Int) ∧ t.size = 62

set_option maxRecDepth 100000 in
set_option maxHeartbeats 12800000 in
theorem rwnorm_any (W : WL) {n : Nat} (hwn : W.hs.length = n) (hn : n ≤ 21) (w : World) (hW : W.In w) (hlim : ∀ v ∈ W.vs, (Rw.limbs v).length ≤ 400) :
    Calls Tryz.prog 72 #[W.val] w fun e w' => RetWs W.vs e w' ∧ Ext w w' := by
  have HW := Lib.hid hW
  have HWN := Lib.hid hwn
  have HLM := Lib.hid hlim
  have HWV := Lib.hid (fun (j : Nat) (h : NL) (hh : W.hs[j]? = some h) => WL.vs_at (i := j) hh)
  have HWL : Hid (W.vs.length = n) := Lib.hid ((WL.vs_len W).trans hwn)
  obtain ⟨ws, hws⟩ : ∃ ws, W.vs = ws := ⟨_, rfl⟩
  rw [hws] at HLM HWV HWL ⊢
  obtain ⟨WA, Wc, hs0⟩ := W
  dsimp only at HWV
  unfold WL.val
  dsimp only at hwn
  dsimp only
  rw [hwn]
  clear hwn hW hlim hws
  have HO0 : Hid (OwnW w (w.alloc (.cells #[] 75)) (.slice (some ⟨w.heap.size, 0, none⟩) 0 0) []) := Lib.hid (OwnW.zero w w (Ext.refl w))
  have HE1 : Hid (Ext w (w.alloc (.cells #[] 75))) := Lib.hid ((Ext.refl w).alloc _)
  go_enter Tryz.func72, Tryz.ntmps72
  go_wp2
  go_loopw [4, 3] (fun i v wr => ∃ (j : Nat) (hs : List NL), j ≤ n ∧ i = .int .i64 j ∧ Hid (hs.length = j) ∧ Hid (hs.map (·.v) = (ws).take j) ∧ Hid (OwnW w wr v hs) ∧ Hid (Ext w wr) ∧ ∃ O oc, v = .slice O j oc) (fun i _ _ => n - (intOf i).toNat)
  case atStart => exact ⟨0, [], by omega, rfl, Lib.hid rfl, Lib.hid rfl, HO0, HE1, _, _, rfl⟩
  case round =>
    clear HO0 HE1
    obtain ⟨j, hs, hj, rfl, HLN, HVV, HO, HE, O, oc, rfl⟩ := hrel
    by_cases hlt : j < n
    · obtain ⟨h, hh⟩ : ∃ x, hs0[j]? = some x := ⟨hs0[j]'(by rw [HWN.out]; exact hlt), List.getElem?_eq_getElem _⟩
      obtain ⟨wb, woff, hA, hbl, c0, hin⟩ := (HW.out.ext HE.out).at_ hh
      dsimp only at hA
      subst hA
      have HIN := Lib.hid hin
      have HLH : Hid ((Rw.limbs h.v).length ≤ 400) := Lib.hid (HLM.out h.v (List.mem_of_getElem? (HWV.out j h hh)))
      have ji0 : (0 : Int) ≤ (j : Int) := by omega
      have ji1 : (j : Int) < (n : Int) := by omega
      have HVN : Hid (ws.take (j + 1) = ws.take j ++ [h.v]) := Lib.hid (by rw [List.take_add_one, HWV.out j h hh]; rfl)
      clear hh hin
      go_wp2_with fail
      with_reducible refine (rnatNorm_any h _ HIN.out (Nat.le_trans HLH.out (by decide))).mono ?_
      rintro e w5 ⟨⟨x, rfl, hxv, hxin, hxf⟩, hb5⟩
      have HXV : Hid (x.v = h.v) := Lib.hid hxv
      have HO3 := Lib.hid (HO.out.ext hb5)
      have HE3 := Lib.hid (HE.out.trans hb5)
      have HXI := Lib.hid hxin
      have HAP : Hid (Apart (.slice O j oc) x) := Lib.hid (Apart.fresh HO.out hxf)
      have HHL : Hid (hs.length ≤ 1000) := Lib.hid (by rw [HLN.out]; omega)
      obtain ⟨xA, xc, xv⟩ := x
      obtain ⟨xl, hxl⟩ : ∃ r, (Rw.limbs xv).length = r := ⟨_, rfl⟩
      have HXX : Hid (NL.val ⟨xA, xc, xv⟩ = .slice xA xl xc) := Lib.hid (by unfold NL.val; rw [hxl])
      rw [HXX.out]
      clear hxv hxin hxf hb5 c0 hxl
      go_wp2_with (at_builtin; refine wpList_ownW rfl _ _ rfl HO3.out HE3.out HXI.out HAP.out HHL.out (.slice xA xl xc) HXX.out _ rfl rfl ?_; intro v' w6 ho6 hb6)
      obtain ⟨O', oc', hv'⟩ := ho6.form
      rw [List.length_append, HLN.out] at hv'
      subst hv'
      have HO6 := Lib.hid ho6
      have HB6 := Lib.hid hb6
      clear ho6 hb6
      go_wp2
      go_roundw
      case rel => exact ⟨j + 1, hs ++ [⟨xA, xc, xv⟩], by omega, by go_num, Lib.hid (by rw [List.length_append, HLN.out]; rfl), Lib.hid (by rw [List.map_append, HVV.out, HVN.out]; simp only [List.map_cons, List.map_nil]; rw [HXV.out]), HO6, HB6, _, _, rfl⟩
      case measure => simp [intOf]; omega
    · obtain rfl : n = j := by omega
      have HF : Hid (hs.map (·.v) = ws) := Lib.hid (by rw [HVV.out, List.take_of_length_le (Nat.le_of_eq HWL.out)])
      go_wp2
      go_ret
      exact ⟨HO.out.ret1 HF.out, HE.out⟩

set_option maxRecDepth 100000 in
set_option maxHeartbeats 25600000 in
theorem rupdate_any (W : WL) (A : Option Addr) (c : Nat) (ls : List IL) (k : Int) (x : Rw.PItem) (hx : Rw.xss ls = x.rows) {n : Nat} (hn : ls.length = n) (hwn : W.hs.length = n) (hm : Rw.mdlE x.rows (n : Int) = 0) {er : Int} {vs : List Nat} (her : Rw.upE x k = er) (hvs : Rw.upV x k W.vs = vs) (w : World) (hW : W.In w) (h : SlL w A ls) (hlim : ∀ v ∈ W.vs, (Rw.limbs v).length ≤ 400) :
    Calls Tryz.prog 39 #[W.val, .agg #[.slice A n c], .int .i64 k] w fun e w' => RetW er vs e w' ∧ Ext w w' := by
  have HMR := Lib.hid (Rw.mdl_rows hm)
  have hn1 := HMR.out.1
  have hn21 := HMR.out.2.1
  have HLS := Lib.hid h
  have HW := Lib.hid hW
  have HN := Lib.hid hn
  have HX := Lib.hid hx
  have HWN := Lib.hid hwn
  have HER := Lib.hid her
  have HVS := Lib.hid hvs
  have HLM := Lib.hid hlim
  have X0 : Ext w (w.alloc (.cells #[.slice A n c] 70)) := (Ext.refl _).alloc _
  have HMD := Lib.hid (rmdl_any A c ls hn (n : Int) (v := 0) (by rw [hx]; exact hm) _ (h.ext X0) (by omega))
  obtain ⟨m, hmm⟩ : ∃ m, ((Rw.xss ls).getD 0 []).length = m := ⟨_, rfl⟩
  have HCT := Lib.hid (fun w1 (hs : SlL w1 A ls) => rcats_any A c ls hn hmm w1 hs hn1 (by omega))
  have HM : Hid (Rw.cats x = m) := Lib.hid (by unfold Rw.cats; rw [← hx]; exact hmm)
  have hmb : 2 ≤ m ∧ m ≤ 6 := by have := HMR.out; rw [← hx, hmm] at this; omega
  obtain ⟨hm2, hm6⟩ := hmb
  have HWV := Lib.hid (fun (j : Nat) (h : NL) (hh : W.hs[j]? = some h) => WL.vs_at (i := j) hh)
  have HWL : Hid (W.vs.length = n) := Lib.hid ((WL.vs_len W).trans hwn)
  have HNM := Lib.hid (fun w1 (hs : W.In w1) => rwnorm_any W hwn hn21 w1 hs hlim)
  obtain ⟨ws, hws⟩ : ∃ ws, W.vs = ws := ⟨_, rfl⟩
  rw [hws] at HVS HLM HWV HWL HNM
  obtain ⟨WA, Wc, hs0⟩ := W
  dsimp only at HWV
  unfold WL.val at HNM ⊢
  dsimp only at hwn
  dsimp only at HNM ⊢
  rw [hwn] at HNM
  rw [hwn]
  have ENN := Lib.hid (enters_of Tryz.func70 (by kernel_rfl) rfl)
  have ENM := Lib.hid (enters_of Tryz.func74 (by kernel_rfl) rfl)
  clear hx hn hwn hm her hvs hW h hlim hmm hws
  go_enter Tryz.func39, Tryz.ntmps39
  go_wp2_with fail
  with_reducible refine HMD.out.mono ?_
  rintro e w1 ⟨rfl, hb1⟩
  have X1 := Lib.hid (X0.trans hb1)
  have b0 := hb1.keep (show (w.alloc (.cells #[.slice A n c] 70)).cell? ⟨w.heap.size, 0, none⟩ = some (.slice A n c) by rw [World.cell?_alloc_new]; rfl)
  have HB0 := Lib.hid b0
  clear hb1 X0
  have z1 : w.heap.size < w1.heap.size := World.block_lt_of_cell? w1 _ b0
  rcases (show k = -1 ∨ k = -2 ∨ (k ≠ -1 ∧ k ≠ -2 ∧ k < 0) ∨ (k ≠ -1 ∧ k ≠ -2 ∧ 0 ≤ k ∧ (m : Int) ≤ k) ∨ (k ≠ -1 ∧ k ≠ -2 ∧ 0 ≤ k ∧ k < (m : Int)) by omega) with hk | hk | ⟨g1, g2, hk⟩ | ⟨g1, g2, hk, hk2⟩ | ⟨g1, g2, hk, hk2⟩
  · subst hk
    have HU := Lib.hid (Rw.up_ok (x := x) (k := (-1)) (Rw.badC_miss (by decide)) ws)
    have HF : Hid (er = 0 ∧ vs = ws) := Lib.hid ⟨by rw [← HER.out, HU.out.1], by
      rw [← HVS.out, HU.out.2]
      unfold Rw.mulW
      apply List.ext_getElem
      · simp
      · intro i h1 h2; simp [Rw.fac]⟩
    clear HCT
    go_wp2_with fail
    with_reducible refine (HNM.out _ (HW.out.ext X1.out)).mono ?_
    rintro e w2 ⟨⟨V, rfl, hVi, hVv⟩, hb2⟩
    have HV2 : Hid (RetW er vs (.returned (.tuple #[V.val, .int .i64 0])) w2) := Lib.hid ⟨V, by rw [HF.out.1], hVi, by rw [hVv, HF.out.2]⟩
    have X2 := Lib.hid (X1.out.trans hb2)
    obtain ⟨VV, hVV⟩ : ∃ q, V.val = q := ⟨_, rfl⟩
    rw [hVV] at HV2 ⊢
    clear hb2 hVi hVv hVV
    go_wp2
    go_ret2
    exact ⟨HV2.out, X2.out⟩
  · subst hk
    have HU := Lib.hid (Rw.up_ok (x := x) (k := (-2)) (Rw.badC_miss (by decide)) ws)
    have HF : Hid (er = 0 ∧ vs = ws) := Lib.hid ⟨by rw [← HER.out, HU.out.1], by
      rw [← HVS.out, HU.out.2]
      unfold Rw.mulW
      apply List.ext_getElem
      · simp
      · intro i h1 h2; simp [Rw.fac]⟩
    clear HCT
    go_wp2_with fail
    with_reducible refine (HNM.out _ (HW.out.ext X1.out)).mono ?_
    rintro e w2 ⟨⟨V, rfl, hVi, hVv⟩, hb2⟩
    have HV2 : Hid (RetW er vs (.returned (.tuple #[V.val, .int .i64 0])) w2) := Lib.hid ⟨V, by rw [HF.out.1], hVi, by rw [hVv, HF.out.2]⟩
    have X2 := Lib.hid (X1.out.trans hb2)
    obtain ⟨VV, hVV⟩ : ∃ q, V.val = q := ⟨_, rfl⟩
    rw [hVV] at HV2 ⊢
    clear hb2 hVi hVv hVV
    go_wp2
    go_ret2
    exact ⟨HV2.out, X2.out⟩
  · have t1 : (k == -1) = false := by rw [beq_eq_false_iff_ne]; exact g1
    have t2 : (k == -2) = false := by rw [beq_eq_false_iff_ne]; exact g2
    have HU := Lib.hid (Rw.up_bad (x := x) (k := k) (by rw [Rw.badC_ans g1 g2]; simp [hk]) ws)
    have HF : Hid (er = 3 ∧ vs = []) := Lib.hid ⟨by rw [← HER.out, HU.out.1], by rw [← HVS.out, HU.out.2]⟩
    clear g1 g2
    go_wp2
    go_ret2
    rw [HF.out.1, HF.out.2]
    exact ⟨RetW.none 3 _, X1.out⟩
  · have t1 : (k == -1) = false := by rw [beq_eq_false_iff_ne]; exact g1
    have t2 : (k == -2) = false := by rw [beq_eq_false_iff_ne]; exact g2
    have HU := Lib.hid (Rw.up_bad (x := x) (k := k) (by rw [Rw.badC_ans g1 g2, HM.out]; simp [hk2]) ws)
    have HF : Hid (er = 3 ∧ vs = []) := Lib.hid ⟨by rw [← HER.out, HU.out.1], by rw [← HVS.out, HU.out.2]⟩
    clear g1 g2
    go_wp2_with fail
    with_reducible refine (HCT.out _ (HLS.out.ext X1.out)).mono ?_
    rintro e w2 ⟨rfl, hb2⟩
    have X2 := Lib.hid (X1.out.trans hb2)
    clear hb2
    go_wp2
    go_ret2
    rw [HF.out.1, HF.out.2]
    exact ⟨RetW.none 3 _, X2.out⟩
  · have t1 : (k == -1) = false := by rw [beq_eq_false_iff_ne]; exact g1
    have t2 : (k == -2) = false := by rw [beq_eq_false_iff_ne]; exact g2
    have HU := Lib.hid (Rw.up_ok (x := x) (k := k) (by rw [Rw.badC_ans g1 g2, HM.out]; simp; omega) ws)
    have HF : Hid (er = 0 ∧ vs = Rw.mulW x k ws) := Lib.hid ⟨by rw [← HER.out, HU.out.1], by rw [← HVS.out, HU.out.2]⟩
    obtain ⟨kk, rfl⟩ : ∃ kk : Nat, k = (kk : Int) := ⟨k.toNat, by omega⟩
    have hkm : kk < m := by omega
    have tk1 : decide ((kk : Int) < 0) = false := by rw [decide_eq_false_iff_not]; omega
    have tk2 : decide (m ≤ kk) = false := by rw [decide_eq_false_iff_not]; omega
    clear g1 g2
    go_wp2_with fail
    with_reducible refine (HCT.out _ (HLS.out.ext X1.out)).mono ?_
    rintro e w2 ⟨rfl, hb2⟩
    have X2 := Lib.hid (X1.out.trans hb2)
    have HB2 := Lib.hid (hb2.keep HB0.out)
    have b2 := HB2.out
    have z2 : w.heap.size < w2.heap.size := World.block_lt_of_cell? w2 _ b2
    clear hb2 b0 z1 X1 HB0
    have HO0 : Hid (OwnW w2 (w2.alloc (.cells #[] 75)) (.slice (some ⟨w2.heap.size, 0, none⟩) 0 0) []) := Lib.hid (OwnW.zero w2 w2 (Ext.refl w2))
    have HE1 : Hid (Ext w2 (w2.alloc (.cells #[] 75))) := Lib.hid ((Ext.refl w2).alloc _)
    go_wp2
    clear b2 z2
    go_loopw [10, 9] (fun i v wr => ∃ (j : Nat) (hs : List NL), j ≤ n ∧ i = .int .i64 j ∧ Hid (hs.length = j) ∧ Hid (hs.map (·.v) = (Rw.mulW x (kk : Int) ws).take j) ∧ Hid (OwnW w2 wr v hs) ∧ Hid (Ext w2 wr) ∧ ∃ O oc, v = .slice O j oc) (fun i _ _ => n - (intOf i).toNat)
    case atStart => exact ⟨0, [], by omega, rfl, Lib.hid rfl, Lib.hid rfl, HO0, HE1, _, _, rfl⟩
    case round =>
      clear HO0 HE1
      obtain ⟨j, hs, hj, rfl, HLN, HVV, HO, HE, O, oc, rfl⟩ := hrel
      by_cases hlt : j < n
      · obtain ⟨h, hh⟩ : ∃ x, hs0[j]? = some x := ⟨hs0[j]'(by rw [HWN.out]; exact hlt), List.getElem?_eq_getElem _⟩
        obtain ⟨wb, woff, hA, hbl, c0, hin⟩ := (HW.out.ext X2.out).at_ hh
        dsimp only at hA
        subst hA
        have HIN := Lib.hid hin
        have HC0 := Lib.hid c0
        have HLH : Hid ((Rw.limbs h.v).length ≤ 400) := Lib.hid (HLM.out h.v (List.mem_of_getElem? (HWV.out j h hh)))
        have KI := Lib.hid hlt
        have KK := Lib.hid hkm
        obtain ⟨l, hl⟩ : ∃ x, ls[j]? = some x := ⟨ls[j]'(by rw [HN.out]; exact hlt), List.getElem?_eq_getElem _⟩
        obtain ⟨lb, loff, hA, hlbl, l0, hlin⟩ := (HLS.out.ext X2.out).at_ hl
        subst hA
        obtain ⟨lA, lc, lx⟩ := l
        have hlr := HMR.out.2.2.2.2.2 j lx (by rw [← HX.out]; exact Rw.xss_at hl)
        rw [← HX.out] at hlr
        have HROW : Hid (x.rows[j]? = some lx) := Lib.hid (by rw [← HX.out]; exact Rw.xss_at hl)
        have hlm : lx.length = m := hlr.1.trans (by have := HM.out; unfold Rw.cats at this; rw [← HX.out] at this; exact this)
        dsimp only at l0
        rw [hlm] at l0
        obtain ⟨yb, yoff, y, hA2, hybl, hy, y0⟩ := hlin.1.at_ (i := kk) (by show kk < lx.length; rw [hlm]; exact hkm)
        dsimp only at hA2 hy
        subst hA2
        have hyb := hlr.2 y (List.mem_of_getElem? hy)
        obtain ⟨yn, rfl⟩ : ∃ yn : Nat, y = (yn : Int) := ⟨y.toNat, by omega⟩
        have HVN : Hid ((Rw.mulW x (kk : Int) ws).take (j + 1) = (Rw.mulW x (kk : Int) ws).take j ++ [h.v * yn]) := Lib.hid (by
          rw [Rw.mulW_at (HWV.out j h hh), Rw.fac_ans HROW.out hy])
        have hyn : yn ≤ 1000 := by omega
        have HL0 := Lib.hid l0
        have HY0 := Lib.hid y0
        have HYN := Lib.hid hyn
        clear hh hin hl hlr hlm hlin hy hyb c0 l0 y0 hyn hbl hlbl hybl
        go_wp2_with fail
        refine region_tb (by kernel_rfl) (by decide +kernel) (rwgE wb woff n Wc w.heap.size j kk oc O) ⟨rfl, rfl, rfl, rfl, rfl, rfl⟩ 20 rwgD rwgC (rwgR wb woff n Wc lb loff c yb yoff m lc w.heap.size j kk yn (h.v * yn) oc O h hs w2) w2 HE.out (fun i h1 h2 => by
            have h3 : 18 ≤ i := h1
            have h4 : i < 20 := h2
            obtain rfl | rfl : i = 18 ∨ i = 19 := by omega
            · rfl
            · exact HO.out.ext (Ext.refl _).drew) ?_ ?_
        · intro Tv dd lv U wz i o hE ho hlv hd hT
          obtain ⟨t0, t2, t4, t9, t10, tz⟩ := hE
          have hx := hT.ext
          match i, ho, hlv, hd with
          | 0, ho, hlv, hd =>
            obtain rfl := Option.some.inj ho
            have un0 : U 9 = none := hT.facts 18 (by decide) (hT.past 18 (by decide)) (fun c e => by cases e; cases hl : lv 17 with | false => rfl | true => exact absurd (dep (hT.shut 17 _ rfl hl) 0 (by kernel_rfl)) (by rw [hlv]; decide))
            have v0 := eval_old (d := dd) un0 (by omega) t9
            refine tbw_yield (v := .slice O j oc) (rwgR_ext wb woff n Wc lb loff c yb yoff m lc w.heap.size j kk yn (h.v * yn) oc O h hs w2) hT ho hd (wanted_plain rfl) rfl (by decide) (by decide) ?_ (Ext.refl _) rfl
            generalize Act.eval ⟨over Tv U, dd⟩ = ev at *
            simp [execOp, go_sem, v0]
          | 1, ho, hlv, hd =>
            obtain rfl := Option.some.inj ho
            have v0 := eval_old (d := dd) (hT.out 0 (by decide)) (by omega) t0
            refine tbw_yield (v := .slice (some ⟨wb, woff, none⟩) n Wc) (rwgR_ext wb woff n Wc lb loff c yb yoff m lc w.heap.size j kk yn (h.v * yn) oc O h hs w2) hT ho hd (wanted_plain rfl) rfl (by decide) (by decide) ?_ (Ext.refl _) rfl
            generalize Act.eval ⟨over Tv U, dd⟩ = ev at *
            simp [execOp, go_sem, v0]
          | 2, ho, hlv, hd =>
            obtain rfl := Option.some.inj ho
            have v0 := eval_old (d := dd) (hT.out 10 (by decide)) (by omega) t10
            refine tbw_yield (v := .int .i64 (j : Int)) (rwgR_ext wb woff n Wc lb loff c yb yoff m lc w.heap.size j kk yn (h.v * yn) oc O h hs w2) hT ho hd (wanted_plain rfl) rfl (by decide) (by decide) ?_ (Ext.refl _) rfl
            generalize Act.eval ⟨over Tv U, dd⟩ = ev at *
            simp [execOp, go_sem, v0]
          | 3, ho, hlv, hd =>
            obtain rfl := Option.some.inj ho
            have f0 : U 45 = some (.slice (some ⟨wb, woff, none⟩) n Wc) := hT.facts 1 (by decide) (dep hd 1 (by kernel_rfl)) (fun c e => by cases e)
            have v0 : Act.eval ⟨over Tv U, dd⟩ (.tmp 45) = _ := eval_new (t := Tv) (d := dd) f0 (by show 45 < Tv.size; omega)
            have f1 : U 46 = some (.int .i64 (j : Int)) := hT.facts 2 (by decide) (dep hd 2 (by kernel_rfl)) (fun c e => by cases e)
            have v1 : Act.eval ⟨over Tv U, dd⟩ (.tmp 46) = _ := eval_new (t := Tv) (d := dd) f1 (by show 46 < Tv.size; omega)
            have ki := KI.out
            refine tbw_yield (v := .pointer (some ⟨wb, woff + j, none⟩)) (rwgR_ext wb woff n Wc lb loff c yb yoff m lc w.heap.size j kk yn (h.v * yn) oc O h hs w2) hT ho hd (wanted_plain rfl) rfl (by decide) (by decide) ?_ (Ext.refl _) rfl
            generalize Act.eval ⟨over Tv U, dd⟩ = ev at *
            simp [execOp, go_sem, v0, v1, ki]
          | 4, ho, hlv, hd =>
            obtain rfl := Option.some.inj ho
            have f0 : U 47 = some (.pointer (some ⟨wb, woff + j, none⟩)) := hT.facts 3 (by decide) (dep hd 3 (by kernel_rfl)) (fun c e => by cases e)
            have v0 : Act.eval ⟨over Tv U, dd⟩ (.tmp 47) = _ := eval_new (t := Tv) (d := dd) f0 (by show 47 < Tv.size; omega)
            have hc := hx.keep HC0.out
            refine tbw_yield (v := NL.val h) (rwgR_ext wb woff n Wc lb loff c yb yoff m lc w.heap.size j kk yn (h.v * yn) oc O h hs w2) hT ho hd (wanted_plain rfl) rfl (by decide) (by decide) ?_ (Ext.refl _) rfl
            generalize Act.eval ⟨over Tv U, dd⟩ = ev at *
            simp [execOp, go_sem, v0, hc]
          | 5, ho, hlv, hd =>
            obtain rfl := Option.some.inj ho
            have v0 := eval_old (d := dd) (hT.out 4 (by decide)) (by omega) t4
            refine tbw_yield (v := .pointer (some ⟨w.heap.size, 0, none⟩)) (rwgR_ext wb woff n Wc lb loff c yb yoff m lc w.heap.size j kk yn (h.v * yn) oc O h hs w2) hT ho hd (wanted_plain rfl) rfl (by decide) (by decide) ?_ (Ext.refl _) rfl
            generalize Act.eval ⟨over Tv U, dd⟩ = ev at *
            simp [execOp, go_sem, v0]
          | 6, ho, hlv, hd =>
            obtain rfl := Option.some.inj ho
            have f0 : U 49 = some (.pointer (some ⟨w.heap.size, 0, none⟩)) := hT.facts 5 (by decide) (dep hd 5 (by kernel_rfl)) (fun c e => by cases e)
            have v0 : Act.eval ⟨over Tv U, dd⟩ (.tmp 49) = _ := eval_new (t := Tv) (d := dd) f0 (by show 49 < Tv.size; omega)
            have hc := hx.keep HB2.out
            refine tbw_yield (v := .slice (some ⟨lb, loff, none⟩) n c) (rwgR_ext wb woff n Wc lb loff c yb yoff m lc w.heap.size j kk yn (h.v * yn) oc O h hs w2) hT ho hd (wanted_plain rfl) rfl (by decide) (by decide) ?_ (Ext.refl _) rfl
            generalize Act.eval ⟨over Tv U, dd⟩ = ev at *
            simp [execOp, go_sem, v0, hc]
          | 7, ho, hlv, hd =>
            obtain rfl := Option.some.inj ho
            have v0 := eval_old (d := dd) (hT.out 10 (by decide)) (by omega) t10
            refine tbw_yield (v := .int .i64 (j : Int)) (rwgR_ext wb woff n Wc lb loff c yb yoff m lc w.heap.size j kk yn (h.v * yn) oc O h hs w2) hT ho hd (wanted_plain rfl) rfl (by decide) (by decide) ?_ (Ext.refl _) rfl
            generalize Act.eval ⟨over Tv U, dd⟩ = ev at *
            simp [execOp, go_sem, v0]
          | 8, ho, hlv, hd =>
            obtain rfl := Option.some.inj ho
            have f0 : U 50 = some (.slice (some ⟨lb, loff, none⟩) n c) := hT.facts 6 (by decide) (dep hd 6 (by kernel_rfl)) (fun c e => by cases e)
            have v0 : Act.eval ⟨over Tv U, dd⟩ (.tmp 50) = _ := eval_new (t := Tv) (d := dd) f0 (by show 50 < Tv.size; omega)
            have f1 : U 51 = some (.int .i64 (j : Int)) := hT.facts 7 (by decide) (dep hd 7 (by kernel_rfl)) (fun c e => by cases e)
            have v1 : Act.eval ⟨over Tv U, dd⟩ (.tmp 51) = _ := eval_new (t := Tv) (d := dd) f1 (by show 51 < Tv.size; omega)
            have ki := KI.out
            refine tbw_yield (v := .pointer (some ⟨lb, loff + j, none⟩)) (rwgR_ext wb woff n Wc lb loff c yb yoff m lc w.heap.size j kk yn (h.v * yn) oc O h hs w2) hT ho hd (wanted_plain rfl) rfl (by decide) (by decide) ?_ (Ext.refl _) rfl
            generalize Act.eval ⟨over Tv U, dd⟩ = ev at *
            simp [execOp, go_sem, v0, v1, ki]
          | 9, ho, hlv, hd =>
            obtain rfl := Option.some.inj ho
            have f0 : U 52 = some (.pointer (some ⟨lb, loff + j, none⟩)) := hT.facts 8 (by decide) (dep hd 8 (by kernel_rfl)) (fun c e => by cases e)
            have v0 : Act.eval ⟨over Tv U, dd⟩ (.tmp 52) = _ := eval_new (t := Tv) (d := dd) f0 (by show 52 < Tv.size; omega)
            have hc := hx.keep HL0.out
            refine tbw_yield (v := .slice (some ⟨yb, yoff, none⟩) m lc) (rwgR_ext wb woff n Wc lb loff c yb yoff m lc w.heap.size j kk yn (h.v * yn) oc O h hs w2) hT ho hd (wanted_plain rfl) rfl (by decide) (by decide) ?_ (Ext.refl _) rfl
            generalize Act.eval ⟨over Tv U, dd⟩ = ev at *
            simp [execOp, go_sem, v0, hc]
          | 10, ho, hlv, hd =>
            obtain rfl := Option.some.inj ho
            have v0 := eval_old (d := dd) (hT.out 2 (by decide)) (by omega) t2
            refine tbw_yield (v := .int .i64 (kk : Int)) (rwgR_ext wb woff n Wc lb loff c yb yoff m lc w.heap.size j kk yn (h.v * yn) oc O h hs w2) hT ho hd (wanted_plain rfl) rfl (by decide) (by decide) ?_ (Ext.refl _) rfl
            generalize Act.eval ⟨over Tv U, dd⟩ = ev at *
            simp [execOp, go_sem, v0]
          | 11, ho, hlv, hd =>
            obtain rfl := Option.some.inj ho
            have f0 : U 53 = some (.slice (some ⟨yb, yoff, none⟩) m lc) := hT.facts 9 (by decide) (dep hd 9 (by kernel_rfl)) (fun c e => by cases e)
            have v0 : Act.eval ⟨over Tv U, dd⟩ (.tmp 53) = _ := eval_new (t := Tv) (d := dd) f0 (by show 53 < Tv.size; omega)
            have f1 : U 54 = some (.int .i64 (kk : Int)) := hT.facts 10 (by decide) (dep hd 10 (by kernel_rfl)) (fun c e => by cases e)
            have v1 : Act.eval ⟨over Tv U, dd⟩ (.tmp 54) = _ := eval_new (t := Tv) (d := dd) f1 (by show 54 < Tv.size; omega)
            have ki := KK.out
            refine tbw_yield (v := .pointer (some ⟨yb, yoff + kk, none⟩)) (rwgR_ext wb woff n Wc lb loff c yb yoff m lc w.heap.size j kk yn (h.v * yn) oc O h hs w2) hT ho hd (wanted_plain rfl) rfl (by decide) (by decide) ?_ (Ext.refl _) rfl
            generalize Act.eval ⟨over Tv U, dd⟩ = ev at *
            simp [execOp, go_sem, v0, v1, ki]
          | 12, ho, hlv, hd =>
            obtain rfl := Option.some.inj ho
            have f0 : U 55 = some (.pointer (some ⟨yb, yoff + kk, none⟩)) := hT.facts 11 (by decide) (dep hd 11 (by kernel_rfl)) (fun c e => by cases e)
            have v0 : Act.eval ⟨over Tv U, dd⟩ (.tmp 55) = _ := eval_new (t := Tv) (d := dd) f0 (by show 55 < Tv.size; omega)
            have hc := hx.keep HY0.out
            refine tbw_yield (v := .int .i64 (yn : Int)) (rwgR_ext wb woff n Wc lb loff c yb yoff m lc w.heap.size j kk yn (h.v * yn) oc O h hs w2) hT ho hd (wanted_plain rfl) rfl (by decide) (by decide) ?_ (Ext.refl _) rfl
            generalize Act.eval ⟨over Tv U, dd⟩ = ev at *
            simp [execOp, go_sem, v0, hc]
          | 13, ho, hlv, hd =>
            obtain rfl := Option.some.inj ho
            have f0 : U 56 = some (.int .i64 (yn : Int)) := hT.facts 12 (by decide) (dep hd 12 (by kernel_rfl)) (fun c e => by cases e)
            have v0 : Act.eval ⟨over Tv U, dd⟩ (.tmp 56) = _ := eval_new (t := Tv) (d := dd) f0 (by show 56 < Tv.size; omega)
            refine tbw_call (f := 70) (args := #[.int .i64 (yn : Int)]) (rwgR_ext wb woff n Wc lb loff c yb yoff m lc w.heap.size j kk yn (h.v * yn) oc O h hs w2) hT ho hd (wanted_plain rfl) rfl (by decide) (by decide) (exec_call1 rfl rfl v0 ENN.out) ?_
            have hyn := HYN.out
            refine (number26_any (yn : Int) (by omega) (by omega) wz).mono ?_
            rintro e w' ⟨⟨f, rfl, hfv, hfin, -⟩, hb⟩
            rw [Int.toNat_natCast] at hfv
            exact ⟨_, rfl, hb, f, rfl, hfv, hfin⟩
          | 14, ho, hlv, hd =>
            obtain rfl := Option.some.inj ho
            have f0 : U 48 = some (NL.val h) := hT.facts 4 (by decide) (dep hd 4 (by kernel_rfl)) (fun c e => by cases e)
            have v0 : Act.eval ⟨over Tv U, dd⟩ (.tmp 48) = _ := eval_new (t := Tv) (d := dd) f0 (by show 48 < Tv.size; omega)
            have l16 : lv 16 = false := by
              cases h16 : lv 16 with
              | false => rfl
              | true =>
                have h15 := dep (hT.shut 16 _ rfl h16) 15 (by kernel_rfl)
                have h14 := dep (hT.shut 15 _ rfl h15) 14 (by kernel_rfl)
                rw [hlv] at h14; cases h14
            obtain ⟨f, e1, hfv, hfin⟩ := hT.facts 13 (by decide) (dep hd 13 (by kernel_rfl)) (fun c e => by cases e; exact l16)
            have v1 : Act.eval ⟨over Tv U, dd⟩ (.tmp 57) = _ := eval_new (t := Tv) (d := dd) e1 (by show 57 < Tv.size; omega)
            have f19 : OwnW w2 wz (.slice O j oc) hs := hT.facts 19 (by decide) (hT.past 19 (by decide)) (fun c e => by cases e; exact l16)
            refine tbw_call (f := 74) (args := #[NL.val h, NL.val f]) (rwgR_ext wb woff n Wc lb loff c yb yoff m lc w.heap.size j kk yn (h.v * yn) oc O h hs w2) hT ho hd (wanted_plain rfl) rfl (by decide) (by decide) (exec_call2 rfl rfl v0 v1 ENM.out) ?_
            have hyn := HYN.out
            have HFL : (Rw.limbs f.v).length ≤ 500 := by rw [hfv]; exact Nat.le_trans (Rw.limbs_len (k := 2) (by omega)) (by decide)
            refine (rnatMul_any h f wz (HIN.out.ext hx) hfin (Nat.le_trans HLH.out (by decide)) HFL).mono ?_
            rintro e w' ⟨⟨x5, rfl, hxv, hxin, hxf⟩, hb⟩
            exact ⟨_, rfl, hb, x5, rfl, by rw [hxv, hfv], hxin, Apart.fresh f19 hxf⟩
          | 15, ho, hlv, hd =>
            obtain rfl := Option.some.inj ho
            have l16 : lv 16 = false := by
              cases h16 : lv 16 with
              | false => rfl
              | true =>
                have h15 := dep (hT.shut 16 _ rfl h16) 15 (by kernel_rfl)
                rw [hlv] at h15; cases h15
            obtain ⟨x5, e1, hxv, hxin, hxa⟩ := hT.facts 14 (by decide) (dep hd 14 (by kernel_rfl)) (fun c e => by cases e; exact l16)
            have v0 : Act.eval ⟨over Tv U, dd⟩ (.tmp 58) = _ := eval_new (t := Tv) (d := dd) e1 (by show 58 < Tv.size; omega)
            refine tbw_yield (v := .slice (some ⟨wz.heap.size, 0, none⟩) 1 1) (w' := wz.alloc (.cells #[NL.val x5] 75)) (rwgR_ext wb woff n Wc lb loff c yb yoff m lc w.heap.size j kk yn (h.v * yn) oc O h hs w2) hT ho hd (wanted_plain rfl) rfl (by decide) (by decide) ?_ ((Ext.refl _).alloc _) ⟨(x5, wz.heap.size), rfl, Sl.new wz [NL.val x5] _, hxv, hxin.ext ((Ext.refl _).alloc _), hxa⟩
            generalize Act.eval ⟨over Tv U, dd⟩ = ev at *
            simp [execOp, v0, go_sem, NL.val]
          | 16, ho, hlv, hd =>
            obtain rfl := Option.some.inj ho
            have f0 : U 44 = some (.slice O j oc) := hT.facts 0 (by decide) (dep hd 0 (by kernel_rfl)) (fun c e => by cases e)
            have v0 : Act.eval ⟨over Tv U, dd⟩ (.tmp 44) = _ := eval_new (t := Tv) (d := dd) f0 (by show 44 < Tv.size; omega)
            obtain ⟨⟨x5, b5⟩, e1, hsl, hxv, hxin, hxa⟩ := hT.facts 15 (by decide) (dep hd 15 (by kernel_rfl)) (fun c e => by cases e; exact hlv)
            dsimp only at e1 hsl hxv hxin hxa
            have v1 : Act.eval ⟨over Tv U, dd⟩ (.tmp 59) = _ := eval_new (t := Tv) (d := dd) e1 (by show 59 < Tv.size; omega)
            have f19 : OwnW w2 wz (.slice O j oc) hs := hT.facts 19 (by decide) (hT.past 19 (by decide)) (fun c e => by cases e; exact hlv)
            obtain ⟨v', w', hrun, hown, hB'⟩ := f19.app hx hxin hxa hsl (by rw [HLN.out]; omega)
            refine tb_yield (v := v') (w' := w') hT ho hd rfl rfl (by decide) (by decide) (exec_append rfl v0 v1 (hrun _)) hB' ⟨(v', x5), rfl, hown, hxv⟩ ?_
            intro i hi hne hl hc hR
            match i, hi, hR with
            | 0, _, hR => exact hR
            | 1, _, hR => exact hR
            | 2, _, hR => exact hR
            | 3, _, hR => exact hR
            | 4, _, hR => exact hR
            | 5, _, hR => exact hR
            | 6, _, hR => exact hR
            | 7, _, hR => exact hR
            | 8, _, hR => exact hR
            | 9, _, hR => exact hR
            | 10, _, hR => exact hR
            | 11, _, hR => exact hR
            | 12, _, hR => exact hR
            | 13, _, _ => exact absurd rfl (hc 16 rfl).1
            | 14, _, _ => exact absurd rfl (hc 16 rfl).1
            | 15, _, _ => exact absurd rfl (hc 16 rfl).1
            | 16, _, _ => exact absurd rfl hne
            | 17, _, _ => exact absurd (dep (hT.shut 17 _ rfl hl) 16 (by kernel_rfl)) (by rw [hlv]; decide)
            | 18, _, hR => exact hR
            | 19, _, _ => exact absurd rfl (hc 16 rfl).1
            | i + 20, hi, _ => exact absurd hi (by omega)
          | 17, ho, hlv, hd =>
            obtain rfl := Option.some.inj ho
            obtain ⟨W, e0, hW⟩ := hT.facts 16 (by decide) (dep hd 16 (by kernel_rfl)) (fun c e => by cases e)
            have v0 : Act.eval ⟨over Tv U, dd⟩ (.tmp 60) = _ := eval_new (t := Tv) (d := dd) e0 (by show 60 < Tv.size; omega)
            refine tb_yieldX (v := W.1) hT ho hd rfl rfl (by decide) (by decide) ?_ hT.ext ⟨W, rfl, hW⟩ (fun _ _ _ _ _ h => h)
            generalize Act.eval ⟨over Tv U, dd⟩ = ev at *
            simp [execOp, go_sem, v0]
          | i + 18, ho, _, _ => exact absurd ho (by simp)
        intro U wz hex hout hfin
        obtain ⟨W9, f9, hW9⟩ := hfin 17 (by decide) rfl
        change U 9 = _ at f9
        have XE := Lib.hid hex
        clear hex hfin
        rw [over_list]
        simp (disch := decide) only [overL, Nat.reduceAdd, hout, Option.getD_none]
        rw [f9]
        simp only [Option.getD_some]
        clear hout f9
        obtain ⟨v9, x9⟩ := W9
        dsimp only at hW9
        obtain ⟨ho6, hxv⟩ := hW9
        have HXV : Hid (x9.v = h.v * yn) := Lib.hid hxv
        obtain ⟨O', oc', hv'⟩ := ho6.form
        rw [List.length_append, HLN.out] at hv'
        subst hv'
        have HO6 := Lib.hid ho6
        clear ho6 hxv
        go_wp2
        go_roundw
        case rel => exact ⟨j + 1, hs ++ [x9], by omega, by go_num, Lib.hid (by rw [List.length_append, HLN.out]; rfl), Lib.hid (by rw [List.map_append, HVV.out, HVN.out]; simp only [List.map_cons, List.map_nil]; rw [HXV.out]), HO6, XE, _, _, rfl⟩
        case measure => simp [intOf]; omega
      · obtain rfl : n = j := by omega
        have HFV : Hid (hs.map (·.v) = vs) := Lib.hid (by
          rw [HVV.out, List.take_of_length_le, HF.out.2]
          rw [Rw.mulW_len]
          exact Nat.le_of_eq HWL.out)
        go_wp2
        go_ret2
        rw [HF.out.1]
        exact ⟨HO.out.ret 0 HFV.out, X2.out.trans HE.out⟩
end Go.Proofs.YtgaepmddbjdhfaaGreatDoor
namespace Go.Proofs.YtgaepmddbjdhfaaGreatDoor
open Go.ChangeShapes Go.WideShapes Go.ChangeAt Go.RowKit
/-- What each operation of the region leaves. -/
def rwkkL (b off n c kk g m pc _bs _offs _ns _cs _k : Nat) (PA : Option Addr) (VV : Value) (e eu : Int) (vu : List Nat) : List (Option Value → World → Prop) := [fun u _ => u = some (VV),
  fun u _ => u = some (.slice (some ⟨b, off, none⟩) n c),
  fun u _ => u = some (.int .i64 (kk : Int)),
  fun u _ => u = some (.pointer (some ⟨b, off + kk * 9, none⟩)),
  fun u _ => u = some (.pointer (some ⟨b, off + kk * 9 + 8, none⟩)),
  fun u _ => u = some (.agg #[.slice PA m pc]),
  fun u _ => u = some (.pointer (some ⟨g, 1, none⟩)),
  fun u _ => u = some (.int .i64 e),
  fun u w => ∃ V : WL, u = some (.tuple #[V.val, .int .i64 eu]) ∧ (V.In w ∧ V.vs = vu),
  fun u w => ∃ V : WL, u = some (.tuple #[V.val, .int .i64 eu]) ∧ (V.In w ∧ V.vs = vu),
  fun u w => ∃ V : WL, u = some V.val ∧ (V.In w ∧ V.vs = vu),
  fun u _ => u = some (.int .i64 eu),
  fun u w => ∃ V : WL, u = some V.val ∧ (V.In w ∧ V.vs = vu),
  fun u _ => u = some (.int .i64 eu),
  fun u _ => u = none]
theorem rwkkL_mono (b off n c kk g m pc bs offs ns cs k : Nat) (PA : Option Addr) (VV : Value) (e eu : Int) (vu : List Nat) : AllMono (rwkkL b off n c kk g m pc bs offs ns cs k PA VV e eu vu) := ⟨mono_val _, mono_val _, mono_val _, mono_val _, mono_val _, mono_val _, mono_val _, mono_val _, fun _ _ _ he h => h.elim fun f h => ⟨f, h.1, h.2.1.ext he, h.2.2⟩, fun _ _ _ he h => h.elim fun f h => ⟨f, h.1, h.2.1.ext he, h.2.2⟩, fun _ _ _ he h => h.elim fun f h => ⟨f, h.1, h.2.1.ext he, h.2.2⟩, mono_val _, fun _ _ _ he h => h.elim fun f h => ⟨f, h.1, h.2.1.ext he, h.2.2⟩, mono_val _, fun _ _ _ _ h => h, trivial⟩
def rwkkR (b off n c kk g m pc bs offs ns cs k : Nat) (PA : Option Addr) (VV : Value) (e eu : Int) (vu : List Nat) (j : Nat) (u : Option Value) (w : World) : Prop := (rwkkL b off n c kk g m pc bs offs ns cs k PA VV e eu vu).getD j (fun _ _ => True) u w
theorem rwkkR_ext (b off n c kk g m pc bs offs ns cs k : Nat) (PA : Option Addr) (VV : Value) (e eu : Int) (vu : List Nat) (j : Nat) (u : Option Value) (w w' : World) (he : Ext w w') (hR : rwkkR b off n c kk g m pc bs offs ns cs k PA VV e eu vu j u w) : rwkkR b off n c kk g m pc bs offs ns cs k PA VV e eu vu j u w' := ((rwkkL_mono b off n c kk g m pc bs offs ns cs k PA VV e eu vu).at_ j) u w w' he hR
def rwkkD : List Nat := [51, 52, 53, 54, 55, 56, 57, 58, 59, 50, 60, 61, 10, 11, 10]
def rwkkC (j : Nat) : Option Nat := if j = 14 then some 12 else none
def rwkkE (b off n c kk g : Nat) (VV : Value) (t : Array Value) : Prop := t.getD 1 undef = .slice (some ⟨b, off, none⟩) n c ∧ t.getD 10 undef = VV ∧ t.getD 13 undef = .pointer (some ⟨g, 0, none⟩) ∧ t.getD 14 undef = .int .i64 (kk : Int) ∧ t.size = 67
set_option maxRecDepth 100000 in
set_option maxHeartbeats 25600000 in
theorem kweights_any (A : Option Addr) (c : Nat) (A' : Option Addr) (c' : Nat) (pt pr : List Int) {n m : Nat} (hn : pt.length = n) (hm : pr.length = m) (Ap : Option Addr) (cp : Nat) (ps : List PL) {np : Nat} (hnp : ps.length = np) (As : Option Addr) (cs : Nat) (ss : List Rs.Stp) {ns : Nat} (hns : ss.length = ns) (w : World) (h : SlI w A pt) (h' : SlI w A' pr) (hp : SlPo w Ap ps) (hs : Rt.SlSt w As ss) (hl : n ≤ 9223372036854775807) (hl' : m ≤ 9223372036854775807) (hlp : np ≤ 9223372036854775807) (hls : ns ≤ 9223372036854775807) (hg : Gm w) :
    Calls Tryz.prog 16 #[.agg #[.slice A n c, .slice A' m c'], .slice Ap np cp, .slice As ns cs] w fun e w' => RetW (Rw.wgtE pt pr (pool ps) ss) (Rw.wgtV pt pr (pool ps) ss) e w' ∧ Ext w w' := by
  have HP := Lib.hid hp
  have HS := Lib.hid hs
  have HN := Lib.hid hn
  have HM := Lib.hid hm
  have HNP := Lib.hid hnp
  have HNS := Lib.hid hns
  have H1 := Lib.hid h
  have H2 := Lib.hid h'
  have HG := Lib.hid hg
  obtain ⟨er, her⟩ : ∃ er, Rw.wgtE pt pr (pool ps) ss = er := ⟨_, rfl⟩
  obtain ⟨vs, hvs⟩ : ∃ vs, Rw.wgtV pt pr (pool ps) ss = vs := ⟨_, rfl⟩
  rw [her, hvs]
  have HER := Lib.hid her
  have HVS := Lib.hid hvs
  obtain ⟨v, hv⟩ : ∃ v, Rw.gridE pt pr = v := ⟨_, rfl⟩
  have HV := Lib.hid hv
  obtain ⟨q, hq⟩ : ∃ q, Rw.poolE (pool ps) (n : Int) = q := ⟨_, rfl⟩
  have HQ := Lib.hid hq
  have X0 : Ext w (w.alloc (.cells #[.slice A n c, .slice A' m c'] 36)) := (Ext.refl _).alloc _
  have HX0 := Lib.hid X0
  have HGV := Lib.hid (kgrid_any A c A' c' pt pr hn hm hv _ (h.ext X0) (h'.ext X0) hl hl')
  have HST := Lib.hid (fun (hv0 : Rw.gridE pt pr = 0) w1 (he : Ext w w1) => kstart_any A c A' c' pt pr hn hm hv0 (Rw.priV_ok hv0) w1 (h.ext he) (h'.ext he) hl hl')
  have ENU := Lib.hid (enters_of Tryz.func35 (by kernel_rfl) rfl)
  clear h h' hp hs hn hm hnp hns her hvs hv hq hg
  go_enter Tryz.func16, Tryz.ntmps16
  go_wp2_with fail
  with_reducible refine HGV.out.mono ?_
  rintro e w1 ⟨rfl, hb1⟩
  have X1 := Lib.hid (X0.trans hb1)
  have HG0 := Lib.hid (hb1.keep (show (w.alloc (.cells #[.slice A n c, .slice A' m c'] 36)).cell? ⟨w.heap.size, 0, none⟩ = some (.slice A n c) by rw [World.cell?_alloc_new]; rfl))
  have HG9 := Lib.hid (hb1.keep (show (w.alloc (.cells #[.slice A n c, .slice A' m c'] 36)).cell? ⟨w.heap.size, 1, none⟩ = some (.slice A' m c') by rw [World.cell?_alloc_new]; rfl))
  clear hb1 X0 HGV
  by_cases hv0 : v = 0
  case neg =>
    have t1 : (v != 0) = true := by rw [bne_iff_ne]; exact hv0
    have HF : Hid (er = v ∧ vs = []) := Lib.hid (by
      have := Rw.wgt_grid (p := pool ps) (ss := ss) (show Rw.gridE pt pr ≠ 0 by rw [HV.out]; exact hv0)
      rw [HER.out, HVS.out, HV.out] at this
      exact this)
    clear hv0
    go_wp2
    go_ret2
    rw [HF.out.1, HF.out.2]
    exact ⟨RetW.none v _, X1.out⟩
  subst hv0
  have g0 := HG0.out
  have gz : w.heap.size < w1.heap.size := World.block_lt_of_cell? w1 _ g0
  go_wp2_with fail
  with_reducible refine (kpool_any Ap cp ps HNP.out (n : Int) HQ.out w1 (HP.out.ext X1.out) hlp (HG.out.ext X1.out)).mono ?_
  rintro e w2 ⟨rfl, hb2⟩
  have X2 := Lib.hid (X1.out.trans hb2)
  have g0 := hb2.keep HG0.out
  have g1 := hb2.keep HG9.out
  have gz : w.heap.size < w2.heap.size := World.block_lt_of_cell? w2 _ g0
  clear hb2 X1 HG0 HG9
  by_cases hq0 : q = 0
  case neg =>
    have t1 : (q != 0) = true := by rw [bne_iff_ne]; exact hq0
    have HF : Hid (er = q ∧ vs = []) := Lib.hid (by
      have := Rw.wgt_pool (p := pool ps) (ss := ss) HV.out (show Rw.poolE (pool ps) (pt.length : Int) ≠ 0 by rw [HN.out, HQ.out]; exact hq0)
      rw [HER.out, HVS.out, HN.out, HQ.out] at this
      exact this)
    clear hq0
    go_wp2
    go_ret2
    rw [HF.out.1, HF.out.2]
    exact ⟨RetW.none q _, X2.out⟩
  subst hq0
  by_cases h18 : 18 < ns
  · have HF : Hid (er = 5 ∧ vs = []) := Lib.hid (by
      have := Rw.wgt_many (p := pool ps) (ss := ss) HV.out (show Rw.poolE (pool ps) (pt.length : Int) = 0 by rw [HN.out]; exact HQ.out) (by rw [HNS.out]; exact h18)
      rwa [HER.out, HVS.out] at this)
    go_wp2
    go_ret2
    rw [HF.out.1, HF.out.2]
    exact ⟨RetW.none 5 _, X2.out⟩
  have HF : Hid (∀ (eu : Int) (vu : List Nat), Rw.updN (pool ps) (Rw.prior pr) ss = (eu, vu) → (eu ≠ 0 → vu = []) → er = eu ∧ vs = vu) := Lib.hid (fun eu vu h1 h2 => by
    have := Rw.wgt_rest (p := pool ps) (ss := ss) HV.out (show Rw.poolE (pool ps) (pt.length : Int) = 0 by rw [HN.out]; exact HQ.out) (by rw [HNS.out]; omega) h1 h2
    rwa [HER.out, HVS.out] at this)
  have HGO := Lib.hid (Rw.gridE_ok HV.out)
  have HPO := Lib.hid (Rw.poolE_ok HQ.out)
  go_wp2_with fail
  with_reducible refine (HST.out HV.out w2 X2.out).mono ?_
  rintro e w3 ⟨⟨W0, rfl, hW0, hW0v⟩, hb3⟩
  have X3 := Lib.hid (X2.out.trans hb3)
  have HW0 := Lib.hid hW0
  have HW0L : Hid (W0.hs.length = n) := Lib.hid (by rw [← WL.vs_len, hW0v, Rw.prior_len, HGO.out.2.2.1]; exact HN.out)
  have HW0U : Hid (Rw.updN (pool ps) (Rw.prior pr) (ss.take 0) = (0, W0.vs)) := Lib.hid (by rw [hW0v]; rfl)
  have HW0B : Hid (∀ v ∈ W0.vs, v < 4294967296 ^ (0 + 1)) := Lib.hid (by rw [hW0v]; exact Rw.prior_lim HGO.out.2.2.2)
  obtain ⟨VV0, hVV⟩ : ∃ q, W0.val = q := ⟨_, rfl⟩
  rw [hVV]
  have HVV := Lib.hid hVV
  clear hb3 hW0 hW0v hVV g0 g1 gz HST X2 HER HVS
  go_wp2
  go_loopw [41, 10] (fun i v wr => ∃ (k : Nat) (W : WL), k ≤ ns ∧ i = .int .i64 k ∧ Hid (W.val = v) ∧ Hid (W.In wr) ∧ Hid (W.hs.length = n) ∧ Hid (Rw.updN (pool ps) (Rw.prior pr) (ss.take k) = (0, W.vs)) ∧ Hid (∀ v ∈ W.vs, v < 4294967296 ^ (k + 1)) ∧ Hid (Ext w wr)) (fun i _ _ => ns - (intOf i).toNat)
  case atStart => exact ⟨0, W0, by omega, rfl, HVV, HW0, HW0L, HW0U, HW0B, X3⟩
  case round =>
    clear HVV HW0 HW0L HW0U HW0B X3
    obtain ⟨k, W, hk, rfl, HVV, HW, HWL, HWU, HWB, HE⟩ := hrel
    by_cases hlt : k < ns
    · obtain ⟨st, hst⟩ : ∃ x, ss[k]? = some x := ⟨ss[k]'(by rw [HNS.out]; exact hlt), List.getElem?_eq_getElem _⟩
      obtain ⟨bs, offs, rfl, hbs', s0, s1⟩ := (HS.out.ext HE.out).at_ hst
      have HST := Lib.hid hst
      have ki0 : (0 : Int) ≤ (k : Int) := by omega
      have ki1 : (k : Int) < (ns : Int) := by omega
      clear hst
      have X0 : Ext wr (wr.alloc (.cells #[.int .i64 st.1, .int .i64 st.2] 50)) := (Ext.refl _).alloc _
      have HIX := Lib.hid (wix_any Ap cp ps HNP.out wr.heap.size st.1 _ (HP.out.ext (HE.out.trans X0)) hlp (World.cell?_alloc_new _ _ _ _))
      go_wp2_with fail
      with_reducible refine HIX.out.mono ?_
      rintro e w3 ⟨⟨iv, rfl, hix⟩, hb3⟩
      have X3 := Lib.hid (X0.trans hb3)
      have HC1 : Hid (w3.cell? ⟨wr.heap.size, 1, none⟩ = some (.int .i64 st.2)) := Lib.hid (hb3.keep (World.cell?_alloc_new _ _ _ _))
      have z3 : wr.heap.size < w3.heap.size := World.block_lt_of_cell? w3 _ HC1.out
      have HE3 := Lib.hid (HE.out.trans X3.out)
      clear hb3 X0 s0 s1 HIX
      rcases hix with ⟨rfl, hno⟩ | ⟨kk, x, rfl, hkn, hx, hid, -⟩
      · have HU6 : Hid (er = 6 ∧ vs = []) := Lib.hid (HF.out 6 [] (Rw.updN_hit HST.out HWU.out (Rw.upd1_none (Rw.fndP_none fun j x hj => by
          obtain ⟨y, hy, rfl⟩ := List.getElem?_map ▸ hj |> Option.map_eq_some_iff.1
          exact hno j y hy)) (by decide)) (fun _ => rfl))
        clear hno
        go_wp2
        go_ret2
        rw [HU6.out.1, HU6.out.2]
        exact ⟨RetW.none 6 _, HE3.out⟩
      have HFD : Hid (Rw.fndP (pool ps) st.1 = some x.x) := Lib.hid (Rw.fndP_one HPO.out.2.1 (pool_at hx) hid)
      have HMD : Hid (Rw.mdlE x.x.rows (n : Int) = 0) := Lib.hid (Rw.pitE_ok (HPO.out.2.2 kk x.x (pool_at hx)))
      obtain ⟨b, off, rfl, hb', hyr, hyin⟩ := (HP.out.ext HE3.out).at_ hx
      obtain ⟨PA, pc, pls, hpx⟩ : ∃ PA pc pls, x = ⟨x.x, PA, pc, pls⟩ := ⟨x.A, x.c, x.ls, rfl⟩
      have HPL : Hid (x.ls.length = n) := Lib.hid (by
        have := (Rw.mdl_rows HMD.out).2.2.1
        rw [← hyin.same, Rw.xss_len] at this
        exact this)
      obtain ⟨PA, hPA⟩ : ∃ PA, x.A = PA := ⟨_, rfl⟩
      obtain ⟨pc, hpc⟩ : ∃ pc, x.c = pc := ⟨_, rfl⟩
      have HRM0 : Hid (w3.rangeAt b (off + kk * 9 + 8) (#[.slice PA n pc] : Array Value).toList) := Lib.hid (by
        have := rangeAt_sub hyr 8 rfl
        rw [HPL.out, hPA, hpc] at this
        exact this)
      obtain ⟨e, he⟩ : ∃ e, st.2 = e := ⟨_, rfl⟩
      obtain ⟨eu, heu⟩ : ∃ eu, Rw.upE x.x e = eu := ⟨_, rfl⟩
      obtain ⟨vu, hvu⟩ : ∃ vu, Rw.upV x.x e W.vs = vu := ⟨_, rfl⟩
      have HUP : Hid (Rw.upd1 (pool ps) (0, W.vs) st = (eu, vu)) := Lib.hid (by rw [Rw.upd1_some HFD.out, he, heu, hvu])
      have HUC := Lib.hid (Rw.upE_cases x.x e W.vs)
      rw [heu, hvu] at HUC
      obtain ⟨VV, hVV⟩ : ∃ q, W.val = q := ⟨_, rfl⟩
      have HU : Hid (∀ w1, Ext w3 w1 → Calls Tryz.prog 35 #[VV, .agg #[.slice PA n pc], .int .i64 e] w1 fun r w' => RetW eu vu r w' ∧ Ext w1 w') := Lib.hid (fun w1 he1 => by
        have := kupdate_any W x.A x.c x.ls e x.x hyin.same HPL.out HWL.out HMD.out heu hvu w1 (HW.out.ext (X3.out.trans he1)) (hyin.rows.ext he1) (Rw.lim_limbs (q := k + 1) (by omega) HWB.out)
        rw [hVV, hPA, hpc] at this
        exact this)
      have HVX := HVV.out
      rw [hVV] at HVX
      subst HVX
      have ki : (kk : Int) < (np : Int) := by rw [← HNP.out]; omega
      have KI := Lib.hid (And.intro ki hkn)
      have KJ := Lib.hid (And.intro ki1 hlt)
      have HS1 : Hid (w3.cell? ⟨wr.heap.size, 1, none⟩ = some (.int .i64 e)) := Lib.hid (by rw [← he]; exact HC1.out)
      clear hx hid hyr hyin hpx hPA hpc he heu hvu hVV ki hb'
      have HRM := HRM0
      have t4 : decide ((kk : Int) < 0) = false := by rw [decide_eq_false_iff_not]; omega
      go_wp2_with fail
      refine region_tb (by kernel_rfl) (by decide +kernel) (rwkkE b off np cp kk wr.heap.size VV) ⟨rfl, rfl, rfl, rfl, rfl⟩ 15 rwkkD rwkkC (rwkkR b off np cp kk wr.heap.size n pc bs offs ns cs k PA VV e eu vu) w3 (Ext.refl _) (fun i h1 h2 => by
            have h3 : 14 ≤ i := h1
            have h4 : i < 15 := h2
            obtain rfl : i = 14 := by omega
            rfl) ?_ ?_
      · intro Tv dd lv U wz i o hE ho hlv hd hT
        obtain ⟨t1, t10, t13, t14, tz⟩ := hE
        have hx := hT.ext
        match i, ho, hlv, hd with
        | 0, ho, hlv, hd =>
          obtain rfl := Option.some.inj ho
          have un0 : U 10 = none := hT.facts 14 (by decide) (hT.past 14 (by decide)) (fun c e => by cases e; cases hl : lv 12 with | false => rfl | true => exact absurd (dep (hT.shut 12 _ rfl hl) 0 (by kernel_rfl)) (by rw [hlv]; decide))
          have v0 := eval_old (d := dd) un0 (by omega) t10
          refine tbw_yield (v := VV) (rwkkR_ext b off np cp kk wr.heap.size n pc bs offs ns cs k PA VV e eu vu) hT ho hd (wanted_plain rfl) rfl (by decide) (by decide) ?_ (Ext.refl _) rfl
          generalize Act.eval ⟨over Tv U, dd⟩ = ev at *
          simp [execOp, go_sem, v0]
        | 1, ho, hlv, hd =>
          obtain rfl := Option.some.inj ho
          have v0 := eval_old (d := dd) (hT.out 1 (by decide)) (by omega) t1
          refine tbw_yield (v := .slice (some ⟨b, off, none⟩) np cp) (rwkkR_ext b off np cp kk wr.heap.size n pc bs offs ns cs k PA VV e eu vu) hT ho hd (wanted_plain rfl) rfl (by decide) (by decide) ?_ (Ext.refl _) rfl
          generalize Act.eval ⟨over Tv U, dd⟩ = ev at *
          simp [execOp, go_sem, v0]
        | 2, ho, hlv, hd =>
          obtain rfl := Option.some.inj ho
          have v0 := eval_old (d := dd) (hT.out 14 (by decide)) (by omega) t14
          refine tbw_yield (v := .int .i64 (kk : Int)) (rwkkR_ext b off np cp kk wr.heap.size n pc bs offs ns cs k PA VV e eu vu) hT ho hd (wanted_plain rfl) rfl (by decide) (by decide) ?_ (Ext.refl _) rfl
          generalize Act.eval ⟨over Tv U, dd⟩ = ev at *
          simp [execOp, go_sem, v0]
        | 3, ho, hlv, hd =>
          obtain rfl := Option.some.inj ho
          have f0 : U 52 = some (.slice (some ⟨b, off, none⟩) np cp) := hT.facts 1 (by decide) (dep hd 1 (by kernel_rfl)) (fun c e => by cases e)
          have v0 : Act.eval ⟨over Tv U, dd⟩ (.tmp 52) = _ := eval_new (t := Tv) (d := dd) f0 (by show 52 < Tv.size; omega)
          have f1 : U 53 = some (.int .i64 (kk : Int)) := hT.facts 2 (by decide) (dep hd 2 (by kernel_rfl)) (fun c e => by cases e)
          have v1 : Act.eval ⟨over Tv U, dd⟩ (.tmp 53) = _ := eval_new (t := Tv) (d := dd) f1 (by show 53 < Tv.size; omega)
          have ki := KI.out
          refine tbw_yield (v := .pointer (some ⟨b, off + kk * 9, none⟩)) (rwkkR_ext b off np cp kk wr.heap.size n pc bs offs ns cs k PA VV e eu vu) hT ho hd (wanted_plain rfl) rfl (by decide) (by decide) ?_ (Ext.refl _) rfl
          generalize Act.eval ⟨over Tv U, dd⟩ = ev at *
          simp [execOp, go_sem, v0, v1, ki]
        | 4, ho, hlv, hd =>
          obtain rfl := Option.some.inj ho
          have f0 : U 54 = some (.pointer (some ⟨b, off + kk * 9, none⟩)) := hT.facts 3 (by decide) (dep hd 3 (by kernel_rfl)) (fun c e => by cases e)
          have v0 : Act.eval ⟨over Tv U, dd⟩ (.tmp 54) = _ := eval_new (t := Tv) (d := dd) f0 (by show 54 < Tv.size; omega)
          refine tbw_yield (v := .pointer (some ⟨b, off + kk * 9 + 8, none⟩)) (rwkkR_ext b off np cp kk wr.heap.size n pc bs offs ns cs k PA VV e eu vu) hT ho hd (wanted_plain rfl) rfl (by decide) (by decide) ?_ (Ext.refl _) rfl
          generalize Act.eval ⟨over Tv U, dd⟩ = ev at *
          simp [execOp, go_sem, v0]
        | 5, ho, hlv, hd =>
          obtain rfl := Option.some.inj ho
          have f0 : U 55 = some (.pointer (some ⟨b, off + kk * 9 + 8, none⟩)) := hT.facts 4 (by decide) (dep hd 4 (by kernel_rfl)) (fun c e => by cases e)
          have v0 : Act.eval ⟨over Tv U, dd⟩ (.tmp 55) = _ := eval_new (t := Tv) (d := dd) f0 (by show 55 < Tv.size; omega)
          refine tbw_yield (v := .agg #[.slice PA n pc]) (rwkkR_ext b off np cp kk wr.heap.size n pc bs offs ns cs k PA VV e eu vu) hT ho hd (wanted_plain rfl) rfl (by decide) (by decide) (exec_load_arr _ _ rfl b (off + kk * 9 + 8) v0 #[.slice PA n pc] _ (hx.range HRM.out) Tryz.underlying70 rfl (by kernel_rfl)) (Ext.refl _) rfl
        | 6, ho, hlv, hd =>
          obtain rfl := Option.some.inj ho
          have v0 := eval_old (d := dd) (hT.out 13 (by decide)) (by omega) t13
          refine tbw_yield (v := .pointer (some ⟨wr.heap.size, 1, none⟩)) (rwkkR_ext b off np cp kk wr.heap.size n pc bs offs ns cs k PA VV e eu vu) hT ho hd (wanted_plain rfl) rfl (by decide) (by decide) ?_ (Ext.refl _) rfl
          generalize Act.eval ⟨over Tv U, dd⟩ = ev at *
          simp [execOp, go_sem, v0]
        | 7, ho, hlv, hd =>
          obtain rfl := Option.some.inj ho
          have f0 : U 57 = some (.pointer (some ⟨wr.heap.size, 1, none⟩)) := hT.facts 6 (by decide) (dep hd 6 (by kernel_rfl)) (fun c e => by cases e)
          have v0 : Act.eval ⟨over Tv U, dd⟩ (.tmp 57) = _ := eval_new (t := Tv) (d := dd) f0 (by show 57 < Tv.size; omega)
          have hc := hx.keep HS1.out
          refine tbw_yield (v := .int .i64 e) (rwkkR_ext b off np cp kk wr.heap.size n pc bs offs ns cs k PA VV e eu vu) hT ho hd (wanted_plain rfl) rfl (by decide) (by decide) ?_ (Ext.refl _) rfl
          generalize Act.eval ⟨over Tv U, dd⟩ = ev at *
          simp [execOp, go_sem, v0, hc]
        | 8, ho, hlv, hd =>
          obtain rfl := Option.some.inj ho
          have f0 : U 51 = some (VV) := hT.facts 0 (by decide) (dep hd 0 (by kernel_rfl)) (fun c e => by cases e)
          have v0 : Act.eval ⟨over Tv U, dd⟩ (.tmp 51) = _ := eval_new (t := Tv) (d := dd) f0 (by show 51 < Tv.size; omega)
          have f1 : U 56 = some (.agg #[.slice PA n pc]) := hT.facts 5 (by decide) (dep hd 5 (by kernel_rfl)) (fun c e => by cases e)
          have v1 : Act.eval ⟨over Tv U, dd⟩ (.tmp 56) = _ := eval_new (t := Tv) (d := dd) f1 (by show 56 < Tv.size; omega)
          have f2 : U 58 = some (.int .i64 e) := hT.facts 7 (by decide) (dep hd 7 (by kernel_rfl)) (fun c e => by cases e)
          have v2 : Act.eval ⟨over Tv U, dd⟩ (.tmp 58) = _ := eval_new (t := Tv) (d := dd) f2 (by show 58 < Tv.size; omega)
          refine tbw_call (f := 35) (args := #[VV, .agg #[.slice PA n pc], .int .i64 e]) (rwkkR_ext b off np cp kk wr.heap.size n pc bs offs ns cs k PA VV e eu vu) hT ho hd (wanted_plain rfl) rfl (by decide) (by decide) (exec_call3 rfl rfl v0 v1 v2 ENU.out) ?_
          refine (HU.out wz hx).mono ?_
          rintro e w' ⟨⟨V, rfl, hVi, hVv⟩, hb⟩
          exact ⟨_, rfl, hb, V, rfl, hVi, hVv⟩
        | 9, ho, hlv, hd =>
          obtain rfl := Option.some.inj ho
          obtain ⟨W, e0, hW⟩ := hT.facts 8 (by decide) (dep hd 8 (by kernel_rfl)) (fun c e => by cases e)
          have v0 : Act.eval ⟨over Tv U, dd⟩ (.tmp 59) = _ := eval_new (t := Tv) (d := dd) e0 (by show 59 < Tv.size; omega)
          refine tbw_yield (v := .tuple #[W.val, .int .i64 eu]) (rwkkR_ext b off np cp kk wr.heap.size n pc bs offs ns cs k PA VV e eu vu) hT ho hd (wanted_plain rfl) rfl (by decide) (by decide) ?_ (Ext.refl _) ⟨W, rfl, hW⟩
          generalize Act.eval ⟨over Tv U, dd⟩ = ev at *
          simp [execOp, go_sem, v0]
        | 10, ho, hlv, hd =>
          obtain rfl := Option.some.inj ho
          obtain ⟨W, e0, hW⟩ := hT.facts 9 (by decide) (dep hd 9 (by kernel_rfl)) (fun c e => by cases e)
          have v0 : Act.eval ⟨over Tv U, dd⟩ (.tmp 50) = _ := eval_new (t := Tv) (d := dd) e0 (by show 50 < Tv.size; omega)
          refine tbw_yield (v := W.val) (rwkkR_ext b off np cp kk wr.heap.size n pc bs offs ns cs k PA VV e eu vu) hT ho hd (wanted_plain rfl) rfl (by decide) (by decide) ?_ (Ext.refl _) ⟨W, rfl, hW⟩
          generalize Act.eval ⟨over Tv U, dd⟩ = ev at *
          simp [execOp, go_sem, v0]
        | 11, ho, hlv, hd =>
          obtain rfl := Option.some.inj ho
          obtain ⟨W, e0, hW⟩ := hT.facts 9 (by decide) (dep hd 9 (by kernel_rfl)) (fun c e => by cases e)
          have v0 : Act.eval ⟨over Tv U, dd⟩ (.tmp 50) = _ := eval_new (t := Tv) (d := dd) e0 (by show 50 < Tv.size; omega)
          refine tbw_yield (v := .int .i64 eu) (rwkkR_ext b off np cp kk wr.heap.size n pc bs offs ns cs k PA VV e eu vu) hT ho hd (wanted_plain rfl) rfl (by decide) (by decide) ?_ (Ext.refl _) rfl
          generalize Act.eval ⟨over Tv U, dd⟩ = ev at *
          simp [execOp, go_sem, v0]
        | 12, ho, hlv, hd =>
          obtain rfl := Option.some.inj ho
          obtain ⟨W, e0, hW⟩ := hT.facts 10 (by decide) (dep hd 10 (by kernel_rfl)) (fun c e => by cases e)
          have v0 : Act.eval ⟨over Tv U, dd⟩ (.tmp 60) = _ := eval_new (t := Tv) (d := dd) e0 (by show 60 < Tv.size; omega)
          refine tb_yieldX (v := W.val) hT ho hd rfl rfl (by decide) (by decide) ?_ hT.ext ⟨W, rfl, hW⟩ (fun _ _ _ _ _ h => h)
          generalize Act.eval ⟨over Tv U, dd⟩ = ev at *
          simp [execOp, go_sem, v0]
        | 13, ho, hlv, hd =>
          obtain rfl := Option.some.inj ho
          have f0 : U 61 = some (.int .i64 eu) := hT.facts 11 (by decide) (dep hd 11 (by kernel_rfl)) (fun c e => by cases e)
          have v0 : Act.eval ⟨over Tv U, dd⟩ (.tmp 61) = _ := eval_new (t := Tv) (d := dd) f0 (by show 61 < Tv.size; omega)
          refine tbw_yield (v := .int .i64 eu) (rwkkR_ext b off np cp kk wr.heap.size n pc bs offs ns cs k PA VV e eu vu) hT ho hd (wanted_plain rfl) rfl (by decide) (by decide) ?_ (Ext.refl _) rfl
          generalize Act.eval ⟨over Tv U, dd⟩ = ev at *
          simp [execOp, go_sem, v0]
        | i + 14, ho, _, _ => exact absurd ho (by simp)
      intro U wz hex hout hfin
      obtain ⟨W10, f10, hW10⟩ := hfin 12 (by decide) rfl
      change U 10 = _ at f10
      have f11 : U 11 = some (.int .i64 eu) := hfin 13 (by decide) rfl
      have XE := Lib.hid hex
      clear hex hfin
      rw [over_list]
      simp (disch := decide) only [overL, Nat.reduceAdd, hout, Option.getD_none]
      rw [f10, f11]
      simp only [Option.getD_some]
      clear hout f10 f11
      have HE4 := Lib.hid (HE3.out.trans XE.out)
      rcases HUC.out with ⟨h3, h4⟩ | ⟨h3, h4⟩
      · subst h3 h4
        have HU6 : Hid (er = 3 ∧ vs = []) := Lib.hid (HF.out 3 [] (Rw.updN_hit HST.out HWU.out HUP.out (by decide)) (fun _ => rfl))
        go_wp2
        go_ret2
        rw [HU6.out.1, HU6.out.2]
        exact ⟨RetW.none 3 _, HE4.out⟩
      · subst h3
        have HVN := Lib.hid hW10.1
        have HVL : Hid (W10.hs.length = n) := Lib.hid (by rw [← WL.vs_len, hW10.2, h4, Rw.mulW_len, WL.vs_len]; exact HWL.out)
        have HVU : Hid (Rw.updN (pool ps) (Rw.prior pr) (ss.take (k + 1)) = (0, W10.vs)) := Lib.hid (by rw [Rw.updN_next HST.out, HWU.out, HUP.out, hW10.2])
        have HVB : Hid (∀ v ∈ W10.vs, v < 4294967296 ^ (k + 1 + 1)) := Lib.hid (by rw [hW10.2, h4]; exact Rw.mulW_lim HMD.out HWB.out)
        obtain ⟨V2, hV2⟩ : ∃ q, W10.val = q := ⟨_, rfl⟩
        have HV2 := Lib.hid hV2
        rw [hV2]
        clear h4 hV2
        go_wp2
        go_roundw
        case rel => exact ⟨k + 1, W10, by omega, by go_num, HV2, HVN, HVL, HVU, HVB, HE4⟩
        case measure => simp [intOf]; omega
    · obtain rfl : ns = k := by omega
      have HR : Hid (er = 0 ∧ vs = W.vs) := Lib.hid (HF.out 0 W.vs (by
        have := HWU.out
        rwa [List.take_of_length_le (by rw [HNS.out]; exact Nat.le_refl _)] at this) (fun h => absurd rfl h))
      have HVX := HVV.out
      subst HVX
      have HRV : Hid (RetW er vs (.returned (.tuple #[W.val, .int .i64 0])) wr) := Lib.hid ⟨W, by rw [HR.out.1], HW.out, HR.out.2.symm⟩
      obtain ⟨VV, hVV⟩ : ∃ q, W.val = q := ⟨_, rfl⟩
      rw [hVV] at HRV ⊢
      clear hVV HVV
      go_wp2
      go_ret2
      exact ⟨HRV.out, HE.out⟩
/-- What each operation of the region leaves. -/
def rwkrL (b off n c kk _g m pc bs offs ns cs k : Nat) (PA : Option Addr) (VV : Value) (e eu : Int) (vu : List Nat) : List (Option Value → World → Prop) := [fun u _ => u = some (VV),
  fun u _ => u = some (.slice (some ⟨b, off, none⟩) n c),
  fun u _ => u = some (.int .i64 (kk : Int)),
  fun u _ => u = some (.pointer (some ⟨b, off + kk * 9, none⟩)),
  fun u _ => u = some (.pointer (some ⟨b, off + kk * 9 + 8, none⟩)),
  fun u _ => u = some (.agg #[.slice PA m pc]),
  fun u _ => u = some (.slice (some ⟨bs, offs, none⟩) ns cs),
  fun u _ => u = some (.int .i64 (k : Int)),
  fun u _ => u = some (.pointer (some ⟨bs, offs + k * 2, none⟩)),
  fun u _ => u = some (.pointer (some ⟨bs, offs + k * 2 + 1, none⟩)),
  fun u _ => u = some (.int .i64 e),
  fun u w => ∃ V : WL, u = some (.tuple #[V.val, .int .i64 eu]) ∧ (V.In w ∧ V.vs = vu),
  fun u w => ∃ V : WL, u = some (.tuple #[V.val, .int .i64 eu]) ∧ (V.In w ∧ V.vs = vu),
  fun u w => ∃ V : WL, u = some V.val ∧ (V.In w ∧ V.vs = vu),
  fun u _ => u = some (.int .i64 eu),
  fun u w => ∃ V : WL, u = some V.val ∧ (V.In w ∧ V.vs = vu),
  fun u _ => u = some (.int .i64 eu),
  fun u _ => u = none]
theorem rwkrL_mono (b off n c kk g m pc bs offs ns cs k : Nat) (PA : Option Addr) (VV : Value) (e eu : Int) (vu : List Nat) : AllMono (rwkrL b off n c kk g m pc bs offs ns cs k PA VV e eu vu) := ⟨mono_val _, mono_val _, mono_val _, mono_val _, mono_val _, mono_val _, mono_val _, mono_val _, mono_val _, mono_val _, mono_val _, fun _ _ _ he h => h.elim fun f h => ⟨f, h.1, h.2.1.ext he, h.2.2⟩, fun _ _ _ he h => h.elim fun f h => ⟨f, h.1, h.2.1.ext he, h.2.2⟩, fun _ _ _ he h => h.elim fun f h => ⟨f, h.1, h.2.1.ext he, h.2.2⟩, mono_val _, fun _ _ _ he h => h.elim fun f h => ⟨f, h.1, h.2.1.ext he, h.2.2⟩, mono_val _, fun _ _ _ _ h => h, trivial⟩
def rwkrR (b off n c kk g m pc bs offs ns cs k : Nat) (PA : Option Addr) (VV : Value) (e eu : Int) (vu : List Nat) (j : Nat) (u : Option Value) (w : World) : Prop := (rwkrL b off n c kk g m pc bs offs ns cs k PA VV e eu vu).getD j (fun _ _ => True) u w
theorem rwkrR_ext (b off n c kk g m pc bs offs ns cs k : Nat) (PA : Option Addr) (VV : Value) (e eu : Int) (vu : List Nat) (j : Nat) (u : Option Value) (w w' : World) (he : Ext w w') (hR : rwkrR b off n c kk g m pc bs offs ns cs k PA VV e eu vu j u w) : rwkrR b off n c kk g m pc bs offs ns cs k PA VV e eu vu j u w' := ((rwkrL_mono b off n c kk g m pc bs offs ns cs k PA VV e eu vu).at_ j) u w w' he hR
def rwkrD : List Nat := [62, 63, 64, 65, 66, 67, 68, 69, 70, 71, 72, 73, 61, 74, 75, 9, 8, 9]
def rwkrC (j : Nat) : Option Nat := if j = 17 then some 15 else none
def rwkrE (b off n c kk bs offs ns cs k : Nat) (VV : Value) (t : Array Value) : Prop := t.getD 1 undef = .slice (some ⟨b, off, none⟩) n c ∧ t.getD 2 undef = .slice (some ⟨bs, offs, none⟩) ns cs ∧ t.getD 9 undef = VV ∧ t.getD 11 undef = .int .i64 (k : Int) ∧ t.getD 12 undef = .int .i64 (kk : Int) ∧ t.size = 80
set_option maxRecDepth 100000 in
set_option maxHeartbeats 25600000 in
theorem rweights_any (A : Option Addr) (c : Nat) (A' : Option Addr) (c' : Nat) (pt pr : List Int) {n m : Nat} (hn : pt.length = n) (hm : pr.length = m) (Ap : Option Addr) (cp : Nat) (ps : List PL) {np : Nat} (hnp : ps.length = np) (As : Option Addr) (cs : Nat) (ss : List Rs.Stp) {ns : Nat} (hns : ss.length = ns) (w : World) (h : SlI w A pt) (h' : SlI w A' pr) (hp : SlPo w Ap ps) (hs : Rt.SlSt w As ss) (hl : n ≤ 9223372036854775807) (hl' : m ≤ 9223372036854775807) (hlp : np ≤ 9223372036854775807) (hls : ns ≤ 9223372036854775807) :
    Calls Tryz.prog 17 #[.agg #[.slice A n c, .slice A' m c'], .slice Ap np cp, .slice As ns cs] w fun e w' => RetW (Rw.wgtE pt pr (pool ps) ss) (Rw.wgtV pt pr (pool ps) ss) e w' ∧ Ext w w' := by
  have HP := Lib.hid hp
  have HS := Lib.hid hs
  have HN := Lib.hid hn
  have HM := Lib.hid hm
  have HNP := Lib.hid hnp
  have HNS := Lib.hid hns
  have H1 := Lib.hid h
  have H2 := Lib.hid h'
  obtain ⟨er, her⟩ : ∃ er, Rw.wgtE pt pr (pool ps) ss = er := ⟨_, rfl⟩
  obtain ⟨vs, hvs⟩ : ∃ vs, Rw.wgtV pt pr (pool ps) ss = vs := ⟨_, rfl⟩
  rw [her, hvs]
  have HER := Lib.hid her
  have HVS := Lib.hid hvs
  obtain ⟨v, hv⟩ : ∃ v, Rw.gridE pt pr = v := ⟨_, rfl⟩
  have HV := Lib.hid hv
  obtain ⟨q, hq⟩ : ∃ q, Rw.poolE (pool ps) (n : Int) = q := ⟨_, rfl⟩
  have HQ := Lib.hid hq
  have X0 : Ext w (w.alloc (.cells #[.slice A n c, .slice A' m c'] 36)) := (Ext.refl _).alloc _
  have HX0 := Lib.hid X0
  have HGV := Lib.hid (rgrid_any A c A' c' pt pr hn hm hv _ (h.ext X0) (h'.ext X0) hl hl')
  have HST := Lib.hid (fun (hv0 : Rw.gridE pt pr = 0) w1 (he : Ext w w1) => rstart_any A c A' c' pt pr hn hm hv0 (Rw.priV_ok hv0) w1 (h.ext he) (h'.ext he) hl hl')
  have ENU := Lib.hid (enters_of Tryz.func39 (by kernel_rfl) rfl)
  clear h h' hp hs hn hm hnp hns her hvs hv hq
  go_enter Tryz.func17, Tryz.ntmps17
  go_wp2_with fail
  with_reducible refine HGV.out.mono ?_
  rintro e w1 ⟨rfl, hb1⟩
  have X1 := Lib.hid (X0.trans hb1)
  have HG0 := Lib.hid (hb1.keep (show (w.alloc (.cells #[.slice A n c, .slice A' m c'] 36)).cell? ⟨w.heap.size, 0, none⟩ = some (.slice A n c) by rw [World.cell?_alloc_new]; rfl))
  have HG9 := Lib.hid (hb1.keep (show (w.alloc (.cells #[.slice A n c, .slice A' m c'] 36)).cell? ⟨w.heap.size, 1, none⟩ = some (.slice A' m c') by rw [World.cell?_alloc_new]; rfl))
  clear hb1 X0 HGV
  by_cases hv0 : v = 0
  case neg =>
    have t1 : (v != 0) = true := by rw [bne_iff_ne]; exact hv0
    have HF : Hid (er = v ∧ vs = []) := Lib.hid (by
      have := Rw.wgt_grid (p := pool ps) (ss := ss) (show Rw.gridE pt pr ≠ 0 by rw [HV.out]; exact hv0)
      rw [HER.out, HVS.out, HV.out] at this
      exact this)
    clear hv0
    go_wp2
    go_ret2
    rw [HF.out.1, HF.out.2]
    exact ⟨RetW.none v _, X1.out⟩
  subst hv0
  have g0 := HG0.out
  have gz : w.heap.size < w1.heap.size := World.block_lt_of_cell? w1 _ g0
  go_wp2_with fail
  with_reducible refine (rpool_any Ap cp ps HNP.out (n : Int) HQ.out w1 (HP.out.ext X1.out) hlp).mono ?_
  rintro e w2 ⟨rfl, hb2⟩
  have X2 := Lib.hid (X1.out.trans hb2)
  have g0 := hb2.keep HG0.out
  have g1 := hb2.keep HG9.out
  have gz : w.heap.size < w2.heap.size := World.block_lt_of_cell? w2 _ g0
  clear hb2 X1 HG0 HG9
  by_cases hq0 : q = 0
  case neg =>
    have t1 : (q != 0) = true := by rw [bne_iff_ne]; exact hq0
    have HF : Hid (er = q ∧ vs = []) := Lib.hid (by
      have := Rw.wgt_pool (p := pool ps) (ss := ss) HV.out (show Rw.poolE (pool ps) (pt.length : Int) ≠ 0 by rw [HN.out, HQ.out]; exact hq0)
      rw [HER.out, HVS.out, HN.out, HQ.out] at this
      exact this)
    clear hq0
    go_wp2
    go_ret2
    rw [HF.out.1, HF.out.2]
    exact ⟨RetW.none q _, X2.out⟩
  subst hq0
  by_cases h18 : 18 < ns
  · have HF : Hid (er = 5 ∧ vs = []) := Lib.hid (by
      have := Rw.wgt_many (p := pool ps) (ss := ss) HV.out (show Rw.poolE (pool ps) (pt.length : Int) = 0 by rw [HN.out]; exact HQ.out) (by rw [HNS.out]; exact h18)
      rwa [HER.out, HVS.out] at this)
    go_wp2
    go_ret2
    rw [HF.out.1, HF.out.2]
    exact ⟨RetW.none 5 _, X2.out⟩
  have HF : Hid (∀ (eu : Int) (vu : List Nat), Rw.updN (pool ps) (Rw.prior pr) ss = (eu, vu) → (eu ≠ 0 → vu = []) → er = eu ∧ vs = vu) := Lib.hid (fun eu vu h1 h2 => by
    have := Rw.wgt_rest (p := pool ps) (ss := ss) HV.out (show Rw.poolE (pool ps) (pt.length : Int) = 0 by rw [HN.out]; exact HQ.out) (by rw [HNS.out]; omega) h1 h2
    rwa [HER.out, HVS.out] at this)
  have HGO := Lib.hid (Rw.gridE_ok HV.out)
  have HPO := Lib.hid (Rw.poolE_ok HQ.out)
  go_wp2_with fail
  with_reducible refine (HST.out HV.out w2 X2.out).mono ?_
  rintro e w3 ⟨⟨W0, rfl, hW0, hW0v⟩, hb3⟩
  have X3 := Lib.hid (X2.out.trans hb3)
  have HW0 := Lib.hid hW0
  have HW0L : Hid (W0.hs.length = n) := Lib.hid (by rw [← WL.vs_len, hW0v, Rw.prior_len, HGO.out.2.2.1]; exact HN.out)
  have HW0U : Hid (Rw.updN (pool ps) (Rw.prior pr) (ss.take 0) = (0, W0.vs)) := Lib.hid (by rw [hW0v]; rfl)
  have HW0B : Hid (∀ v ∈ W0.vs, v < 4294967296 ^ (0 + 1)) := Lib.hid (by rw [hW0v]; exact Rw.prior_lim HGO.out.2.2.2)
  obtain ⟨VV0, hVV⟩ : ∃ q, W0.val = q := ⟨_, rfl⟩
  rw [hVV]
  have HVV := Lib.hid hVV
  clear hb3 hW0 hW0v hVV g0 g1 gz HST X2 HER HVS
  go_wp2
  go_loopw [11, 9] (fun i v wr => ∃ (k : Nat) (W : WL), k ≤ ns ∧ i = .int .i64 k ∧ Hid (W.val = v) ∧ Hid (W.In wr) ∧ Hid (W.hs.length = n) ∧ Hid (Rw.updN (pool ps) (Rw.prior pr) (ss.take k) = (0, W.vs)) ∧ Hid (∀ v ∈ W.vs, v < 4294967296 ^ (k + 1)) ∧ Hid (Ext w wr)) (fun i _ _ => ns - (intOf i).toNat)
  case atStart => exact ⟨0, W0, by omega, rfl, HVV, HW0, HW0L, HW0U, HW0B, X3⟩
  case round =>
    clear HVV HW0 HW0L HW0U HW0B X3
    obtain ⟨k, W, hk, rfl, HVV, HW, HWL, HWU, HWB, HE⟩ := hrel
    by_cases hlt : k < ns
    · obtain ⟨st, hst⟩ : ∃ x, ss[k]? = some x := ⟨ss[k]'(by rw [HNS.out]; exact hlt), List.getElem?_eq_getElem _⟩
      obtain ⟨bs, offs, rfl, hbs', s0, s1⟩ := (HS.out.ext HE.out).at_ hst
      have HST := Lib.hid hst
      have ki0 : (0 : Int) ≤ (k : Int) := by omega
      have ki1 : (k : Int) < (ns : Int) := by omega
      clear hst
      have HC0 := Lib.hid s0
      have HC1 := Lib.hid s1
      clear s0 s1
      obtain ⟨wo, hwo⟩ : ∃ x, x = wr := ⟨wr, rfl⟩
      subst hwo
      go_wp2
      go_loopw [13, 12] (fun i v wi => ∃ (q : Nat) (iv : Int), q ≤ np ∧ i = .int .i64 q ∧ v = .int .i64 iv ∧ Hid ((iv = -1 ∧ ∀ (j : Nat) (x : PL), j < q → ps[j]? = some x → x.x.id ≠ st.1) ∨ ∃ (kk : Nat) (x : PL), iv = (kk : Int) ∧ kk < ps.length ∧ ps[kk]? = some x ∧ x.x.id = st.1) ∧ Hid (Ext wo wi)) (fun i _ _ => np - (intOf i).toNat)
      case atStart => exact ⟨0, -1, by omega, rfl, rfl, Lib.hid (Or.inl ⟨rfl, fun j x hj => absurd hj (by omega)⟩), Lib.hid (Ext.refl _)⟩
      case round =>
        obtain ⟨q, iv, hq, rfl, rfl, HIV, HEI⟩ := hrel
        by_cases hqt : q < np
        · obtain ⟨x, hx⟩ : ∃ x, ps[q]? = some x := ⟨ps[q]'(by rw [HNP.out]; exact hqt), List.getElem?_eq_getElem _⟩
          obtain ⟨b, off, rfl, hb, hc, -⟩ := (HP.out.ext (HE.out.trans HEI.out)).at_ hx
          have d0 := SlPo.id hc
          have d1 := HEI.out.keep HC0.out
          have HX := Lib.hid hx
          have qi0 : (0 : Int) ≤ (q : Int) := by omega
          have qi1 : (q : Int) < (np : Int) := by omega
          clear hx hc hb
          by_cases hxe : x.x.id = st.1
          · have t0 : (x.x.id == st.1) = true := by rw [beq_iff_eq]; exact hxe
            have HIV2 : Hid ((((q : Int)) = -1 ∧ ∀ (j : Nat) (x : PL), j < q + 1 → ps[j]? = some x → x.x.id ≠ st.1) ∨ ∃ (kk : Nat) (x : PL), (q : Int) = (kk : Int) ∧ kk < ps.length ∧ ps[kk]? = some x ∧ x.x.id = st.1) := Lib.hid (Or.inr ⟨q, x, rfl, by rw [HNP.out]; exact hqt, HX.out, hxe⟩)
            clear hxe
            go_wp2_with fail
            go_quiet (fail)
            go_wp2
            go_roundw
            case rel => exact ⟨q + 1, q, by omega, by go_num, rfl, HIV2, Lib.hid (HEI.out.drewN _)⟩
            case measure => simp [intOf]; omega
          · have t0 : (x.x.id == st.1) = false := by rw [beq_eq_false_iff_ne]; exact hxe
            have HIV2 : Hid ((iv = -1 ∧ ∀ (j : Nat) (x : PL), j < q + 1 → ps[j]? = some x → x.x.id ≠ st.1) ∨ ∃ (kk : Nat) (x : PL), iv = (kk : Int) ∧ kk < ps.length ∧ ps[kk]? = some x ∧ x.x.id = st.1) := Lib.hid (by
              rcases HIV.out with ⟨h1, h2⟩ | h1
              · refine Or.inl ⟨h1, fun j y hj hy => ?_⟩
                rcases Nat.lt_or_ge j q with g | g
                · exact h2 j y g hy
                · obtain rfl : j = q := by omega
                  rw [HX.out] at hy
                  injection hy with hy
                  subst hy
                  exact hxe
              · exact Or.inr h1)
            clear hxe
            go_wp2_with fail
            go_quiet (fail)
            go_wp2
            go_roundw
            case rel => exact ⟨q + 1, iv, by omega, by go_num, rfl, HIV2, Lib.hid (HEI.out.drewN _)⟩
            case measure => simp [intOf]; omega
        obtain rfl : np = q := by omega
        have X3 := HEI
        have HE3 := Lib.hid (HE.out.trans X3.out)
        have hix := HIV.out
        clear HIV HEI hqt
        rcases hix with ⟨rfl, hno⟩ | ⟨kk, x, rfl, hkn, hx, hid⟩
        · have HU6 : Hid (er = 6 ∧ vs = []) := Lib.hid (HF.out 6 [] (Rw.updN_hit HST.out HWU.out (Rw.upd1_none (Rw.fndP_none fun j x hj => by
            obtain ⟨y, hy, rfl⟩ := List.getElem?_map ▸ hj |> Option.map_eq_some_iff.1
            exact hno j y (by rw [← HNP.out]; exact (List.getElem?_eq_some_iff.1 hy).1) hy)) (by decide)) (fun _ => rfl))
          clear hno
          go_wp2
          go_ret2
          rw [HU6.out.1, HU6.out.2]
          exact ⟨RetW.none 6 _, HE3.out⟩
        have HFD : Hid (Rw.fndP (pool ps) st.1 = some x.x) := Lib.hid (Rw.fndP_one HPO.out.2.1 (pool_at hx) hid)
        have HMD : Hid (Rw.mdlE x.x.rows (n : Int) = 0) := Lib.hid (Rw.pitE_ok (HPO.out.2.2 kk x.x (pool_at hx)))
        obtain ⟨b, off, rfl, hb', hyr, hyin⟩ := (HP.out.ext HE3.out).at_ hx
        obtain ⟨PA, pc, pls, hpx⟩ : ∃ PA pc pls, x = ⟨x.x, PA, pc, pls⟩ := ⟨x.A, x.c, x.ls, rfl⟩
        have HPL : Hid (x.ls.length = n) := Lib.hid (by
          have := (Rw.mdl_rows HMD.out).2.2.1
          rw [← hyin.same, Rw.xss_len] at this
          exact this)
        obtain ⟨PA, hPA⟩ : ∃ PA, x.A = PA := ⟨_, rfl⟩
        obtain ⟨pc, hpc⟩ : ∃ pc, x.c = pc := ⟨_, rfl⟩
        have HRM0 : Hid (wr.rangeAt b (off + kk * 9 + 8) (#[.slice PA n pc] : Array Value).toList) := Lib.hid (by
          have := rangeAt_sub hyr 8 rfl
          rw [HPL.out, hPA, hpc] at this
          exact this)
        obtain ⟨e, he⟩ : ∃ e, st.2 = e := ⟨_, rfl⟩
        obtain ⟨eu, heu⟩ : ∃ eu, Rw.upE x.x e = eu := ⟨_, rfl⟩
        obtain ⟨vu, hvu⟩ : ∃ vu, Rw.upV x.x e W.vs = vu := ⟨_, rfl⟩
        have HUP : Hid (Rw.upd1 (pool ps) (0, W.vs) st = (eu, vu)) := Lib.hid (by rw [Rw.upd1_some HFD.out, he, heu, hvu])
        have HUC := Lib.hid (Rw.upE_cases x.x e W.vs)
        rw [heu, hvu] at HUC
        obtain ⟨VV, hVV⟩ : ∃ q, W.val = q := ⟨_, rfl⟩
        have HU : Hid (∀ w1, Ext wr w1 → Calls Tryz.prog 39 #[VV, .agg #[.slice PA n pc], .int .i64 e] w1 fun r w' => RetW eu vu r w' ∧ Ext w1 w') := Lib.hid (fun w1 he1 => by
          have := rupdate_any W x.A x.c x.ls e x.x hyin.same HPL.out HWL.out HMD.out heu hvu w1 (HW.out.ext (X3.out.trans he1)) (hyin.rows.ext he1) (Rw.lim_limbs (q := k + 1) (by omega) HWB.out)
          rw [hVV, hPA, hpc] at this
          exact this)
        have HVX := HVV.out
        rw [hVV] at HVX
        subst HVX
        have ki : (kk : Int) < (np : Int) := by rw [← HNP.out]; omega
        have KI := Lib.hid (And.intro ki hkn)
        have KJ := Lib.hid (And.intro ki1 hlt)
        have HS1 : Hid (wr.cell? ⟨bs, offs + k * 2 + 1, none⟩ = some (.int .i64 e)) := Lib.hid (by rw [← he]; exact X3.out.keep HC1.out)
        clear hx hid hyr hyin hpx hPA hpc he heu hvu hVV ki hb'
        have HRM := HRM0
        go_wp2_with fail
        refine region_tb (by kernel_rfl) (by decide +kernel) (rwkrE b off np cp kk bs offs ns cs k VV) ⟨rfl, rfl, rfl, rfl, rfl, rfl⟩ 18 rwkrD rwkrC (rwkrR b off np cp kk wr.heap.size n pc bs offs ns cs k PA VV e eu vu) wr (Ext.refl _) (fun i h1 h2 => by
              have h3 : 17 ≤ i := h1
              have h4 : i < 18 := h2
              obtain rfl : i = 17 := by omega
              rfl) ?_ ?_
        · intro Tv dd lv U wz i o hE ho hlv hd hT
          obtain ⟨t1, t2, t9, t11, t12, tz⟩ := hE
          have hx := hT.ext
          match i, ho, hlv, hd with
          | 0, ho, hlv, hd =>
            obtain rfl := Option.some.inj ho
            have un0 : U 9 = none := hT.facts 17 (by decide) (hT.past 17 (by decide)) (fun c e => by cases e; cases hl : lv 15 with | false => rfl | true => exact absurd (dep (hT.shut 15 _ rfl hl) 0 (by kernel_rfl)) (by rw [hlv]; decide))
            have v0 := eval_old (d := dd) un0 (by omega) t9
            refine tbw_yield (v := VV) (rwkrR_ext b off np cp kk wr.heap.size n pc bs offs ns cs k PA VV e eu vu) hT ho hd (wanted_plain rfl) rfl (by decide) (by decide) ?_ (Ext.refl _) rfl
            generalize Act.eval ⟨over Tv U, dd⟩ = ev at *
            simp [execOp, go_sem, v0]
          | 1, ho, hlv, hd =>
            obtain rfl := Option.some.inj ho
            have v0 := eval_old (d := dd) (hT.out 1 (by decide)) (by omega) t1
            refine tbw_yield (v := .slice (some ⟨b, off, none⟩) np cp) (rwkrR_ext b off np cp kk wr.heap.size n pc bs offs ns cs k PA VV e eu vu) hT ho hd (wanted_plain rfl) rfl (by decide) (by decide) ?_ (Ext.refl _) rfl
            generalize Act.eval ⟨over Tv U, dd⟩ = ev at *
            simp [execOp, go_sem, v0]
          | 2, ho, hlv, hd =>
            obtain rfl := Option.some.inj ho
            have v0 := eval_old (d := dd) (hT.out 12 (by decide)) (by omega) t12
            refine tbw_yield (v := .int .i64 (kk : Int)) (rwkrR_ext b off np cp kk wr.heap.size n pc bs offs ns cs k PA VV e eu vu) hT ho hd (wanted_plain rfl) rfl (by decide) (by decide) ?_ (Ext.refl _) rfl
            generalize Act.eval ⟨over Tv U, dd⟩ = ev at *
            simp [execOp, go_sem, v0]
          | 3, ho, hlv, hd =>
            obtain rfl := Option.some.inj ho
            have f0 : U 63 = some (.slice (some ⟨b, off, none⟩) np cp) := hT.facts 1 (by decide) (dep hd 1 (by kernel_rfl)) (fun c e => by cases e)
            have v0 : Act.eval ⟨over Tv U, dd⟩ (.tmp 63) = _ := eval_new (t := Tv) (d := dd) f0 (by show 63 < Tv.size; omega)
            have f1 : U 64 = some (.int .i64 (kk : Int)) := hT.facts 2 (by decide) (dep hd 2 (by kernel_rfl)) (fun c e => by cases e)
            have v1 : Act.eval ⟨over Tv U, dd⟩ (.tmp 64) = _ := eval_new (t := Tv) (d := dd) f1 (by show 64 < Tv.size; omega)
            have ki := KI.out
            refine tbw_yield (v := .pointer (some ⟨b, off + kk * 9, none⟩)) (rwkrR_ext b off np cp kk wr.heap.size n pc bs offs ns cs k PA VV e eu vu) hT ho hd (wanted_plain rfl) rfl (by decide) (by decide) ?_ (Ext.refl _) rfl
            generalize Act.eval ⟨over Tv U, dd⟩ = ev at *
            simp [execOp, go_sem, v0, v1, ki]
          | 4, ho, hlv, hd =>
            obtain rfl := Option.some.inj ho
            have f0 : U 65 = some (.pointer (some ⟨b, off + kk * 9, none⟩)) := hT.facts 3 (by decide) (dep hd 3 (by kernel_rfl)) (fun c e => by cases e)
            have v0 : Act.eval ⟨over Tv U, dd⟩ (.tmp 65) = _ := eval_new (t := Tv) (d := dd) f0 (by show 65 < Tv.size; omega)
            refine tbw_yield (v := .pointer (some ⟨b, off + kk * 9 + 8, none⟩)) (rwkrR_ext b off np cp kk wr.heap.size n pc bs offs ns cs k PA VV e eu vu) hT ho hd (wanted_plain rfl) rfl (by decide) (by decide) ?_ (Ext.refl _) rfl
            generalize Act.eval ⟨over Tv U, dd⟩ = ev at *
            simp [execOp, go_sem, v0]
          | 5, ho, hlv, hd =>
            obtain rfl := Option.some.inj ho
            have f0 : U 66 = some (.pointer (some ⟨b, off + kk * 9 + 8, none⟩)) := hT.facts 4 (by decide) (dep hd 4 (by kernel_rfl)) (fun c e => by cases e)
            have v0 : Act.eval ⟨over Tv U, dd⟩ (.tmp 66) = _ := eval_new (t := Tv) (d := dd) f0 (by show 66 < Tv.size; omega)
            refine tbw_yield (v := .agg #[.slice PA n pc]) (rwkrR_ext b off np cp kk wr.heap.size n pc bs offs ns cs k PA VV e eu vu) hT ho hd (wanted_plain rfl) rfl (by decide) (by decide) (exec_load_arr _ _ rfl b (off + kk * 9 + 8) v0 #[.slice PA n pc] _ (hx.range HRM.out) Tryz.underlying70 rfl (by kernel_rfl)) (Ext.refl _) rfl
          | 6, ho, hlv, hd =>
            obtain rfl := Option.some.inj ho
            have v0 := eval_old (d := dd) (hT.out 2 (by decide)) (by omega) t2
            refine tbw_yield (v := .slice (some ⟨bs, offs, none⟩) ns cs) (rwkrR_ext b off np cp kk wr.heap.size n pc bs offs ns cs k PA VV e eu vu) hT ho hd (wanted_plain rfl) rfl (by decide) (by decide) ?_ (Ext.refl _) rfl
            generalize Act.eval ⟨over Tv U, dd⟩ = ev at *
            simp [execOp, go_sem, v0]
          | 7, ho, hlv, hd =>
            obtain rfl := Option.some.inj ho
            have v0 := eval_old (d := dd) (hT.out 11 (by decide)) (by omega) t11
            refine tbw_yield (v := .int .i64 (k : Int)) (rwkrR_ext b off np cp kk wr.heap.size n pc bs offs ns cs k PA VV e eu vu) hT ho hd (wanted_plain rfl) rfl (by decide) (by decide) ?_ (Ext.refl _) rfl
            generalize Act.eval ⟨over Tv U, dd⟩ = ev at *
            simp [execOp, go_sem, v0]
          | 8, ho, hlv, hd =>
            obtain rfl := Option.some.inj ho
            have f0 : U 68 = some (.slice (some ⟨bs, offs, none⟩) ns cs) := hT.facts 6 (by decide) (dep hd 6 (by kernel_rfl)) (fun c e => by cases e)
            have v0 : Act.eval ⟨over Tv U, dd⟩ (.tmp 68) = _ := eval_new (t := Tv) (d := dd) f0 (by show 68 < Tv.size; omega)
            have f1 : U 69 = some (.int .i64 (k : Int)) := hT.facts 7 (by decide) (dep hd 7 (by kernel_rfl)) (fun c e => by cases e)
            have v1 : Act.eval ⟨over Tv U, dd⟩ (.tmp 69) = _ := eval_new (t := Tv) (d := dd) f1 (by show 69 < Tv.size; omega)
            have ki := KJ.out
            refine tbw_yield (v := .pointer (some ⟨bs, offs + k * 2, none⟩)) (rwkrR_ext b off np cp kk wr.heap.size n pc bs offs ns cs k PA VV e eu vu) hT ho hd (wanted_plain rfl) rfl (by decide) (by decide) ?_ (Ext.refl _) rfl
            generalize Act.eval ⟨over Tv U, dd⟩ = ev at *
            simp [execOp, go_sem, v0, v1, ki]
          | 9, ho, hlv, hd =>
            obtain rfl := Option.some.inj ho
            have f0 : U 70 = some (.pointer (some ⟨bs, offs + k * 2, none⟩)) := hT.facts 8 (by decide) (dep hd 8 (by kernel_rfl)) (fun c e => by cases e)
            have v0 : Act.eval ⟨over Tv U, dd⟩ (.tmp 70) = _ := eval_new (t := Tv) (d := dd) f0 (by show 70 < Tv.size; omega)
            refine tbw_yield (v := .pointer (some ⟨bs, offs + k * 2 + 1, none⟩)) (rwkrR_ext b off np cp kk wr.heap.size n pc bs offs ns cs k PA VV e eu vu) hT ho hd (wanted_plain rfl) rfl (by decide) (by decide) ?_ (Ext.refl _) rfl
            generalize Act.eval ⟨over Tv U, dd⟩ = ev at *
            simp [execOp, go_sem, v0]
          | 10, ho, hlv, hd =>
            obtain rfl := Option.some.inj ho
            have f0 : U 71 = some (.pointer (some ⟨bs, offs + k * 2 + 1, none⟩)) := hT.facts 9 (by decide) (dep hd 9 (by kernel_rfl)) (fun c e => by cases e)
            have v0 : Act.eval ⟨over Tv U, dd⟩ (.tmp 71) = _ := eval_new (t := Tv) (d := dd) f0 (by show 71 < Tv.size; omega)
            have hc := hx.keep HS1.out
            refine tbw_yield (v := .int .i64 e) (rwkrR_ext b off np cp kk wr.heap.size n pc bs offs ns cs k PA VV e eu vu) hT ho hd (wanted_plain rfl) rfl (by decide) (by decide) ?_ (Ext.refl _) rfl
            generalize Act.eval ⟨over Tv U, dd⟩ = ev at *
            simp [execOp, go_sem, v0, hc]
          | 11, ho, hlv, hd =>
            obtain rfl := Option.some.inj ho
            have f0 : U 62 = some (VV) := hT.facts 0 (by decide) (dep hd 0 (by kernel_rfl)) (fun c e => by cases e)
            have v0 : Act.eval ⟨over Tv U, dd⟩ (.tmp 62) = _ := eval_new (t := Tv) (d := dd) f0 (by show 62 < Tv.size; omega)
            have f1 : U 67 = some (.agg #[.slice PA n pc]) := hT.facts 5 (by decide) (dep hd 5 (by kernel_rfl)) (fun c e => by cases e)
            have v1 : Act.eval ⟨over Tv U, dd⟩ (.tmp 67) = _ := eval_new (t := Tv) (d := dd) f1 (by show 67 < Tv.size; omega)
            have f2 : U 72 = some (.int .i64 e) := hT.facts 10 (by decide) (dep hd 10 (by kernel_rfl)) (fun c e => by cases e)
            have v2 : Act.eval ⟨over Tv U, dd⟩ (.tmp 72) = _ := eval_new (t := Tv) (d := dd) f2 (by show 72 < Tv.size; omega)
            refine tbw_call (f := 39) (args := #[VV, .agg #[.slice PA n pc], .int .i64 e]) (rwkrR_ext b off np cp kk wr.heap.size n pc bs offs ns cs k PA VV e eu vu) hT ho hd (wanted_plain rfl) rfl (by decide) (by decide) (exec_call3 rfl rfl v0 v1 v2 ENU.out) ?_
            refine (HU.out wz hx).mono ?_
            rintro e w' ⟨⟨V, rfl, hVi, hVv⟩, hb⟩
            exact ⟨_, rfl, hb, V, rfl, hVi, hVv⟩
          | 12, ho, hlv, hd =>
            obtain rfl := Option.some.inj ho
            obtain ⟨W, e0, hW⟩ := hT.facts 11 (by decide) (dep hd 11 (by kernel_rfl)) (fun c e => by cases e)
            have v0 : Act.eval ⟨over Tv U, dd⟩ (.tmp 73) = _ := eval_new (t := Tv) (d := dd) e0 (by show 73 < Tv.size; omega)
            refine tbw_yield (v := .tuple #[W.val, .int .i64 eu]) (rwkrR_ext b off np cp kk wr.heap.size n pc bs offs ns cs k PA VV e eu vu) hT ho hd (wanted_plain rfl) rfl (by decide) (by decide) ?_ (Ext.refl _) ⟨W, rfl, hW⟩
            generalize Act.eval ⟨over Tv U, dd⟩ = ev at *
            simp [execOp, go_sem, v0]
          | 13, ho, hlv, hd =>
            obtain rfl := Option.some.inj ho
            obtain ⟨W, e0, hW⟩ := hT.facts 12 (by decide) (dep hd 12 (by kernel_rfl)) (fun c e => by cases e)
            have v0 : Act.eval ⟨over Tv U, dd⟩ (.tmp 61) = _ := eval_new (t := Tv) (d := dd) e0 (by show 61 < Tv.size; omega)
            refine tbw_yield (v := W.val) (rwkrR_ext b off np cp kk wr.heap.size n pc bs offs ns cs k PA VV e eu vu) hT ho hd (wanted_plain rfl) rfl (by decide) (by decide) ?_ (Ext.refl _) ⟨W, rfl, hW⟩
            generalize Act.eval ⟨over Tv U, dd⟩ = ev at *
            simp [execOp, go_sem, v0]
          | 14, ho, hlv, hd =>
            obtain rfl := Option.some.inj ho
            obtain ⟨W, e0, hW⟩ := hT.facts 12 (by decide) (dep hd 12 (by kernel_rfl)) (fun c e => by cases e)
            have v0 : Act.eval ⟨over Tv U, dd⟩ (.tmp 61) = _ := eval_new (t := Tv) (d := dd) e0 (by show 61 < Tv.size; omega)
            refine tbw_yield (v := .int .i64 eu) (rwkrR_ext b off np cp kk wr.heap.size n pc bs offs ns cs k PA VV e eu vu) hT ho hd (wanted_plain rfl) rfl (by decide) (by decide) ?_ (Ext.refl _) rfl
            generalize Act.eval ⟨over Tv U, dd⟩ = ev at *
            simp [execOp, go_sem, v0]
          | 15, ho, hlv, hd =>
            obtain rfl := Option.some.inj ho
            obtain ⟨W, e0, hW⟩ := hT.facts 13 (by decide) (dep hd 13 (by kernel_rfl)) (fun c e => by cases e)
            have v0 : Act.eval ⟨over Tv U, dd⟩ (.tmp 74) = _ := eval_new (t := Tv) (d := dd) e0 (by show 74 < Tv.size; omega)
            refine tb_yieldX (v := W.val) hT ho hd rfl rfl (by decide) (by decide) ?_ hT.ext ⟨W, rfl, hW⟩ (fun _ _ _ _ _ h => h)
            generalize Act.eval ⟨over Tv U, dd⟩ = ev at *
            simp [execOp, go_sem, v0]
          | 16, ho, hlv, hd =>
            obtain rfl := Option.some.inj ho
            have f0 : U 75 = some (.int .i64 eu) := hT.facts 14 (by decide) (dep hd 14 (by kernel_rfl)) (fun c e => by cases e)
            have v0 : Act.eval ⟨over Tv U, dd⟩ (.tmp 75) = _ := eval_new (t := Tv) (d := dd) f0 (by show 75 < Tv.size; omega)
            refine tbw_yield (v := .int .i64 eu) (rwkrR_ext b off np cp kk wr.heap.size n pc bs offs ns cs k PA VV e eu vu) hT ho hd (wanted_plain rfl) rfl (by decide) (by decide) ?_ (Ext.refl _) rfl
            generalize Act.eval ⟨over Tv U, dd⟩ = ev at *
            simp [execOp, go_sem, v0]
          | i + 17, ho, _, _ => exact absurd ho (by simp)
        intro U wz hex hout hfin
        obtain ⟨W9, f9, hW9⟩ := hfin 15 (by decide) rfl
        change U 9 = _ at f9
        have f8 : U 8 = some (.int .i64 eu) := hfin 16 (by decide) rfl
        have XE := Lib.hid hex
        clear hex hfin
        rw [over_list]
        simp (disch := decide) only [overL, Nat.reduceAdd, hout, Option.getD_none]
        rw [f9, f8]
        simp only [Option.getD_some]
        clear hout f9 f8
        have HE4 := Lib.hid (HE3.out.trans XE.out)
        rcases HUC.out with ⟨h3, h4⟩ | ⟨h3, h4⟩
        · subst h3 h4
          have HU6 : Hid (er = 3 ∧ vs = []) := Lib.hid (HF.out 3 [] (Rw.updN_hit HST.out HWU.out HUP.out (by decide)) (fun _ => rfl))
          go_wp2
          go_ret2
          rw [HU6.out.1, HU6.out.2]
          exact ⟨RetW.none 3 _, HE4.out⟩
        · subst h3
          have HVN := Lib.hid hW9.1
          have HVL : Hid (W9.hs.length = n) := Lib.hid (by rw [← WL.vs_len, hW9.2, h4, Rw.mulW_len, WL.vs_len]; exact HWL.out)
          have HVU : Hid (Rw.updN (pool ps) (Rw.prior pr) (ss.take (k + 1)) = (0, W9.vs)) := Lib.hid (by rw [Rw.updN_next HST.out, HWU.out, HUP.out, hW9.2])
          have HVB : Hid (∀ v ∈ W9.vs, v < 4294967296 ^ (k + 1 + 1)) := Lib.hid (by rw [hW9.2, h4]; exact Rw.mulW_lim HMD.out HWB.out)
          obtain ⟨V2, hV2⟩ : ∃ q, W9.val = q := ⟨_, rfl⟩
          have HV2 := Lib.hid hV2
          rw [hV2]
          clear h4 hV2
          go_wp2
          go_roundw
          case rel => exact ⟨k + 1, W9, by omega, by go_num, HV2, HVN, HVL, HVU, HVB, HE4⟩
          case measure => simp [intOf]; omega
    · obtain rfl : ns = k := by omega
      have HR : Hid (er = 0 ∧ vs = W.vs) := Lib.hid (HF.out 0 W.vs (by
        have := HWU.out
        rwa [List.take_of_length_le (by rw [HNS.out]; exact Nat.le_refl _)] at this) (fun h => absurd rfl h))
      have HVX := HVV.out
      subst HVX
      have HRV : Hid (RetW er vs (.returned (.tuple #[W.val, .int .i64 0])) wr) := Lib.hid ⟨W, by rw [HR.out.1], HW.out, HR.out.2.symm⟩
      obtain ⟨VV, hVV⟩ : ∃ q, W.val = q := ⟨_, rfl⟩
      rw [hVV] at HRV ⊢
      clear hVV HVV
      go_wp2
      go_ret2
      exact ⟨HRV.out, HE.out⟩
end Go.Proofs.YtgaepmddbjdhfaaGreatDoor
namespace Go.Proofs.YtgaepmddbjdhfaaGreatDoor
namespace Rx
def chI (i v k : Int) : It.Item := ⟨i, v, 1, ⟨#[115]⟩, [⟨#[49]⟩, ⟨#[50]⟩], [k], 0, 0, [], 1, ⟨#[65]⟩, 0, 0, 0, 30, [], 0⟩
def itms : List It.Item := [chI 3 1 0, chI 7 1 0]
def aft : List It.Item := [chI 3 1 0, chI 7 2 1]
def ansr : List Rs.Ans := [⟨7, [1], 0, ⟨#[]⟩, false⟩, ⟨3, [0], 0, ⟨#[]⟩, false⟩]
def stps : List Rs.Stp := [(7, 0), (3, 1)]
def stp2 : List Rs.Stp := [(7, 1), (3, 1)]
def pit (i : Int) : Rw.PItem := ⟨i, ⟨#[65]⟩, 0, 0, 0, 30, 1, 0, [[500, 500], [300, 700]]⟩
set_option maxRecDepth 100000 in
theorem items_er : Rs.itmE itms [(chI 7 2 1, 5)] = 0 := by decide +kernel
set_option maxRecDepth 100000 in
theorem items_of : Rs.itmL itms [(chI 7 2 1, 5)] = aft := by kernel_rfl
set_option maxRecDepth 100000 in
theorem steps_er : Rs.stsE itms ansr stps = 0 := by decide +kernel
set_option maxRecDepth 100000 in
theorem steps_of : Rs.stsL itms ansr stps = stps := by decide +kernel
set_option maxRecDepth 100000 in
theorem steps2_er : Rs.stsE aft ansr stps = 0 := by decide +kernel
set_option maxRecDepth 100000 in
theorem steps2_of : Rs.stsL aft ansr stps = stp2 := by decide +kernel
theorem chd_er : Rs.chdE stps stp2 = 0 := by decide +kernel
theorem chd_of : Rs.chdL stps stp2 = [0] := by decide +kernel
set_option maxRecDepth 100000 in
theorem aff_er : Rs.afE itms aft = 0 := by decide +kernel
set_option maxRecDepth 100000 in
theorem aff_of : Rs.afV itms aft ansr = true := by decide +kernel
theorem wgt_er : Rw.wgtE [0, 100] [1, 1] [pit 3, pit 7] stps = 0 := by decide +kernel
theorem wgt_of : Rw.wgtV [0, 100] [1, 1] [pit 3, pit 7] stps = [250000, 210000] := by decide +kernel
set_option maxRecDepth 100000 in
theorem items_bad : Rs.itmE itms [(chI 7 3 1, 0)] = 18 ∧ Rs.itmE itms [(chI 9 2 1, 0)] = 6 := by decide +kernel
theorem items_bad_of : Rs.itmL itms [(chI 7 3 1, 0)] = [] ∧ Rs.itmL itms [(chI 9 2 1, 0)] = [] := by
  unfold Rs.itmL
  rw [items_bad.1, items_bad.2]
  exact ⟨rfl, rfl⟩
theorem chd_bad : Rs.chdE stps [(7, 0)] = 1 ∧ Rs.chdL stps [(7, 0)] = [] := by decide +kernel
end Rx
end Go.Proofs.YtgaepmddbjdhfaaGreatDoor
