/- The reference's word, digits and Print: contracts. Conditions: those of each theorem. -/
import Derived.Test.YtcpapnnghclbmaaDoorInI
import Derived.Test.YtcpapnnghclbmaaDoorNatC
namespace Go.Proofs.YtcpapnnghclbmaaDoor
open Go.RowKit

theorem val_of (n : Nat) : Na.val (Na.nrm [n % 4294967296, n / 4294967296]) = n := by
  rw [Na.val_nrm]; simp only [Na.val]; omega
set_option maxRecDepth 100000 in
set_option maxHeartbeats 1600000 in
theorem rdigits_to {x : Int} {l : List UInt8} (hl : Lib.itoa x = l) (h0 : 0 ≤ x) (h1 : x ≤ 1099511627776) (w : World) :
    Calls Tryd.prog 41 #[.int .i64 x] w fun e w' => e = .returned (.string (In.str l)) ∧ Ext w w' := by
  obtain ⟨n, rfl⟩ : ∃ n : Nat, x = (n : Int) := ⟨x.toNat, by omega⟩
  have hl2 : Lib.decDigits n = l := by rw [← hl, Lib.itoa_nonneg]
  obtain ⟨ys, hy⟩ : ∃ ys, Na.nrm [n % 4294967296, n / 4294967296] = ys := ⟨_, rfl⟩
  obtain ⟨m, hm⟩ : ∃ m, ys.length = m := ⟨_, rfl⟩
  have hv := val_of n
  rw [hy] at hv
  have hm2 : m ≤ 2 := by
    have := Na.nrm_len [n % 4294967296, n / 4294967296]
    rw [hy, hm] at this
    exact this
  have HX : Hid (∀ x ∈ ys, x < 4294967296) := Lib.hid (fun x hx => by
    have := Na.nrm_mem (l := [n % 4294967296, n / 4294967296]) (x := x) (by rw [hy]; exact hx)
    simp at this
    omega)
  have HL : Hid (Lib.decDigits (Na.val ys) = l) := Lib.hid (by rw [hv]; exact hl2)
  have HVV : Hid (Na.val ys ≤ 1099511627776) := Lib.hid (by rw [hv]; omega)
  have HY := Lib.hid hy
  have HM := Lib.hid hm
  have hn : n < 18446744073709551616 := by omega
  clear hl hl2 hy hm hv
  go_enter Tryd.func41, Tryd.ntmps41
  go_wp2_with fail
  with_reducible refine (of_any n hn HY.out HM.out _).mono ?_
  rintro e w1 ⟨b, rfl, hbb, hS, hb1⟩
  have HS := Lib.hid hS
  clear hS
  go_wp2_with fail
  with_reducible refine (natPrint_any (some ⟨b, 0, none⟩) m ys m HM.out HL.out _ HS.out HX.out (by omega) HVV.out).mono ?_
  rintro e w2 ⟨rfl, hb2⟩
  go_wp2
  go_ret
  exact ⟨rfl, hb1.trans hb2⟩
set_option maxRecDepth 100000 in
set_option maxHeartbeats 1600000 in
theorem rword_any (k : Int) (w : World) : Calls Tryd.prog 40 #[.int .i64 k] w fun e w' => e = .returned (.string (In.str (In.word k))) ∧ w' = w := by
  have hc : k = 1 ∨ k = 2 ∨ k = 3 ∨ k = 4 ∨ k = 5 ∨ k = 6 ∨ (k ≠ 1 ∧ k ≠ 2 ∧ k ≠ 3 ∧ k ≠ 4 ∧ k ≠ 5 ∧ k ≠ 6) := by omega
  rcases hc with rfl | rfl | rfl | rfl | rfl | rfl | ⟨h1, h2, h3, h4, h5, h6⟩
  · go_enter Tryd.func40, Tryd.ntmps40
    go_wp2
    go_ret
    exact ⟨rfl, rfl⟩
  · go_enter Tryd.func40, Tryd.ntmps40
    go_wp2
    go_ret
    exact ⟨rfl, rfl⟩
  · go_enter Tryd.func40, Tryd.ntmps40
    go_wp2
    go_ret
    exact ⟨rfl, rfl⟩
  · go_enter Tryd.func40, Tryd.ntmps40
    go_wp2
    go_ret
    exact ⟨rfl, rfl⟩
  · go_enter Tryd.func40, Tryd.ntmps40
    go_wp2
    go_ret
    exact ⟨rfl, rfl⟩
  · go_enter Tryd.func40, Tryd.ntmps40
    go_wp2
    go_ret
    exact ⟨rfl, rfl⟩
  · have HW : Hid (In.word k = []) := Lib.hid (by unfold In.word; rw [if_neg h1, if_neg h2, if_neg h3, if_neg h4, if_neg h5, if_neg h6])
    have q1 : (k == 1) = false := by rw [beq_eq_false_iff_ne]; exact h1
    have q2 : (k == 2) = false := by rw [beq_eq_false_iff_ne]; exact h2
    have q3 : (k == 3) = false := by rw [beq_eq_false_iff_ne]; exact h3
    have q4 : (k == 4) = false := by rw [beq_eq_false_iff_ne]; exact h4
    have q5 : (k == 5) = false := by rw [beq_eq_false_iff_ne]; exact h5
    have q6 : (k == 6) = false := by rw [beq_eq_false_iff_ne]; exact h6
    clear h1 h2 h3 h4 h5 h6
    go_enter Tryd.func40, Tryd.ntmps40
    go_wp2
    go_ret
    exact ⟨ret_str (by rw [HW.out]; rfl), rfl⟩
theorem rword_to {k : Int} {l : List UInt8} (hl : In.word k = l) (w : World) : Calls Tryd.prog 40 #[.int .i64 k] w fun e w' => e = .returned (.string (In.str l)) ∧ w' = w := by
  subst hl
  exact rword_any k w
set_option maxRecDepth 100000 in
set_option maxHeartbeats 3200000 in
theorem rprint_any (p : In.Inc) (w : World) : Calls Tryd.prog 26 #[In.agg p] w fun e w' => e = .returned (.tuple #[.string (In.str (In.printV p)), .int .i64 (In.vld p)]) ∧ Ext w w' := by
  obtain ⟨p1, p2, p3, p4⟩ := p
  unfold In.agg
  simp only
  obtain ⟨v, hv⟩ : ∃ v, In.vld (p1, p2, p3, p4) = v := ⟨_, rfl⟩
  have HV := Lib.hid hv
  clear hv
  by_cases hz : v = 0
  · have hz' : (v != 0) = false := by rw [hz]; rfl
    have HVZ : Hid (In.vld (p1, p2, p3, p4) = 0) := Lib.hid (by rw [HV.out, hz])
    obtain ⟨⟨v1, v2⟩, ⟨v3, v4⟩, ⟨v5, v6⟩, ⟨v7, v8⟩⟩ := In.vld_zero.1 HVZ.out
    simp only at v1 v2 v3 v4 v5 v6 v7 v8
    obtain ⟨sw, hsw⟩ : ∃ l, In.word p1 = l := ⟨_, rfl⟩
    obtain ⟨st, hst⟩ : ∃ l, Lib.itoa p2 = l := ⟨_, rfl⟩
    obtain ⟨sl, hsl⟩ : ∃ l, Lib.itoa p3 = l := ⟨_, rfl⟩
    obtain ⟨sg, hsg⟩ : ∃ l, Lib.itoa p4 = l := ⟨_, rfl⟩
    have HR : Hid (In.printV (p1, p2, p3, p4) = sw ++ [32, 97, 116, 32] ++ st ++ [32, 108, 111, 115, 116, 32] ++ sl ++ [32, 103, 114, 97, 118, 101, 32] ++ sg) := Lib.hid (by unfold In.printV In.line; rw [if_neg (by rw [HVZ.out]; simp)]; simp only [hsw, hst, hsl, hsg])
    have l1 : (In.str sw).size ≤ 8 := by rw [In.str_size, ← hsw]; exact In.word_len _
    have l2 : (In.str st).size ≤ 14 := by rw [In.str_size, ← hst]; exact In.itoa_len (by omega) (by omega)
    have l3 : (In.str sl).size ≤ 14 := by rw [In.str_size, ← hsl]; exact In.itoa_len (by omega) (by omega)
    have l4 : (In.str sg).size ≤ 14 := by rw [In.str_size, ← hsg]; exact In.itoa_len (by omega) (by omega)
    have m1 : ¬ 9223372036854775807 < (In.str sw).size + 4 := by omega
    have m2 : ¬ 9223372036854775807 < (In.str sw).size + 4 + (In.str st).size := by omega
    have m3 : ¬ 9223372036854775807 < (In.str sw).size + 4 + (In.str st).size + 6 := by omega
    have m4 : ¬ 9223372036854775807 < (In.str sw).size + 4 + (In.str st).size + 6 + (In.str sl).size := by omega
    have m5 : ¬ 9223372036854775807 < (In.str sw).size + 4 + (In.str st).size + 6 + (In.str sl).size + 7 := by omega
    have m6 : ¬ 9223372036854775807 < (In.str sw).size + 4 + (In.str st).size + 6 + (In.str sl).size + 7 + (In.str sg).size := by omega
    have HSW := Lib.hid hsw
    have HST := Lib.hid hst
    have HSL := Lib.hid hsl
    have HSG := Lib.hid hsg
    clear hsw hst hsl hsg hz
    go_enter Tryd.func26, Tryd.ntmps26
    go_wp2_with fail
    refine (rvalid_to (p1, p2, p3, p4) HV.out _).mono ?_
    rintro e W ⟨rfl, hb1⟩
    obtain ⟨hc1, hf1⟩ := hb1.cells
    have x1 : Ext w W := ((Ext.refl w).alloc _).trans hb1
    have k0 : W.cell? ⟨w.heap.size, 0, none⟩ = some (.int .i64 p1) := hb1.keep (by simp [go_sem])
    have k1 : W.cell? ⟨w.heap.size, 1, none⟩ = some (.int .i64 p2) := hb1.keep (by simp [go_sem])
    have k2 : W.cell? ⟨w.heap.size, 2, none⟩ = some (.int .i64 p3) := hb1.keep (by simp [go_sem])
    have k3 : W.cell? ⟨w.heap.size, 3, none⟩ = some (.int .i64 p4) := hb1.keep (by simp [go_sem])
    clear hc1 hf1
    go_wp2_with fail
    have hdr : Ext W W.drew := (Ext.refl W).drew
    go_region_held3 (fun w' => w'.cell? ⟨w.heap.size, 0, none⟩ = some (.int .i64 p1) ∧ w'.cell? ⟨w.heap.size, 1, none⟩ = some (.int .i64 p2) ∧ w'.cell? ⟨w.heap.size, 2, none⟩ = some (.int .i64 p3) ∧ w'.cell? ⟨w.heap.size, 3, none⟩ = some (.int .i64 p4))
      (first
        | (with_reducible exact ⟨hdr.keep k0, hdr.keep k1, hdr.keep k2, hdr.keep k3⟩)
        | (with_reducible exact ⟨hE4.keep k0, hE4.keep k1, hE4.keep k2, hE4.keep k3⟩)
        | (with_reducible exact ⟨hE3.keep k0, hE3.keep k1, hE3.keep k2, hE3.keep k3⟩)
        | (with_reducible exact ⟨hE2.keep k0, hE2.keep k1, hE2.keep k2, hE2.keep k3⟩))
      (first
        | (have hq := hE3; go_at_call 41; clear hq; (with_reducible refine (rdigits_to HSG.out (by omega) (by omega) _).mono ?_); rintro e w4 ⟨rfl, hb4⟩; have hE4 : Ext W w4 := hE3.trans hb4)
        | (have hq := hE2; go_at_call 41; clear hq; (with_reducible refine (rdigits_to HSL.out (by omega) (by omega) _).mono ?_); rintro e w3 ⟨rfl, hb3⟩; have hE3 : Ext W w3 := hE2.trans hb3)
        | (go_at_call 41; (with_reducible refine (rdigits_to HST.out (by omega) (by omega) _).mono ?_); rintro e w2 ⟨rfl, hb2⟩; have hE2 : Ext W w2 := hdr.trans hb2)
        | (go_at_call 40; (with_reducible refine (rword_to HSW.out _).mono ?_); rintro e w5 ⟨rfl, rfl⟩))
    go_wp2
    go_ret2
    refine ⟨ret_str2 ?_ HVZ.out.symm, x1.trans hE4⟩
    rw [HR.out, ← In.str_append, ← In.str_append, ← In.str_append, ← In.str_append, ← In.str_append, ← In.str_append]
    rfl
  · have hz' : (v != 0) = true := by rw [bne_iff_ne]; exact hz
    have HR : Hid (In.printV (p1, p2, p3, p4) = []) := Lib.hid (by unfold In.printV; rw [if_pos (by rw [HV.out]; exact hz)])
    clear hz
    go_enter Tryd.func26, Tryd.ntmps26
    go_wp2_with fail
    refine (rvalid_to (p1, p2, p3, p4) HV.out _).mono ?_
    rintro e W ⟨rfl, hb1⟩
    go_wp2
    go_ret2
    exact ⟨ret_str2 (by rw [HR.out]; rfl) HV.out.symm, ((Ext.refl w).alloc _).trans hb1⟩
end Go.Proofs.YtcpapnnghclbmaaDoor
