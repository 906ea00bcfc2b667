/- Big numbers of the reference: Mul: a contract. Conditions: those of each theorem. -/
import Derived.Test.YtgaepmddbjdhfaaGreatDoorP7
import Derived.IntWalk
namespace Go.Proofs.YtgaepmddbjdhfaaGreatDoor
open Go.ChangeShapes Go.WideShapes Go.ChangeAt Go.RowKit

set_option maxRecDepth 100000 in
set_option maxHeartbeats 12800000 in
theorem rnatMul_any (h g : NL) (w : World) (hh : h.In w) (hg : g.In w) (hb1 : (Rw.limbs h.v).length ≤ 500) (hb2 : (Rw.limbs g.v).length ≤ 500) :
    Calls Tryz.prog 74 #[h.val, g.val] w fun e w' => RetNat w.heap.size (h.v * g.v) e w' ∧ Ext w w' := by
  obtain ⟨A, c, u⟩ := h
  obtain ⟨A', c', v⟩ := g
  unfold NL.val
  dsimp only at hb1 hb2 ⊢
  have HS : Hid (SlU w A (Rw.limbs u)) := Lib.hid hh.s
  have HS' : Hid (SlU w A' (Rw.limbs v)) := Lib.hid hg.s
  have hc1 : (Rw.limbs u).length ≤ c := hh.le
  have hc2 : c ≤ 9223372036854775807 := by have := hh.cap; unfold maxLen at this; exact this
  have hc3 : (Rw.limbs v).length ≤ c' := hg.le
  have hc4 : c' ≤ 9223372036854775807 := by have := hg.cap; unfold maxLen at this; exact this
  clear hh hg
  obtain ⟨n, hn⟩ : ∃ n, (Rw.limbs u).length = n := ⟨_, rfl⟩
  obtain ⟨m, hm⟩ : ∃ n, (Rw.limbs v).length = n := ⟨_, rfl⟩
  rw [hn] at hb1 hc1 ⊢
  rw [hm] at hb2 hc3 ⊢
  have HN := Lib.hid hn
  have HM := Lib.hid hm
  clear hn hm
  go_enter Tryz.func74, Tryz.ntmps74
  have hmk := make_u32 (n + m) (by omega)
  rw [Int.natCast_add] at hmk
  go_wp2
  go_loopw [6] (fun i wr => ∃ (k : Nat) (P : List Nat), k ≤ n ∧ i = .int .i64 k ∧ Hid (Rw.MI (Rw.limbs u) (Rw.limbs v) k 0 0 P) ∧ Hid (RowU wr w.heap.size P) ∧ Hid (Ext w wr)) (fun i _ => n - (intOf i).toNat)
  case atStart => exact ⟨0, List.replicate (n + m) 0, by omega, rfl, Lib.hid (by have := Rw.MI.start (Rw.limbs u) (Rw.limbs v); rwa [HN.out, HM.out] at this), Lib.hid (RowU.made w (n + m) _), Lib.hid ((Ext.refl w).alloc _)⟩
  case round =>
    obtain ⟨k, P, hk, rfl, HI, HR, HE⟩ := hrel
    by_cases hlt : k < n
    · obtain ⟨x, hx⟩ : ∃ x, (Rw.limbs u)[k]? = some x := ⟨(Rw.limbs u)[k]'(by rw [HN.out]; exact hlt), List.getElem?_eq_getElem _⟩
      obtain ⟨b, off, hA, hb, hc⟩ := (HS.out.ext HE.out).at_ hx
      have hxl : x < 4294967296 := Rw.limbs_lt u x (List.mem_of_getElem? hx)
      have HX := Lib.hid hx
      subst hA
      have ki0 : (0 : Int) ≤ (k : Int) := by omega
      have ki1 : (k : Int) < (n : Int) := by omega
      clear hx
      go_wp2
      go_loopw [8, 7] (fun i q wr => ∃ (j cy : Nat) (P : List Nat), j ≤ m ∧ i = .int .i64 j ∧ q = .int .u64 (cy : Int) ∧ Hid (Rw.MI (Rw.limbs u) (Rw.limbs v) k j cy P) ∧ Hid (RowU wr w.heap.size P) ∧ Hid (Ext w wr)) (fun i _ _ => m - (intOf i).toNat)
      case atStart => exact ⟨0, 0, P, by omega, rfl, rfl, HI, HR, HE⟩
      case round =>
        clear HI HR hc
        obtain ⟨j, cy, P, hj, rfl, rfl, HI, HR, HE2⟩ := hrel
        by_cases hjt : j < m
        · obtain ⟨y, hy⟩ : ∃ y, (Rw.limbs v)[j]? = some y := ⟨(Rw.limbs v)[j]'(by rw [HM.out]; exact hjt), List.getElem?_eq_getElem _⟩
          obtain ⟨b', off', hA', hb', hc'⟩ := (HS'.out.ext HE2.out).at_ hy
          have hyl : y < 4294967296 := Rw.limbs_lt v y (List.mem_of_getElem? hy)
          obtain ⟨p, hp, hpl⟩ := HI.out.at_ (q := k + j) (by rw [HN.out, HM.out]; omega)
          have hcl : cy < 4294967296 := HI.out.cl
          obtain ⟨hp1, hp2⟩ := HR.out.cell hp
          have HY := Lib.hid hy
          have HP := Lib.hid hp
          subst hA'
          have jj0 : (0 : Int) ≤ (j : Int) := by omega
          have jj1 : (j : Int) < (m : Int) := by omega
          have hsum := Rw.limb_sum hxl hyl hpl hcl
          have hs0 : x * y + p + cy < 18446744073709551616 := hsum
          have s1 : (0 : Int) ≤ (x : Int) * (y : Int) := Int.mul_nonneg (by omega) (by omega)
          have s2 : (x : Int) * (y : Int) + (p : Int) + (cy : Int) < 18446744073709551616 := by
            have : ((x * y : Nat) : Int) = (x : Int) * (y : Int) := Int.natCast_mul x y
            omega
          have hcast : (p : Int) + (x : Int) * (y : Int) + (cy : Int) = ((x * y + p + cy : Nat) : Int) := by simp; omega
          have HD : Hid (((p : Int) + (x : Int) * (y : Int) + (cy : Int)) / 4294967296 = (((x * y + p + cy) / 4294967296 : Nat) : Int)) := Lib.hid (by rw [hcast, Int.natCast_ediv]; rfl)
          have HMd : Hid (((p : Int) + (x : Int) * (y : Int) + (cy : Int)) % 4294967296 = (((x * y + p + cy) % 4294967296 : Nat) : Int)) := Lib.hid (by rw [hcast, Int.natCast_emod]; rfl)
          have HLP : Hid (k + j < P.length) := Lib.hid (by rw [HI.out.len, HN.out, HM.out]; omega)
          clear hy hp hsum hs0 hcast
          obtain ⟨b2, off2, hA2, -, hc2⟩ := (HS.out.ext HE2.out).at_ HX.out
          obtain ⟨rfl, rfl⟩ : b = b2 ∧ off = off2 := by cases hA2; exact ⟨rfl, rfl⟩
          have g4 : (k : Int) + (j : Int) < (n : Int) + (m : Int) := by omega
          clear hA2
          have g1 : IntKind.i64.wrap ((k : Int) + (j : Int)) = (k : Int) + (j : Int) := IntWalk.i64_in _ (by omega)
          have g2 : ((k : Int) + (j : Int)).toNat = k + j := by omega
          have g3 : (0 : Int) ≤ (k : Int) + (j : Int) := by omega
          have c1 : IntKind.u64.wrap (x : Int) = (x : Int) := IntWalk.u64_in _ (by omega)
          have c2 : IntKind.u64.wrap (y : Int) = (y : Int) := IntWalk.u64_in _ (by omega)
          have c3 : IntKind.u64.wrap (p : Int) = (p : Int) := IntWalk.u64_in _ (by omega)
          have m1 : IntKind.u64.wrap ((x : Int) * (y : Int)) = (x : Int) * (y : Int) := IntWalk.u64_in _ (by omega)
          have a1 : IntKind.u64.wrap ((p : Int) + (x : Int) * (y : Int)) = (p : Int) + (x : Int) * (y : Int) := IntWalk.u64_in _ (by omega)
          have a2 : IntKind.u64.wrap ((p : Int) + (x : Int) * (y : Int) + (cy : Int)) = (p : Int) + (x : Int) * (y : Int) + (cy : Int) := IntWalk.u64_in _ (by omega)
          have HE3 : Hid (Ext w wr) := HE2
          go_wp2_with fail
          go_quiet (fail)
          clear g1 c1 c2 c3 m1 a1 a2
          have s3 : (p : Int) + (x : Int) * (y : Int) + (cy : Int) < 18446744073709551616 := by omega
          go_wp2
          go_roundw
          case rel =>
            refine ⟨j + 1, (x * y + p + cy) / 4294967296, P.set (k + j) ((x * y + p + cy) % 4294967296), by omega, by go_num, by rw [HD.out], Lib.hid (HI.out.step HX.out HY.out HP.out hxl hyl), Lib.hid ?_, Lib.hid ((HE2.out.drewN _).setCell (Nat.le_refl _) _)⟩
            rw [HMd.out]
            exact (HR.out.ext ((Ext.refl _).drewN _)).set HLP.out _
          case measure => simp [intOf]; omega
        · obtain rfl : j = m := by omega
          have hcl : cy < 4294967296 := HI.out.cl
          obtain ⟨p, hp, hpl⟩ := HI.out.at_ (q := k + j) (by rw [HN.out, HM.out]; omega)
          obtain ⟨hp1, hp2⟩ := HR.out.cell hp
          have HLP : Hid (k + j < P.length) := Lib.hid (by rw [HI.out.len, HN.out, HM.out]; omega)
          have HNX : Hid (Rw.MI (Rw.limbs u) (Rw.limbs v) (k + 1) 0 0 (P.set (k + j) cy)) := Lib.hid (by
            have := HI.out
            rw [← HM.out] at this
            have := this.next HX.out
            rwa [HM.out] at this)
          clear hp
          have hcl1 : (cy : Int) < 4294967296 := by omega
          go_wp2
          go_roundw
          case rel => exact ⟨k + 1, P.set (k + j) cy, by omega, by go_num, HNX, Lib.hid (HR.out.set HLP.out cy), Lib.hid (HE2.out.setCell (Nat.le_refl _) _)⟩
          case measure => simp [intOf]; omega
    · obtain rfl : k = n := by omega
      have HP1 : Hid (Na.nrm P = Rw.limbs (u * v)) := Lib.hid (limbs_mul_len HN.out HI.out)
      have HP2 : Hid (P.length = k + m) := Lib.hid (by rw [HI.out.len, HN.out, HM.out])
      obtain ⟨r, hr⟩ : ∃ r, (Rw.limbs (u * v)).length = r := ⟨_, rfl⟩
      have hrl : r ≤ k + m := by rw [← hr, ← HP1.out, ← HP2.out]; exact Na.nrm_len _
      have HRL := Lib.hid hr
      have HSP : Hid (SlU wr (some ⟨w.heap.size, 0, none⟩) P) := Lib.hid HR.out.sl
      clear hr
      have T3 := Lib.hid (norm_any (some ⟨w.heap.size, 0, none⟩) (k + m) P (k + m) HP2.out HP1.out HRL.out wr HSP.out (by omega))
      go_wp2_with fail
      with_reducible refine T3.out.mono ?_
      rintro e w1 ⟨b, rfl, hbs, hs1, hb1⟩
      have HS1 := Lib.hid hs1
      clear hs1
      go_wp2
      go_ret
      exact ⟨RetNat.of HRL.out HS1.out (Nat.le_refl _) (by unfold maxLen; omega) (fun a ha => by cases ha; exact Nat.le_trans HE.out.size hbs), HE.out.trans hb1⟩
end Go.Proofs.YtgaepmddbjdhfaaGreatDoor
