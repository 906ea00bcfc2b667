/- grid.Valid, bank.New: contracts. Conditions: those of each theorem. -/
import Derived.Test.YtfnmgcblhebdbaaGreatDoorBkM
import Derived.Test.YtfnmgcblhebdbaaGreatDoorBkI
namespace Go.Proofs.YtfnmgcblhebdbaaGreatDoor
open Go.RowKit
namespace Bk
namespace Gv
/-- Rules of a grid. -/
def incA (l : List Int) (i : Nat) : Bool := decide (i = 0) || decide (l.getD (i - 1) 0 < l.getD i 0)
def inc (l : List Int) : Bool := It.allN (incA l) l.length
def ptA (pt pr : List Int) (i : Nat) : Bool := It.wi (pt.getD i 0) (-1000) 1000 && It.wi (pr.getD i 0) 1 1000
def gridE (pt pr : List Int) : Int := if 21 < pt.length then 5 else if pt.length = 0 then 20 else if pr.length ≠ pt.length then 1 else if It.allN (ptA pt pr) pt.length = false then 3 else if inc pt = false then 23 else 0
theorem gridE_1 {pt pr : List Int} (h : 21 < pt.length) : gridE pt pr = 5 := by unfold gridE; rw [if_pos h]
theorem gridE_2 {pt pr : List Int} (h : pt.length = 0) : gridE pt pr = 20 := by unfold gridE; rw [if_neg (by omega), if_pos h]
theorem gridE_3 {pt pr : List Int} (h1 : pt.length ≤ 21) (h2 : pt.length ≠ 0) (h : pr.length ≠ pt.length) : gridE pt pr = 1 := by unfold gridE; rw [if_neg (by omega), if_neg h2, if_pos h]
theorem gridE_4 {pt pr : List Int} (h1 : pt.length ≤ 21) (h2 : pt.length ≠ 0) (h3 : pr.length = pt.length) (h : It.allN (ptA pt pr) pt.length = false) : gridE pt pr = 3 := by unfold gridE; rw [if_neg (by omega), if_neg h2, if_neg (by omega), if_pos h]
theorem gridE_5 {pt pr : List Int} (h1 : pt.length ≤ 21) (h2 : pt.length ≠ 0) (h3 : pr.length = pt.length) (h4 : It.allN (ptA pt pr) pt.length = true) : gridE pt pr = if inc pt = false then 23 else 0 := by unfold gridE; rw [if_neg (by omega), if_neg h2, if_neg (by omega), if_neg (by rw [h4]; simp)]
theorem ptA_at {pt pr : List Int} {i : Nat} {x y : Int} (hx : pt[i]? = some x) (hy : pr[i]? = some y) : ptA pt pr i = (It.wi x (-1000) 1000 && It.wi y 1 1000) := by
  unfold ptA; rw [List.getD_eq_getElem?_getD, List.getD_eq_getElem?_getD, hx, hy]; rfl
end Gv
set_option maxRecDepth 100000 in
set_option maxHeartbeats 12800000 in
theorem kgrid_any (A : Option Addr) (c : Nat) (A' : Option Addr) (c' : Nat) (pt pr : List Int) {n m : Nat} (hn : pt.length = n) (hm : pr.length = m) {v : Int} (hv : Gv.gridE pt pr = v) (w : World) (h : SlI w A pt) (h' : SlI w A' pr) (hl : n ≤ 9223372036854775807) (hl' : m ≤ 9223372036854775807) :
    Calls Tryz.prog 27 #[.agg #[.slice A n c, .slice A' m c']] w fun e w' => e = .returned (.int .i64 v) ∧ Ext w w' := by
  have H := Lib.hid h
  have H' := Lib.hid h'
  have HN := Lib.hid hn
  have HM := Lib.hid hm
  have HV := Lib.hid hv
  have X0 : Ext w (w.alloc (.cells #[.slice A n c, .slice A' m c'] 24)) := (Ext.refl _).alloc _
  clear h h' hn hm hv
  by_cases h21 : 21 < n
  · have HF : Hid (v = 5) := Lib.hid (by rw [← HV.out]; exact Gv.gridE_1 (by rw [HN.out]; exact h21))
    go_enter Tryz.func27, Tryz.ntmps27
    go_wp2
    go_ret
    exact ⟨ret_int HF.out.symm, X0⟩
  by_cases hn0 : n = 0
  · have HF : Hid (v = 20) := Lib.hid (by rw [← HV.out]; exact Gv.gridE_2 (by rw [HN.out]; exact hn0))
    have t0 : ((n : Int) == 0) = true := by rw [hn0]; rfl
    clear hn0
    go_enter Tryz.func27, Tryz.ntmps27
    go_wp2
    go_ret
    exact ⟨ret_int HF.out.symm, X0⟩
  have t0 : ((n : Int) == 0) = false := by rw [beq_eq_false_iff_ne]; omega
  by_cases hnm : m = n
  case neg =>
    have HF : Hid (v = 1) := Lib.hid (by rw [← HV.out]; exact Gv.gridE_3 (by rw [HN.out]; omega) (by rw [HN.out]; exact hn0) (by rw [HN.out, HM.out]; exact hnm))
    have t1 : ((m : Int) != (n : Int)) = true := by rw [bne_iff_ne]; omega
    clear hnm hn0
    go_enter Tryz.func27, Tryz.ntmps27
    go_wp2
    go_ret
    exact ⟨ret_int HF.out.symm, X0⟩
  subst hnm
  have t1 : ((m : Int) != (m : Int)) = false := by simp
  have HP := Lib.hid (And.intro (show pt.length ≤ 21 by rw [HN.out]; omega) (And.intro (show pt.length ≠ 0 by rw [HN.out]; exact hn0) (show pr.length = pt.length by rw [HN.out, HM.out])))
  have m21 : m ≤ 21 := by omega
  clear hn0 h21
  obtain ⟨w0, hw0⟩ : ∃ w0, w.alloc (.cells #[.slice A m c, .slice A' m c'] 24) = w0 := ⟨_, rfl⟩
  have b0 : w0.cell? ⟨w.heap.size, 0, none⟩ = some (.slice A m c) := by rw [← hw0, World.cell?_alloc_new]; rfl
  have b1 : w0.cell? ⟨w.heap.size, 1, none⟩ = some (.slice A' m c') := by rw [← hw0, World.cell?_alloc_new]; rfl
  have HB := Lib.hid (And.intro b0 b1)
  have HX0 : Hid (Ext w w0) := Lib.hid (by rw [← hw0]; exact X0)
  have HW0 := Lib.hid hw0
  clear b0 b1 X0 hw0
  go_enter Tryz.func27, Tryz.ntmps27
  go_wp2
  rw [HW0.out]
  go_loopw [24] (fun i wr => ∃ k : Nat, k ≤ m ∧ i = .int .i64 k ∧ Hid (It.allN (Gv.ptA pt pr) k = true) ∧ Hid (Ext w0 wr)) (fun i _ => m - (intOf i).toNat)
  case atStart => exact ⟨0, by omega, rfl, Lib.hid rfl, Lib.hid (Ext.refl _)⟩
  case round =>
    obtain ⟨k, hk, rfl, HA, HE⟩ := hrel
    have c0 := HE.out.keep HB.out.1
    have c1 := HE.out.keep HB.out.2
    by_cases hlt : k < m
    · have HS := HX0.out.trans HE.out
      obtain ⟨b, off, x, rfl, hb, hx, x0⟩ := (H.out.ext HS).at_ (i := k) (by rw [HN.out]; exact hlt)
      obtain ⟨b', off', y, rfl, hb', hy, y0⟩ := (H'.out.ext HS).at_ (i := k) (by rw [HM.out]; exact hlt)
      have HPA := Lib.hid (Gv.ptA_at hx hy)
      have ki0 : (0 : Int) ≤ (k : Int) := by omega
      have ki1 : (k : Int) < (m : Int) := by omega
      have HBD : Hid (It.wi x (-1000) 1000 = false ∨ It.wi y 1 1000 = false → v = 3) := Lib.hid (fun h => by
        rw [← HV.out]
        refine Gv.gridE_4 HP.out.1 HP.out.2.1 HP.out.2.2 (It.allN_no (k := k) (by rw [HN.out]; exact hlt) ?_)
        rw [HPA.out]
        rcases h with h | h <;> rw [h] <;> simp)
      clear hx hy HS
      rcases (show x < -1000 ∨ (-1000 ≤ x ∧ 1000 < x) ∨ (-1000 ≤ x ∧ x ≤ 1000 ∧ y < 1) ∨ (-1000 ≤ x ∧ x ≤ 1000 ∧ 1 ≤ y ∧ 1000 < y) ∨ (-1000 ≤ x ∧ x ≤ 1000 ∧ 1 ≤ y ∧ y ≤ 1000) by omega) with h1 | ⟨h1, h2⟩ | ⟨h1, h2, h3⟩ | ⟨h1, h2, h3, h4⟩ | ⟨h1, h2, h3, h4⟩
      · have HF : Hid (v = 3) := Lib.hid (HBD.out (Or.inl (by unfold It.wi; simp; omega)))
        go_wp2
        go_ret
        exact ⟨ret_int HF.out.symm, HX0.out.trans HE.out⟩
      · have HF : Hid (v = 3) := Lib.hid (HBD.out (Or.inl (by unfold It.wi; simp; omega)))
        go_wp2
        go_ret
        exact ⟨ret_int HF.out.symm, HX0.out.trans HE.out⟩
      · have HF : Hid (v = 3) := Lib.hid (HBD.out (Or.inr (by unfold It.wi; simp; omega)))
        go_wp2
        go_ret
        exact ⟨ret_int HF.out.symm, HX0.out.trans HE.out⟩
      · have HF : Hid (v = 3) := Lib.hid (HBD.out (Or.inr (by unfold It.wi; simp; omega)))
        go_wp2
        go_ret
        exact ⟨ret_int HF.out.symm, HX0.out.trans HE.out⟩
      · have HAN : Hid (It.allN (Gv.ptA pt pr) (k + 1) = true) := Lib.hid (It.allN_next HA.out (by rw [HPA.out]; unfold It.wi; simp; omega))
        go_wp2
        go_roundw
        case rel => exact ⟨k + 1, by omega, by go_num, HAN, HE⟩
        case measure => simp [intOf]; omega
    · obtain rfl : m = k := by omega
      have HF5 : Hid (v = if Gv.inc pt = false then 23 else 0) := Lib.hid (by rw [← HV.out, Gv.gridE_5 HP.out.1 HP.out.2.1 HP.out.2.2 (by rw [HN.out]; exact HA.out)])
      clear HA
      go_wp2
      clear c0 c1
      go_loopw [5] (fun i wr => ∃ k : Nat, (k + 1 ≤ m ∨ k = 0) ∧ i = .int .i64 (k + 1) ∧ Hid (It.allN (Gv.incA pt) (k + 1) = true) ∧ Hid (Ext w0 wr)) (fun i _ => m + 1 - (intOf i).toNat)
      case atStart => exact ⟨0, by omega, rfl, Lib.hid rfl, HE⟩
      case round =>
        clear HE hk
        obtain ⟨k, hk, rfl, HA, HE⟩ := hrel
        have c0 := HE.out.keep HB.out.1
        by_cases hlt : k + 1 < m
        · have HS := HX0.out.trans HE.out
          obtain ⟨b, off, x, rfl, hb, hx, hc⟩ := (H.out.ext HS).at_ (i := k + 1) (by rw [HN.out]; exact hlt)
          obtain ⟨b', off', y, e', hb', hy, hc'⟩ := (H.out.ext HS).at_ (i := k) (by rw [HN.out]; omega)
          obtain ⟨rfl, rfl⟩ : b = b' ∧ off = off' := by cases e'; exact ⟨rfl, rfl⟩
          have hra : Gv.incA pt (k + 1) = decide (y < x) := by
            unfold Gv.incA
            rw [Nat.add_sub_cancel, List.getD_eq_getElem?_getD, List.getD_eq_getElem?_getD, hx, hy]
            simp
          have HR := Lib.hid hra
          have ki0 : (0 : Int) ≤ (k : Int) := by omega
          have ki1 : (k : Int) + 1 < (m : Int) := by omega
          clear hra hx hy e' HS
          by_cases hxy : x ≤ y
          · have HF : Hid (v = 23) := Lib.hid (by
              have hinc : Gv.inc pt = false := It.allN_no (k := k + 1) (by rw [HN.out]; exact hlt) (by rw [HR.out]; simp; omega)
              rw [HF5.out, if_pos hinc])
            go_wp2_with fail
            go_quiet (fail)
            go_wp2
            go_ret
            exact ⟨ret_int HF.out.symm, (HX0.out.trans HE.out).drewN _⟩
          · have HF : Hid (It.allN (Gv.incA pt) (k + 1 + 1) = true) := Lib.hid (It.allN_next HA.out (by rw [HR.out]; simp; omega))
            have hxy' : y < x := by omega
            clear hxy
            go_wp2_with fail
            go_quiet (fail)
            go_wp2
            go_roundw
            case rel => exact ⟨k + 1, by omega, by go_num, HF, Lib.hid (HE.out.drewN _)⟩
            case measure => simp [intOf]; omega
        · have HF : Hid (v = 0) := Lib.hid (by
            rw [HF5.out, if_neg ?_]
            have : Gv.inc pt = true := by
              unfold Gv.inc
              rw [HN.out]
              rcases Nat.eq_zero_or_pos m with h0 | h0
              · rw [h0]; rfl
              · rw [show m = k + 1 by omega]; exact HA.out
            rw [this]; simp)
          have hlt' : ¬ (k : Int) + 1 < (m : Int) := by omega
          clear hk
          go_wp2
          go_ret
          exact ⟨ret_int HF.out.symm, HX0.out.trans HE.out⟩
def nBank (p q : List Int) : Bank := ⟨0, p, q, [], [], [], []⟩
def zBankL : BankL := ⟨0, ⟨none, 0, []⟩, ⟨none, 0, []⟩, none, 0, [], none, 0, [], none, 0, [], none, 0, []⟩
theorem zBankL_in (w : World) : zBankL.In w := ⟨by unfold In64 zBankL; decide, il_nil w, il_nil w, SlX.nil _ _, ⟨Nat.le_refl _, Nat.zero_le _⟩, SlX.nil _ _, ⟨Nat.le_refl _, Nat.zero_le _⟩, SlX.nil _ _, ⟨Nat.le_refl _, Nat.zero_le _⟩, SlX.nil _ _, ⟨Nat.le_refl _, Nat.zero_le _⟩⟩
/-- A bank and an error. -/
def RetBE (bk : Bank) (er : Int) (r : Ending) (w' : World) : Prop := ∃ b' : BankL, r = .returned (.tuple #[b'.agg, .int .i64 er]) ∧ b'.bank = bk ∧ b'.In w' ∧ (bk.outl = [] → b'.oA = none ∧ b'.oc = 0)
set_option maxRecDepth 100000 in
set_option maxHeartbeats 12800000 in
theorem bNew_any (p q : IL) {n m : Nat} (hn : p.xs.length = n) (hm : q.xs.length = m) {v : Int} (hv : Gv.gridE p.xs q.xs = v) (w : World) (hp : p.In w) (hq : q.In w) (hz1 : n * 8 ≤ 140737488355328) (hz2 : m * 8 ≤ 140737488355328) :
    Calls Tryz.prog 8 #[.agg #[.slice p.A n p.c, .slice q.A m q.c]] w fun r w' => RetBE (if v = 0 then nBank p.xs q.xs else zBankL.bank) v r w' ∧ Ext w w' := by
  obtain ⟨CG, hcg⟩ : ∃ C, (#[.slice p.A n p.c, .slice q.A m q.c] : Array Value) = C := ⟨_, rfl⟩
  have HGV := Lib.hid (fun (W : World) (h : Ext w W) => kgrid_any p.A p.c q.A q.c p.xs q.xs hn hm hv W (hp.1.ext h) (hq.1.ext h) (by omega) (by omega))
  have HCG := Lib.hid (fun (W : World) (h : Ext w W) => bcopyGrid_any p q hn hm W (hp.ext h) (hq.ext h) hz1 hz2)
  rw [hcg] at HGV HCG ⊢
  have HN := Lib.hid hn
  have HM := Lib.hid hm
  obtain ⟨W0, hW0⟩ : ∃ W, (w.alloc (.cells CG 24)).alloc (.cells #[.int .i64 0, .slice none 0 0, .slice none 0 0, .slice none 0 0, .slice none 0 0, .slice none 0 0, .slice none 0 0] 31) = W := ⟨_, rfl⟩
  have HX0 : Hid (Ext w W0) := Lib.hid (by rw [← hW0]; exact ((Ext.refl _).alloc _).alloc _)
  have HB0 : Hid (W0.heap[w.heap.size]? = some (.cells CG 24 (0, 0))) := Lib.hid (by rw [← hW0]; exact two_fst' _ _ _)
  have HZ0 : Hid (W0.heap[w.heap.size + 1]? = some (.cells #[.int .i64 0, .slice none 0 0, .slice none 0 0, .slice none 0 0, .slice none 0 0, .slice none 0 0, .slice none 0 0] 31 (0, 0))) := Lib.hid (by rw [← hW0]; exact heap_new_at _ _ _ (by simp))
  have HWH := Lib.hid hW0
  have IG := Lib.hid (infoGr (CS := CG) (by rw [← hcg]; rfl))
  have INZ : Hid ((Tryz.prog.info? 31).map (·.size) = some (#[.int .i64 0, .slice none 0 0, .slice none 0 0, .slice none 0 0, .slice none 0 0, .slice none 0 0, .slice none 0 0] : Array Value).size) := Lib.hid (infoBk rfl)
  obtain ⟨BK, hBK⟩ : ∃ B, (if v = 0 then nBank p.xs q.xs else zBankL.bank) = B := ⟨_, rfl⟩
  have HBY : Hid (v = 0 → BK = nBank p.xs q.xs) := Lib.hid (fun h => by rw [← hBK, if_pos h])
  have HBN : Hid (v ≠ 0 → BK = zBankL.bank) := Lib.hid (fun h => by rw [← hBK, if_neg h])
  rw [hBK]
  clear hn hm hv hp hq hW0 hcg hBK
  go_enter Tryz.func8, Tryz.ntmps8
  go_wp2_with (with_reducible refine wpList_load_row rfl 24 (.tmp 1) rfl (w.heap.size) (by with_unfolding_all rfl) _ CG _ _ (two_fst' w _ _) Tryz.underlying24 rfl IG.out ?_)
  rw [HWH.out]
  with_reducible refine (HGV.out W0 HX0.out).mono ?_
  rintro r w1 ⟨rfl, hb1⟩
  have HX1 := Lib.hid (HX0.out.trans hb1)
  have HB1 := Lib.hid (hb1.blockAt HB0.out)
  have HZ1 := Lib.hid (hb1.blockAt HZ0.out)
  clear hb1 HB0 HZ0
  by_cases h0 : v = 0
  case neg =>
    have t0 : (v != 0) = true := by rw [bne_iff_ne]; exact h0
    have HF := Lib.hid (HBN.out h0)
    clear h0
    go_wp2_with (with_reducible refine wpList_store_row rfl 31 (.tmp 2) (.tmp 9) rfl (w.heap.size + 1) #[.int .i64 0, .slice none 0 0, .slice none 0 0, .slice none 0 0, .slice none 0 0, .slice none 0 0, .slice none 0 0] (by with_unfolding_all rfl) (by with_unfolding_all rfl) _ _ HZ1.out INZ.out rfl (by simp [Value.oneCell']) ?_)
    refine bodyPost_ret (v := .tuple #[.agg #[.int .i64 0, .slice none 0 0, .slice none 0 0, .slice none 0 0, .slice none 0 0, .slice none 0 0, .slice none 0 0], .int .i64 v]) (results_ct Tryz.results8 _ _ (w.heap.size + 1) _ _ _ _ rfl (setRow_heap _ _ _ _ _ _ HZ1.out) Tryz.underlying31 rfl INZ.out rfl) rfl ?_
    exact ⟨⟨zBankL, rfl, HF.out.symm, zBankL_in _, fun _ => ⟨rfl, rfl⟩⟩, HX1.out.rowSet (by omega) _⟩
  subst h0
  have HF := Lib.hid (HBY.out rfl)
  go_wp2_with (with_reducible refine wpList_load_row rfl 24 (.tmp 1) rfl (w.heap.size) (by with_unfolding_all rfl) _ CG _ _ HB1.out Tryz.underlying24 rfl IG.out ?_)
  with_reducible refine (HCG.out w1 HX1.out).mono ?_
  rintro r w2 ⟨⟨A, D, c, d, rfl, h1, h2⟩, hb2⟩
  have HX2 := Lib.hid (HX1.out.trans hb2)
  have HZ2 := Lib.hid (hb2.blockAt HZ1.out)
  have K1 := Lib.hid h1
  have K2 := Lib.hid h2
  have INF : Hid ((Tryz.prog.info? 31).map (·.size) = some (#[.int .i64 0, .slice A n c, .slice D m d, .slice none 0 0, .slice none 0 0, .slice none 0 0, .slice none 0 0] : Array Value).size) := Lib.hid (infoBk rfl)
  clear hb2 h1 h2
  go_wp2_with (with_reducible refine wpList_store_row rfl 31 (.tmp 2) (.tmp 13) rfl (w.heap.size + 1) #[.int .i64 0, .slice A n c, .slice D m d, .slice none 0 0, .slice none 0 0, .slice none 0 0, .slice none 0 0] (by with_unfolding_all rfl) (by with_unfolding_all rfl) _ _ HZ2.out INF.out rfl (by simp [Value.oneCell']) ?_)
  refine bodyPost_ret (v := .tuple #[.agg #[.int .i64 0, .slice A n c, .slice D m d, .slice none 0 0, .slice none 0 0, .slice none 0 0, .slice none 0 0], .int .i64 0]) (results_ct Tryz.results8 _ _ (w.heap.size + 1) _ _ _ _ rfl (setRow_heap _ _ _ _ _ _ HZ2.out) Tryz.underlying31 rfl INF.out rfl) rfl ?_
  have hb9 := But.setRow (w.heap.size + 1) w2 #[.int .i64 0, .slice A n c, .slice D m d, .slice none 0 0, .slice none 0 0, .slice none 0 0, .slice none 0 0]
  have k1 := K1.out.keepT HZ2.out (by decide) (fun _ _ => trivial) hb9
  have k2 := K2.out.keepT HZ2.out (by decide) (fun _ _ => trivial) hb9
  refine ⟨⟨⟨0, ⟨A, c, p.xs⟩, ⟨D, d, q.xs⟩, none, 0, [], none, 0, [], none, 0, [], none, 0, []⟩, ?_, HF.out.symm, ⟨(by unfold In64; decide : In64 0), k1.il, k2.il, SlX.nil _ _, ⟨Nat.le_refl _, Nat.zero_le _⟩, SlX.nil _ _, ⟨Nat.le_refl _, Nat.zero_le _⟩, SlX.nil _ _, ⟨Nat.le_refl _, Nat.zero_le _⟩, SlX.nil _ _, ⟨Nat.le_refl _, Nat.zero_le _⟩⟩, fun _ => ⟨rfl, rfl⟩⟩, HX2.out.rowSet (by omega) _⟩
  rw [← HN.out, ← HM.out]
  rfl
end Bk
end Go.Proofs.YtfnmgcblhebdbaaGreatDoor
