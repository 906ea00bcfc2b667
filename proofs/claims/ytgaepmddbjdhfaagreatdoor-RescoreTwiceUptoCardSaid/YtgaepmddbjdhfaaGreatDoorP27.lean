/- Equal weights; rules of a grid; prior weights, in the package and in the reference: contracts. Conditions: those of each theorem. Prior weights and updates, in the package: contracts. Conditions: those of each theorem. Updated weights, in the package: a contract. Conditions: those of each theorem. Pools of items: how they lie, and the rules of a pool in plain words. Conditions: those of each theorem. Rules of a pool, in the package and in the reference; where a pool's item is: contracts. Conditions: those of each theorem. -/
import Derived.Test.YtgaepmddbjdhfaaGreatDoorP23
import Derived.Test.YtgaepmddbjdhfaaGreatDoorP26
import Derived.Test.YtgaepmddbjdhfaaGreatDoorP25
import Derived.Test.YtgaepmddbjdhfaaGreatDoorP32
namespace Go.Proofs.YtgaepmddbjdhfaaGreatDoor
open Go.ChangeShapes Go.WideShapes Go.ChangeAt Go.RowKit
/-- What each operation of the region leaves. -/
def rwcL (b off n c b' off' c' k : Nat) (h g : NL) : List (Option Value → World → Prop) := [fun u _ => u = some (.slice (some ⟨b, off, none⟩) n c),
  fun u _ => u = some (.int .i64 (k : Int)),
  fun u _ => u = some (.pointer (some ⟨b, off + k, none⟩)),
  fun u _ => u = some (NL.val h),
  fun u _ => u = some (.slice (some ⟨b', off', none⟩) n c'),
  fun u _ => u = some (.int .i64 (k : Int)),
  fun u _ => u = some (.pointer (some ⟨b', off' + k, none⟩)),
  fun u _ => u = some (NL.val g),
  fun u _ => u = some (.bool true),
  fun u _ => u = some (.bool false)]
theorem rwcL_mono (b off n c b' off' c' k : Nat) (h g : NL) : AllMono (rwcL b off n c b' off' c' k h g) := ⟨mono_val _, mono_val _, mono_val _, mono_val _, mono_val _, mono_val _, mono_val _, mono_val _, mono_val _, mono_val _, trivial⟩
def rwcR (b off n c b' off' c' k : Nat) (h g : NL) (j : Nat) (u : Option Value) (w : World) : Prop := (rwcL b off n c b' off' c' k h g).getD j (fun _ _ => True) u w
theorem rwcR_ext (b off n c b' off' c' k : Nat) (h g : NL) (j : Nat) (u : Option Value) (w w' : World) (he : Ext w w') (hR : rwcR b off n c b' off' c' k h g j u w) : rwcR b off n c b' off' c' k h g j u w' := ((rwcL_mono b off n c b' off' c' k h g).at_ j) u w w' he hR
def rwcD : List Nat := [17, 18, 19, 20, 21, 22, 23, 24, 25, 26]
def rwcE (b off n c b' off' c' k : Nat) (t : Array Value) : Prop := t.getD 0 undef = .slice (some ⟨b, off, none⟩) n c ∧ t.getD 1 undef = .slice (some ⟨b', off', none⟩) n c' ∧ t.getD 5 undef = .int .i64 (k : Int) ∧ t.size = 27
set_option maxRecDepth 100000 in
set_option maxHeartbeats 6400000 in
theorem wequal_eq (W W' : WL) (hv : W.vs = W'.vs) (w : World) (hW : W.In w) (hW' : W'.In w) :
    Calls Tryz.prog 18 #[W.val, W'.val] w fun e w' => e = .returned (.bool true) ∧ Ext w w' := by
  obtain ⟨A, c, hs⟩ := W
  obtain ⟨A', c', gs⟩ := W'
  have hlen : gs.length = hs.length := by
    have := congrArg List.length hv
    rw [WL.vs_len, WL.vs_len] at this
    exact this.symm
  unfold WL.val
  dsimp only
  rw [hlen]
  obtain ⟨n, hn⟩ : ∃ n, hs.length = n := ⟨_, rfl⟩
  have hl : n ≤ 9223372036854775807 := by have h1 : hs.length ≤ c := hW.le; have h2 : c ≤ maxLen := hW.cap; unfold maxLen at h2; omega
  rw [hn] at hlen ⊢
  have H := Lib.hid hW
  have H' := Lib.hid hW'
  have HN := Lib.hid hn
  have HM := Lib.hid hlen
  have HVS := Lib.hid hv
  have ENS := Lib.hid (enters_of Tryz.func40 (by kernel_rfl) rfl)
  clear hW hW' hn hlen hv
  have t0 : ((n : Int) != (n : Int)) = false := by simp
  go_enter Tryz.func18, Tryz.ntmps18
  go_wp2
  go_loopw [5] (fun i wr => ∃ k : Nat, k ≤ n ∧ i = .int .i64 k ∧ Hid (Ext w wr)) (fun i _ => n - (intOf i).toNat)
  case atStart => exact ⟨0, by omega, rfl, Lib.hid (Ext.refl _)⟩
  case round =>
    obtain ⟨k, hk, rfl, HE⟩ := hrel
    by_cases hlt : k < n
    · obtain ⟨h, hh⟩ : ∃ x, hs[k]? = some x := ⟨hs[k]'(by rw [HN.out]; exact hlt), List.getElem?_eq_getElem _⟩
      obtain ⟨g, hg⟩ : ∃ x, gs[k]? = some x := ⟨gs[k]'(by rw [HM.out]; exact hlt), List.getElem?_eq_getElem _⟩
      have HV : Hid (h.v = g.v) := Lib.hid (by
        have h1 := WL.vs_at (W := ⟨A, c, hs⟩) hh
        rw [HVS.out, WL.vs_at (W := ⟨A', c', gs⟩) hg] at h1
        exact (Option.some.inj h1).symm)
      obtain ⟨b, off, hA, hb, c0, i0⟩ := (H.out.ext HE.out).at_ hh
      obtain ⟨b', off', hA', hb', d0, j0⟩ := (H'.out.ext HE.out).at_ hg
      dsimp only at hA hA'
      subst hA hA'
      have HC := Lib.hid c0
      have HD := Lib.hid d0
      have HIN := Lib.hid (And.intro i0 j0)
      have ki1 : (k : Int) < (n : Int) := by omega
      have KI := Lib.hid (And.intro ki1 hlt)
      clear hh hg c0 d0 i0 j0
      go_wp2_with fail
      refine region_tb (by kernel_rfl) (by decide +kernel) (rwcE b off n c b' off' c' k) ⟨rfl, rfl, rfl, rfl⟩ 10 rwcD (fun _ => none) (rwcR b off n c b' off' c' k h g) wr (Ext.refl _) (fun i h1 h2 => absurd h2 (Nat.not_lt.2 h1)) ?_ ?_
      · intro Tv dd lv U wz i o hE ho hlv hd hT
        obtain ⟨t0, t1, t5, tz⟩ := hE
        have hx := hT.ext
        match i, ho, hlv, hd with
        | 0, ho, hlv, hd =>
          obtain rfl := Option.some.inj ho
          have v0 := eval_old (d := dd) (hT.out 0 (by decide)) (by omega) t0
          refine tbw_yield (v := .slice (some ⟨b, off, none⟩) n c) (rwcR_ext b off n c b' off' c' k h g) hT ho hd (wanted_plain rfl) rfl (by decide) (by decide) ?_ (Ext.refl _) rfl
          generalize Act.eval ⟨over Tv U, dd⟩ = ev at *
          simp [execOp, go_sem, v0]
        | 1, ho, hlv, hd =>
          obtain rfl := Option.some.inj ho
          have v0 := eval_old (d := dd) (hT.out 5 (by decide)) (by omega) t5
          refine tbw_yield (v := .int .i64 (k : Int)) (rwcR_ext b off n c b' off' c' k h g) hT ho hd (wanted_plain rfl) rfl (by decide) (by decide) ?_ (Ext.refl _) rfl
          generalize Act.eval ⟨over Tv U, dd⟩ = ev at *
          simp [execOp, go_sem, v0]
        | 2, ho, hlv, hd =>
          obtain rfl := Option.some.inj ho
          have f0 : U 17 = some (.slice (some ⟨b, off, none⟩) n c) := hT.facts 0 (by decide) (dep hd 0 (by kernel_rfl)) (fun c e => by cases e)
          have v0 : Act.eval ⟨over Tv U, dd⟩ (.tmp 17) = _ := eval_new (t := Tv) (d := dd) f0 (by show 17 < Tv.size; omega)
          have f1 : U 18 = some (.int .i64 (k : Int)) := hT.facts 1 (by decide) (dep hd 1 (by kernel_rfl)) (fun c e => by cases e)
          have v1 : Act.eval ⟨over Tv U, dd⟩ (.tmp 18) = _ := eval_new (t := Tv) (d := dd) f1 (by show 18 < Tv.size; omega)
          have ki := KI.out
          refine tbw_yield (v := .pointer (some ⟨b, off + k, none⟩)) (rwcR_ext b off n c b' off' c' k h g) hT ho hd (wanted_plain rfl) rfl (by decide) (by decide) ?_ (Ext.refl _) rfl
          generalize Act.eval ⟨over Tv U, dd⟩ = ev at *
          simp [execOp, go_sem, v0, v1, ki]
        | 3, ho, hlv, hd =>
          obtain rfl := Option.some.inj ho
          have f0 : U 19 = some (.pointer (some ⟨b, off + k, none⟩)) := hT.facts 2 (by decide) (dep hd 2 (by kernel_rfl)) (fun c e => by cases e)
          have v0 : Act.eval ⟨over Tv U, dd⟩ (.tmp 19) = _ := eval_new (t := Tv) (d := dd) f0 (by show 19 < Tv.size; omega)
          have hc := hx.keep HC.out
          refine tbw_yield (v := NL.val h) (rwcR_ext b off n c b' off' c' k h g) hT ho hd (wanted_plain rfl) rfl (by decide) (by decide) ?_ (Ext.refl _) rfl
          generalize Act.eval ⟨over Tv U, dd⟩ = ev at *
          simp [execOp, go_sem, v0, hc]
        | 4, ho, hlv, hd =>
          obtain rfl := Option.some.inj ho
          have v0 := eval_old (d := dd) (hT.out 1 (by decide)) (by omega) t1
          refine tbw_yield (v := .slice (some ⟨b', off', none⟩) n c') (rwcR_ext b off n c b' off' c' k h g) hT ho hd (wanted_plain rfl) rfl (by decide) (by decide) ?_ (Ext.refl _) rfl
          generalize Act.eval ⟨over Tv U, dd⟩ = ev at *
          simp [execOp, go_sem, v0]
        | 5, ho, hlv, hd =>
          obtain rfl := Option.some.inj ho
          have v0 := eval_old (d := dd) (hT.out 5 (by decide)) (by omega) t5
          refine tbw_yield (v := .int .i64 (k : Int)) (rwcR_ext b off n c b' off' c' k h g) hT ho hd (wanted_plain rfl) rfl (by decide) (by decide) ?_ (Ext.refl _) rfl
          generalize Act.eval ⟨over Tv U, dd⟩ = ev at *
          simp [execOp, go_sem, v0]
        | 6, ho, hlv, hd =>
          obtain rfl := Option.some.inj ho
          have f0 : U 21 = some (.slice (some ⟨b', off', none⟩) n c') := hT.facts 4 (by decide) (dep hd 4 (by kernel_rfl)) (fun c e => by cases e)
          have v0 : Act.eval ⟨over Tv U, dd⟩ (.tmp 21) = _ := eval_new (t := Tv) (d := dd) f0 (by show 21 < Tv.size; omega)
          have f1 : U 22 = some (.int .i64 (k : Int)) := hT.facts 5 (by decide) (dep hd 5 (by kernel_rfl)) (fun c e => by cases e)
          have v1 : Act.eval ⟨over Tv U, dd⟩ (.tmp 22) = _ := eval_new (t := Tv) (d := dd) f1 (by show 22 < Tv.size; omega)
          have ki := KI.out
          refine tbw_yield (v := .pointer (some ⟨b', off' + k, none⟩)) (rwcR_ext b off n c b' off' c' k h g) hT ho hd (wanted_plain rfl) rfl (by decide) (by decide) ?_ (Ext.refl _) rfl
          generalize Act.eval ⟨over Tv U, dd⟩ = ev at *
          simp [execOp, go_sem, v0, v1, ki]
        | 7, ho, hlv, hd =>
          obtain rfl := Option.some.inj ho
          have f0 : U 23 = some (.pointer (some ⟨b', off' + k, none⟩)) := hT.facts 6 (by decide) (dep hd 6 (by kernel_rfl)) (fun c e => by cases e)
          have v0 : Act.eval ⟨over Tv U, dd⟩ (.tmp 23) = _ := eval_new (t := Tv) (d := dd) f0 (by show 23 < Tv.size; omega)
          have hc := hx.keep HD.out
          refine tbw_yield (v := NL.val g) (rwcR_ext b off n c b' off' c' k h g) hT ho hd (wanted_plain rfl) rfl (by decide) (by decide) ?_ (Ext.refl _) rfl
          generalize Act.eval ⟨over Tv U, dd⟩ = ev at *
          simp [execOp, go_sem, v0, hc]
        | 8, ho, hlv, hd =>
          obtain rfl := Option.some.inj ho
          have f0 : U 20 = some (NL.val h) := hT.facts 3 (by decide) (dep hd 3 (by kernel_rfl)) (fun c e => by cases e)
          have v0 : Act.eval ⟨over Tv U, dd⟩ (.tmp 20) = _ := eval_new (t := Tv) (d := dd) f0 (by show 20 < Tv.size; omega)
          have f1 : U 24 = some (NL.val g) := hT.facts 7 (by decide) (dep hd 7 (by kernel_rfl)) (fun c e => by cases e)
          have v1 : Act.eval ⟨over Tv U, dd⟩ (.tmp 24) = _ := eval_new (t := Tv) (d := dd) f1 (by show 24 < Tv.size; omega)
          refine tbw_call (f := 40) (args := #[NL.val h, NL.val g]) (rwcR_ext b off n c b' off' c' k h g) hT ho hd (wanted_plain rfl) rfl (by decide) (by decide) (exec_call2 rfl rfl v0 v1 ENS.out) ?_
          refine (nsame_eq h g HV.out wz (HIN.out.1.ext hx) (HIN.out.2.ext hx)).mono ?_
          rintro e w' ⟨rfl, hb⟩
          exact ⟨_, rfl, hb, rfl⟩
        | 9, ho, hlv, hd =>
          obtain rfl := Option.some.inj ho
          have f0 : U 25 = some (.bool true) := hT.facts 8 (by decide) (dep hd 8 (by kernel_rfl)) (fun c e => by cases e)
          have v0 : Act.eval ⟨over Tv U, dd⟩ (.tmp 25) = _ := eval_new (t := Tv) (d := dd) f0 (by show 25 < Tv.size; omega)
          refine tbw_yield (v := .bool false) (rwcR_ext b off n c b' off' c' k h g) hT ho hd (wanted_plain rfl) rfl (by decide) (by decide) ?_ (Ext.refl _) rfl
          generalize Act.eval ⟨over Tv U, dd⟩ = ev at *
          simp [execOp, go_sem, v0]
        | i + 10, ho, _, _ => exact absurd ho (by simp)
      intro U wz hex hout hfin
      have f26 : U 26 = some (.bool false) := hfin 9 (by decide) rfl
      have XE := Lib.hid hex
      clear hex hfin
      rw [over_list]
      simp (disch := decide) only [overL, Nat.reduceAdd, hout, Option.getD_none]
      rw [f26]
      simp only [Option.getD_some]
      clear hout f26
      have HE3 := Lib.hid (HE.out.trans XE.out)
      go_wp2
      go_roundw
      case rel => exact ⟨k + 1, by omega, by go_num, HE3⟩
      case measure => simp [intOf]; omega
    · go_wp2
      go_ret
      exact ⟨rfl, HE.out⟩
namespace Rw
theorem gridE_1 {pt pr : List Int} (h : 21 < pt.length) : gridE pt pr = 5 := by unfold gridE; rw [if_pos h]
theorem gridE_2 {pt pr : List Int} (h : pt.length = 0) : gridE pt pr = 20 := by unfold gridE; rw [if_neg (by omega), if_pos h]
theorem gridE_3 {pt pr : List Int} (h1 : pt.length ≤ 21) (h2 : pt.length ≠ 0) (h : pr.length ≠ pt.length) : gridE pt pr = 1 := by unfold gridE; rw [if_neg (by omega), if_neg h2, if_pos h]
theorem gridE_4 {pt pr : List Int} (h1 : pt.length ≤ 21) (h2 : pt.length ≠ 0) (h3 : pr.length = pt.length) (h : It.allN (ptA pt pr) pt.length = false) : gridE pt pr = 3 := by unfold gridE; rw [if_neg (by omega), if_neg h2, if_neg (by omega), if_pos h]
theorem gridE_5 {pt pr : List Int} (h1 : pt.length ≤ 21) (h2 : pt.length ≠ 0) (h3 : pr.length = pt.length) (h4 : It.allN (ptA pt pr) pt.length = true) : gridE pt pr = if Rs.inc pt = false then 23 else 0 := by unfold gridE; rw [if_neg (by omega), if_neg h2, if_neg (by omega), if_neg (by rw [h4]; simp)]
theorem ptA_at {pt pr : List Int} {i : Nat} {x y : Int} (hx : pt[i]? = some x) (hy : pr[i]? = some y) : ptA pt pr i = (It.wi x (-1000) 1000 && It.wi y 1 1000) := by
  unfold ptA; rw [List.getD_eq_getElem?_getD, List.getD_eq_getElem?_getD, hx, hy]; rfl
theorem gridE_ok {pt pr : List Int} (h : gridE pt pr = 0) : 1 ≤ pt.length ∧ pt.length ≤ 21 ∧ pr.length = pt.length ∧ ∀ y ∈ pr, 1 ≤ y ∧ y ≤ 1000 := by
  by_cases h1 : 21 < pt.length
  · rw [gridE_1 h1] at h; cases h
  by_cases h2 : pt.length = 0
  · rw [gridE_2 h2] at h; cases h
  by_cases h3 : pr.length = pt.length
  · refine ⟨by omega, by omega, h3, fun y hy => ?_⟩
    cases h4 : It.allN (ptA pt pr) pt.length with
    | false => rw [gridE_4 (by omega) h2 h3 h4] at h; cases h
    | true =>
      obtain ⟨i, hi, rfl⟩ := List.mem_iff_getElem.1 hy
      have h5 := It.allN_iff.1 h4 i (by omega)
      rw [ptA_at (List.getElem?_eq_getElem (by omega : i < pt.length)) (List.getElem?_eq_getElem hi), Bool.and_eq_true] at h5
      exact It.wi_iff.1 h5.2
  · rw [gridE_3 (by omega) h2 h3] at h; cases h
end Rw
set_option maxRecDepth 100000 in
set_option maxHeartbeats 12800000 in
theorem kgrid_any (A : Option Addr) (c : Nat) (A' : Option Addr) (c' : Nat) (pt pr : List Int) {n m : Nat} (hn : pt.length = n) (hm : pr.length = m) {v : Int} (hv : Rw.gridE pt pr = v) (w : World) (h : SlI w A pt) (h' : SlI w A' pr) (hl : n ≤ 9223372036854775807) (hl' : m ≤ 9223372036854775807) :
    Calls Tryz.prog 31 #[.agg #[.slice A n c, .slice A' m c']] w fun e w' => e = .returned (.int .i64 v) ∧ Ext w w' := by
  have H := Lib.hid h
  have H' := Lib.hid h'
  have HN := Lib.hid hn
  have HM := Lib.hid hm
  have HV := Lib.hid hv
  have X0 : Ext w (w.alloc (.cells #[.slice A n c, .slice A' m c'] 36)) := (Ext.refl _).alloc _
  clear h h' hn hm hv
  by_cases h21 : 21 < n
  · have HF : Hid (v = 5) := Lib.hid (by rw [← HV.out]; exact Rw.gridE_1 (by rw [HN.out]; exact h21))
    go_enter Tryz.func31, Tryz.ntmps31
    go_wp2
    go_ret
    exact ⟨ret_int HF.out.symm, X0⟩
  by_cases hn0 : n = 0
  · have HF : Hid (v = 20) := Lib.hid (by rw [← HV.out]; exact Rw.gridE_2 (by rw [HN.out]; exact hn0))
    have t0 : ((n : Int) == 0) = true := by rw [hn0]; rfl
    clear hn0
    go_enter Tryz.func31, Tryz.ntmps31
    go_wp2
    go_ret
    exact ⟨ret_int HF.out.symm, X0⟩
  have t0 : ((n : Int) == 0) = false := by rw [beq_eq_false_iff_ne]; omega
  by_cases hnm : m = n
  case neg =>
    have HF : Hid (v = 1) := Lib.hid (by rw [← HV.out]; exact Rw.gridE_3 (by rw [HN.out]; omega) (by rw [HN.out]; exact hn0) (by rw [HN.out, HM.out]; exact hnm))
    have t1 : ((m : Int) != (n : Int)) = true := by rw [bne_iff_ne]; omega
    clear hnm hn0
    go_enter Tryz.func31, Tryz.ntmps31
    go_wp2
    go_ret
    exact ⟨ret_int HF.out.symm, X0⟩
  subst hnm
  have t1 : ((m : Int) != (m : Int)) = false := by simp
  have HP := Lib.hid (And.intro (show pt.length ≤ 21 by rw [HN.out]; omega) (And.intro (show pt.length ≠ 0 by rw [HN.out]; exact hn0) (show pr.length = pt.length by rw [HN.out, HM.out])))
  have m21 : m ≤ 21 := by omega
  clear hn0 h21
  obtain ⟨w0, hw0⟩ : ∃ w0, w.alloc (.cells #[.slice A m c, .slice A' m c'] 36) = w0 := ⟨_, rfl⟩
  have b0 : w0.cell? ⟨w.heap.size, 0, none⟩ = some (.slice A m c) := by rw [← hw0, World.cell?_alloc_new]; rfl
  have b1 : w0.cell? ⟨w.heap.size, 1, none⟩ = some (.slice A' m c') := by rw [← hw0, World.cell?_alloc_new]; rfl
  have HB := Lib.hid (And.intro b0 b1)
  have HX0 : Hid (Ext w w0) := Lib.hid (by rw [← hw0]; exact X0)
  have HW0 := Lib.hid hw0
  clear b0 b1 X0 hw0
  go_enter Tryz.func31, Tryz.ntmps31
  go_wp2
  rw [HW0.out]
  go_loopw [24] (fun i wr => ∃ k : Nat, k ≤ m ∧ i = .int .i64 k ∧ Hid (It.allN (Rw.ptA pt pr) k = true) ∧ Hid (Ext w0 wr)) (fun i _ => m - (intOf i).toNat)
  case atStart => exact ⟨0, by omega, rfl, Lib.hid rfl, Lib.hid (Ext.refl _)⟩
  case round =>
    obtain ⟨k, hk, rfl, HA, HE⟩ := hrel
    have c0 := HE.out.keep HB.out.1
    have c1 := HE.out.keep HB.out.2
    by_cases hlt : k < m
    · have HS := HX0.out.trans HE.out
      obtain ⟨b, off, x, rfl, hb, hx, x0⟩ := (H.out.ext HS).at_ (i := k) (by rw [HN.out]; exact hlt)
      obtain ⟨b', off', y, rfl, hb', hy, y0⟩ := (H'.out.ext HS).at_ (i := k) (by rw [HM.out]; exact hlt)
      have HPA := Lib.hid (Rw.ptA_at hx hy)
      have ki0 : (0 : Int) ≤ (k : Int) := by omega
      have ki1 : (k : Int) < (m : Int) := by omega
      have HBD : Hid (It.wi x (-1000) 1000 = false ∨ It.wi y 1 1000 = false → v = 3) := Lib.hid (fun h => by
        rw [← HV.out]
        refine Rw.gridE_4 HP.out.1 HP.out.2.1 HP.out.2.2 (It.allN_no (k := k) (by rw [HN.out]; exact hlt) ?_)
        rw [HPA.out]
        rcases h with h | h <;> rw [h] <;> simp)
      clear hx hy HS
      rcases (show x < -1000 ∨ (-1000 ≤ x ∧ 1000 < x) ∨ (-1000 ≤ x ∧ x ≤ 1000 ∧ y < 1) ∨ (-1000 ≤ x ∧ x ≤ 1000 ∧ 1 ≤ y ∧ 1000 < y) ∨ (-1000 ≤ x ∧ x ≤ 1000 ∧ 1 ≤ y ∧ y ≤ 1000) by omega) with h1 | ⟨h1, h2⟩ | ⟨h1, h2, h3⟩ | ⟨h1, h2, h3, h4⟩ | ⟨h1, h2, h3, h4⟩
      · have HF : Hid (v = 3) := Lib.hid (HBD.out (Or.inl (by unfold It.wi; simp; omega)))
        go_wp2
        go_ret
        exact ⟨ret_int HF.out.symm, HX0.out.trans HE.out⟩
      · have HF : Hid (v = 3) := Lib.hid (HBD.out (Or.inl (by unfold It.wi; simp; omega)))
        go_wp2
        go_ret
        exact ⟨ret_int HF.out.symm, HX0.out.trans HE.out⟩
      · have HF : Hid (v = 3) := Lib.hid (HBD.out (Or.inr (by unfold It.wi; simp; omega)))
        go_wp2
        go_ret
        exact ⟨ret_int HF.out.symm, HX0.out.trans HE.out⟩
      · have HF : Hid (v = 3) := Lib.hid (HBD.out (Or.inr (by unfold It.wi; simp; omega)))
        go_wp2
        go_ret
        exact ⟨ret_int HF.out.symm, HX0.out.trans HE.out⟩
      · have HAN : Hid (It.allN (Rw.ptA pt pr) (k + 1) = true) := Lib.hid (It.allN_next HA.out (by rw [HPA.out]; unfold It.wi; simp; omega))
        go_wp2
        go_roundw
        case rel => exact ⟨k + 1, by omega, by go_num, HAN, HE⟩
        case measure => simp [intOf]; omega
    · obtain rfl : m = k := by omega
      have HF5 : Hid (v = if Rs.inc pt = false then 23 else 0) := Lib.hid (by rw [← HV.out, Rw.gridE_5 HP.out.1 HP.out.2.1 HP.out.2.2 (by rw [HN.out]; exact HA.out)])
      clear HA
      go_wp2
      clear c0 c1
      go_loopw [5] (fun i wr => ∃ k : Nat, (k + 1 ≤ m ∨ k = 0) ∧ i = .int .i64 (k + 1) ∧ Hid (It.allN (Rs.incA pt) (k + 1) = true) ∧ Hid (Ext w0 wr)) (fun i _ => m + 1 - (intOf i).toNat)
      case atStart => exact ⟨0, by omega, rfl, Lib.hid rfl, HE⟩
      case round =>
        clear HE hk
        obtain ⟨k, hk, rfl, HA, HE⟩ := hrel
        have c0 := HE.out.keep HB.out.1
        by_cases hlt : k + 1 < m
        · have HS := HX0.out.trans HE.out
          obtain ⟨b, off, x, rfl, hb, hx, hc⟩ := (H.out.ext HS).at_ (i := k + 1) (by rw [HN.out]; exact hlt)
          obtain ⟨b', off', y, e', hb', hy, hc'⟩ := (H.out.ext HS).at_ (i := k) (by rw [HN.out]; omega)
          obtain ⟨rfl, rfl⟩ : b = b' ∧ off = off' := by cases e'; exact ⟨rfl, rfl⟩
          have hra : Rs.incA pt (k + 1) = decide (y < x) := by
            unfold Rs.incA
            rw [Nat.add_sub_cancel, List.getD_eq_getElem?_getD, List.getD_eq_getElem?_getD, hx, hy]
            simp
          have HR := Lib.hid hra
          have ki0 : (0 : Int) ≤ (k : Int) := by omega
          have ki1 : (k : Int) + 1 < (m : Int) := by omega
          clear hra hx hy e' HS
          by_cases hxy : x ≤ y
          · have HF : Hid (v = 23) := Lib.hid (by
              have hinc : Rs.inc pt = false := It.allN_no (k := k + 1) (by rw [HN.out]; exact hlt) (by rw [HR.out]; simp; omega)
              rw [HF5.out, if_pos hinc])
            go_wp2_with fail
            go_quiet (fail)
            go_wp2
            go_ret
            exact ⟨ret_int HF.out.symm, (HX0.out.trans HE.out).drewN _⟩
          · have HF : Hid (It.allN (Rs.incA pt) (k + 1 + 1) = true) := Lib.hid (It.allN_next HA.out (by rw [HR.out]; simp; omega))
            have hxy' : y < x := by omega
            clear hxy
            go_wp2_with fail
            go_quiet (fail)
            go_wp2
            go_roundw
            case rel => exact ⟨k + 1, by omega, by go_num, HF, Lib.hid (HE.out.drewN _)⟩
            case measure => simp [intOf]; omega
        · have HF : Hid (v = 0) := Lib.hid (by
            rw [HF5.out, if_neg ?_]
            have : Rs.inc pt = true := by
              unfold Rs.inc
              rw [HN.out]
              rcases Nat.eq_zero_or_pos m with h0 | h0
              · rw [h0]; rfl
              · rw [show m = k + 1 by omega]; exact HA.out
            rw [this]; simp)
          have hlt' : ¬ (k : Int) + 1 < (m : Int) := by omega
          clear hk
          go_wp2
          go_ret
          exact ⟨ret_int HF.out.symm, HX0.out.trans HE.out⟩
set_option maxRecDepth 100000 in
set_option maxHeartbeats 12800000 in
theorem rgrid_any (A : Option Addr) (c : Nat) (A' : Option Addr) (c' : Nat) (pt pr : List Int) {n m : Nat} (hn : pt.length = n) (hm : pr.length = m) {v : Int} (hv : Rw.gridE pt pr = v) (w : World) (h : SlI w A pt) (h' : SlI w A' pr) (hl : n ≤ 9223372036854775807) (hl' : m ≤ 9223372036854775807) :
    Calls Tryz.prog 36 #[.agg #[.slice A n c, .slice A' m c']] w fun e w' => e = .returned (.int .i64 v) ∧ Ext w w' := by
  have H := Lib.hid h
  have H' := Lib.hid h'
  have HN := Lib.hid hn
  have HM := Lib.hid hm
  have HV := Lib.hid hv
  have X0 : Ext w (w.alloc (.cells #[.slice A n c, .slice A' m c'] 36)) := (Ext.refl _).alloc _
  clear h h' hn hm hv
  by_cases h21 : 21 < n
  · have HF : Hid (v = 5) := Lib.hid (by rw [← HV.out]; exact Rw.gridE_1 (by rw [HN.out]; exact h21))
    go_enter Tryz.func36, Tryz.ntmps36
    go_wp2
    go_ret
    exact ⟨ret_int HF.out.symm, X0⟩
  by_cases hn0 : n = 0
  · have HF : Hid (v = 20) := Lib.hid (by rw [← HV.out]; exact Rw.gridE_2 (by rw [HN.out]; exact hn0))
    have t0 : ((n : Int) == 0) = true := by rw [hn0]; rfl
    clear hn0
    go_enter Tryz.func36, Tryz.ntmps36
    go_wp2
    go_ret
    exact ⟨ret_int HF.out.symm, X0⟩
  have t0 : ((n : Int) == 0) = false := by rw [beq_eq_false_iff_ne]; omega
  by_cases hnm : m = n
  case neg =>
    have HF : Hid (v = 1) := Lib.hid (by rw [← HV.out]; exact Rw.gridE_3 (by rw [HN.out]; omega) (by rw [HN.out]; exact hn0) (by rw [HN.out, HM.out]; exact hnm))
    have t1 : ((m : Int) != (n : Int)) = true := by rw [bne_iff_ne]; omega
    clear hnm hn0
    go_enter Tryz.func36, Tryz.ntmps36
    go_wp2
    go_ret
    exact ⟨ret_int HF.out.symm, X0⟩
  subst hnm
  have t1 : ((m : Int) != (m : Int)) = false := by simp
  have HP := Lib.hid (And.intro (show pt.length ≤ 21 by rw [HN.out]; omega) (And.intro (show pt.length ≠ 0 by rw [HN.out]; exact hn0) (show pr.length = pt.length by rw [HN.out, HM.out])))
  have m21 : m ≤ 21 := by omega
  clear hn0 h21
  obtain ⟨w0, hw0⟩ : ∃ w0, w.alloc (.cells #[.slice A m c, .slice A' m c'] 36) = w0 := ⟨_, rfl⟩
  have b0 : w0.cell? ⟨w.heap.size, 0, none⟩ = some (.slice A m c) := by rw [← hw0, World.cell?_alloc_new]; rfl
  have b1 : w0.cell? ⟨w.heap.size, 1, none⟩ = some (.slice A' m c') := by rw [← hw0, World.cell?_alloc_new]; rfl
  have HB := Lib.hid (And.intro b0 b1)
  have HX0 : Hid (Ext w w0) := Lib.hid (by rw [← hw0]; exact X0)
  have HW0 := Lib.hid hw0
  clear b0 b1 X0 hw0
  go_enter Tryz.func36, Tryz.ntmps36
  go_wp2
  rw [HW0.out]
  go_loopw [4] (fun i wr => ∃ k : Nat, k ≤ m ∧ i = .int .i64 k ∧ Hid (It.allN (Rw.ptA pt pr) k = true) ∧ Hid (Ext w0 wr)) (fun i _ => m - (intOf i).toNat)
  case atStart => exact ⟨0, by omega, rfl, Lib.hid rfl, Lib.hid (Ext.refl _)⟩
  case round =>
    obtain ⟨k, hk, rfl, HA, HE⟩ := hrel
    have c0 := HE.out.keep HB.out.1
    have c1 := HE.out.keep HB.out.2
    by_cases hlt : k < m
    · have HS := HX0.out.trans HE.out
      obtain ⟨b, off, x, rfl, hb, hx, x0⟩ := (H.out.ext HS).at_ (i := k) (by rw [HN.out]; exact hlt)
      obtain ⟨b', off', y, rfl, hb', hy, y0⟩ := (H'.out.ext HS).at_ (i := k) (by rw [HM.out]; exact hlt)
      have HPA := Lib.hid (Rw.ptA_at hx hy)
      have ki0 : (0 : Int) ≤ (k : Int) := by omega
      have ki1 : (k : Int) < (m : Int) := by omega
      have HBD : Hid (It.wi x (-1000) 1000 = false ∨ It.wi y 1 1000 = false → v = 3) := Lib.hid (fun h => by
        rw [← HV.out]
        refine Rw.gridE_4 HP.out.1 HP.out.2.1 HP.out.2.2 (It.allN_no (k := k) (by rw [HN.out]; exact hlt) ?_)
        rw [HPA.out]
        rcases h with h | h <;> rw [h] <;> simp)
      clear hx hy HS
      rcases (show x < -1000 ∨ (-1000 ≤ x ∧ 1000 < x) ∨ (-1000 ≤ x ∧ x ≤ 1000 ∧ y < 1) ∨ (-1000 ≤ x ∧ x ≤ 1000 ∧ 1 ≤ y ∧ 1000 < y) ∨ (-1000 ≤ x ∧ x ≤ 1000 ∧ 1 ≤ y ∧ y ≤ 1000) by omega) with h1 | ⟨h1, h2⟩ | ⟨h1, h2, h3⟩ | ⟨h1, h2, h3, h4⟩ | ⟨h1, h2, h3, h4⟩
      · have HF : Hid (v = 3) := Lib.hid (HBD.out (Or.inl (by unfold It.wi; simp; omega)))
        go_wp2
        go_ret
        exact ⟨ret_int HF.out.symm, HX0.out.trans HE.out⟩
      · have HF : Hid (v = 3) := Lib.hid (HBD.out (Or.inl (by unfold It.wi; simp; omega)))
        go_wp2
        go_ret
        exact ⟨ret_int HF.out.symm, HX0.out.trans HE.out⟩
      · have HF : Hid (v = 3) := Lib.hid (HBD.out (Or.inr (by unfold It.wi; simp; omega)))
        go_wp2
        go_ret
        exact ⟨ret_int HF.out.symm, HX0.out.trans HE.out⟩
      · have HF : Hid (v = 3) := Lib.hid (HBD.out (Or.inr (by unfold It.wi; simp; omega)))
        go_wp2
        go_ret
        exact ⟨ret_int HF.out.symm, HX0.out.trans HE.out⟩
      · have HAN : Hid (It.allN (Rw.ptA pt pr) (k + 1) = true) := Lib.hid (It.allN_next HA.out (by rw [HPA.out]; unfold It.wi; simp; omega))
        go_wp2
        go_roundw
        case rel => exact ⟨k + 1, by omega, by go_num, HAN, HE⟩
        case measure => simp [intOf]; omega
    · obtain rfl : m = k := by omega
      have HF5 : Hid (v = if Rs.inc pt = false then 23 else 0) := Lib.hid (by rw [← HV.out, Rw.gridE_5 HP.out.1 HP.out.2.1 HP.out.2.2 (by rw [HN.out]; exact HA.out)])
      clear HA
      go_wp2
      clear c0 c1
      go_loopw [5] (fun i wr => ∃ k : Nat, (k + 1 ≤ m ∨ k = 0) ∧ i = .int .i64 (k + 1) ∧ Hid (It.allN (Rs.incA pt) (k + 1) = true) ∧ Hid (Ext w0 wr)) (fun i _ => m + 1 - (intOf i).toNat)
      case atStart => exact ⟨0, by omega, rfl, Lib.hid rfl, HE⟩
      case round =>
        clear HE hk
        obtain ⟨k, hk, rfl, HA, HE⟩ := hrel
        have c0 := HE.out.keep HB.out.1
        by_cases hlt : k + 1 < m
        · have HS := HX0.out.trans HE.out
          obtain ⟨b, off, x, rfl, hb, hx, hc⟩ := (H.out.ext HS).at_ (i := k + 1) (by rw [HN.out]; exact hlt)
          obtain ⟨b', off', y, e', hb', hy, hc'⟩ := (H.out.ext HS).at_ (i := k) (by rw [HN.out]; omega)
          obtain ⟨rfl, rfl⟩ : b = b' ∧ off = off' := by cases e'; exact ⟨rfl, rfl⟩
          have hra : Rs.incA pt (k + 1) = decide (y < x) := by
            unfold Rs.incA
            rw [Nat.add_sub_cancel, List.getD_eq_getElem?_getD, List.getD_eq_getElem?_getD, hx, hy]
            simp
          have HR := Lib.hid hra
          have ki0 : (0 : Int) ≤ (k : Int) := by omega
          have ki1 : (k : Int) + 1 < (m : Int) := by omega
          clear hra hx hy e' HS
          by_cases hxy : x ≤ y
          · have HF : Hid (v = 23) := Lib.hid (by
              have hinc : Rs.inc pt = false := It.allN_no (k := k + 1) (by rw [HN.out]; exact hlt) (by rw [HR.out]; simp; omega)
              rw [HF5.out, if_pos hinc])
            go_wp2_with fail
            go_quiet (fail)
            go_wp2
            go_ret
            exact ⟨ret_int HF.out.symm, (HX0.out.trans HE.out).drewN _⟩
          · have HF : Hid (It.allN (Rs.incA pt) (k + 1 + 1) = true) := Lib.hid (It.allN_next HA.out (by rw [HR.out]; simp; omega))
            have hxy' : y < x := by omega
            clear hxy
            go_wp2_with fail
            go_quiet (fail)
            go_wp2
            go_roundw
            case rel => exact ⟨k + 1, by omega, by go_num, HF, Lib.hid (HE.out.drewN _)⟩
            case measure => simp [intOf]; omega
        · have HF : Hid (v = 0) := Lib.hid (by
            rw [HF5.out, if_neg ?_]
            have : Rs.inc pt = true := by
              unfold Rs.inc
              rw [HN.out]
              rcases Nat.eq_zero_or_pos m with h0 | h0
              · rw [h0]; rfl
              · rw [show m = k + 1 by omega]; exact HA.out
            rw [this]; simp)
          have hlt' : ¬ (k : Int) + 1 < (m : Int) := by omega
          clear hk
          go_wp2
          go_ret
          exact ⟨ret_int HF.out.symm, HX0.out.trans HE.out⟩
end Go.Proofs.YtgaepmddbjdhfaaGreatDoor
namespace Go.Proofs.YtgaepmddbjdhfaaGreatDoor
open Go.ChangeShapes Go.WideShapes Go.ChangeAt Go.RowKit
namespace Rw
/-- The prior weights, none if the grid is not in order. -/
def priV (pt pr : List Int) : List Nat := if gridE pt pr = 0 then prior pr else []
theorem priV_ok {pt pr : List Int} (h : gridE pt pr = 0) : priV pt pr = prior pr := by unfold priV; rw [if_pos h]
theorem priV_bad {pt pr : List Int} (h : gridE pt pr ≠ 0) : priV pt pr = [] := by unfold priV; rw [if_neg h]
end Rw
theorem NL.In.setCell {w : World} {h : NL} (hi : h.In w) {p : Addr} (hp : ∀ a, h.A = some a → a.block ≠ p.block) (v : Value) : h.In (w.setCell p v) := ⟨Sl.setCell hi.s hp v, hi.le, hi.cap⟩
/-- The row of new weights: the ones that are done, and zeros behind. -/
structure OutW (w : World) (g n : Nat) (hs : List NL) : Prop where
  row : RowW w 1 g (hs.map (fun h => [h.val]) ++ List.replicate (n - hs.length) ([.slice none 0 0] : List Value))
  ins : ∀ h ∈ hs, h.In w ∧ ∀ a, h.A = some a → g < a.block
theorem OutW.ext {w w' : World} {g n : Nat} {hs : List NL} (h : OutW w g n hs) (he : Ext w w') : OutW w' g n hs := ⟨h.row.ext he, fun x hx => ⟨(h.ins x hx).1.ext he, (h.ins x hx).2⟩⟩
theorem OutW.made (w : World) (n : Nat) (t : TypeId) : OutW (w.alloc (.cells (madeCells #[.slice none 0 0] n) t)) w.heap.size n [] := by
  refine ⟨?_, fun h hh => by simp at hh⟩
  have := RowW.made w 1 n ([.slice none 0 0] : List Value) rfl t
  rw [Nat.mul_one] at this
  simpa using this
theorem OutW.put {w : World} {g n : Nat} {hs : List NL} (h : OutW w g n hs) (hn : hs.length < n) (x : NL) (hx : x.In w) (hf : ∀ a, x.A = some a → g < a.block) : OutW (w.setCell ⟨g, hs.length, none⟩ x.val) g n (hs ++ [x]) := by
  constructor
  · have h1 := h.row.set (i := hs.length) (by simp; omega) (cs := [x.val]) rfl
    have e : (hs.map (fun h => [h.val]) ++ List.replicate (n - hs.length) ([.slice none 0 0] : List Value)).set hs.length [x.val] = (hs ++ [x]).map (fun h => [h.val]) ++ List.replicate (n - (hs ++ [x]).length) ([.slice none 0 0] : List Value) := by
      have := Rt.row_step (l := hs.map (fun h => [h.val])) (z := ([.slice none 0 0] : List Value)) (v := [x.val]) (m := n - (hs.length + 1))
      rw [List.length_map] at this
      rw [show n - hs.length = n - (hs.length + 1) + 1 by omega, this]
      simp
    rw [e, Nat.mul_one] at h1
    exact h1
  · intro z hz
    rcases List.mem_append.1 hz with hz | hz
    · exact ⟨(h.ins z hz).1.setCell (fun a ha => by have := (h.ins z hz).2 a ha; simp only; omega) _, (h.ins z hz).2⟩
    · obtain rfl : z = x := by simpa using hz
      exact ⟨hx.setCell (fun a ha => by have := hf a ha; simp only; omega) _, hf⟩
theorem OutW.cell {w : World} {g n : Nat} {hs : List NL} (h : OutW w g n hs) (hn : hs.length < n) : w.cell? ⟨g, hs.length, none⟩ = some (.slice none 0 0) ∧ w.frozen? ⟨g, hs.length, none⟩ = false := by
  have h1 := h.row.rows hs.length ([.slice none 0 0] : List Value) (by
    rw [List.getElem?_append_right (by simp), List.getElem?_replicate, if_pos (by rw [List.length_map]; omega)]) 0 _ rfl
  have h2 := h.row.part (i := hs.length) (by simp; omega) 0 (by decide)
  rw [Nat.mul_one, Nat.add_zero] at h1 h2
  exact ⟨h1, h2.2⟩
theorem OutW.ret {w : World} {g n : Nat} {hs : List NL} (h : OutW w g n hs) (hn : hs.length = n) (hl : n ≤ 1000) (er : Int) {vs : List Nat} (hv : hs.map (·.v) = vs) : RetW er vs (.returned (.tuple #[.slice (some ⟨g, 0, none⟩) n n, .int .i64 er])) w := by
  have h1 := h.row
  rw [hn, Nat.sub_self, List.replicate_zero, List.append_nil] at h1
  refine ⟨⟨some ⟨g, 0, none⟩, n, hs⟩, ?_, ⟨h1.sl, fun x hx => (h.ins x hx).1, Nat.le_of_eq hn, (show n ≤ maxLen by unfold maxLen; omega)⟩, hv⟩
  unfold WL.val
  rw [hn]
theorem Tryz.infoNatS : (Tryz.prog.info? 75).map (fun i => (i.zero, i.size, i.bytes)) = some (some (.slice none 0 0), 1, 24) := by kernel_rfl
theorem make_nats (n : Nat) (hn : n ≤ 1000) (w : World) : (Instr.makeSlice 38 (.int .i64 (n : Int)) (.int .i64 (n : Int))).run Tryz.prog w = .ok (.slice (some ⟨w.heap.size, 0, none⟩) n n) (w.alloc (.cells (madeCells #[.slice none 0 0] n) 75)) :=
  run_make_row' (P := Tryz.prog) 38 75 (.slice none 0 0) 24 Tryz.underlying38 Tryz.infoNatS rfl .i64 .i64 n (by omega) (by omega) w

set_option maxRecDepth 100000 in
set_option maxHeartbeats 12800000 in
theorem kprior_any (A : Option Addr) (c : Nat) (A' : Option Addr) (c' : Nat) (pt pr : List Int) {n m : Nat} (hn : pt.length = n) (hm : pr.length = m) {v : Int} (hv : Rw.gridE pt pr = v) {vs : List Nat} (hvs : Rw.priV pt pr = vs) (w : World) (h : SlI w A pt) (h' : SlI w A' pr) (hl : n ≤ 9223372036854775807) (hl' : m ≤ 9223372036854775807) :
    Calls Tryz.prog 46 #[.agg #[.slice A n c, .slice A' m c']] w fun e w' => RetW v vs e w' ∧ Ext w w' := by
  have H' := Lib.hid h'
  have HM := Lib.hid hm
  have HV := Lib.hid hv
  have HVS := Lib.hid hvs
  have X0 : Ext w (w.alloc (.cells #[.slice A n c, .slice A' m c'] 36)) := (Ext.refl _).alloc _
  have HGV := Lib.hid (kgrid_any A c A' c' pt pr hn hm hv _ (h.ext X0) (h'.ext X0) hl hl')
  clear h h' hn hm hv hvs
  go_enter Tryz.func46, Tryz.ntmps46
  go_wp2_with fail
  with_reducible refine HGV.out.mono ?_
  rintro e w1 ⟨rfl, hb1⟩
  have X1 := Lib.hid (X0.trans hb1)
  have c0 := hb1.keep (show (w.alloc (.cells #[.slice A n c, .slice A' m c'] 36)).cell? ⟨w.heap.size, 1, none⟩ = some (.slice A' m c') by rw [World.cell?_alloc_new]; rfl)
  clear hb1 X0
  by_cases hv0 : v = 0
  case neg =>
    have t0 : (v != 0) = true := by rw [bne_iff_ne]; exact hv0
    have HF : Hid (vs = []) := Lib.hid (by rw [← HVS.out]; exact Rw.priV_bad (by rw [HV.out]; exact hv0))
    clear hv0
    go_wp2
    go_ret2
    rw [HF.out]
    exact ⟨RetW.none v _, X1.out⟩
  subst hv0
  have HVP : Hid (vs = Rw.prior pr) := Lib.hid (by rw [← HVS.out]; exact Rw.priV_ok HV.out)
  have HOK := Lib.hid (Rw.gridE_ok HV.out)
  have hm21 : m ≤ 21 := by have := HOK.out; rw [HM.out] at this; omega
  have hmk := make_nats m (by omega)
  have z1 : w.heap.size < w1.heap.size := World.block_lt_of_cell? w1 _ c0
  go_wp2
  have HZ1 : Hid (w.heap.size ≤ w1.heap.size) := Lib.hid X1.out.size
  have HO0 : Hid (OutW (w1.alloc (.cells (madeCells #[.slice none 0 0] m) 75)) w1.heap.size m []) := Lib.hid (OutW.made w1 m _)
  have HE1 : Hid (Ext w (w1.alloc (.cells (madeCells #[.slice none 0 0] m) 75))) := Lib.hid (X1.out.alloc _)
  generalize hG : w1.heap.size = G at HO0 HZ1 ⊢
  clear hG X1 hmk c0 z1
  go_loopw [20] (fun i wr => ∃ (k : Nat) (hs : List NL), k ≤ m ∧ i = .int .i64 k ∧ Hid (hs.length = k) ∧ Hid (hs.map (·.v) = (Rw.prior pr).take k) ∧ Hid (OutW wr G m hs) ∧ Hid (Ext w wr)) (fun i _ => m - (intOf i).toNat)
  case atStart => exact ⟨0, [], by omega, rfl, Lib.hid rfl, Lib.hid rfl, HO0, HE1⟩
  case round =>
    clear HO0 HE1
    obtain ⟨k, hs, hk, rfl, HLN, HVS, HO, HE⟩ := hrel
    by_cases hlt : k < m
    · obtain ⟨b, off, y, rfl, hb, hy, y0⟩ := (H'.out.ext HE.out).at_ (i := k) (by rw [HM.out]; exact hlt)
      have hyb := HOK.out.2.2.2 y (List.mem_of_getElem? hy)
      obtain ⟨yn, rfl⟩ : ∃ yn : Nat, y = (yn : Int) := ⟨y.toNat, by omega⟩
      have HVN : Hid ((Rw.prior pr).take (k + 1) = (Rw.prior pr).take k ++ [yn]) := Lib.hid (by
        rw [List.take_add_one]
        unfold Rw.prior
        rw [List.getElem?_map, hy]
        rfl)
      have hyn : yn ≤ 1000 := by omega
      have hyn1 : 1 ≤ yn := by omega
      have ki0 : (0 : Int) ≤ (k : Int) := by omega
      have ki1 : (k : Int) < (m : Int) := by omega
      clear hy hyb
      go_wp2_with fail
      with_reducible refine (natOf_any yn (by omega) _).mono ?_
      rintro e w3 ⟨⟨h, rfl, hv, hin, hfr⟩, hb3⟩
      have HO3 := Lib.hid (HO.out.ext hb3)
      have HE3 := Lib.hid (HE.out.trans hb3)
      have HPUT := Lib.hid (HO3.out.put (by rw [HLN.out]; exact hlt) h hin (fun a ha => by have := hfr a ha; have := HO.out.row.lt; omega))
      have HCF := Lib.hid (HO3.out.cell (by rw [HLN.out]; exact hlt))
      rw [HLN.out] at HPUT HCF
      have cf := HCF.out.1
      have ff := HCF.out.2
      have HHV := Lib.hid hv
      obtain ⟨hA, hc, hw⟩ := h
      unfold NL.val at HPUT ⊢
      dsimp only at HPUT HHV ⊢
      obtain ⟨hl0, hl1⟩ : ∃ r, (Rw.limbs hw).length = r := ⟨_, rfl⟩
      rw [hl1] at HPUT ⊢
      clear hin hfr hb3 hv hl1
      go_wp2
      go_roundw
      case rel => exact ⟨k + 1, hs ++ [⟨hA, hc, hw⟩], by omega, by go_num, Lib.hid (by rw [List.length_append, HLN.out]; rfl), Lib.hid (by rw [List.map_append, HVS.out, HVN.out]; simp only [List.map_cons, List.map_nil]; rw [HHV.out]), HPUT, Lib.hid (HE3.out.setCell HZ1.out _)⟩
      case measure => simp [intOf]; omega
    · obtain rfl : m = k := by omega
      have HF : Hid (hs.map (·.v) = Rw.prior pr) := Lib.hid (by rw [HVS.out, List.take_of_length_le (by unfold Rw.prior; rw [List.length_map, HM.out]; exact Nat.le_refl _)])
      go_wp2
      go_ret2
      exact ⟨HO.out.ret HLN.out (by omega) 0 (HF.out.trans HVP.out.symm), HE.out⟩
set_option maxRecDepth 100000 in
set_option maxHeartbeats 3200000 in
theorem kstart_any (A : Option Addr) (c : Nat) (A' : Option Addr) (c' : Nat) (pt pr : List Int) {n m : Nat} (hn : pt.length = n) (hm : pr.length = m) {v : Int} (hv : Rw.gridE pt pr = v) {vs : List Nat} (hvs : Rw.priV pt pr = vs) (w : World) (h : SlI w A pt) (h' : SlI w A' pr) (hl : n ≤ 9223372036854775807) (hl' : m ≤ 9223372036854775807) :
    Calls Tryz.prog 23 #[.agg #[.slice A n c, .slice A' m c']] w fun e w' => RetW v vs e w' ∧ Ext w w' := by
  have X0 : Ext w (w.alloc (.cells #[.slice A n c, .slice A' m c'] 36)) := (Ext.refl _).alloc _
  have HGV := Lib.hid (kprior_any A c A' c' pt pr hn hm hv hvs _ (h.ext X0) (h'.ext X0) hl hl')
  clear h h' hn hm hv hvs
  go_enter Tryz.func23, Tryz.ntmps23
  go_wp2_with fail
  with_reducible refine HGV.out.mono ?_
  rintro e w1 ⟨⟨W, rfl, hW, hV⟩, hb1⟩
  have HW := Lib.hid (And.intro hW hV)
  have X1 := Lib.hid (X0.trans hb1)
  clear hW hV hb1 X0
  go_wp2
  go_ret2
  exact ⟨⟨W, rfl, HW.out.1, HW.out.2⟩, X1.out⟩
namespace Rw
/-- The rows of a model that is in order. -/
theorem mdl_rows {rows : List (List Int)} {n : Nat} (h : mdlE rows (n : Int) = 0) : 1 ≤ n ∧ n ≤ 21 ∧ rows.length = n ∧ 2 ≤ (rows.getD 0 []).length ∧ (rows.getD 0 []).length ≤ 6 ∧ ∀ (i : Nat) (l : List Int), rows[i]? = some l → l.length = (rows.getD 0 []).length ∧ ∀ y ∈ l, 1 ≤ y ∧ y ≤ 1000 := by
  unfold mdlE at h
  split at h
  · cases h
  · split at h
    · cases h
    · rename_i h1 h2
      refine ⟨by omega, by omega, by omega, by omega, by omega, fun i l hl => ?_⟩
      have hi := (List.getElem?_eq_some_iff.1 hl).1
      have h3 := Rs.fstN_zero.1 h i hi
      rw [rowAt_at hl] at h3
      unfold rowE at h3
      split at h3
      · cases h3
      · split at h3
        · cases h3
        · rename_i g1 g2
          refine ⟨by omega, fun y hy => ?_⟩
          have g3 : (l.all fun x => It.wi x 1 1000) = true := by simpa using g2
          exact It.wi_iff.1 (List.all_eq_true.1 g3 y hy)
theorem badC_ans {x : PItem} {k : Int} (h1 : k ≠ -1) (h2 : k ≠ -2) : badC x k = (decide (k < 0) || decide ((cats x : Int) ≤ k)) := by unfold badC; simp [h1, h2]
theorem badC_miss {x : PItem} {k : Int} (h : k = -1 ∨ k = -2) : badC x k = false := by unfold badC; rcases h with rfl | rfl <;> rfl
theorem fac_miss {x : PItem} {k : Int} (h : k = -1 ∨ k = -2) (i : Nat) : fac x k i = 1 := by unfold fac; rw [if_pos h]
theorem fac_ans {x : PItem} {k i : Nat} {l : List Int} {y : Nat} (hl : x.rows[i]? = some l) (hy : l[k]? = some (y : Int)) : fac x (k : Int) i = y := by
  unfold fac
  have e : x.rows.getD i [] = l := by rw [List.getD_eq_getElem?_getD, hl]; rfl
  rw [if_neg (by omega), Int.toNat_natCast, e, List.getD_eq_getElem?_getD, hy]
  rfl
theorem mulW_at {x : PItem} {k : Int} {vs : List Nat} {i v : Nat} (h : vs[i]? = some v) : (mulW x k vs).take (i + 1) = (mulW x k vs).take i ++ [v * fac x k i] := by
  rw [List.take_add_one]
  unfold mulW
  rw [List.getElem?_mapIdx, h]
  rfl
theorem mulW_len (x : PItem) (k : Int) (vs : List Nat) : (mulW x k vs).length = vs.length := List.length_mapIdx
end Rw
end Go.Proofs.YtgaepmddbjdhfaaGreatDoor
namespace Go.Proofs.YtgaepmddbjdhfaaGreatDoor
open Go.ChangeShapes Go.WideShapes Go.ChangeAt Go.RowKit
namespace Rw
def upE (x : PItem) (k : Int) : Int := if badC x k = true then 3 else 0
def upV (x : PItem) (k : Int) (vs : List Nat) : List Nat := if badC x k = true then [] else mulW x k vs
theorem up_bad {x : PItem} {k : Int} (h : badC x k = true) (vs : List Nat) : upE x k = 3 ∧ upV x k vs = [] := by unfold upE upV; rw [if_pos h, if_pos h]; exact ⟨rfl, rfl⟩
theorem up_ok {x : PItem} {k : Int} (h : badC x k = false) (vs : List Nat) : upE x k = 0 ∧ upV x k vs = mulW x k vs := by unfold upE upV; rw [if_neg (by rw [h]; simp), if_neg (by rw [h]; simp)]; exact ⟨rfl, rfl⟩
end Rw
set_option maxRecDepth 100000 in
set_option maxHeartbeats 25600000 in
theorem kupdate_any (W : WL) (A : Option Addr) (c : Nat) (ls : List IL) (k : Int) (x : Rw.PItem) (hx : Rw.xss ls = x.rows) {n : Nat} (hn : ls.length = n) (hwn : W.hs.length = n) (hm : Rw.mdlE x.rows (n : Int) = 0) {er : Int} {vs : List Nat} (her : Rw.upE x k = er) (hvs : Rw.upV x k W.vs = vs) (w : World) (hW : W.In w) (h : SlL w A ls) (hlim : ∀ v ∈ W.vs, (Rw.limbs v).length ≤ 400) :
    Calls Tryz.prog 35 #[W.val, .agg #[.slice A n c], .int .i64 k] w fun e w' => RetW er vs e w' ∧ Ext w w' := by
  have HMR := Lib.hid (Rw.mdl_rows hm)
  have hn1 := HMR.out.1
  have hn21 := HMR.out.2.1
  have HLS := Lib.hid h
  have HW := Lib.hid hW
  have HN := Lib.hid hn
  have HX := Lib.hid hx
  have HWN := Lib.hid hwn
  have HER := Lib.hid her
  have HVS := Lib.hid hvs
  have HLM := Lib.hid hlim
  have X0 : Ext w (w.alloc (.cells #[.slice A n c] 70)) := (Ext.refl _).alloc _
  have HMD := Lib.hid (kmdl_any A c ls hn (n : Int) (v := 0) (by rw [hx]; exact hm) _ (h.ext X0) (by omega))
  obtain ⟨m, hmm⟩ : ∃ m, ((Rw.xss ls).getD 0 []).length = m := ⟨_, rfl⟩
  have HCT := Lib.hid (fun w1 (hs : SlL w1 A ls) => kcats_any A c ls hn hmm w1 hs hn1 (by omega))
  have HM : Hid (Rw.cats x = m) := Lib.hid (by unfold Rw.cats; rw [← hx]; exact hmm)
  have hmb : 2 ≤ m ∧ m ≤ 6 := by have := HMR.out; rw [← hx, hmm] at this; omega
  obtain ⟨hm2, hm6⟩ := hmb
  have HWV := Lib.hid (fun (j : Nat) (h : NL) (hh : W.hs[j]? = some h) => WL.vs_at hh)
  have HWL : Hid (W.vs.length = n) := Lib.hid ((WL.vs_len W).trans hwn)
  obtain ⟨ws, hws⟩ : ∃ ws, W.vs = ws := ⟨_, rfl⟩
  rw [hws] at HVS HLM HWV HWL
  obtain ⟨WA, Wc, hs0⟩ := W
  dsimp only at HWV
  unfold WL.val
  dsimp only at hwn
  dsimp only
  rw [hwn]
  clear hx hn hwn hm her hvs hW h hlim hmm hws
  go_enter Tryz.func35, Tryz.ntmps35
  go_wp2_with fail
  with_reducible refine HMD.out.mono ?_
  rintro e w1 ⟨rfl, hb1⟩
  have X1 := Lib.hid (X0.trans hb1)
  have b0 := hb1.keep (show (w.alloc (.cells #[.slice A n c] 70)).cell? ⟨w.heap.size, 0, none⟩ = some (.slice A n c) by rw [World.cell?_alloc_new]; rfl)
  have HB0 := Lib.hid b0
  clear hb1 X0
  have hmk := make_nats n (by omega)
  have z1 : w.heap.size < w1.heap.size := World.block_lt_of_cell? w1 _ b0
  rcases (show k = -1 ∨ k = -2 ∨ (k ≠ -1 ∧ k ≠ -2 ∧ k < 0) ∨ (k ≠ -1 ∧ k ≠ -2 ∧ 0 ≤ k ∧ (m : Int) ≤ k) ∨ (k ≠ -1 ∧ k ≠ -2 ∧ 0 ≤ k ∧ k < (m : Int)) by omega) with hk | hk | ⟨g1, g2, hk⟩ | ⟨g1, g2, hk, hk2⟩ | ⟨g1, g2, hk, hk2⟩
  · subst hk
    have HU := Lib.hid (Rw.up_ok (x := x) (k := (-1)) (Rw.badC_miss (by decide)) ws)
    have HF : Hid (er = 0 ∧ vs = Rw.mulW x (-1) ws) := Lib.hid ⟨by rw [← HER.out, HU.out.1], by rw [← HVS.out, HU.out.2]⟩
    clear HCT
    go_wp2
    obtain ⟨w2, hw2⟩ : ∃ w2, w1 = w2 := ⟨_, rfl⟩
    have X2 : Hid (Ext w w2) := by rw [← hw2]; exact X1
    have HB2 : Hid (w2.cell? ⟨w.heap.size, 0, none⟩ = some (.slice A n c)) := by rw [← hw2]; exact HB0
    rw [hw2]
    clear b0 z1 X1 HB0
    clear hw2 w1
    have HZ1 : Hid (w.heap.size ≤ w2.heap.size) := Lib.hid X2.out.size
    have HO0 : Hid (OutW (w2.alloc (.cells (madeCells #[.slice none 0 0] n) 75)) w2.heap.size n []) := Lib.hid (OutW.made w2 n _)
    have HE1 : Hid (Ext w2 (w2.alloc (.cells (madeCells #[.slice none 0 0] n) 75))) := Lib.hid ((Ext.refl w2).alloc _)
    go_loopw [45] (fun i wr => ∃ (j : Nat) (hs : List NL), j ≤ n ∧ i = .int .i64 j ∧ Hid (hs.length = j) ∧ Hid (hs.map (·.v) = (Rw.mulW x (-1) ws).take j) ∧ Hid (OutW wr w2.heap.size n hs) ∧ Hid (Ext w2 wr)) (fun i _ => n - (intOf i).toNat)
    case atStart => exact ⟨0, [], by omega, rfl, Lib.hid rfl, Lib.hid rfl, HO0, HE1⟩
    case round =>
      clear HO0 HE1
      obtain ⟨j, hs, hj, rfl, HLN, HVV, HO, HE⟩ := hrel
      by_cases hlt : j < n
      · obtain ⟨h, hh⟩ : ∃ x, hs0[j]? = some x := ⟨hs0[j]'(by rw [HWN.out]; exact hlt), List.getElem?_eq_getElem _⟩
        obtain ⟨wb, woff, hA, hbl, c0, hin⟩ := (HW.out.ext (X2.out.trans HE.out)).at_ hh
        dsimp only at hA
        subst hA
        have HIN := Lib.hid hin
        have HLH : Hid ((Rw.limbs h.v).length ≤ 400) := Lib.hid (HLM.out h.v (List.mem_of_getElem? (HWV.out j h hh)))
        have ji0 : (0 : Int) ≤ (j : Int) := by omega
        have ji1 : (j : Int) < (n : Int) := by omega
        have HVN : Hid ((Rw.mulW x (-1) ws).take (j + 1) = (Rw.mulW x (-1) ws).take j ++ [h.v]) := Lib.hid (by
          rw [Rw.mulW_at (HWV.out j h hh), Rw.fac_miss (by decide), Nat.mul_one])
        clear hh hin
        go_wp2_with fail
        with_reducible refine (natNorm_any h _ HIN.out (Nat.le_trans HLH.out (by decide))).mono ?_
        rintro e w5 ⟨⟨g, rfl, hv, hgin, hfr⟩, hb5⟩
        have X5 := hb5
        have HO5 := Lib.hid (HO.out.ext X5)
        have HE5 := Lib.hid (HE.out.trans X5)
        have HPUT := Lib.hid (HO5.out.put (by rw [HLN.out]; exact hlt) g hgin (fun a ha => by have := hfr a ha; have := HO.out.row.lt; omega))
        have HCF := Lib.hid (HO5.out.cell (by rw [HLN.out]; exact hlt))
        rw [HLN.out] at HPUT HCF
        have cf := HCF.out.1
        have ff := HCF.out.2
        have HHV := Lib.hid hv
        obtain ⟨gA, gc, gv⟩ := g
        unfold NL.val at HPUT ⊢
        dsimp only at HPUT HHV ⊢
        obtain ⟨gl, hgl⟩ : ∃ r, (Rw.limbs gv).length = r := ⟨_, rfl⟩
        rw [hgl] at HPUT
        rw [hgl]
        clear hgin hfr hb5 hv hgl X5
        go_wp2
        go_roundw
        case rel => exact ⟨j + 1, hs ++ [⟨gA, gc, gv⟩], by omega, by go_num, Lib.hid (by rw [List.length_append, HLN.out]; rfl), Lib.hid (by rw [List.map_append, HVV.out, HVN.out]; simp only [List.map_cons, List.map_nil]; rw [HHV.out]), HPUT, Lib.hid (HE5.out.setCell (Nat.le_refl _) _)⟩
        case measure => simp [intOf]; omega
      · obtain rfl : n = j := by omega
        have HFV : Hid (hs.map (·.v) = vs) := Lib.hid (by
          rw [HVV.out, List.take_of_length_le, HF.out.2]
          rw [Rw.mulW_len]
          exact Nat.le_of_eq HWL.out)
        go_wp2
        go_ret2
        rw [HF.out.1]
        exact ⟨HO.out.ret HLN.out (by omega) 0 HFV.out, X2.out.trans HE.out⟩
  · subst hk
    have HU := Lib.hid (Rw.up_ok (x := x) (k := (-2)) (Rw.badC_miss (by decide)) ws)
    have HF : Hid (er = 0 ∧ vs = Rw.mulW x (-2) ws) := Lib.hid ⟨by rw [← HER.out, HU.out.1], by rw [← HVS.out, HU.out.2]⟩
    clear HCT
    go_wp2
    obtain ⟨w2, hw2⟩ : ∃ w2, w1 = w2 := ⟨_, rfl⟩
    have X2 : Hid (Ext w w2) := by rw [← hw2]; exact X1
    have HB2 : Hid (w2.cell? ⟨w.heap.size, 0, none⟩ = some (.slice A n c)) := by rw [← hw2]; exact HB0
    rw [hw2]
    clear b0 z1 X1 HB0
    clear hw2 w1
    have HZ1 : Hid (w.heap.size ≤ w2.heap.size) := Lib.hid X2.out.size
    have HO0 : Hid (OutW (w2.alloc (.cells (madeCells #[.slice none 0 0] n) 75)) w2.heap.size n []) := Lib.hid (OutW.made w2 n _)
    have HE1 : Hid (Ext w2 (w2.alloc (.cells (madeCells #[.slice none 0 0] n) 75))) := Lib.hid ((Ext.refl w2).alloc _)
    go_loopw [45] (fun i wr => ∃ (j : Nat) (hs : List NL), j ≤ n ∧ i = .int .i64 j ∧ Hid (hs.length = j) ∧ Hid (hs.map (·.v) = (Rw.mulW x (-2) ws).take j) ∧ Hid (OutW wr w2.heap.size n hs) ∧ Hid (Ext w2 wr)) (fun i _ => n - (intOf i).toNat)
    case atStart => exact ⟨0, [], by omega, rfl, Lib.hid rfl, Lib.hid rfl, HO0, HE1⟩
    case round =>
      clear HO0 HE1
      obtain ⟨j, hs, hj, rfl, HLN, HVV, HO, HE⟩ := hrel
      by_cases hlt : j < n
      · obtain ⟨h, hh⟩ : ∃ x, hs0[j]? = some x := ⟨hs0[j]'(by rw [HWN.out]; exact hlt), List.getElem?_eq_getElem _⟩
        obtain ⟨wb, woff, hA, hbl, c0, hin⟩ := (HW.out.ext (X2.out.trans HE.out)).at_ hh
        dsimp only at hA
        subst hA
        have HIN := Lib.hid hin
        have HLH : Hid ((Rw.limbs h.v).length ≤ 400) := Lib.hid (HLM.out h.v (List.mem_of_getElem? (HWV.out j h hh)))
        have ji0 : (0 : Int) ≤ (j : Int) := by omega
        have ji1 : (j : Int) < (n : Int) := by omega
        have HVN : Hid ((Rw.mulW x (-2) ws).take (j + 1) = (Rw.mulW x (-2) ws).take j ++ [h.v]) := Lib.hid (by
          rw [Rw.mulW_at (HWV.out j h hh), Rw.fac_miss (by decide), Nat.mul_one])
        clear hh hin
        go_wp2_with fail
        with_reducible refine (natNorm_any h _ HIN.out (Nat.le_trans HLH.out (by decide))).mono ?_
        rintro e w5 ⟨⟨g, rfl, hv, hgin, hfr⟩, hb5⟩
        have X5 := hb5
        have HO5 := Lib.hid (HO.out.ext X5)
        have HE5 := Lib.hid (HE.out.trans X5)
        have HPUT := Lib.hid (HO5.out.put (by rw [HLN.out]; exact hlt) g hgin (fun a ha => by have := hfr a ha; have := HO.out.row.lt; omega))
        have HCF := Lib.hid (HO5.out.cell (by rw [HLN.out]; exact hlt))
        rw [HLN.out] at HPUT HCF
        have cf := HCF.out.1
        have ff := HCF.out.2
        have HHV := Lib.hid hv
        obtain ⟨gA, gc, gv⟩ := g
        unfold NL.val at HPUT ⊢
        dsimp only at HPUT HHV ⊢
        obtain ⟨gl, hgl⟩ : ∃ r, (Rw.limbs gv).length = r := ⟨_, rfl⟩
        rw [hgl] at HPUT
        rw [hgl]
        clear hgin hfr hb5 hv hgl X5
        go_wp2
        go_roundw
        case rel => exact ⟨j + 1, hs ++ [⟨gA, gc, gv⟩], by omega, by go_num, Lib.hid (by rw [List.length_append, HLN.out]; rfl), Lib.hid (by rw [List.map_append, HVV.out, HVN.out]; simp only [List.map_cons, List.map_nil]; rw [HHV.out]), HPUT, Lib.hid (HE5.out.setCell (Nat.le_refl _) _)⟩
        case measure => simp [intOf]; omega
      · obtain rfl : n = j := by omega
        have HFV : Hid (hs.map (·.v) = vs) := Lib.hid (by
          rw [HVV.out, List.take_of_length_le, HF.out.2]
          rw [Rw.mulW_len]
          exact Nat.le_of_eq HWL.out)
        go_wp2
        go_ret2
        rw [HF.out.1]
        exact ⟨HO.out.ret HLN.out (by omega) 0 HFV.out, X2.out.trans HE.out⟩
  · have t1 : (k != -1) = true := by rw [bne_iff_ne]; exact g1
    have t2 : (k != -2) = true := by rw [bne_iff_ne]; exact g2
    have HU := Lib.hid (Rw.up_bad (x := x) (k := k) (by rw [Rw.badC_ans g1 g2]; simp [hk]) ws)
    have HF : Hid (er = 3 ∧ vs = []) := Lib.hid ⟨by rw [← HER.out, HU.out.1], by rw [← HVS.out, HU.out.2]⟩
    clear g1 g2
    go_wp2
    go_ret2
    rw [HF.out.1, HF.out.2]
    exact ⟨RetW.none 3 _, X1.out⟩
  · have t1 : (k != -1) = true := by rw [bne_iff_ne]; exact g1
    have t2 : (k != -2) = true := by rw [bne_iff_ne]; exact g2
    have HU := Lib.hid (Rw.up_bad (x := x) (k := k) (by rw [Rw.badC_ans g1 g2, HM.out]; simp [hk2]) ws)
    have HF : Hid (er = 3 ∧ vs = []) := Lib.hid ⟨by rw [← HER.out, HU.out.1], by rw [← HVS.out, HU.out.2]⟩
    clear g1 g2
    go_wp2_with fail
    with_reducible refine (HCT.out _ (HLS.out.ext X1.out)).mono ?_
    rintro e w2 ⟨rfl, hb2⟩
    have X2 := Lib.hid (X1.out.trans hb2)
    clear hb2
    go_wp2
    go_ret2
    rw [HF.out.1, HF.out.2]
    exact ⟨RetW.none 3 _, X2.out⟩
  · have t1 : (k != -1) = true := by rw [bne_iff_ne]; exact g1
    have t2 : (k != -2) = true := by rw [bne_iff_ne]; exact g2
    have HU := Lib.hid (Rw.up_ok (x := x) (k := k) (by rw [Rw.badC_ans g1 g2, HM.out]; simp; omega) ws)
    have HF : Hid (er = 0 ∧ vs = Rw.mulW x k ws) := Lib.hid ⟨by rw [← HER.out, HU.out.1], by rw [← HVS.out, HU.out.2]⟩
    obtain ⟨kk, rfl⟩ : ∃ kk : Nat, k = (kk : Int) := ⟨k.toNat, by omega⟩
    have hkm : kk < m := by omega
    have tk1 : decide ((kk : Int) < 0) = false := by rw [decide_eq_false_iff_not]; omega
    have tk2 : decide (m ≤ kk) = false := by rw [decide_eq_false_iff_not]; omega
    clear g1 g2
    go_wp2_with fail
    with_reducible refine (HCT.out _ (HLS.out.ext X1.out)).mono ?_
    rintro e w2 ⟨rfl, hb2⟩
    have X2 := Lib.hid (X1.out.trans hb2)
    have HB2 := Lib.hid (hb2.keep HB0.out)
    have b2 := HB2.out
    have z2 : w.heap.size < w2.heap.size := World.block_lt_of_cell? w2 _ b2
    clear hb2 b0 z1 X1 HB0
    go_wp2
    clear b2 z2
    have HZ1 : Hid (w.heap.size ≤ w2.heap.size) := Lib.hid X2.out.size
    have HO0 : Hid (OutW (w2.alloc (.cells (madeCells #[.slice none 0 0] n) 75)) w2.heap.size n []) := Lib.hid (OutW.made w2 n _)
    have HE1 : Hid (Ext w2 (w2.alloc (.cells (madeCells #[.slice none 0 0] n) 75))) := Lib.hid ((Ext.refl w2).alloc _)
    go_loopw [45] (fun i wr => ∃ (j : Nat) (hs : List NL), j ≤ n ∧ i = .int .i64 j ∧ Hid (hs.length = j) ∧ Hid (hs.map (·.v) = (Rw.mulW x (kk : Int) ws).take j) ∧ Hid (OutW wr w2.heap.size n hs) ∧ Hid (Ext w2 wr)) (fun i _ => n - (intOf i).toNat)
    case atStart => exact ⟨0, [], by omega, rfl, Lib.hid rfl, Lib.hid rfl, HO0, HE1⟩
    case round =>
      clear HO0 HE1
      obtain ⟨j, hs, hj, rfl, HLN, HVV, HO, HE⟩ := hrel
      by_cases hlt : j < n
      · obtain ⟨h, hh⟩ : ∃ x, hs0[j]? = some x := ⟨hs0[j]'(by rw [HWN.out]; exact hlt), List.getElem?_eq_getElem _⟩
        obtain ⟨wb, woff, hA, hbl, c0, hin⟩ := (HW.out.ext (X2.out.trans HE.out)).at_ hh
        dsimp only at hA
        subst hA
        have HIN := Lib.hid hin
        have HLH : Hid ((Rw.limbs h.v).length ≤ 400) := Lib.hid (HLM.out h.v (List.mem_of_getElem? (HWV.out j h hh)))
        have ji0 : (0 : Int) ≤ (j : Int) := by omega
        have ji1 : (j : Int) < (n : Int) := by omega
        obtain ⟨l, hl⟩ : ∃ x, ls[j]? = some x := ⟨ls[j]'(by rw [HN.out]; exact hlt), List.getElem?_eq_getElem _⟩
        obtain ⟨lb, loff, hA, hlbl, l0, hlin⟩ := (HLS.out.ext (X2.out.trans HE.out)).at_ hl
        subst hA
        obtain ⟨lA, lc, lx⟩ := l
        have hlr := HMR.out.2.2.2.2.2 j lx (by rw [← HX.out]; exact Rw.xss_at hl)
        rw [← HX.out] at hlr
        have HROW : Hid (x.rows[j]? = some lx) := Lib.hid (by rw [← HX.out]; exact Rw.xss_at hl)
        have hlm : lx.length = m := hlr.1.trans (by have := HM.out; unfold Rw.cats at this; rw [← HX.out] at this; exact this)
        dsimp only at l0
        rw [hlm] at l0
        obtain ⟨yb, yoff, y, hA2, hybl, hy, y0⟩ := hlin.1.at_ (i := kk) (by show kk < lx.length; rw [hlm]; exact hkm)
        dsimp only at hA2 hy
        subst hA2
        have hyb := hlr.2 y (List.mem_of_getElem? hy)
        obtain ⟨yn, rfl⟩ : ∃ yn : Nat, y = (yn : Int) := ⟨y.toNat, by omega⟩
        have HVN : Hid ((Rw.mulW x (kk : Int) ws).take (j + 1) = (Rw.mulW x (kk : Int) ws).take j ++ [h.v * yn]) := Lib.hid (by
          rw [Rw.mulW_at (HWV.out j h hh), Rw.fac_ans HROW.out hy])
        have hyn : yn ≤ 1000 := by omega
        have bq := HE.out.keep HB2.out
        have km1 : (kk : Int) < (m : Int) := by omega
        clear hh hin hl hlr hlm hlin hy hyb
        go_wp2_with fail
        with_reducible refine (natOf_any yn (by omega) _).mono ?_
        rintro e w4 ⟨⟨f, rfl, hfv, hfin, -⟩, hb4⟩
        have HFL : Hid ((Rw.limbs f.v).length ≤ 1000) := Lib.hid (by rw [hfv]; exact Nat.le_trans (Rw.limbs_len (k := 2) (by omega)) (by decide))
        go_wp2_with fail
        with_reducible refine (natMul_any h f _ (HIN.out.ext hb4) hfin (Nat.le_trans HLH.out (by decide)) HFL.out).mono ?_
        rintro e w5 ⟨⟨g, rfl, hv, hgin, hfr⟩, hb5⟩
        rw [hfv] at hv
        have X5 := hb4.trans hb5
        have HO5 := Lib.hid (HO.out.ext X5)
        have HE5 := Lib.hid (HE.out.trans X5)
        have HPUT := Lib.hid (HO5.out.put (by rw [HLN.out]; exact hlt) g hgin (fun a ha => by have := hfr a ha; have := HO.out.row.lt; have := hb4.size; omega))
        have HCF := Lib.hid (HO5.out.cell (by rw [HLN.out]; exact hlt))
        rw [HLN.out] at HPUT HCF
        have cf := HCF.out.1
        have ff := HCF.out.2
        have HHV := Lib.hid hv
        obtain ⟨gA, gc, gv⟩ := g
        unfold NL.val at HPUT ⊢
        dsimp only at HPUT HHV ⊢
        obtain ⟨gl, hgl⟩ : ∃ r, (Rw.limbs gv).length = r := ⟨_, rfl⟩
        rw [hgl] at HPUT
        rw [hgl]
        clear hgin hfr hb5 hv hgl X5 hb4 hfin hfv
        go_wp2
        go_roundw
        case rel => exact ⟨j + 1, hs ++ [⟨gA, gc, gv⟩], by omega, by go_num, Lib.hid (by rw [List.length_append, HLN.out]; rfl), Lib.hid (by rw [List.map_append, HVV.out, HVN.out]; simp only [List.map_cons, List.map_nil]; rw [HHV.out]), HPUT, Lib.hid (HE5.out.setCell (Nat.le_refl _) _)⟩
        case measure => simp [intOf]; omega
      · obtain rfl : n = j := by omega
        have HFV : Hid (hs.map (·.v) = vs) := Lib.hid (by
          rw [HVV.out, List.take_of_length_le, HF.out.2]
          rw [Rw.mulW_len]
          exact Nat.le_of_eq HWL.out)
        go_wp2
        go_ret2
        rw [HF.out.1]
        exact ⟨HO.out.ret HLN.out (by omega) 0 HFV.out, X2.out.trans HE.out⟩
end Go.Proofs.YtgaepmddbjdhfaaGreatDoor
namespace Go.Proofs.YtgaepmddbjdhfaaGreatDoor
open Go.ChangeShapes Go.WideShapes Go.ChangeAt Go.RowKit
namespace Rw
def pidAt (p : List PItem) (i : Nat) : Int := match p[i]? with | some x => x.id | none => 0
def pord (p : List PItem) (i : Nat) : Bool := It.wi (pidAt p i) 1 9999999 && (decide (i = 0) || decide (pidAt p (i - 1) < pidAt p i))
def pitE (x : PItem) (n : Int) : Int := if It.codeC x.cont = false then 2 else if pranges x = false then 3 else mdlE x.rows n
def pitAt (p : List PItem) (n : Int) (i : Nat) : Int := match p[i]? with | some x => pitE x n | none => 0
def poolE (p : List PItem) (n : Int) : Int := if 18 < p.length then 5 else if It.allN (pord p) p.length = false then 23 else Rs.fstN (pitAt p n) p.length
theorem pidAt_at {p : List PItem} {i : Nat} {x : PItem} (h : p[i]? = some x) : pidAt p i = x.id := by unfold pidAt; rw [h]
theorem pitAt_at {p : List PItem} {n : Int} {i : Nat} {x : PItem} (h : p[i]? = some x) : pitAt p n i = pitE x n := by unfold pitAt; rw [h]
theorem poolE_many {p : List PItem} {n : Int} (h : 18 < p.length) : poolE p n = 5 := by unfold poolE; rw [if_pos h]
theorem poolE_bad {p : List PItem} {n : Int} (h : p.length ≤ 18) (ho : It.allN (pord p) p.length = false) : poolE p n = 23 := by unfold poolE; rw [if_neg (by omega), if_pos ho]
theorem poolE_rest {p : List PItem} {n : Int} (h : p.length ≤ 18) (ho : It.allN (pord p) p.length = true) : poolE p n = Rs.fstN (pitAt p n) p.length := by unfold poolE; rw [if_neg (by omega), if_neg (by rw [ho]; simp)]
theorem pord_zero {p : List PItem} {x : PItem} (hx : p[0]? = some x) : pord p 0 = It.wi x.id 1 9999999 := by unfold pord; rw [pidAt_at hx]; simp
theorem pord_next {p : List PItem} {k : Nat} {x y : PItem} (hx : p[k + 1]? = some x) (hy : p[k]? = some y) : pord p (k + 1) = (It.wi x.id 1 9999999 && decide (y.id < x.id)) := by unfold pord; rw [pidAt_at hx, Nat.add_sub_cancel, pidAt_at hy]; simp
theorem poolE_ok {p : List PItem} {n : Int} (h : poolE p n = 0) : p.length ≤ 18 ∧ It.allN (pord p) p.length = true ∧ ∀ (i : Nat) (x : PItem), p[i]? = some x → pitE x n = 0 := by
  unfold poolE at h
  by_cases h1 : 18 < p.length
  · rw [if_pos h1] at h; simp at h
  rw [if_neg h1] at h
  by_cases h2 : It.allN (pord p) p.length = false
  · rw [if_pos h2] at h; simp at h
  rw [if_neg h2] at h
  refine ⟨by omega, by simpa using h2, fun i x hi => ?_⟩
  have := Rs.fstN_zero.1 h i (List.getElem?_eq_some_iff.1 hi).1
  rwa [pitAt_at hi] at this
theorem pitE_ok {x : PItem} {n : Int} (h : pitE x n = 0) : mdlE x.rows n = 0 := by
  unfold pitE at h
  by_cases h1 : It.codeC x.cont = false
  · rw [if_pos h1] at h; simp at h
  rw [if_neg h1] at h
  by_cases h2 : pranges x = false
  · rw [if_pos h2] at h; simp at h
  rwa [if_neg h2] at h
theorem pid_rise {p : List PItem} (h : It.allN (pord p) p.length = true) : ∀ (d i : Nat) (x y : PItem), p[i]? = some x → p[i + d + 1]? = some y → x.id < y.id
  | 0, i, x, y, hx, hy => by
    have := It.allN_iff.1 h (i + 1) (List.getElem?_eq_some_iff.1 hy).1
    rw [pord_next hy hx] at this
    simp at this
    exact this.2
  | d + 1, i, x, y, hx, hy => by
    have hl := (List.getElem?_eq_some_iff.1 hy).1
    obtain ⟨z, hz⟩ : ∃ z, p[i + d + 1]? = some z := ⟨p[i + d + 1]'(by omega), List.getElem?_eq_getElem _⟩
    have h1 := pid_rise h d i x z hx hz
    have h2 := It.allN_iff.1 h (i + d + 1 + 1) hl
    rw [pord_next (k := i + d + 1) hy hz] at h2
    simp at h2
    omega
theorem pid_one {p : List PItem} (h : It.allN (pord p) p.length = true) {i j : Nat} {x y : PItem} (hx : p[i]? = some x) (hy : p[j]? = some y) (he : x.id = y.id) : i = j := by
  rcases Nat.lt_trichotomy i j with g | g | g
  · have := pid_rise h (j - i - 1) i x y hx (by rw [show i + (j - i - 1) + 1 = j by omega]; exact hy)
    omega
  · exact g
  · have := pid_rise h (i - j - 1) j y x hy (by rw [show j + (i - j - 1) + 1 = i by omega]; exact hx)
    omega
theorem fndP_none {p : List PItem} {id : Int} (h : ∀ (j : Nat) (x : PItem), p[j]? = some x → x.id ≠ id) : fndP p id = none := by
  unfold fndP
  rw [List.find?_eq_none]
  intro x hx
  obtain ⟨j, hj⟩ := List.mem_iff_getElem?.1 hx
  simpa using h j x hj
theorem fndP_some {p : List PItem} {id : Int} {k : Nat} {x : PItem} (hx : p[k]? = some x) (he : x.id = id) (h : ∀ (j : Nat) (y : PItem), j < k → p[j]? = some y → y.id ≠ id) : fndP p id = some x := by
  unfold fndP
  rw [List.find?_eq_some_iff_getElem]
  obtain ⟨hk, hx'⟩ := List.getElem?_eq_some_iff.1 hx
  refine ⟨by simpa using he, k, hk, hx', fun j hj => ?_⟩
  have := h j (p[j]'(by omega)) hj (List.getElem?_eq_getElem _)
  simpa using this
theorem fndP_one {p : List PItem} (ho : It.allN (pord p) p.length = true) {id : Int} {k : Nat} {x : PItem} (hx : p[k]? = some x) (he : x.id = id) : fndP p id = some x :=
  fndP_some hx he (fun j y hj hy e => by have := pid_one ho hy hx (by rw [e, he]); omega)
theorem fac_le {x : PItem} {n : Nat} {k : Int} (h : mdlE x.rows (n : Int) = 0) (i : Nat) : fac x k i ≤ 1000 := by
  unfold fac
  by_cases hk : k = -1 ∨ k = -2
  · rw [if_pos hk]; decide
  rw [if_neg hk]
  have key : ∀ (l : List Int), (∀ y ∈ l, 1 ≤ y ∧ y ≤ 1000) → (l.getD k.toNat 0).toNat ≤ 1000 := fun l hl => by
    cases hq : l[k.toNat]? with
    | none => simp [List.getD_eq_getElem?_getD, hq]
    | some y =>
      simp only [List.getD_eq_getElem?_getD, hq, Option.getD_some]
      have := hl y (List.mem_of_getElem? hq)
      omega
  cases hr : x.rows[i]? with
  | none =>
    have e : x.rows.getD i [] = [] := by simp [List.getD_eq_getElem?_getD, hr]
    rw [e]; simp
  | some l =>
    have e : x.rows.getD i [] = l := by simp [List.getD_eq_getElem?_getD, hr]
    rw [e]
    exact key l ((mdl_rows h).2.2.2.2.2 i l hr).2
theorem mulW_lim {x : PItem} {n : Nat} {k : Int} (h : mdlE x.rows (n : Int) = 0) {ws : List Nat} {q : Nat} (hw : ∀ v ∈ ws, v < 4294967296 ^ q) : ∀ v ∈ mulW x k ws, v < 4294967296 ^ (q + 1) := by
  intro v hv
  unfold mulW at hv
  obtain ⟨i, hi, rfl⟩ := List.mem_iff_getElem.1 hv
  simp only [List.length_mapIdx] at hi
  rw [List.getElem_mapIdx, Nat.pow_succ]
  have h1 := hw ws[i] (List.getElem_mem _)
  have h2 : fac x k i < 4294967296 := Nat.lt_of_le_of_lt (fac_le h i) (by decide)
  exact Nat.mul_lt_mul'' h1 h2
theorem upd1_none {p : List PItem} {s : Rs.Stp} {ws : List Nat} (h : fndP p s.1 = none) : upd1 p (0, ws) s = (6, []) := by unfold upd1; rw [if_neg (by simp), h]
theorem upd1_some {p : List PItem} {s : Rs.Stp} {ws : List Nat} {x : PItem} (h : fndP p s.1 = some x) : upd1 p (0, ws) s = (upE x s.2, upV x s.2 ws) := by
  unfold upd1; rw [if_neg (by simp), h]
  cases hb : badC x s.2 with
  | true => obtain ⟨h1, h2⟩ := up_bad hb ws; rw [h1, h2]; simp [hb]
  | false => obtain ⟨h1, h2⟩ := up_ok hb ws; rw [h1, h2]; simp [hb]
theorem upE_cases (x : PItem) (k : Int) (ws : List Nat) : (upE x k = 3 ∧ upV x k ws = []) ∨ (upE x k = 0 ∧ upV x k ws = mulW x k ws) := by
  cases hb : badC x k with
  | true => exact Or.inl (up_bad hb ws)
  | false => exact Or.inr (up_ok hb ws)
/-- The error of the new weights; the new weights. -/
def wgtE (pt pr : List Int) (p : List PItem) (ss : List Rs.Stp) : Int := if gridE pt pr ≠ 0 then gridE pt pr else if poolE p pt.length ≠ 0 then poolE p pt.length else if 18 < ss.length then 5 else (updN p (prior pr) ss).1
def wgtV (pt pr : List Int) (p : List PItem) (ss : List Rs.Stp) : List Nat := if wgtE pt pr p ss = 0 then (updN p (prior pr) ss).2 else []
theorem wgt_grid {pt pr : List Int} {p : List PItem} {ss : List Rs.Stp} (h : gridE pt pr ≠ 0) : wgtE pt pr p ss = gridE pt pr ∧ wgtV pt pr p ss = [] := by
  have h1 : wgtE pt pr p ss = gridE pt pr := by unfold wgtE; rw [if_pos h]
  exact ⟨h1, by unfold wgtV; rw [h1, if_neg h]⟩
theorem wgt_pool {pt pr : List Int} {p : List PItem} {ss : List Rs.Stp} (h : gridE pt pr = 0) (g : poolE p pt.length ≠ 0) : wgtE pt pr p ss = poolE p pt.length ∧ wgtV pt pr p ss = [] := by
  have h1 : wgtE pt pr p ss = poolE p pt.length := by unfold wgtE; rw [if_neg (by simpa using h), if_pos g]
  exact ⟨h1, by unfold wgtV; rw [h1, if_neg g]⟩
theorem wgt_many {pt pr : List Int} {p : List PItem} {ss : List Rs.Stp} (h : gridE pt pr = 0) (g : poolE p pt.length = 0) (hs : 18 < ss.length) : wgtE pt pr p ss = 5 ∧ wgtV pt pr p ss = [] := by
  have h1 : wgtE pt pr p ss = 5 := by unfold wgtE; rw [if_neg (by simpa using h), if_neg (by simpa using g), if_pos hs]
  exact ⟨h1, by unfold wgtV; rw [h1, if_neg (by decide)]⟩
theorem wgt_rest {pt pr : List Int} {p : List PItem} {ss : List Rs.Stp} (h : gridE pt pr = 0) (g : poolE p pt.length = 0) (hs : ss.length ≤ 18) {er : Int} {vs : List Nat} (hu : updN p (prior pr) ss = (er, vs)) (hz : er ≠ 0 → vs = []) : wgtE pt pr p ss = er ∧ wgtV pt pr p ss = vs := by
  have h1 : wgtE pt pr p ss = er := by unfold wgtE; rw [if_neg (by simpa using h), if_neg (by simpa using g), if_neg (by omega), hu]
  refine ⟨h1, ?_⟩
  unfold wgtV
  rw [h1]
  by_cases he : er = 0
  · rw [if_pos he, hu]
  · rw [if_neg he, hz he]
theorem prior_len (pr : List Int) : (prior pr).length = pr.length := List.length_map _
theorem prior_lim {pr : List Int} (h : ∀ y ∈ pr, 1 ≤ y ∧ y ≤ 1000) : ∀ v ∈ prior pr, v < 4294967296 ^ 1 := by
  intro v hv
  obtain ⟨y, hy, rfl⟩ := List.mem_map.1 hv
  have := h y hy
  omega
theorem lim_limbs {ws : List Nat} {q : Nat} (hq : q ≤ 400) (h : ∀ v ∈ ws, v < 4294967296 ^ q) : ∀ v ∈ ws, (limbs v).length ≤ 400 := fun v hv => Nat.le_trans (limbs_len (h v hv)) hq
end Rw
/-- An item of a pool with where its model lies. -/
structure PL where
  x : Rw.PItem
  A : Option Addr
  c : Nat
  ls : List IL
def PL.cl (p : PL) : List Value := [.int .i64 p.x.id, .string p.x.cont, .int .i64 p.x.fam, .int .i64 p.x.set_, .int .i64 p.x.wrd, .int .i64 p.x.sec, .int .i64 p.x.pts, .int .i64 p.x.key, .slice p.A p.ls.length p.c]
structure PL.In (w : World) (p : PL) : Prop where
  rows : SlL w p.A p.ls
  same : Rw.xss p.ls = p.x.rows
  few : p.ls.length ≤ 140737488355328
  str : p.x.cont.size ≤ 140737488355328
theorem PL.In.ext {w w' : World} {p : PL} (h : p.In w) (he : Ext w w') : p.In w' := ⟨h.rows.ext he, h.same, h.few, h.str⟩
def SlPo (w : World) (A : Option Addr) (ps : List PL) : Prop := Sl w 9 A (ps.map PL.cl) ∧ ∀ p ∈ ps, p.In w
theorem SlPo.ext {w w' : World} {A : Option Addr} {ps : List PL} (h : SlPo w A ps) (he : Ext w w') : SlPo w' A ps := ⟨h.1.ext he, fun x hx => (h.2 x hx).ext he⟩
theorem SlPo.at_ {w : World} {A : Option Addr} {ps : List PL} (h : SlPo w A ps) {i : Nat} {x : PL} (hi : ps[i]? = some x) :
    ∃ b off, A = some ⟨b, off, none⟩ ∧ b < w.heap.size ∧ w.rangeAt b (off + i * 9) x.cl ∧ x.In w := by
  obtain ⟨b, off, hA, hb, hc⟩ := h.1.range (i := i) (cs := x.cl) (by simp [hi])
  exact ⟨b, off, hA, hb, hc, h.2 x (List.mem_of_getElem? hi)⟩
def pool (ps : List PL) : List Rw.PItem := ps.map (·.x)
theorem pool_len (ps : List PL) : (pool ps).length = ps.length := List.length_map _
theorem pool_at {ps : List PL} {i : Nat} {x : PL} (h : ps[i]? = some x) : (pool ps)[i]? = some x.x := by unfold pool; rw [List.getElem?_map, h]; rfl
theorem SlPo.id {w : World} {b o : Nat} {x : PL} (h : w.rangeAt b o x.cl) : w.cell? ⟨b, o, none⟩ = some (.int .i64 x.x.id) := h 0 _ rfl
theorem infoPI {CS : Array Value} (h : CS.size = 9) : (Tryz.prog.info? 72).map (·.size) = some CS.size := by rw [h]; kernel_rfl
theorem PL.packed (p : PL) : ∃ CA : Array Value, p.cl.toArray = CA ∧ CA.size = 9 ∧ CA.all (·.oneCell') = true ∧ p.cl = CA.toList := ⟨_, rfl, rfl, by simp [PL.cl, Value.oneCell'], rfl⟩
end Go.Proofs.YtgaepmddbjdhfaaGreatDoor
namespace Go.Proofs.YtgaepmddbjdhfaaGreatDoor
open Go.ChangeShapes Go.WideShapes Go.ChangeAt Go.RowKit
set_option maxHeartbeats 400000 in
theorem numbered_any (k : Int) {v : Bool} (hv : It.wi k 1 9999999 = v) (w : World) : Calls Tryz.prog 61 #[.int .i64 k] w fun e w' => e = .returned (.bool v) ∧ w = w' := by
  subst hv
  go_enter Tryz.func61, Tryz.ntmps61
  go_wp2
  all_goals
    go_ret
    exact ⟨ret_bool (by unfold It.wi; first | (simp [*]; done) | (simp_all; done) | (rw [Bool.eq_iff_iff]; simp; omega)), rfl⟩
set_option maxHeartbeats 400000 in
theorem within33_any (k a b : Int) {v : Bool} (hv : It.wi k a b = v) (w : World) : Calls Tryz.prog 68 #[.int .i64 k, .int .i64 a, .int .i64 b] w fun e w' => e = .returned (.bool v) ∧ w = w' := by
  subst hv
  go_enter Tryz.func68, Tryz.ntmps68
  go_wp2
  all_goals
    go_ret
    exact ⟨ret_bool (by unfold It.wi; first | (simp [*]; done) | (simp_all; done) | (rw [Bool.eq_iff_iff]; simp; omega)), rfl⟩
theorem pitE_cont {x : Rw.PItem} {n : Int} (h : It.codeC x.cont = false) : Rw.pitE x n = 2 := by unfold Rw.pitE; rw [if_pos h]
theorem pitE_rng {x : Rw.PItem} {n : Int} (h : It.codeC x.cont = true) (g : Rw.pranges x = false) : Rw.pitE x n = 3 := by unfold Rw.pitE; rw [if_neg (by rw [h]; simp), if_pos g]
theorem pitE_mdl {x : Rw.PItem} {n : Int} (h : It.codeC x.cont = true) (g : Rw.pranges x = true) : Rw.pitE x n = Rw.mdlE x.rows n := by unfold Rw.pitE; rw [if_neg (by rw [h]; simp), if_neg (by rw [g]; simp)]
theorem rangeAt_sub {w : World} {b o : Nat} {l : List Value} (h : w.rangeAt b o l) (i : Nat) {v : Value} (hv : l[i]? = some v) : w.rangeAt b (o + i) [v] := fun j u hu => by
  match j, hu with
  | 0, hu =>
    simp at hu
    subst hu
    exact h i v hv
set_option maxRecDepth 100000 in
set_option maxHeartbeats 12800000 in
theorem kitem33_any (p : PL) (n : Int) {v : Int} (hv : Rw.pitE p.x n = v) (w : World) (h : p.In w) (hg : Gm w) :
    Calls Tryz.prog 62 #[.agg p.cl.toArray, .int .i64 n] w fun e w' => e = .returned (.int .i64 v) ∧ Ext w w' := by
  obtain ⟨CA, hca, hna, -, hka⟩ := p.packed
  rw [hca]
  have X0 : Ext w (w.alloc (.cells CA 72)) := (Ext.refl _).alloc _
  have HR : Hid ((w.alloc (.cells CA 72)).rangeAt w.heap.size 0 p.cl) := Lib.hid (fun j u hu => by rw [Nat.zero_add, World.cell?_alloc_new]; rw [hka, Array.getElem?_toList] at hu; exact hu)
  have H := Lib.hid h
  have HV := Lib.hid hv
  have HG := Lib.hid hg
  have hsz := h.str
  clear hca hna hka h hv hg
  have c1 : (w.alloc (.cells CA 72)).cell? ⟨w.heap.size, 1, none⟩ = some (.string p.x.cont) := HR.out 1 _ rfl
  go_enter Tryz.func62, Tryz.ntmps62
  have HCV := Lib.hid (cvalid_any p.x.cont (w.alloc (.cells CA 72)) (by omega) (HG.out.ext X0))
  cases hc : It.codeC p.x.cont with
  | false =>
    have HF : Hid (v = 2) := Lib.hid (by rw [← HV.out]; exact pitE_cont hc)
    rw [hc] at HCV
    clear hc
    go_wp2_with fail
    with_reducible refine HCV.out.mono ?_
    rintro e w1 ⟨rfl, hb1⟩
    go_wp2
    go_ret
    exact ⟨ret_int HF.out.symm, X0.trans hb1⟩
  | true =>
    rw [hc] at HCV
    have HC := Lib.hid hc
    clear hc
    go_wp2_with fail
    with_reducible refine HCV.out.mono ?_
    rintro e w1 ⟨rfl, hb1⟩
    have X1 := Lib.hid (X0.trans hb1)
    clear c1
    have HR1 : Hid (w1.rangeAt w.heap.size 0 p.cl) := Lib.hid (hb1.range HR.out)
    have HR2 : Hid (w1.rangeAt w.heap.size 8 [.slice p.A p.ls.length p.c]) := Lib.hid (by have := rangeAt_sub HR1.out 8 rfl; rwa [Nat.zero_add] at this)
    have z1 : w.heap.size < w1.heap.size := by have := hb1.size; simp at this; omega
    clear hb1 HCV
    have c2 : w1.cell? ⟨w.heap.size, 2, none⟩ = some (.int .i64 p.x.fam) := by have := HR1.out 2 _ rfl; rwa [Nat.zero_add] at this
    have c3 : w1.cell? ⟨w.heap.size, 3, none⟩ = some (.int .i64 p.x.set_) := by have := HR1.out 3 _ rfl; rwa [Nat.zero_add] at this
    have c4 : w1.cell? ⟨w.heap.size, 4, none⟩ = some (.int .i64 p.x.wrd) := by have := HR1.out 4 _ rfl; rwa [Nat.zero_add] at this
    have c5 : w1.cell? ⟨w.heap.size, 5, none⟩ = some (.int .i64 p.x.sec) := by have := HR1.out 5 _ rfl; rwa [Nat.zero_add] at this
    have c6 : w1.cell? ⟨w.heap.size, 6, none⟩ = some (.int .i64 p.x.pts) := by have := HR1.out 6 _ rfl; rwa [Nat.zero_add] at this
    have c7 : w1.cell? ⟨w.heap.size, 7, none⟩ = some (.int .i64 p.x.key) := by have := HR1.out 7 _ rfl; rwa [Nat.zero_add] at this
    have c8 : w1.cell? ⟨w.heap.size, 8, none⟩ = some (.slice p.A p.ls.length p.c) := by have := HR1.out 8 _ rfl; rwa [Nat.zero_add] at this
    have HMD : Hid (∀ (w : World), SlL w p.A p.ls → Calls Tryz.prog 63 #[.agg #[.slice p.A p.ls.length p.c], .int .i64 n] w fun e w' => e = .returned (.int .i64 (Rw.mdlE p.x.rows n)) ∧ Ext w w') := Lib.hid (fun w h0 => kmdl_any p.A p.c p.ls rfl n (by rw [H.out.same]) w h0 H.out.few)
    go_wp2_with fail
    all_goals first
      | (with_reducible refine (HMD.out _ (H.out.rows.ext X1.out)).mono ?_
         rintro e w3 ⟨rfl, hb3⟩
         go_wp2
         go_ret
         exact ⟨ret_int (by rw [← HV.out]; exact (pitE_mdl HC.out (by unfold Rw.pranges It.wi; simp; omega)).symm), X1.out.trans hb3⟩)
      | (go_ret
         exact ⟨ret_int (by rw [← HV.out]; exact (pitE_rng HC.out (by unfold Rw.pranges It.wi; simp; omega)).symm), X1.out⟩)
set_option maxRecDepth 100000 in
set_option maxHeartbeats 12800000 in
theorem ritem33_any (p : PL) (n : Int) {v : Int} (hv : Rw.pitE p.x n = v) (w : World) (h : p.In w) :
    Calls Tryz.prog 69 #[.agg p.cl.toArray, .int .i64 n] w fun e w' => e = .returned (.int .i64 v) ∧ Ext w w' := by
  obtain ⟨CA, hca, hna, -, hka⟩ := p.packed
  rw [hca]
  have X0 : Ext w (w.alloc (.cells CA 72)) := (Ext.refl _).alloc _
  have HR : Hid ((w.alloc (.cells CA 72)).rangeAt w.heap.size 0 p.cl) := Lib.hid (fun j u hu => by rw [Nat.zero_add, World.cell?_alloc_new]; rw [hka, Array.getElem?_toList] at hu; exact hu)
  have H := Lib.hid h
  have HV := Lib.hid hv
  have hsz := h.str
  clear hca hna hka h hv
  have c1 : (w.alloc (.cells CA 72)).cell? ⟨w.heap.size, 1, none⟩ = some (.string p.x.cont) := HR.out 1 _ rfl
  go_enter Tryz.func69, Tryz.ntmps69
  have HCV := Lib.hid (rcvalid_any p.x.cont (w.alloc (.cells CA 72)))
  cases hc : It.codeC p.x.cont with
  | false =>
    have HF : Hid (v = 2) := Lib.hid (by rw [← HV.out]; exact pitE_cont hc)
    rw [hc] at HCV
    clear hc
    go_wp2_with fail
    with_reducible refine HCV.out.mono ?_
    rintro e w1 ⟨rfl, rfl⟩
    go_wp2
    go_ret
    exact ⟨ret_int HF.out.symm, X0⟩
  | true =>
    rw [hc] at HCV
    have HC := Lib.hid hc
    clear hc
    have X1 := Lib.hid X0
    have HR1 := HR
    have HR2 : Hid ((w.alloc (.cells CA 72)).rangeAt w.heap.size 8 [.slice p.A p.ls.length p.c]) := Lib.hid (by have := rangeAt_sub HR1.out 8 rfl; rwa [Nat.zero_add] at this)
    have c2 : (w.alloc (.cells CA 72)).cell? ⟨w.heap.size, 2, none⟩ = some (.int .i64 p.x.fam) := by have := HR1.out 2 _ rfl; rwa [Nat.zero_add] at this
    have c3 : (w.alloc (.cells CA 72)).cell? ⟨w.heap.size, 3, none⟩ = some (.int .i64 p.x.set_) := by have := HR1.out 3 _ rfl; rwa [Nat.zero_add] at this
    have c4 : (w.alloc (.cells CA 72)).cell? ⟨w.heap.size, 4, none⟩ = some (.int .i64 p.x.wrd) := by have := HR1.out 4 _ rfl; rwa [Nat.zero_add] at this
    have c5 : (w.alloc (.cells CA 72)).cell? ⟨w.heap.size, 5, none⟩ = some (.int .i64 p.x.sec) := by have := HR1.out 5 _ rfl; rwa [Nat.zero_add] at this
    have c6 : (w.alloc (.cells CA 72)).cell? ⟨w.heap.size, 6, none⟩ = some (.int .i64 p.x.pts) := by have := HR1.out 6 _ rfl; rwa [Nat.zero_add] at this
    have c7 : (w.alloc (.cells CA 72)).cell? ⟨w.heap.size, 7, none⟩ = some (.int .i64 p.x.key) := by have := HR1.out 7 _ rfl; rwa [Nat.zero_add] at this
    cases h0 : It.wi p.x.fam 0 9999999 with
    | false =>
      have H0 := Lib.hid h0
      clear h0
      have HF : Hid (v = 3) := Lib.hid (by rw [← HV.out]; exact pitE_rng HC.out (by unfold Rw.pranges; rw [H0.out]; simp))
      go_wp2_with fail
      with_reducible refine HCV.out.mono ?_
      rintro e w1 ⟨rfl, rfl⟩
      go_wp2_with fail
      with_reducible refine (within33_any p.x.fam 0 9999999 H0.out _).mono ?_
      rintro e w1 ⟨rfl, rfl⟩
      go_wp2
      go_ret
      exact ⟨ret_int HF.out.symm, X1.out⟩
    | true =>
      have H0 := Lib.hid h0
      clear h0
      cases h1 : It.wi p.x.set_ 0 9999999 with
      | false =>
        have H1 := Lib.hid h1
        clear h1
        have HF : Hid (v = 3) := Lib.hid (by rw [← HV.out]; exact pitE_rng HC.out (by unfold Rw.pranges; rw [H0.out, H1.out]; simp))
        go_wp2_with fail
        with_reducible refine HCV.out.mono ?_
        rintro e w1 ⟨rfl, rfl⟩
        go_wp2_with fail
        with_reducible refine (within33_any p.x.fam 0 9999999 H0.out _).mono ?_
        rintro e w1 ⟨rfl, rfl⟩
        go_wp2_with fail
        with_reducible refine (within33_any p.x.set_ 0 9999999 H1.out _).mono ?_
        rintro e w1 ⟨rfl, rfl⟩
        go_wp2
        go_ret
        exact ⟨ret_int HF.out.symm, X1.out⟩
      | true =>
        have H1 := Lib.hid h1
        clear h1
        cases h2 : It.wi p.x.wrd 0 2000 with
        | false =>
          have H2 := Lib.hid h2
          clear h2
          have HF : Hid (v = 3) := Lib.hid (by rw [← HV.out]; exact pitE_rng HC.out (by unfold Rw.pranges; rw [H0.out, H1.out, H2.out]; simp))
          go_wp2_with fail
          with_reducible refine HCV.out.mono ?_
          rintro e w1 ⟨rfl, rfl⟩
          go_wp2_with fail
          with_reducible refine (within33_any p.x.fam 0 9999999 H0.out _).mono ?_
          rintro e w1 ⟨rfl, rfl⟩
          go_wp2_with fail
          with_reducible refine (within33_any p.x.set_ 0 9999999 H1.out _).mono ?_
          rintro e w1 ⟨rfl, rfl⟩
          go_wp2_with fail
          with_reducible refine (within33_any p.x.wrd 0 2000 H2.out _).mono ?_
          rintro e w1 ⟨rfl, rfl⟩
          go_wp2
          go_ret
          exact ⟨ret_int HF.out.symm, X1.out⟩
        | true =>
          have H2 := Lib.hid h2
          clear h2
          cases h3 : It.wi p.x.sec 1 2000 with
          | false =>
            have H3 := Lib.hid h3
            clear h3
            have HF : Hid (v = 3) := Lib.hid (by rw [← HV.out]; exact pitE_rng HC.out (by unfold Rw.pranges; rw [H0.out, H1.out, H2.out, H3.out]; simp))
            go_wp2_with fail
            with_reducible refine HCV.out.mono ?_
            rintro e w1 ⟨rfl, rfl⟩
            go_wp2_with fail
            with_reducible refine (within33_any p.x.fam 0 9999999 H0.out _).mono ?_
            rintro e w1 ⟨rfl, rfl⟩
            go_wp2_with fail
            with_reducible refine (within33_any p.x.set_ 0 9999999 H1.out _).mono ?_
            rintro e w1 ⟨rfl, rfl⟩
            go_wp2_with fail
            with_reducible refine (within33_any p.x.wrd 0 2000 H2.out _).mono ?_
            rintro e w1 ⟨rfl, rfl⟩
            go_wp2_with fail
            with_reducible refine (within33_any p.x.sec 1 2000 H3.out _).mono ?_
            rintro e w1 ⟨rfl, rfl⟩
            go_wp2
            go_ret
            exact ⟨ret_int HF.out.symm, X1.out⟩
          | true =>
            have H3 := Lib.hid h3
            clear h3
            cases h4 : It.wi p.x.pts 1 5 with
            | false =>
              have H4 := Lib.hid h4
              clear h4
              have HF : Hid (v = 3) := Lib.hid (by rw [← HV.out]; exact pitE_rng HC.out (by unfold Rw.pranges; rw [H0.out, H1.out, H2.out, H3.out, H4.out]; simp))
              go_wp2_with fail
              with_reducible refine HCV.out.mono ?_
              rintro e w1 ⟨rfl, rfl⟩
              go_wp2_with fail
              with_reducible refine (within33_any p.x.fam 0 9999999 H0.out _).mono ?_
              rintro e w1 ⟨rfl, rfl⟩
              go_wp2_with fail
              with_reducible refine (within33_any p.x.set_ 0 9999999 H1.out _).mono ?_
              rintro e w1 ⟨rfl, rfl⟩
              go_wp2_with fail
              with_reducible refine (within33_any p.x.wrd 0 2000 H2.out _).mono ?_
              rintro e w1 ⟨rfl, rfl⟩
              go_wp2_with fail
              with_reducible refine (within33_any p.x.sec 1 2000 H3.out _).mono ?_
              rintro e w1 ⟨rfl, rfl⟩
              go_wp2_with fail
              with_reducible refine (within33_any p.x.pts 1 5 H4.out _).mono ?_
              rintro e w1 ⟨rfl, rfl⟩
              go_wp2
              go_ret
              exact ⟨ret_int HF.out.symm, X1.out⟩
            | true =>
              have H4 := Lib.hid h4
              clear h4
              cases h5 : It.wi p.x.key 0 10 with
              | false =>
                have H5 := Lib.hid h5
                clear h5
                have HF : Hid (v = 3) := Lib.hid (by rw [← HV.out]; exact pitE_rng HC.out (by unfold Rw.pranges; rw [H0.out, H1.out, H2.out, H3.out, H4.out, H5.out]; simp))
                go_wp2_with fail
                with_reducible refine HCV.out.mono ?_
                rintro e w1 ⟨rfl, rfl⟩
                go_wp2_with fail
                with_reducible refine (within33_any p.x.fam 0 9999999 H0.out _).mono ?_
                rintro e w1 ⟨rfl, rfl⟩
                go_wp2_with fail
                with_reducible refine (within33_any p.x.set_ 0 9999999 H1.out _).mono ?_
                rintro e w1 ⟨rfl, rfl⟩
                go_wp2_with fail
                with_reducible refine (within33_any p.x.wrd 0 2000 H2.out _).mono ?_
                rintro e w1 ⟨rfl, rfl⟩
                go_wp2_with fail
                with_reducible refine (within33_any p.x.sec 1 2000 H3.out _).mono ?_
                rintro e w1 ⟨rfl, rfl⟩
                go_wp2_with fail
                with_reducible refine (within33_any p.x.pts 1 5 H4.out _).mono ?_
                rintro e w1 ⟨rfl, rfl⟩
                go_wp2_with fail
                with_reducible refine (within33_any p.x.key 0 10 H5.out _).mono ?_
                rintro e w1 ⟨rfl, rfl⟩
                go_wp2
                go_ret
                exact ⟨ret_int HF.out.symm, X1.out⟩
              | true =>
                have H5 := Lib.hid h5
                clear h5
                have HF : Hid (Rw.mdlE p.x.rows n = v) := Lib.hid (by rw [← HV.out]; exact (pitE_mdl HC.out (by unfold Rw.pranges; rw [H0.out, H1.out, H2.out, H3.out, H4.out, H5.out]; rfl)).symm)
                have HF : Hid (Rw.mdlE (Rw.xss p.ls) n = v) := Lib.hid (by rw [H.out.same]; exact HF.out)
                go_wp2_with fail
                with_reducible refine HCV.out.mono ?_
                rintro e w1 ⟨rfl, rfl⟩
                go_wp2_with fail
                with_reducible refine (within33_any p.x.fam 0 9999999 H0.out _).mono ?_
                rintro e w1 ⟨rfl, rfl⟩
                go_wp2_with fail
                with_reducible refine (within33_any p.x.set_ 0 9999999 H1.out _).mono ?_
                rintro e w1 ⟨rfl, rfl⟩
                go_wp2_with fail
                with_reducible refine (within33_any p.x.wrd 0 2000 H2.out _).mono ?_
                rintro e w1 ⟨rfl, rfl⟩
                go_wp2_with fail
                with_reducible refine (within33_any p.x.sec 1 2000 H3.out _).mono ?_
                rintro e w1 ⟨rfl, rfl⟩
                go_wp2_with fail
                with_reducible refine (within33_any p.x.pts 1 5 H4.out _).mono ?_
                rintro e w1 ⟨rfl, rfl⟩
                go_wp2_with fail
                with_reducible refine (within33_any p.x.key 0 10 H5.out _).mono ?_
                rintro e w1 ⟨rfl, rfl⟩
                have r8 := HR2.out
                go_wp2_with (with_reducible refine wpList_load_arr rfl 70 (.tmp 43) rfl w.heap.size 8 (by with_unfolding_all rfl) #[.slice p.A p.ls.length p.c] _ r8 Tryz.underlying70 rfl (by kernel_rfl) ?_)
                with_reducible refine (rmdl_any p.A p.c p.ls rfl n HF.out _ (H.out.rows.ext X1.out) (H.out.few)).mono ?_
                rintro e w3 ⟨rfl, hb3⟩
                go_wp2
                go_ret
                exact ⟨rfl, X1.out.trans hb3⟩
end Go.Proofs.YtgaepmddbjdhfaaGreatDoor
