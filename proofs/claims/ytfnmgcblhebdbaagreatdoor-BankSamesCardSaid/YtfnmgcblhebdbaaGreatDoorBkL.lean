/- The reference's comparisons of models, review records and entries: contracts. Conditions: those of each theorem. -/
import Derived.Test.YtfnmgcblhebdbaaGreatDoorBkK
import Derived.Test.YtfnmgcblhebdbaaGreatDoorBkF
namespace Go.Proofs.YtfnmgcblhebdbaaGreatDoor
open Go.RowKit
namespace Bk
theorem wpList_load_arr_w {P : Program} {ops : Array Oper} {rest : List Oper} {op : Oper} {a : Act} {w : World} {Q : Exit → Act → World → Prop} (hw : Region.wanted op (yielded ops a.tmps) = true) (ty : TypeId) (x : Operand) (ho : op.op = .load ty x)
    (b o : Nat) (hx : a.eval x = .pointer (some ⟨b, o, none⟩)) (CS : Array Value) (d : TypeDesc) (hc : w.rangeAt b o CS.toList)
    (hu : P.underlying ty = some d) (hd : d.isRow = true) (hi : (P.info? ty).map (·.size) = some CS.size)
    (h : wpList P ops Q rest (a.put op.dst (.agg CS)) w) : wpList P ops Q (op :: rest) a w :=
  Go.BigFrame.wpList_want hw fun _ hK => wp_load_mid ty x ho b o hx CS.toList d hc hu hd (by simpa using hi) (hK _ _ h)
theorem rxs_at {l : List IL} {k : Nat} {x : IL} (h : l[k]? = some x) : (rxs l)[k]? = some x.xs := by unfold rxs; rw [List.getElem?_map, h]; rfl
theorem rxs_len (l : List IL) : (rxs l).length = l.length := List.length_map _
theorem infoEn7 {CS : Array Value} (h : CS.size = 7) : (Tryz.prog.info? 56).map (·.size) = some CS.size := by rw [h]; kernel_rfl
theorem range_of {w : World} {b : Nat} {CC : Array Value} {t : TypeId} {fr : Nat × Nat} (hb : w.heap[b]? = some (.cells CC t fr)) (o : Nat) {l : List Value} (h : ∀ j v, l[j]? = some v → CC[o + j]? = some v) : w.rangeAt b o l := fun j v hv => by
  rw [cell_of_row w b (o + j) CC t fr hb]
  exact h j v hv
/-- What each operation of the region leaves. -/
def smmL (n0 kk b1 o1 b2 o2 n c d : Nat) (vx vy : Value) (bq : Bool) : List (Option Value → World → Prop) := [fun u _ => u = some (.pointer (some ⟨n0, 0, none⟩)),
  fun u _ => u = some (.slice (some ⟨b1, o1, none⟩) n c),
  fun u _ => u = some (.int .i64 (kk : Int)),
  fun u _ => u = some (.pointer (some ⟨b1, o1 + kk, none⟩)),
  fun u _ => u = some (vx),
  fun u _ => u = some (.pointer (some ⟨n0 + 1, 0, none⟩)),
  fun u _ => u = some (.slice (some ⟨b2, o2, none⟩) n d),
  fun u _ => u = some (.int .i64 (kk : Int)),
  fun u _ => u = some (.pointer (some ⟨b2, o2 + kk, none⟩)),
  fun u _ => u = some (vy),
  fun u _ => u = some (.bool bq),
  fun u _ => u = some (.bool (!bq))]
theorem smmL_mono (n0 kk b1 o1 b2 o2 n c d : Nat) (vx vy : Value) (bq : Bool) : AllMono (smmL n0 kk b1 o1 b2 o2 n c d vx vy bq) := ⟨mono_val _, mono_val _, mono_val _, mono_val _, mono_val _, mono_val _, mono_val _, mono_val _, mono_val _, mono_val _, mono_val _, mono_val _, trivial⟩
def smmR (n0 kk b1 o1 b2 o2 n c d : Nat) (vx vy : Value) (bq : Bool) (j : Nat) (u : Option Value) (w : World) : Prop := (smmL n0 kk b1 o1 b2 o2 n c d vx vy bq).getD j (fun _ _ => True) u w
theorem smmR_ext (n0 kk b1 o1 b2 o2 n c d : Nat) (vx vy : Value) (bq : Bool) (j : Nat) (u : Option Value) (w w' : World) (he : Ext w w') (hR : smmR n0 kk b1 o1 b2 o2 n c d vx vy bq j u w) : smmR n0 kk b1 o1 b2 o2 n c d vx vy bq j u w' := ((smmL_mono n0 kk b1 o1 b2 o2 n c d vx vy bq).at_ j) u w w' he hR
def smmD : List Nat := [20, 21, 22, 23, 24, 25, 26, 27, 28, 29, 30, 31]
def smmE (n0 kk : Nat) (t : Array Value) : Prop := t.getD 2 undef = .pointer (some ⟨n0, 0, none⟩) ∧ t.getD 3 undef = .pointer (some ⟨n0 + 1, 0, none⟩) ∧ t.getD 5 undef = .int .i64 (kk : Int) ∧ t.size = 32

set_option maxRecDepth 100000 in
set_option maxHeartbeats 25600000 in
theorem rsameModel_any (A : Option Addr) (c : Nat) (rows : List IL) (B : Option Addr) (d : Nat) (rows' : List IL) {n m : Nat} (hn : rows.length = n) (hm : rows'.length = m) {v : Bool} (hv : v = true ↔ rxs rows = rxs rows') (hl : n ≤ 9223372036854775807) (w : World) (ha : SlX eIL w A rows) (hb : SlX eIL w B rows') :
    Calls Tryz.prog 46 #[.agg #[.slice A n c], .agg #[.slice B m d]] w fun e w' => e = .returned (.bool v) ∧ Ext w w' := by
  have HA := Lib.hid ha
  have HB := Lib.hid hb
  have HN := Lib.hid hn
  have HM := Lib.hid hm
  have HV := Lib.hid hv
  have EN := Lib.hid (enters_of Tryz.func37 (by kernel_rfl) rfl)
  obtain ⟨W0, hW0⟩ : ∃ W, (w.alloc (.cells #[.slice A n c] 46)).alloc (.cells #[.slice B m d] 46) = W := ⟨_, rfl⟩
  have X0 : Hid (Ext w W0) := Lib.hid (by rw [← hW0]; exact ((Ext.refl _).alloc _).alloc _)
  have B0 : Hid (W0.heap[w.heap.size]? = some (.cells #[.slice A n c] 46 (0, 0))) := Lib.hid (by rw [← hW0]; exact two_fst' _ _ _)
  have B1 : Hid (W0.heap[w.heap.size + 1]? = some (.cells #[.slice B m d] 46 (0, 0))) := Lib.hid (by rw [← hW0]; exact heap_new_at _ _ _ (by simp))
  have HW := Lib.hid hW0
  have CA : Hid (W0.cell? ⟨w.heap.size, 0, none⟩ = some (.slice A n c)) := Lib.hid (cell_of_row _ _ 0 _ _ _ B0.out)
  have CB : Hid (W0.cell? ⟨w.heap.size + 1, 0, none⟩ = some (.slice B m d)) := Lib.hid (cell_of_row _ _ 0 _ _ _ B1.out)
  have ca : ((w.alloc (.cells #[.slice A n c] 46)).alloc (.cells #[.slice B m d] 46)).cell? ⟨w.heap.size, 0, none⟩ = some (.slice A n c) := by rw [HW.out]; exact CA.out
  have cb : ((w.alloc (.cells #[.slice A n c] 46)).alloc (.cells #[.slice B m d] 46)).cell? ⟨w.heap.size + 1, 0, none⟩ = some (.slice B m d) := by rw [HW.out]; exact CB.out
  clear ha hb hn hm hv hW0
  by_cases hnm : n = m
  case neg =>
    have hl' : ((n : Int) != (m : Int)) = true := by rw [bne_iff_ne]; omega
    have HF := Lib.hid (no_eq HV.out (fun e => hnm (by rw [← HN.out, ← HM.out, ← rxs_len rows, e, rxs_len])))
    clear hnm
    go_enter Tryz.func46, Tryz.ntmps46
    go_wp2
    go_ret
    rw [HW.out]
    exact ⟨ret_bool HF.out.symm, X0.out⟩
  subst hnm
  have hl' : ((n : Int) != (n : Int)) = false := by simp
  go_enter Tryz.func46, Tryz.ntmps46
  go_wp2
  go_loopw [5] (fun i wr => ∃ k : Nat, k ≤ n ∧ i = .int .i64 k ∧ Hid (∀ j, j < k → (rxs rows)[j]? = (rxs rows')[j]?) ∧ Hid (Ext W0 wr)) (fun i _ => n - (intOf i).toNat)
  case atStart => exact ⟨0, by omega, rfl, Lib.hid (fun j hj => absurd hj (by omega)), Lib.hid (by rw [HW.out]; exact Ext.refl _)⟩
  case round =>
    clear ca cb
    obtain ⟨k, hk, rfl, HALL, HE⟩ := hrel
    have ca := HE.out.keep CA.out
    have cb := HE.out.keep CB.out
    by_cases hlt : k < n
    · obtain ⟨x, hx⟩ : ∃ x, rows[k]? = some x := ⟨rows[k]'(by rw [HN.out]; exact hlt), List.getElem?_eq_getElem _⟩
      obtain ⟨y, hy⟩ : ∃ x, rows'[k]? = some x := ⟨rows'[k]'(by rw [HM.out]; exact hlt), List.getElem?_eq_getElem _⟩
      obtain ⟨b1, o1, rfl, hb1, hc1, hi1⟩ := (HA.out.ext (X0.out.trans HE.out)).at_ hx
      obtain ⟨b2, o2, rfl, hb2, hc2, hi2⟩ := (HB.out.ext (X0.out.trans HE.out)).at_ hy
      obtain ⟨p, hp⟩ : ∃ p, x.xs.length = p := ⟨_, rfl⟩
      obtain ⟨q, hq⟩ : ∃ q, y.xs.length = q := ⟨_, rfl⟩
      have cx : wr.cell? ⟨b1, o1 + k, none⟩ = some (.slice x.A p x.c) := by rw [← hp]; have := hc1 0 _ rfl; simpa [eIL, IL.val] using this
      have cy : wr.cell? ⟨b2, o2 + k, none⟩ = some (.slice y.A q y.c) := by rw [← hq]; have := hc2 0 _ rfl; simpa [eIL, IL.val] using this
      have CX := Lib.hid cx
      have CY := Lib.hid cy
      have CA := Lib.hid ca
      have CB := Lib.hid cb
      have ki0 : (0 : Int) ≤ (k : Int) := by omega
      have ki1 : (k : Int) < (n : Int) := by omega
      have KI := Lib.hid (And.intro ki0 ki1)
      have HX := Lib.hid (rxs_at hx)
      have HY := Lib.hid (rxs_at hy)
      have HP := Lib.hid hp
      have HQ := Lib.hid hq
      have hp63 : p ≤ 9223372036854775807 := by have := hi1.2; unfold maxLen at this; omega
      have I1 : Hid (SlI wr x.A x.xs) := Lib.hid hi1.1
      have I2 : Hid (SlI wr y.A y.xs) := Lib.hid hi2.1
      clear hx hy hc1 hc2 hi1 hi2 hp hq cx cy
      by_cases hxy : x.xs = y.xs
      · have HF := Lib.hid (all_next HX.out HY.out hxy HALL.out)
        have K := Lib.hid (fun wz (hx : Ext wr wz) => rints_any x.A x.c x.xs y.A y.c y.xs HP.out HQ.out (tr hxy) hp63 wz (I1.out.ext hx) (I2.out.ext hx))
        clear hxy
        go_wp2_with fail
        refine region_tb (by kernel_rfl) (by decide +kernel) (smmE w.heap.size k) ⟨rfl, rfl, rfl, rfl⟩ 12 smmD (fun _ => none) (smmR w.heap.size k b1 o1 b2 o2 n c d ((.slice x.A p x.c)) ((.slice y.A q y.c)) true) wr (Ext.refl _) (fun i h1 h2 => absurd h2 (Nat.not_lt.2 h1)) ?_ ?_
        · intro Tv dd lv U wz i o hE ho hlv hd hT
          obtain ⟨t2, t3, t5, tz⟩ := hE
          have hx := hT.ext
          match i, ho, hlv, hd with
          | 0, ho, hlv, hd =>
            obtain rfl := Option.some.inj ho
            have v0 := eval_old (d := dd) (hT.out 2 (by decide)) (by omega) t2
            refine tbw_yield (v := .pointer (some ⟨w.heap.size, 0, none⟩)) (smmR_ext w.heap.size k b1 o1 b2 o2 n c d ((.slice x.A p x.c)) ((.slice y.A q y.c)) true) hT ho hd (wanted_plain rfl) rfl (by decide) (by decide) ?_ (Ext.refl _) rfl
            generalize Act.eval ⟨over Tv U, dd⟩ = ev at *
            simp [execOp, go_sem, v0]
          | 1, ho, hlv, hd =>
            obtain rfl := Option.some.inj ho
            have f0 : U 20 = some (.pointer (some ⟨w.heap.size, 0, none⟩)) := hT.facts 0 (by decide) (dep hd 0 (by kernel_rfl)) (fun c e => by cases e)
            have v0 : Act.eval ⟨over Tv U, dd⟩ (.tmp 20) = _ := eval_new (t := Tv) (d := dd) f0 (by show 20 < Tv.size; omega)
            have hc := hx.keep CA.out
            refine tbw_yield (v := .slice (some ⟨b1, o1, none⟩) n c) (smmR_ext w.heap.size k b1 o1 b2 o2 n c d ((.slice x.A p x.c)) ((.slice y.A q y.c)) true) hT ho hd (wanted_plain rfl) rfl (by decide) (by decide) ?_ (Ext.refl _) rfl
            generalize Act.eval ⟨over Tv U, dd⟩ = ev at *
            simp [execOp, go_sem, v0, hc]
          | 2, ho, hlv, hd =>
            obtain rfl := Option.some.inj ho
            have v0 := eval_old (d := dd) (hT.out 5 (by decide)) (by omega) t5
            refine tbw_yield (v := .int .i64 (k : Int)) (smmR_ext w.heap.size k b1 o1 b2 o2 n c d ((.slice x.A p x.c)) ((.slice y.A q y.c)) true) hT ho hd (wanted_plain rfl) rfl (by decide) (by decide) ?_ (Ext.refl _) rfl
            generalize Act.eval ⟨over Tv U, dd⟩ = ev at *
            simp [execOp, go_sem, v0]
          | 3, ho, hlv, hd =>
            obtain rfl := Option.some.inj ho
            have f0 : U 21 = some (.slice (some ⟨b1, o1, none⟩) n c) := hT.facts 1 (by decide) (dep hd 1 (by kernel_rfl)) (fun c e => by cases e)
            have v0 : Act.eval ⟨over Tv U, dd⟩ (.tmp 21) = _ := eval_new (t := Tv) (d := dd) f0 (by show 21 < Tv.size; omega)
            have f1 : U 22 = some (.int .i64 (k : Int)) := hT.facts 2 (by decide) (dep hd 2 (by kernel_rfl)) (fun c e => by cases e)
            have v1 : Act.eval ⟨over Tv U, dd⟩ (.tmp 22) = _ := eval_new (t := Tv) (d := dd) f1 (by show 22 < Tv.size; omega)
            have ki := KI.out
            refine tbw_yield (v := .pointer (some ⟨b1, o1 + k, none⟩)) (smmR_ext w.heap.size k b1 o1 b2 o2 n c d ((.slice x.A p x.c)) ((.slice y.A q y.c)) true) hT ho hd (wanted_plain rfl) rfl (by decide) (by decide) ?_ (Ext.refl _) rfl
            generalize Act.eval ⟨over Tv U, dd⟩ = ev at *
            simp [execOp, go_sem, v0, v1, ki]
          | 4, ho, hlv, hd =>
            obtain rfl := Option.some.inj ho
            have f0 : U 23 = some (.pointer (some ⟨b1, o1 + k, none⟩)) := hT.facts 3 (by decide) (dep hd 3 (by kernel_rfl)) (fun c e => by cases e)
            have v0 : Act.eval ⟨over Tv U, dd⟩ (.tmp 23) = _ := eval_new (t := Tv) (d := dd) f0 (by show 23 < Tv.size; omega)
            have hc := hx.keep CX.out
            refine tbw_yield (v := (.slice x.A p x.c)) (smmR_ext w.heap.size k b1 o1 b2 o2 n c d ((.slice x.A p x.c)) ((.slice y.A q y.c)) true) hT ho hd (wanted_plain rfl) rfl (by decide) (by decide) ?_ (Ext.refl _) rfl
            generalize Act.eval ⟨over Tv U, dd⟩ = ev at *
            simp [execOp, go_sem, v0, hc]
          | 5, ho, hlv, hd =>
            obtain rfl := Option.some.inj ho
            have v0 := eval_old (d := dd) (hT.out 3 (by decide)) (by omega) t3
            refine tbw_yield (v := .pointer (some ⟨w.heap.size + 1, 0, none⟩)) (smmR_ext w.heap.size k b1 o1 b2 o2 n c d ((.slice x.A p x.c)) ((.slice y.A q y.c)) true) hT ho hd (wanted_plain rfl) rfl (by decide) (by decide) ?_ (Ext.refl _) rfl
            generalize Act.eval ⟨over Tv U, dd⟩ = ev at *
            simp [execOp, go_sem, v0]
          | 6, ho, hlv, hd =>
            obtain rfl := Option.some.inj ho
            have f0 : U 25 = some (.pointer (some ⟨w.heap.size + 1, 0, none⟩)) := hT.facts 5 (by decide) (dep hd 5 (by kernel_rfl)) (fun c e => by cases e)
            have v0 : Act.eval ⟨over Tv U, dd⟩ (.tmp 25) = _ := eval_new (t := Tv) (d := dd) f0 (by show 25 < Tv.size; omega)
            have hc := hx.keep CB.out
            refine tbw_yield (v := .slice (some ⟨b2, o2, none⟩) n d) (smmR_ext w.heap.size k b1 o1 b2 o2 n c d ((.slice x.A p x.c)) ((.slice y.A q y.c)) true) hT ho hd (wanted_plain rfl) rfl (by decide) (by decide) ?_ (Ext.refl _) rfl
            generalize Act.eval ⟨over Tv U, dd⟩ = ev at *
            simp [execOp, go_sem, v0, hc]
          | 7, ho, hlv, hd =>
            obtain rfl := Option.some.inj ho
            have v0 := eval_old (d := dd) (hT.out 5 (by decide)) (by omega) t5
            refine tbw_yield (v := .int .i64 (k : Int)) (smmR_ext w.heap.size k b1 o1 b2 o2 n c d ((.slice x.A p x.c)) ((.slice y.A q y.c)) true) hT ho hd (wanted_plain rfl) rfl (by decide) (by decide) ?_ (Ext.refl _) rfl
            generalize Act.eval ⟨over Tv U, dd⟩ = ev at *
            simp [execOp, go_sem, v0]
          | 8, ho, hlv, hd =>
            obtain rfl := Option.some.inj ho
            have f0 : U 26 = some (.slice (some ⟨b2, o2, none⟩) n d) := hT.facts 6 (by decide) (dep hd 6 (by kernel_rfl)) (fun c e => by cases e)
            have v0 : Act.eval ⟨over Tv U, dd⟩ (.tmp 26) = _ := eval_new (t := Tv) (d := dd) f0 (by show 26 < Tv.size; omega)
            have f1 : U 27 = some (.int .i64 (k : Int)) := hT.facts 7 (by decide) (dep hd 7 (by kernel_rfl)) (fun c e => by cases e)
            have v1 : Act.eval ⟨over Tv U, dd⟩ (.tmp 27) = _ := eval_new (t := Tv) (d := dd) f1 (by show 27 < Tv.size; omega)
            have ki := KI.out
            refine tbw_yield (v := .pointer (some ⟨b2, o2 + k, none⟩)) (smmR_ext w.heap.size k b1 o1 b2 o2 n c d ((.slice x.A p x.c)) ((.slice y.A q y.c)) true) hT ho hd (wanted_plain rfl) rfl (by decide) (by decide) ?_ (Ext.refl _) rfl
            generalize Act.eval ⟨over Tv U, dd⟩ = ev at *
            simp [execOp, go_sem, v0, v1, ki]
          | 9, ho, hlv, hd =>
            obtain rfl := Option.some.inj ho
            have f0 : U 28 = some (.pointer (some ⟨b2, o2 + k, none⟩)) := hT.facts 8 (by decide) (dep hd 8 (by kernel_rfl)) (fun c e => by cases e)
            have v0 : Act.eval ⟨over Tv U, dd⟩ (.tmp 28) = _ := eval_new (t := Tv) (d := dd) f0 (by show 28 < Tv.size; omega)
            have hc := hx.keep CY.out
            refine tbw_yield (v := (.slice y.A q y.c)) (smmR_ext w.heap.size k b1 o1 b2 o2 n c d ((.slice x.A p x.c)) ((.slice y.A q y.c)) true) hT ho hd (wanted_plain rfl) rfl (by decide) (by decide) ?_ (Ext.refl _) rfl
            generalize Act.eval ⟨over Tv U, dd⟩ = ev at *
            simp [execOp, go_sem, v0, hc]
          | 10, ho, hlv, hd =>
            obtain rfl := Option.some.inj ho
            have f0 : U 24 = some ((.slice x.A p x.c)) := hT.facts 4 (by decide) (dep hd 4 (by kernel_rfl)) (fun c e => by cases e)
            have v0 : Act.eval ⟨over Tv U, dd⟩ (.tmp 24) = _ := eval_new (t := Tv) (d := dd) f0 (by show 24 < Tv.size; omega)
            have f1 : U 29 = some ((.slice y.A q y.c)) := hT.facts 9 (by decide) (dep hd 9 (by kernel_rfl)) (fun c e => by cases e)
            have v1 : Act.eval ⟨over Tv U, dd⟩ (.tmp 29) = _ := eval_new (t := Tv) (d := dd) f1 (by show 29 < Tv.size; omega)
            refine tbw_call (f := 37) (args := #[(.slice x.A p x.c), (.slice y.A q y.c)]) (smmR_ext w.heap.size k b1 o1 b2 o2 n c d ((.slice x.A p x.c)) ((.slice y.A q y.c)) true) hT ho hd (wanted_plain rfl) rfl (by decide) (by decide) (exec_call2 rfl rfl v0 v1 EN.out) ?_
            refine (K.out wz hx).mono ?_
            rintro e w' ⟨rfl, hb⟩
            exact ⟨_, rfl, hb, rfl⟩
          | 11, ho, hlv, hd =>
            obtain rfl := Option.some.inj ho
            have f0 : U 30 = some (.bool true) := hT.facts 10 (by decide) (dep hd 10 (by kernel_rfl)) (fun c e => by cases e)
            have v0 : Act.eval ⟨over Tv U, dd⟩ (.tmp 30) = _ := eval_new (t := Tv) (d := dd) f0 (by show 30 < Tv.size; omega)
            refine tbw_yield (v := .bool (!true)) (smmR_ext w.heap.size k b1 o1 b2 o2 n c d ((.slice x.A p x.c)) ((.slice y.A q y.c)) true) hT ho hd (wanted_plain rfl) rfl (by decide) (by decide) ?_ (Ext.refl _) rfl
            generalize Act.eval ⟨over Tv U, dd⟩ = ev at *
            simp [execOp, go_sem, v0]
          | i + 12, ho, _, _ => exact absurd ho (by simp)
        intro U wz hex hout hfin
        have f31 : U 31 = some (.bool (!true)) := hfin 11 (by decide) rfl
        have XE := Lib.hid hex
        clear hex hfin
        rw [over_list]
        simp (disch := decide) only [overL, Nat.reduceAdd, hout, Option.getD_none]
        rw [f31]
        simp only [Option.getD_some]
        clear hout f31
        go_wp2
        go_roundw
        case rel => exact ⟨k + 1, by omega, by go_num, HF, Lib.hid (HE.out.trans XE.out)⟩
        case measure => simp [intOf]; omega
      · have HF := Lib.hid (no_eq HV.out (ne_at HX.out HY.out hxy))
        have K := Lib.hid (fun wz (hx : Ext wr wz) => rints_any x.A x.c x.xs y.A y.c y.xs HP.out HQ.out (fa hxy) hp63 wz (I1.out.ext hx) (I2.out.ext hx))
        clear hxy
        go_wp2_with fail
        refine region_tb (by kernel_rfl) (by decide +kernel) (smmE w.heap.size k) ⟨rfl, rfl, rfl, rfl⟩ 12 smmD (fun _ => none) (smmR w.heap.size k b1 o1 b2 o2 n c d ((.slice x.A p x.c)) ((.slice y.A q y.c)) false) wr (Ext.refl _) (fun i h1 h2 => absurd h2 (Nat.not_lt.2 h1)) ?_ ?_
        · intro Tv dd lv U wz i o hE ho hlv hd hT
          obtain ⟨t2, t3, t5, tz⟩ := hE
          have hx := hT.ext
          match i, ho, hlv, hd with
          | 0, ho, hlv, hd =>
            obtain rfl := Option.some.inj ho
            have v0 := eval_old (d := dd) (hT.out 2 (by decide)) (by omega) t2
            refine tbw_yield (v := .pointer (some ⟨w.heap.size, 0, none⟩)) (smmR_ext w.heap.size k b1 o1 b2 o2 n c d ((.slice x.A p x.c)) ((.slice y.A q y.c)) false) hT ho hd (wanted_plain rfl) rfl (by decide) (by decide) ?_ (Ext.refl _) rfl
            generalize Act.eval ⟨over Tv U, dd⟩ = ev at *
            simp [execOp, go_sem, v0]
          | 1, ho, hlv, hd =>
            obtain rfl := Option.some.inj ho
            have f0 : U 20 = some (.pointer (some ⟨w.heap.size, 0, none⟩)) := hT.facts 0 (by decide) (dep hd 0 (by kernel_rfl)) (fun c e => by cases e)
            have v0 : Act.eval ⟨over Tv U, dd⟩ (.tmp 20) = _ := eval_new (t := Tv) (d := dd) f0 (by show 20 < Tv.size; omega)
            have hc := hx.keep CA.out
            refine tbw_yield (v := .slice (some ⟨b1, o1, none⟩) n c) (smmR_ext w.heap.size k b1 o1 b2 o2 n c d ((.slice x.A p x.c)) ((.slice y.A q y.c)) false) hT ho hd (wanted_plain rfl) rfl (by decide) (by decide) ?_ (Ext.refl _) rfl
            generalize Act.eval ⟨over Tv U, dd⟩ = ev at *
            simp [execOp, go_sem, v0, hc]
          | 2, ho, hlv, hd =>
            obtain rfl := Option.some.inj ho
            have v0 := eval_old (d := dd) (hT.out 5 (by decide)) (by omega) t5
            refine tbw_yield (v := .int .i64 (k : Int)) (smmR_ext w.heap.size k b1 o1 b2 o2 n c d ((.slice x.A p x.c)) ((.slice y.A q y.c)) false) hT ho hd (wanted_plain rfl) rfl (by decide) (by decide) ?_ (Ext.refl _) rfl
            generalize Act.eval ⟨over Tv U, dd⟩ = ev at *
            simp [execOp, go_sem, v0]
          | 3, ho, hlv, hd =>
            obtain rfl := Option.some.inj ho
            have f0 : U 21 = some (.slice (some ⟨b1, o1, none⟩) n c) := hT.facts 1 (by decide) (dep hd 1 (by kernel_rfl)) (fun c e => by cases e)
            have v0 : Act.eval ⟨over Tv U, dd⟩ (.tmp 21) = _ := eval_new (t := Tv) (d := dd) f0 (by show 21 < Tv.size; omega)
            have f1 : U 22 = some (.int .i64 (k : Int)) := hT.facts 2 (by decide) (dep hd 2 (by kernel_rfl)) (fun c e => by cases e)
            have v1 : Act.eval ⟨over Tv U, dd⟩ (.tmp 22) = _ := eval_new (t := Tv) (d := dd) f1 (by show 22 < Tv.size; omega)
            have ki := KI.out
            refine tbw_yield (v := .pointer (some ⟨b1, o1 + k, none⟩)) (smmR_ext w.heap.size k b1 o1 b2 o2 n c d ((.slice x.A p x.c)) ((.slice y.A q y.c)) false) hT ho hd (wanted_plain rfl) rfl (by decide) (by decide) ?_ (Ext.refl _) rfl
            generalize Act.eval ⟨over Tv U, dd⟩ = ev at *
            simp [execOp, go_sem, v0, v1, ki]
          | 4, ho, hlv, hd =>
            obtain rfl := Option.some.inj ho
            have f0 : U 23 = some (.pointer (some ⟨b1, o1 + k, none⟩)) := hT.facts 3 (by decide) (dep hd 3 (by kernel_rfl)) (fun c e => by cases e)
            have v0 : Act.eval ⟨over Tv U, dd⟩ (.tmp 23) = _ := eval_new (t := Tv) (d := dd) f0 (by show 23 < Tv.size; omega)
            have hc := hx.keep CX.out
            refine tbw_yield (v := (.slice x.A p x.c)) (smmR_ext w.heap.size k b1 o1 b2 o2 n c d ((.slice x.A p x.c)) ((.slice y.A q y.c)) false) hT ho hd (wanted_plain rfl) rfl (by decide) (by decide) ?_ (Ext.refl _) rfl
            generalize Act.eval ⟨over Tv U, dd⟩ = ev at *
            simp [execOp, go_sem, v0, hc]
          | 5, ho, hlv, hd =>
            obtain rfl := Option.some.inj ho
            have v0 := eval_old (d := dd) (hT.out 3 (by decide)) (by omega) t3
            refine tbw_yield (v := .pointer (some ⟨w.heap.size + 1, 0, none⟩)) (smmR_ext w.heap.size k b1 o1 b2 o2 n c d ((.slice x.A p x.c)) ((.slice y.A q y.c)) false) hT ho hd (wanted_plain rfl) rfl (by decide) (by decide) ?_ (Ext.refl _) rfl
            generalize Act.eval ⟨over Tv U, dd⟩ = ev at *
            simp [execOp, go_sem, v0]
          | 6, ho, hlv, hd =>
            obtain rfl := Option.some.inj ho
            have f0 : U 25 = some (.pointer (some ⟨w.heap.size + 1, 0, none⟩)) := hT.facts 5 (by decide) (dep hd 5 (by kernel_rfl)) (fun c e => by cases e)
            have v0 : Act.eval ⟨over Tv U, dd⟩ (.tmp 25) = _ := eval_new (t := Tv) (d := dd) f0 (by show 25 < Tv.size; omega)
            have hc := hx.keep CB.out
            refine tbw_yield (v := .slice (some ⟨b2, o2, none⟩) n d) (smmR_ext w.heap.size k b1 o1 b2 o2 n c d ((.slice x.A p x.c)) ((.slice y.A q y.c)) false) hT ho hd (wanted_plain rfl) rfl (by decide) (by decide) ?_ (Ext.refl _) rfl
            generalize Act.eval ⟨over Tv U, dd⟩ = ev at *
            simp [execOp, go_sem, v0, hc]
          | 7, ho, hlv, hd =>
            obtain rfl := Option.some.inj ho
            have v0 := eval_old (d := dd) (hT.out 5 (by decide)) (by omega) t5
            refine tbw_yield (v := .int .i64 (k : Int)) (smmR_ext w.heap.size k b1 o1 b2 o2 n c d ((.slice x.A p x.c)) ((.slice y.A q y.c)) false) hT ho hd (wanted_plain rfl) rfl (by decide) (by decide) ?_ (Ext.refl _) rfl
            generalize Act.eval ⟨over Tv U, dd⟩ = ev at *
            simp [execOp, go_sem, v0]
          | 8, ho, hlv, hd =>
            obtain rfl := Option.some.inj ho
            have f0 : U 26 = some (.slice (some ⟨b2, o2, none⟩) n d) := hT.facts 6 (by decide) (dep hd 6 (by kernel_rfl)) (fun c e => by cases e)
            have v0 : Act.eval ⟨over Tv U, dd⟩ (.tmp 26) = _ := eval_new (t := Tv) (d := dd) f0 (by show 26 < Tv.size; omega)
            have f1 : U 27 = some (.int .i64 (k : Int)) := hT.facts 7 (by decide) (dep hd 7 (by kernel_rfl)) (fun c e => by cases e)
            have v1 : Act.eval ⟨over Tv U, dd⟩ (.tmp 27) = _ := eval_new (t := Tv) (d := dd) f1 (by show 27 < Tv.size; omega)
            have ki := KI.out
            refine tbw_yield (v := .pointer (some ⟨b2, o2 + k, none⟩)) (smmR_ext w.heap.size k b1 o1 b2 o2 n c d ((.slice x.A p x.c)) ((.slice y.A q y.c)) false) hT ho hd (wanted_plain rfl) rfl (by decide) (by decide) ?_ (Ext.refl _) rfl
            generalize Act.eval ⟨over Tv U, dd⟩ = ev at *
            simp [execOp, go_sem, v0, v1, ki]
          | 9, ho, hlv, hd =>
            obtain rfl := Option.some.inj ho
            have f0 : U 28 = some (.pointer (some ⟨b2, o2 + k, none⟩)) := hT.facts 8 (by decide) (dep hd 8 (by kernel_rfl)) (fun c e => by cases e)
            have v0 : Act.eval ⟨over Tv U, dd⟩ (.tmp 28) = _ := eval_new (t := Tv) (d := dd) f0 (by show 28 < Tv.size; omega)
            have hc := hx.keep CY.out
            refine tbw_yield (v := (.slice y.A q y.c)) (smmR_ext w.heap.size k b1 o1 b2 o2 n c d ((.slice x.A p x.c)) ((.slice y.A q y.c)) false) hT ho hd (wanted_plain rfl) rfl (by decide) (by decide) ?_ (Ext.refl _) rfl
            generalize Act.eval ⟨over Tv U, dd⟩ = ev at *
            simp [execOp, go_sem, v0, hc]
          | 10, ho, hlv, hd =>
            obtain rfl := Option.some.inj ho
            have f0 : U 24 = some ((.slice x.A p x.c)) := hT.facts 4 (by decide) (dep hd 4 (by kernel_rfl)) (fun c e => by cases e)
            have v0 : Act.eval ⟨over Tv U, dd⟩ (.tmp 24) = _ := eval_new (t := Tv) (d := dd) f0 (by show 24 < Tv.size; omega)
            have f1 : U 29 = some ((.slice y.A q y.c)) := hT.facts 9 (by decide) (dep hd 9 (by kernel_rfl)) (fun c e => by cases e)
            have v1 : Act.eval ⟨over Tv U, dd⟩ (.tmp 29) = _ := eval_new (t := Tv) (d := dd) f1 (by show 29 < Tv.size; omega)
            refine tbw_call (f := 37) (args := #[(.slice x.A p x.c), (.slice y.A q y.c)]) (smmR_ext w.heap.size k b1 o1 b2 o2 n c d ((.slice x.A p x.c)) ((.slice y.A q y.c)) false) hT ho hd (wanted_plain rfl) rfl (by decide) (by decide) (exec_call2 rfl rfl v0 v1 EN.out) ?_
            refine (K.out wz hx).mono ?_
            rintro e w' ⟨rfl, hb⟩
            exact ⟨_, rfl, hb, rfl⟩
          | 11, ho, hlv, hd =>
            obtain rfl := Option.some.inj ho
            have f0 : U 30 = some (.bool false) := hT.facts 10 (by decide) (dep hd 10 (by kernel_rfl)) (fun c e => by cases e)
            have v0 : Act.eval ⟨over Tv U, dd⟩ (.tmp 30) = _ := eval_new (t := Tv) (d := dd) f0 (by show 30 < Tv.size; omega)
            refine tbw_yield (v := .bool (!false)) (smmR_ext w.heap.size k b1 o1 b2 o2 n c d ((.slice x.A p x.c)) ((.slice y.A q y.c)) false) hT ho hd (wanted_plain rfl) rfl (by decide) (by decide) ?_ (Ext.refl _) rfl
            generalize Act.eval ⟨over Tv U, dd⟩ = ev at *
            simp [execOp, go_sem, v0]
          | i + 12, ho, _, _ => exact absurd ho (by simp)
        intro U wz hex hout hfin
        have f31 : U 31 = some (.bool (!false)) := hfin 11 (by decide) rfl
        have XE := Lib.hid hex
        clear hex hfin
        rw [over_list]
        simp (disch := decide) only [overL, Nat.reduceAdd, hout, Option.getD_none]
        rw [f31]
        simp only [Option.getD_some]
        clear hout f31
        go_wp2
        go_ret
        exact ⟨ret_bool HF.out.symm, (X0.out.trans HE.out).trans XE.out⟩
    · obtain rfl : k = n := by omega
      have HF := Lib.hid (yes_eq HV.out (all_eq ((rxs_len _).trans HN.out) ((rxs_len _).trans HM.out) HALL.out))
      go_wp2
      go_ret
      exact ⟨ret_bool HF.out.symm, X0.out.trans HE.out⟩
set_option maxRecDepth 100000 in
set_option maxHeartbeats 25600000 in
theorem rsameReview_any (x y : RvL) {v : Bool} (hv : v = true ↔ x.rc = y.rc) (w : World) (hx : x.In w) (hy : y.In w) :
    Calls Tryz.prog 45 #[x.agg, y.agg] w fun e w' => e = .returned (.bool v) ∧ Ext w w' := by
  obtain ⟨CA, hca, hna, -, hka⟩ := x.packed
  obtain ⟨CB, hcb, hnb, -, hkb⟩ := y.packed
  rw [hca, hcb]
  have HV := Lib.hid hv
  have HX := Lib.hid hx
  have HY := Lib.hid hy
  obtain ⟨n1, hn1⟩ : ∃ n, x.ap.xs.length = n := ⟨_, rfl⟩
  obtain ⟨n2, hn2⟩ : ∃ n, x.fa.xs.length = n := ⟨_, rfl⟩
  obtain ⟨n3, hn3⟩ : ∃ n, x.log.length = n := ⟨_, rfl⟩
  obtain ⟨m1, hm1⟩ : ∃ n, y.ap.xs.length = n := ⟨_, rfl⟩
  obtain ⟨m2, hm2⟩ : ∃ n, y.fa.xs.length = n := ⟨_, rfl⟩
  obtain ⟨m3, hm3⟩ : ∃ n, y.log.length = n := ⟨_, rfl⟩
  have J0 : Hid (CA[0]? = some (.int .i64 x.st) ∧ CB[0]? = some (.int .i64 y.st)) := Lib.hid ⟨by rw [← hka]; rfl, by rw [← hkb]; rfl⟩
  have J1 : Hid (CA[1]? = some (.int .i64 x.au) ∧ CB[1]? = some (.int .i64 y.au)) := Lib.hid ⟨by rw [← hka]; rfl, by rw [← hkb]; rfl⟩
  have J2 : Hid (CA[2]? = some (.slice x.ap.A n1 x.ap.c) ∧ CB[2]? = some (.slice y.ap.A m1 y.ap.c)) := Lib.hid ⟨by rw [← hka, ← hn1]; rfl, by rw [← hkb, ← hm1]; rfl⟩
  have J3 : Hid (CA[3]? = some (.slice x.fa.A n2 x.fa.c) ∧ CB[3]? = some (.slice y.fa.A m2 y.fa.c)) := Lib.hid ⟨by rw [← hka, ← hn2]; rfl, by rw [← hkb, ← hm2]; rfl⟩
  obtain ⟨LA, hLA⟩ : ∃ A, x.lA = A := ⟨_, rfl⟩
  obtain ⟨LB, hLB⟩ : ∃ A, y.lA = A := ⟨_, rfl⟩
  have J4 : Hid (CA[4]? = some (.slice LA n3 x.lc) ∧ CB[4]? = some (.slice LB m3 y.lc)) := Lib.hid ⟨by rw [← hka, ← hn3, ← hLA]; rfl, by rw [← hkb, ← hm3, ← hLB]; rfl⟩
  have hl1 : n1 ≤ 9223372036854775807 := by have := hx.ap.2; unfold maxLen at this; omega
  have hl2 : n2 ≤ 9223372036854775807 := by have := hx.fa.2; unfold maxLen at this; omega
  have hl3 : n3 ≤ 9223372036854775807 := by have := hx.lc; unfold maxLen at this; omega
  have HL1 : Hid (SlX eAct w LA x.log) := Lib.hid (by rw [← hLA]; exact hx.log)
  have HL2 : Hid (SlX eAct w LB y.log) := Lib.hid (by rw [← hLB]; exact hy.log)
  have HN1 := Lib.hid hn1
  have HN2 := Lib.hid hn2
  have HN3 := Lib.hid hn3
  have HM1 := Lib.hid hm1
  have HM2 := Lib.hid hm2
  have HM3 := Lib.hid hm3
  obtain ⟨W0, hW0⟩ : ∃ W, (w.alloc (.cells CA 54)).alloc (.cells CB 54) = W := ⟨_, rfl⟩
  have X0 : Hid (Ext w W0) := Lib.hid (by rw [← hW0]; exact ((Ext.refl _).alloc _).alloc _)
  have HA0 : Hid (W0.heap[w.heap.size]? = some (.cells CA 54 (0, 0))) := Lib.hid (by rw [← hW0]; exact two_fst' _ _ _)
  have HB0 : Hid (W0.heap[w.heap.size + 1]? = some (.cells CB 54 (0, 0))) := Lib.hid (by rw [← hW0]; exact heap_new_at _ _ _ (by simp))
  have HW := Lib.hid hW0
  have ca0 : ((w.alloc (.cells CA 54)).alloc (.cells CB 54)).cell? ⟨w.heap.size, 0, none⟩ = some (.int .i64 x.st) := by rw [HW.out]; exact (cell_of_row _ _ 0 _ _ _ HA0.out).trans J0.out.1
  have cb0 : ((w.alloc (.cells CA 54)).alloc (.cells CB 54)).cell? ⟨w.heap.size + 1, 0, none⟩ = some (.int .i64 y.st) := by rw [HW.out]; exact (cell_of_row _ _ 0 _ _ _ HB0.out).trans J0.out.2
  have ca1 : ((w.alloc (.cells CA 54)).alloc (.cells CB 54)).cell? ⟨w.heap.size, 1, none⟩ = some (.int .i64 x.au) := by rw [HW.out]; exact (cell_of_row _ _ 1 _ _ _ HA0.out).trans J1.out.1
  have cb1 : ((w.alloc (.cells CA 54)).alloc (.cells CB 54)).cell? ⟨w.heap.size + 1, 1, none⟩ = some (.int .i64 y.au) := by rw [HW.out]; exact (cell_of_row _ _ 1 _ _ _ HB0.out).trans J1.out.2
  have ca2 : ((w.alloc (.cells CA 54)).alloc (.cells CB 54)).cell? ⟨w.heap.size, 2, none⟩ = some (.slice x.ap.A n1 x.ap.c) := by rw [HW.out]; exact (cell_of_row _ _ 2 _ _ _ HA0.out).trans J2.out.1
  have cb2 : ((w.alloc (.cells CA 54)).alloc (.cells CB 54)).cell? ⟨w.heap.size + 1, 2, none⟩ = some (.slice y.ap.A m1 y.ap.c) := by rw [HW.out]; exact (cell_of_row _ _ 2 _ _ _ HB0.out).trans J2.out.2
  clear hv hx hy hca hcb hna hnb hka hkb hn1 hn2 hn3 hm1 hm2 hm3 hLA hLB hW0
  go_enter Tryz.func45, Tryz.ntmps45
  by_cases hq : x.st = y.st
  case neg =>
    have HF := Lib.hid (no_eq HV.out (fun e => hq (congrArg Rev.Rec.st e)))
    have t0 : (x.st != y.st) = true := by rw [bne_iff_ne]; exact hq
    clear hq
    go_wp2
    go_ret
    rw [HW.out]
    exact ⟨ret_bool HF.out.symm, X0.out⟩
  have Q0 := Lib.hid hq
  have t0 : (x.st != y.st) = false := by rw [hq]; simp
  clear hq
  by_cases hq : x.au = y.au
  case neg =>
    have HF := Lib.hid (no_eq HV.out (fun e => hq (congrArg Rev.Rec.au e)))
    have t1 : (x.au != y.au) = true := by rw [bne_iff_ne]; exact hq
    clear hq
    go_wp2
    go_ret
    rw [HW.out]
    exact ⟨ret_bool HF.out.symm, X0.out⟩
  have Q1 := Lib.hid hq
  have t1 : (x.au != y.au) = false := by rw [hq]; simp
  clear hq
  by_cases hq : x.ap.xs = y.ap.xs
  case neg =>
    have HF := Lib.hid (no_eq HV.out (fun e => hq (congrArg Rev.Rec.ap e)))
    have K := Lib.hid (rints_any x.ap.A x.ap.c x.ap.xs y.ap.A y.ap.c y.ap.xs HN1.out HM1.out (fa hq) hl1 W0 (HX.out.ext X0.out).ap.1 (HY.out.ext X0.out).ap.1)
    clear hq
    go_wp2_with fail
    rw [HW.out]
    with_reducible refine K.out.mono ?_
    rintro e w1 ⟨rfl, hb⟩
    go_wp2
    go_ret
    exact ⟨ret_bool HF.out.symm, X0.out.trans hb⟩
  have Q2 := Lib.hid hq
  have K := Lib.hid (rints_any x.ap.A x.ap.c x.ap.xs y.ap.A y.ap.c y.ap.xs HN1.out HM1.out (tr hq) hl1 W0 (HX.out.ext X0.out).ap.1 (HY.out.ext X0.out).ap.1)
  clear hq
  go_wp2_with fail
  rw [HW.out]
  with_reducible refine K.out.mono ?_
  rintro e w1 ⟨rfl, hb⟩
  have X1 := Lib.hid (X0.out.trans hb)
  have HA1 := Lib.hid (hb.blockAt HA0.out)
  have HB1 := Lib.hid (hb.blockAt HB0.out)
  clear hb K ca0 cb0 ca1 cb1 ca2 cb2 t0 t1 X0 HA0 HB0
  have ca3 : w1.cell? ⟨w.heap.size, 3, none⟩ = some (.slice x.fa.A n2 x.fa.c) := (cell_of_row _ _ 3 _ _ _ HA1.out).trans J3.out.1
  have cb3 : w1.cell? ⟨w.heap.size + 1, 3, none⟩ = some (.slice y.fa.A m2 y.fa.c) := (cell_of_row _ _ 3 _ _ _ HB1.out).trans J3.out.2
  by_cases hq : x.fa.xs = y.fa.xs
  case neg =>
    have HF := Lib.hid (no_eq HV.out (fun e => hq (congrArg Rev.Rec.fa e)))
    have K := Lib.hid (rints_any x.fa.A x.fa.c x.fa.xs y.fa.A y.fa.c y.fa.xs HN2.out HM2.out (fa hq) hl2 w1 (HX.out.ext X1.out).fa.1 (HY.out.ext X1.out).fa.1)
    clear hq
    go_wp2_with fail
    with_reducible refine K.out.mono ?_
    rintro e w2 ⟨rfl, hb⟩
    go_wp2
    go_ret
    exact ⟨ret_bool HF.out.symm, X1.out.trans hb⟩
  have Q3 := Lib.hid hq
  have K := Lib.hid (rints_any x.fa.A x.fa.c x.fa.xs y.fa.A y.fa.c y.fa.xs HN2.out HM2.out (tr hq) hl2 w1 (HX.out.ext X1.out).fa.1 (HY.out.ext X1.out).fa.1)
  clear hq
  go_wp2_with fail
  with_reducible refine K.out.mono ?_
  rintro e w2 ⟨rfl, hb⟩
  have X2 := Lib.hid (X1.out.trans hb)
  have HA2 := Lib.hid (hb.blockAt HA1.out)
  have HB2 := Lib.hid (hb.blockAt HB1.out)
  clear hb K ca3 cb3 X1 HA1 HB1
  have ca4 : w2.cell? ⟨w.heap.size, 4, none⟩ = some (.slice LA n3 x.lc) := (cell_of_row _ _ 4 _ _ _ HA2.out).trans J4.out.1
  have cb4 : w2.cell? ⟨w.heap.size + 1, 4, none⟩ = some (.slice LB m3 y.lc) := (cell_of_row _ _ 4 _ _ _ HB2.out).trans J4.out.2
  by_cases hnm : n3 = m3
  case neg =>
    have hl' : ((n3 : Int) != (m3 : Int)) = true := by rw [bne_iff_ne]; omega
    have HF := Lib.hid (no_eq HV.out (fun e => hnm (by rw [← HN3.out, ← HM3.out]; exact congrArg (fun r : Rev.Rec => r.log.length) e)))
    clear hnm
    go_wp2
    go_ret
    exact ⟨ret_bool HF.out.symm, X2.out⟩
  subst hnm
  have hl' : ((n3 : Int) != (n3 : Int)) = false := by simp
  have CA4 := Lib.hid ca4
  have CB4 := Lib.hid cb4
  go_wp2
  go_loopw [5] (fun i wr => ∃ k : Nat, k ≤ n3 ∧ i = .int .i64 k ∧ Hid (∀ j, j < k → x.log[j]? = y.log[j]?) ∧ Hid (Ext w2 wr)) (fun i _ => n3 - (intOf i).toNat)
  case atStart => exact ⟨0, by omega, rfl, Lib.hid (fun j hj => absurd hj (by omega)), Lib.hid (Ext.refl _)⟩
  case round =>
    clear ca4 cb4
    obtain ⟨k, hk, rfl, HALL, HE⟩ := hrel
    have ca4 := HE.out.keep CA4.out
    have cb4 := HE.out.keep CB4.out
    by_cases hlt : k < n3
    · obtain ⟨a, ha⟩ : ∃ a, x.log[k]? = some a := ⟨x.log[k]'(by rw [HN3.out]; exact hlt), List.getElem?_eq_getElem _⟩
      obtain ⟨b, hb⟩ : ∃ a, y.log[k]? = some a := ⟨y.log[k]'(by rw [HM3.out]; exact hlt), List.getElem?_eq_getElem _⟩
      obtain ⟨b1, o1, rfl, hb1, hc1, -⟩ := (HL1.out.ext (X2.out.trans HE.out)).at_ ha
      obtain ⟨b2, o2, rfl, hb2, hc2, -⟩ := (HL2.out.ext (X2.out.trans HE.out)).at_ hb
      have x0 : wr.cell? ⟨b1, o1 + k * 4, none⟩ = some (.int .i64 a.kind) := hc1 0 _ rfl
      have x1 : wr.cell? ⟨b1, o1 + k * 4 + 1, none⟩ = some (.int .i64 a.user) := hc1 1 _ rfl
      have x2 : wr.cell? ⟨b1, o1 + k * 4 + 2, none⟩ = some (.int .i64 a.roles) := hc1 2 _ rfl
      have x3 : wr.cell? ⟨b1, o1 + k * 4 + 3, none⟩ = some (.int .i64 a.time) := hc1 3 _ rfl
      have y0 : wr.cell? ⟨b2, o2 + k * 4, none⟩ = some (.int .i64 b.kind) := hc2 0 _ rfl
      have y1 : wr.cell? ⟨b2, o2 + k * 4 + 1, none⟩ = some (.int .i64 b.user) := hc2 1 _ rfl
      have y2 : wr.cell? ⟨b2, o2 + k * 4 + 2, none⟩ = some (.int .i64 b.roles) := hc2 2 _ rfl
      have y3 : wr.cell? ⟨b2, o2 + k * 4 + 3, none⟩ = some (.int .i64 b.time) := hc2 3 _ rfl
      have ki0 : (0 : Int) ≤ (k : Int) := by omega
      have ki1 : (k : Int) < (n3 : Int) := by omega
      have HP := Lib.hid ha
      have HQ := Lib.hid hb
      clear ha hb hc1 hc2
      by_cases hab : a = b
      · have HF := Lib.hid (all_next HP.out HQ.out hab HALL.out)
        subst hab
        go_wp2
        go_quiet (fail)
        go_wp2
        go_roundw
        case rel => exact ⟨k + 1, by omega, by go_num, HF, Lib.hid (HE.out.drewN _)⟩
        case measure => simp [intOf]; omega
      · have HF := Lib.hid (no_eq HV.out (fun e => ne_at HP.out HQ.out hab (congrArg Rev.Rec.log e)))
        have hd : a.kind ≠ b.kind ∨ (a.kind = b.kind ∧ a.user ≠ b.user) ∨ (a.kind = b.kind ∧ a.user = b.user ∧ a.roles ≠ b.roles) ∨ (a.kind = b.kind ∧ a.user = b.user ∧ a.roles = b.roles ∧ a.time ≠ b.time) := by
          by_cases h0 : a.kind = b.kind
          · by_cases h1 : a.user = b.user
            · by_cases h2 : a.roles = b.roles
              · refine Or.inr (Or.inr (Or.inr ⟨h0, h1, h2, fun h3 => hab ?_⟩))
                cases a; cases b
                simp only at h0 h1 h2 h3
                rw [h0, h1, h2, h3]
              · exact Or.inr (Or.inr (Or.inl ⟨h0, h1, h2⟩))
            · exact Or.inr (Or.inl ⟨h0, h1⟩)
          · exact Or.inl h0
        clear hab
        rcases hd with h0 | ⟨h0, h1⟩ | ⟨h0, h1, h2⟩ | ⟨h0, h1, h2, h3⟩
        · have u0 : (a.kind == b.kind) = false := by rw [beq_eq_false_iff_ne]; exact h0
          clear h0
          go_wp2
          go_quiet (fail)
          go_wp2
          go_ret
          exact ⟨ret_bool HF.out.symm, (X2.out.trans HE.out).drewN _⟩
        · have u0 : (a.kind == b.kind) = true := by rw [h0]; simp
          have u1 : (a.user == b.user) = false := by rw [beq_eq_false_iff_ne]; exact h1
          clear h0 h1
          go_wp2
          go_quiet (fail)
          go_wp2
          go_ret
          exact ⟨ret_bool HF.out.symm, (X2.out.trans HE.out).drewN _⟩
        · have u0 : (a.kind == b.kind) = true := by rw [h0]; simp
          have u1 : (a.user == b.user) = true := by rw [h1]; simp
          have u2 : (a.roles == b.roles) = false := by rw [beq_eq_false_iff_ne]; exact h2
          clear h0 h1 h2
          go_wp2
          go_quiet (fail)
          go_wp2
          go_ret
          exact ⟨ret_bool HF.out.symm, (X2.out.trans HE.out).drewN _⟩
        · have u0 : (a.kind == b.kind) = true := by rw [h0]; simp
          have u1 : (a.user == b.user) = true := by rw [h1]; simp
          have u2 : (a.roles == b.roles) = true := by rw [h2]; simp
          have u3 : (a.time == b.time) = false := by rw [beq_eq_false_iff_ne]; exact h3
          clear h0 h1 h2 h3
          go_wp2
          go_quiet (fail)
          go_wp2
          go_ret
          exact ⟨ret_bool HF.out.symm, (X2.out.trans HE.out).drewN _⟩
    · obtain rfl : k = n3 := by omega
      have HF := Lib.hid (yes_eq HV.out (by
        have h1 := Q0.out; have h2 := Q1.out; have h3 := Q2.out; have h4 := Q3.out
        have h5 := all_eq HN3.out HM3.out HALL.out
        unfold RvL.rc
        rw [h1, h2, h3, h4, h5]))
      go_wp2
      go_ret
      exact ⟨ret_bool HF.out.symm, X2.out.trans HE.out⟩
/-- What each operation of the region leaves. -/
def smeL (n0 kk b1 o1 b2 o2 n c d : Nat) (vx vy : Value) (bq : Bool) : List (Option Value → World → Prop) := [fun u _ => u = some (.pointer (some ⟨n0, 0, none⟩)),
  fun u _ => u = some (.slice (some ⟨b1, o1, none⟩) n c),
  fun u _ => u = some (.int .i64 (kk : Int)),
  fun u _ => u = some (.pointer (some ⟨b1, o1 + kk * 17, none⟩)),
  fun u _ => u = some (vx),
  fun u _ => u = some (.pointer (some ⟨n0 + 1, 0, none⟩)),
  fun u _ => u = some (.slice (some ⟨b2, o2, none⟩) n d),
  fun u _ => u = some (.int .i64 (kk : Int)),
  fun u _ => u = some (.pointer (some ⟨b2, o2 + kk * 17, none⟩)),
  fun u _ => u = some (vy),
  fun u _ => u = some (.bool bq),
  fun u _ => u = some (.bool (!bq))]
theorem smeL_mono (n0 kk b1 o1 b2 o2 n c d : Nat) (vx vy : Value) (bq : Bool) : AllMono (smeL n0 kk b1 o1 b2 o2 n c d vx vy bq) := ⟨mono_val _, mono_val _, mono_val _, mono_val _, mono_val _, mono_val _, mono_val _, mono_val _, mono_val _, mono_val _, mono_val _, mono_val _, trivial⟩
def smeR (n0 kk b1 o1 b2 o2 n c d : Nat) (vx vy : Value) (bq : Bool) (j : Nat) (u : Option Value) (w : World) : Prop := (smeL n0 kk b1 o1 b2 o2 n c d vx vy bq).getD j (fun _ _ => True) u w
theorem smeR_ext (n0 kk b1 o1 b2 o2 n c d : Nat) (vx vy : Value) (bq : Bool) (j : Nat) (u : Option Value) (w w' : World) (he : Ext w w') (hR : smeR n0 kk b1 o1 b2 o2 n c d vx vy bq j u w) : smeR n0 kk b1 o1 b2 o2 n c d vx vy bq j u w' := ((smeL_mono n0 kk b1 o1 b2 o2 n c d vx vy bq).at_ j) u w w' he hR
def smeD : List Nat := [36, 37, 38, 39, 40, 41, 42, 43, 44, 45, 46, 47]
def smeE (n0 kk : Nat) (t : Array Value) : Prop := t.getD 2 undef = .pointer (some ⟨n0, 0, none⟩) ∧ t.getD 3 undef = .pointer (some ⟨n0 + 1, 0, none⟩) ∧ t.getD 5 undef = .int .i64 (kk : Int) ∧ t.size = 48

set_option maxRecDepth 100000 in
set_option maxHeartbeats 25600000 in
theorem rsameEntry_any (x y : EntL) {v : Bool} (hv : v = true ↔ x.ent = y.ent) (w : World) (hx : x.In w) (hy : y.In w) :
    Calls Tryz.prog 23 #[x.agg, y.agg] w fun e w' => e = .returned (.bool v) ∧ Ext w w' := by
  obtain ⟨CA, hca, hna, -, hka⟩ := x.packed
  obtain ⟨CB, hcb, hnb, -, hkb⟩ := y.packed
  rw [hca, hcb]
  obtain ⟨CRA, hra, hnra, -, hkra⟩ := x.rv.packed
  obtain ⟨CRB, hrb, hnrb, -, hkrb⟩ := y.rv.packed
  have HV := Lib.hid hv
  have HX := Lib.hid hx
  have HY := Lib.hid hy
  obtain ⟨n, hn⟩ : ∃ n, x.vs.length = n := ⟨_, rfl⟩
  obtain ⟨m, hm⟩ : ∃ n, y.vs.length = n := ⟨_, rfl⟩
  obtain ⟨nr, hnr⟩ : ∃ n, x.rows.length = n := ⟨_, rfl⟩
  obtain ⟨mr, hmr⟩ : ∃ n, y.rows.length = n := ⟨_, rfl⟩
  obtain ⟨VA, hVA⟩ : ∃ A, x.vA = A := ⟨_, rfl⟩
  obtain ⟨VB, hVB⟩ : ∃ A, y.vA = A := ⟨_, rfl⟩
  have J0 : Hid (CA[0]? = some (.slice VA n x.vc) ∧ CB[0]? = some (.slice VB m y.vc)) := Lib.hid ⟨by rw [← hka, ← hn, ← hVA]; rfl, by rw [← hkb, ← hm, ← hVB]; rfl⟩
  have hl1 : n ≤ 9223372036854775807 := by have := hx.vc; unfold maxLen at this; omega
  have hl2 : nr ≤ 9223372036854775807 := by have := hx.rc; unfold maxLen at this; omega
  have HS1 : Hid (SlX eIt w VA x.vs) := Lib.hid (by rw [← hVA]; exact hx.vs)
  have HS2 : Hid (SlX eIt w VB y.vs) := Lib.hid (by rw [← hVB]; exact hy.vs)
  have HN := Lib.hid hn
  have HM := Lib.hid hm
  have HNR := Lib.hid hnr
  have HMR := Lib.hid hmr
  have EN := Lib.hid (enters_of Tryz.func14 (by kernel_rfl) rfl)
  obtain ⟨W0, hW0⟩ : ∃ W, (w.alloc (.cells CA 56)).alloc (.cells CB 56) = W := ⟨_, rfl⟩
  have X0 : Hid (Ext w W0) := Lib.hid (by rw [← hW0]; exact ((Ext.refl _).alloc _).alloc _)
  have HA0 : Hid (W0.heap[w.heap.size]? = some (.cells CA 56 (0, 0))) := Lib.hid (by rw [← hW0]; exact two_fst' _ _ _)
  have HB0 : Hid (W0.heap[w.heap.size + 1]? = some (.cells CB 56 (0, 0))) := Lib.hid (by rw [← hW0]; exact heap_new_at _ _ _ (by simp))
  have HW := Lib.hid hW0
  have RR1 : Hid (∀ (W : World), W.heap[w.heap.size]? = some (.cells CA 56 (0, 0)) → W.rangeAt w.heap.size 1 CRA.toList ∧ W.rangeAt w.heap.size 6 (#[.slice x.rA nr x.rc] : Array Value).toList) := Lib.hid (fun W hW => ⟨range_of hW 1 (fun j v h => by
      rw [← hkra] at h; rw [← hka]
      match j, h with
      | 0, h => exact h
      | 1, h => exact h
      | 2, h => exact h
      | 3, h => exact h
      | 4, h => exact h
      | j + 5, h => simp [RvL.cells] at h), range_of hW 6 (fun j v h => by
      rw [← hnr] at h; rw [← hka]
      match j, h with
      | 0, h => exact h
      | j + 1, h => simp at h)⟩)
  have RR2 : Hid (∀ (W : World), W.heap[w.heap.size + 1]? = some (.cells CB 56 (0, 0)) → W.rangeAt (w.heap.size + 1) 1 CRB.toList ∧ W.rangeAt (w.heap.size + 1) 6 (#[.slice y.rA mr y.rc] : Array Value).toList) := Lib.hid (fun W hW => ⟨range_of hW 1 (fun j v h => by
      rw [← hkrb] at h; rw [← hkb]
      match j, h with
      | 0, h => exact h
      | 1, h => exact h
      | 2, h => exact h
      | 3, h => exact h
      | 4, h => exact h
      | j + 5, h => simp [RvL.cells] at h), range_of hW 6 (fun j v h => by
      rw [← hmr] at h; rw [← hkb]
      match j, h with
      | 0, h => exact h
      | j + 1, h => simp at h)⟩)
  have HRV := Lib.hid (fun (v : Bool) (hv : v = true ↔ x.rv.rc = y.rv.rc) (W : World) (h : Ext w W) => rsameReview_any x.rv y.rv hv W (RvL.In.ext ⟨hx.st, hx.au, hx.ap, hx.fa, hx.log, hx.lc⟩ h) (RvL.In.ext ⟨hy.st, hy.au, hy.ap, hy.fa, hy.log, hy.lc⟩ h))
  rw [hra, hrb] at HRV
  have HMD := Lib.hid (fun (v : Bool) (hv : v = true ↔ rxs x.rows = rxs y.rows) (W : World) (h : Ext w W) => rsameModel_any x.rA x.rc x.rows y.rA y.rc y.rows hnr hmr hv hl2 W (hx.rows.ext h) (hy.rows.ext h))
  have IRA := Lib.hid (infoRev hnra)
  have IRB := Lib.hid (infoRev hnrb)
  have IMA : Hid ((Tryz.prog.info? 46).map (·.size) = some (#[.slice x.rA nr x.rc] : Array Value).size) := Lib.hid (infoMd rfl)
  have IMB : Hid ((Tryz.prog.info? 46).map (·.size) = some (#[.slice y.rA mr y.rc] : Array Value).size) := Lib.hid (infoMd rfl)
  have RA1 : Hid (((w.alloc (.cells CA 56)).alloc (.cells CB 56)).rangeAt w.heap.size 1 CRA.toList) := Lib.hid (by rw [HW.out]; exact (RR1.out _ HA0.out).1)
  have RB1 : Hid (((w.alloc (.cells CA 56)).alloc (.cells CB 56)).rangeAt (w.heap.size + 1) 1 CRB.toList) := Lib.hid (by rw [HW.out]; exact (RR2.out _ HB0.out).1)
  have ca0 : ((w.alloc (.cells CA 56)).alloc (.cells CB 56)).cell? ⟨w.heap.size, 0, none⟩ = some (.slice VA n x.vc) := by rw [HW.out]; exact (cell_of_row _ _ 0 _ _ _ HA0.out).trans J0.out.1
  have cb0 : ((w.alloc (.cells CA 56)).alloc (.cells CB 56)).cell? ⟨w.heap.size + 1, 0, none⟩ = some (.slice VB m y.vc) := by rw [HW.out]; exact (cell_of_row _ _ 0 _ _ _ HB0.out).trans J0.out.2
  clear hv hx hy hca hcb hna hnb hka hkb hra hrb hnra hnrb hkra hkrb hn hm hnr hmr hVA hVB hW0
  go_enter Tryz.func23, Tryz.ntmps23
  by_cases hnm : n = m
  case neg =>
    have hl' : ((n : Int) != (m : Int)) = true := by rw [bne_iff_ne]; omega
    have HF := Lib.hid (no_eq HV.out (fun e => hnm (by rw [← HN.out, ← HM.out]; have := congrArg (fun r : Ent => r.vers.length) e; simpa [EntL.ent] using this)))
    clear hnm
    go_wp2
    go_ret
    rw [HW.out]
    exact ⟨ret_bool HF.out.symm, X0.out⟩
  subst hnm
  have hl' : ((n : Int) != (n : Int)) = false := by simp
  by_cases hq : x.rv.rc = y.rv.rc
  case neg =>
    have HF := Lib.hid (no_eq HV.out (fun e => hq (congrArg Ent.rev e)))
    have K := Lib.hid (HRV.out false (fa hq) W0 X0.out)
    clear hq
    go_wp2_with (first
    | (refine wpList_load_arr_w rfl 54 (.tmp 14) rfl w.heap.size 1 rfl CRA _ RA1.out Tryz.underlying54 rfl IRA.out ?_)
    | (refine wpList_load_arr_w rfl 54 (.tmp 16) rfl (w.heap.size + 1) 1 rfl CRB _ RB1.out Tryz.underlying54 rfl IRB.out ?_))
    rw [HW.out]
    with_reducible refine K.out.mono ?_
    rintro e w1 ⟨rfl, hb⟩
    go_wp2
    go_ret
    exact ⟨ret_bool HF.out.symm, X0.out.trans hb⟩
  have Q1 := Lib.hid hq
  have K := Lib.hid (HRV.out true (tr hq) W0 X0.out)
  clear hq
  go_wp2_with (first
    | (refine wpList_load_arr_w rfl 54 (.tmp 14) rfl w.heap.size 1 rfl CRA _ RA1.out Tryz.underlying54 rfl IRA.out ?_)
    | (refine wpList_load_arr_w rfl 54 (.tmp 16) rfl (w.heap.size + 1) 1 rfl CRB _ RB1.out Tryz.underlying54 rfl IRB.out ?_))
  rw [HW.out]
  with_reducible refine K.out.mono ?_
  rintro e w1 ⟨rfl, hb⟩
  have X1 := Lib.hid (X0.out.trans hb)
  have HA1 := Lib.hid (hb.blockAt HA0.out)
  have HB1 := Lib.hid (hb.blockAt HB0.out)
  have MA1 := Lib.hid (RR1.out _ HA1.out).2
  have MB1 := Lib.hid (RR2.out _ HB1.out).2
  clear hb K ca0 cb0 X0 HA0 HB0 RA1 RB1
  by_cases hq : rxs x.rows = rxs y.rows
  case neg =>
    have HF := Lib.hid (no_eq HV.out (fun e => hq (congrArg Ent.rows e)))
    have K := Lib.hid (HMD.out false (fa hq) w1 X1.out)
    clear hq
    go_wp2_with (first
    | (refine wpList_load_arr_w rfl 46 (.tmp 22) rfl w.heap.size 6 rfl #[.slice x.rA nr x.rc] _ MA1.out Tryz.underlying46 rfl IMA.out ?_)
    | (refine wpList_load_arr_w rfl 46 (.tmp 24) rfl (w.heap.size + 1) 6 rfl #[.slice y.rA mr y.rc] _ MB1.out Tryz.underlying46 rfl IMB.out ?_))
    with_reducible refine K.out.mono ?_
    rintro e w2 ⟨rfl, hb⟩
    go_wp2
    go_ret
    exact ⟨ret_bool HF.out.symm, X1.out.trans hb⟩
  have Q2 := Lib.hid hq
  have K := Lib.hid (HMD.out true (tr hq) w1 X1.out)
  clear hq
  go_wp2_with (first
    | (refine wpList_load_arr_w rfl 46 (.tmp 22) rfl w.heap.size 6 rfl #[.slice x.rA nr x.rc] _ MA1.out Tryz.underlying46 rfl IMA.out ?_)
    | (refine wpList_load_arr_w rfl 46 (.tmp 24) rfl (w.heap.size + 1) 6 rfl #[.slice y.rA mr y.rc] _ MB1.out Tryz.underlying46 rfl IMB.out ?_))
  with_reducible refine K.out.mono ?_
  rintro e w2 ⟨rfl, hb⟩
  have X2 := Lib.hid (X1.out.trans hb)
  have CA : Hid (w2.cell? ⟨w.heap.size, 0, none⟩ = some (.slice VA n x.vc)) := Lib.hid ((cell_of_row _ _ 0 _ _ _ (hb.blockAt HA1.out)).trans J0.out.1)
  have CB : Hid (w2.cell? ⟨w.heap.size + 1, 0, none⟩ = some (.slice VB n y.vc)) := Lib.hid ((cell_of_row _ _ 0 _ _ _ (hb.blockAt HB1.out)).trans J0.out.2)
  clear hb K X1 HA1 HB1 MA1 MB1
  go_wp2
  go_loopw [5] (fun i wr => ∃ k : Nat, k ≤ n ∧ i = .int .i64 k ∧ Hid (∀ j, j < k → (x.vs.map (·.1))[j]? = (y.vs.map (·.1))[j]?) ∧ Hid (Ext w2 wr)) (fun i _ => n - (intOf i).toNat)
  case atStart => exact ⟨0, by omega, rfl, Lib.hid (fun j hj => absurd hj (by omega)), Lib.hid (Ext.refl _)⟩
  case round =>
    obtain ⟨k, hk, rfl, HALL, HE⟩ := hrel
    have ca := HE.out.keep CA.out
    have cb := HE.out.keep CB.out
    by_cases hlt : k < n
    · obtain ⟨p, hp⟩ : ∃ p, x.vs[k]? = some p := ⟨x.vs[k]'(by rw [HN.out]; exact hlt), List.getElem?_eq_getElem _⟩
      obtain ⟨q, hq⟩ : ∃ p, y.vs[k]? = some p := ⟨y.vs[k]'(by rw [HM.out]; exact hlt), List.getElem?_eq_getElem _⟩
      obtain ⟨b1, o1, rfl, hb1, hc1, hi1⟩ := (HS1.out.ext (X2.out.trans HE.out)).at_ hp
      obtain ⟨b2, o2, rfl, hb2, hc2, hi2⟩ := (HS2.out.ext (X2.out.trans HE.out)).at_ hq
      obtain ⟨C1, hc1a, hn1, -, hk1⟩ := itp p
      obtain ⟨C2, hc2a, hn2, -, hk2⟩ := itp q
      have RA : Hid (wr.rangeAt b1 (o1 + k * 17) C1.toList) := Lib.hid (by rw [← hk1]; exact hc1)
      have RB : Hid (wr.rangeAt b2 (o2 + k * 17) C2.toList) := Lib.hid (by rw [← hk2]; exact hc2)
      have I1 := Lib.hid (infoItem hn1)
      have I2 := Lib.hid (infoItem hn2)
      have CA := Lib.hid ca
      have CB := Lib.hid cb
      have ki0 : (0 : Int) ≤ (k : Int) := by omega
      have ki1 : (k : Int) < (n : Int) := by omega
      have KI := Lib.hid (And.intro ki0 ki1)
      have HP : Hid ((x.vs.map (·.1))[k]? = some p.1) := Lib.hid (by rw [List.getElem?_map, hp]; rfl)
      have HQ : Hid ((y.vs.map (·.1))[k]? = some q.1) := Lib.hid (by rw [List.getElem?_map, hq]; rfl)
      have G1 : Hid (It.In wr p.1 p.2) := Lib.hid hi1
      have G2 : Hid (It.In wr q.1 q.2) := Lib.hid hi2
      have KK := Lib.hid (fun (v : Bool) (hv : v = true ↔ p.1 = q.1) (wz : World) (hx : Ext wr wz) => rsameItem_any p q hv wz (G1.out.ext hx) (G2.out.ext hx))
      rw [hc1a, hc2a] at KK
      clear hp hq hc1 hc2 hi1 hi2 hc1a hc2a hn1 hn2 hk1 hk2
      by_cases hpq : p.1 = q.1
      · have HF := Lib.hid (all_next HP.out HQ.out hpq HALL.out)
        have K := Lib.hid (KK.out true (tr hpq))
        clear hpq
        go_wp2_with fail
        refine region_tb (by kernel_rfl) (by decide +kernel) (smeE w.heap.size k) ⟨rfl, rfl, rfl, rfl⟩ 12 smeD (fun _ => none) (smeR w.heap.size k b1 o1 b2 o2 n x.vc y.vc (.agg C1) (.agg C2) true) wr (Ext.refl _) (fun i h1 h2 => absurd h2 (Nat.not_lt.2 h1)) ?_ ?_
        · intro Tv dd lv U wz i o hE ho hlv hd hT
          obtain ⟨t2, t3, t5, tz⟩ := hE
          have hx := hT.ext
          match i, ho, hlv, hd with
          | 0, ho, hlv, hd =>
            obtain rfl := Option.some.inj ho
            have v0 := eval_old (d := dd) (hT.out 2 (by decide)) (by omega) t2
            refine tbw_yield (v := .pointer (some ⟨w.heap.size, 0, none⟩)) (smeR_ext w.heap.size k b1 o1 b2 o2 n x.vc y.vc (.agg C1) (.agg C2) true) hT ho hd (wanted_plain rfl) rfl (by decide) (by decide) ?_ (Ext.refl _) rfl
            generalize Act.eval ⟨over Tv U, dd⟩ = ev at *
            simp [execOp, go_sem, v0]
          | 1, ho, hlv, hd =>
            obtain rfl := Option.some.inj ho
            have f0 : U 36 = some (.pointer (some ⟨w.heap.size, 0, none⟩)) := hT.facts 0 (by decide) (dep hd 0 (by kernel_rfl)) (fun c e => by cases e)
            have v0 : Act.eval ⟨over Tv U, dd⟩ (.tmp 36) = _ := eval_new (t := Tv) (d := dd) f0 (by show 36 < Tv.size; omega)
            have hc := hx.keep CA.out
            refine tbw_yield (v := .slice (some ⟨b1, o1, none⟩) n x.vc) (smeR_ext w.heap.size k b1 o1 b2 o2 n x.vc y.vc (.agg C1) (.agg C2) true) hT ho hd (wanted_plain rfl) rfl (by decide) (by decide) ?_ (Ext.refl _) rfl
            generalize Act.eval ⟨over Tv U, dd⟩ = ev at *
            simp [execOp, go_sem, v0, hc]
          | 2, ho, hlv, hd =>
            obtain rfl := Option.some.inj ho
            have v0 := eval_old (d := dd) (hT.out 5 (by decide)) (by omega) t5
            refine tbw_yield (v := .int .i64 (k : Int)) (smeR_ext w.heap.size k b1 o1 b2 o2 n x.vc y.vc (.agg C1) (.agg C2) true) hT ho hd (wanted_plain rfl) rfl (by decide) (by decide) ?_ (Ext.refl _) rfl
            generalize Act.eval ⟨over Tv U, dd⟩ = ev at *
            simp [execOp, go_sem, v0]
          | 3, ho, hlv, hd =>
            obtain rfl := Option.some.inj ho
            have f0 : U 37 = some (.slice (some ⟨b1, o1, none⟩) n x.vc) := hT.facts 1 (by decide) (dep hd 1 (by kernel_rfl)) (fun c e => by cases e)
            have v0 : Act.eval ⟨over Tv U, dd⟩ (.tmp 37) = _ := eval_new (t := Tv) (d := dd) f0 (by show 37 < Tv.size; omega)
            have f1 : U 38 = some (.int .i64 (k : Int)) := hT.facts 2 (by decide) (dep hd 2 (by kernel_rfl)) (fun c e => by cases e)
            have v1 : Act.eval ⟨over Tv U, dd⟩ (.tmp 38) = _ := eval_new (t := Tv) (d := dd) f1 (by show 38 < Tv.size; omega)
            have ki := KI.out
            refine tbw_yield (v := .pointer (some ⟨b1, o1 + k * 17, none⟩)) (smeR_ext w.heap.size k b1 o1 b2 o2 n x.vc y.vc (.agg C1) (.agg C2) true) hT ho hd (wanted_plain rfl) rfl (by decide) (by decide) ?_ (Ext.refl _) rfl
            generalize Act.eval ⟨over Tv U, dd⟩ = ev at *
            simp [execOp, go_sem, v0, v1, ki]
          | 4, ho, hlv, hd =>
            obtain rfl := Option.some.inj ho
            have f0 : U 39 = some (.pointer (some ⟨b1, o1 + k * 17, none⟩)) := hT.facts 3 (by decide) (dep hd 3 (by kernel_rfl)) (fun c e => by cases e)
            have v0 : Act.eval ⟨over Tv U, dd⟩ (.tmp 39) = _ := eval_new (t := Tv) (d := dd) f0 (by show 39 < Tv.size; omega)
            refine tbw_yield (v := .agg C1) (smeR_ext w.heap.size k b1 o1 b2 o2 n x.vc y.vc (.agg C1) (.agg C2) true) hT ho hd (wanted_plain rfl) rfl (by decide) (by decide) (exec_load_arr _ _ rfl b1 (o1 + k * 17) v0 C1 _ (hx.range RA.out) Tryz.underlying39 rfl I1.out) (Ext.refl _) rfl
          | 5, ho, hlv, hd =>
            obtain rfl := Option.some.inj ho
            have v0 := eval_old (d := dd) (hT.out 3 (by decide)) (by omega) t3
            refine tbw_yield (v := .pointer (some ⟨w.heap.size + 1, 0, none⟩)) (smeR_ext w.heap.size k b1 o1 b2 o2 n x.vc y.vc (.agg C1) (.agg C2) true) hT ho hd (wanted_plain rfl) rfl (by decide) (by decide) ?_ (Ext.refl _) rfl
            generalize Act.eval ⟨over Tv U, dd⟩ = ev at *
            simp [execOp, go_sem, v0]
          | 6, ho, hlv, hd =>
            obtain rfl := Option.some.inj ho
            have f0 : U 41 = some (.pointer (some ⟨w.heap.size + 1, 0, none⟩)) := hT.facts 5 (by decide) (dep hd 5 (by kernel_rfl)) (fun c e => by cases e)
            have v0 : Act.eval ⟨over Tv U, dd⟩ (.tmp 41) = _ := eval_new (t := Tv) (d := dd) f0 (by show 41 < Tv.size; omega)
            have hc := hx.keep CB.out
            refine tbw_yield (v := .slice (some ⟨b2, o2, none⟩) n y.vc) (smeR_ext w.heap.size k b1 o1 b2 o2 n x.vc y.vc (.agg C1) (.agg C2) true) hT ho hd (wanted_plain rfl) rfl (by decide) (by decide) ?_ (Ext.refl _) rfl
            generalize Act.eval ⟨over Tv U, dd⟩ = ev at *
            simp [execOp, go_sem, v0, hc]
          | 7, ho, hlv, hd =>
            obtain rfl := Option.some.inj ho
            have v0 := eval_old (d := dd) (hT.out 5 (by decide)) (by omega) t5
            refine tbw_yield (v := .int .i64 (k : Int)) (smeR_ext w.heap.size k b1 o1 b2 o2 n x.vc y.vc (.agg C1) (.agg C2) true) hT ho hd (wanted_plain rfl) rfl (by decide) (by decide) ?_ (Ext.refl _) rfl
            generalize Act.eval ⟨over Tv U, dd⟩ = ev at *
            simp [execOp, go_sem, v0]
          | 8, ho, hlv, hd =>
            obtain rfl := Option.some.inj ho
            have f0 : U 42 = some (.slice (some ⟨b2, o2, none⟩) n y.vc) := hT.facts 6 (by decide) (dep hd 6 (by kernel_rfl)) (fun c e => by cases e)
            have v0 : Act.eval ⟨over Tv U, dd⟩ (.tmp 42) = _ := eval_new (t := Tv) (d := dd) f0 (by show 42 < Tv.size; omega)
            have f1 : U 43 = some (.int .i64 (k : Int)) := hT.facts 7 (by decide) (dep hd 7 (by kernel_rfl)) (fun c e => by cases e)
            have v1 : Act.eval ⟨over Tv U, dd⟩ (.tmp 43) = _ := eval_new (t := Tv) (d := dd) f1 (by show 43 < Tv.size; omega)
            have ki := KI.out
            refine tbw_yield (v := .pointer (some ⟨b2, o2 + k * 17, none⟩)) (smeR_ext w.heap.size k b1 o1 b2 o2 n x.vc y.vc (.agg C1) (.agg C2) true) hT ho hd (wanted_plain rfl) rfl (by decide) (by decide) ?_ (Ext.refl _) rfl
            generalize Act.eval ⟨over Tv U, dd⟩ = ev at *
            simp [execOp, go_sem, v0, v1, ki]
          | 9, ho, hlv, hd =>
            obtain rfl := Option.some.inj ho
            have f0 : U 44 = some (.pointer (some ⟨b2, o2 + k * 17, none⟩)) := hT.facts 8 (by decide) (dep hd 8 (by kernel_rfl)) (fun c e => by cases e)
            have v0 : Act.eval ⟨over Tv U, dd⟩ (.tmp 44) = _ := eval_new (t := Tv) (d := dd) f0 (by show 44 < Tv.size; omega)
            refine tbw_yield (v := .agg C2) (smeR_ext w.heap.size k b1 o1 b2 o2 n x.vc y.vc (.agg C1) (.agg C2) true) hT ho hd (wanted_plain rfl) rfl (by decide) (by decide) (exec_load_arr _ _ rfl b2 (o2 + k * 17) v0 C2 _ (hx.range RB.out) Tryz.underlying39 rfl I2.out) (Ext.refl _) rfl
          | 10, ho, hlv, hd =>
            obtain rfl := Option.some.inj ho
            have f0 : U 40 = some (.agg C1) := hT.facts 4 (by decide) (dep hd 4 (by kernel_rfl)) (fun c e => by cases e)
            have v0 : Act.eval ⟨over Tv U, dd⟩ (.tmp 40) = _ := eval_new (t := Tv) (d := dd) f0 (by show 40 < Tv.size; omega)
            have f1 : U 45 = some (.agg C2) := hT.facts 9 (by decide) (dep hd 9 (by kernel_rfl)) (fun c e => by cases e)
            have v1 : Act.eval ⟨over Tv U, dd⟩ (.tmp 45) = _ := eval_new (t := Tv) (d := dd) f1 (by show 45 < Tv.size; omega)
            refine tbw_call (f := 14) (args := #[.agg C1, .agg C2]) (smeR_ext w.heap.size k b1 o1 b2 o2 n x.vc y.vc (.agg C1) (.agg C2) true) hT ho hd (wanted_plain rfl) rfl (by decide) (by decide) (exec_call2 rfl rfl v0 v1 EN.out) ?_
            refine (K.out wz hx).mono ?_
            rintro e w' ⟨rfl, hb⟩
            exact ⟨_, rfl, hb, rfl⟩
          | 11, ho, hlv, hd =>
            obtain rfl := Option.some.inj ho
            have f0 : U 46 = some (.bool true) := hT.facts 10 (by decide) (dep hd 10 (by kernel_rfl)) (fun c e => by cases e)
            have v0 : Act.eval ⟨over Tv U, dd⟩ (.tmp 46) = _ := eval_new (t := Tv) (d := dd) f0 (by show 46 < Tv.size; omega)
            refine tbw_yield (v := .bool (!true)) (smeR_ext w.heap.size k b1 o1 b2 o2 n x.vc y.vc (.agg C1) (.agg C2) true) hT ho hd (wanted_plain rfl) rfl (by decide) (by decide) ?_ (Ext.refl _) rfl
            generalize Act.eval ⟨over Tv U, dd⟩ = ev at *
            simp [execOp, go_sem, v0]
          | i + 12, ho, _, _ => exact absurd ho (by simp)
        intro U wz hex hout hfin
        have f47 : U 47 = some (.bool (!true)) := hfin 11 (by decide) rfl
        have XE := Lib.hid hex
        clear hex hfin
        rw [over_list]
        simp (disch := decide) only [overL, Nat.reduceAdd, hout, Option.getD_none]
        rw [f47]
        simp only [Option.getD_some]
        clear hout f47
        go_wp2
        go_roundw
        case rel => exact ⟨k + 1, by omega, by go_num, HF, Lib.hid (HE.out.trans XE.out)⟩
        case measure => simp [intOf]; omega
      · have HF := Lib.hid (no_eq HV.out (fun e => ne_at HP.out HQ.out hpq (congrArg Ent.vers e)))
        have K := Lib.hid (KK.out false (fa hpq))
        clear hpq
        go_wp2_with fail
        refine region_tb (by kernel_rfl) (by decide +kernel) (smeE w.heap.size k) ⟨rfl, rfl, rfl, rfl⟩ 12 smeD (fun _ => none) (smeR w.heap.size k b1 o1 b2 o2 n x.vc y.vc (.agg C1) (.agg C2) false) wr (Ext.refl _) (fun i h1 h2 => absurd h2 (Nat.not_lt.2 h1)) ?_ ?_
        · intro Tv dd lv U wz i o hE ho hlv hd hT
          obtain ⟨t2, t3, t5, tz⟩ := hE
          have hx := hT.ext
          match i, ho, hlv, hd with
          | 0, ho, hlv, hd =>
            obtain rfl := Option.some.inj ho
            have v0 := eval_old (d := dd) (hT.out 2 (by decide)) (by omega) t2
            refine tbw_yield (v := .pointer (some ⟨w.heap.size, 0, none⟩)) (smeR_ext w.heap.size k b1 o1 b2 o2 n x.vc y.vc (.agg C1) (.agg C2) false) hT ho hd (wanted_plain rfl) rfl (by decide) (by decide) ?_ (Ext.refl _) rfl
            generalize Act.eval ⟨over Tv U, dd⟩ = ev at *
            simp [execOp, go_sem, v0]
          | 1, ho, hlv, hd =>
            obtain rfl := Option.some.inj ho
            have f0 : U 36 = some (.pointer (some ⟨w.heap.size, 0, none⟩)) := hT.facts 0 (by decide) (dep hd 0 (by kernel_rfl)) (fun c e => by cases e)
            have v0 : Act.eval ⟨over Tv U, dd⟩ (.tmp 36) = _ := eval_new (t := Tv) (d := dd) f0 (by show 36 < Tv.size; omega)
            have hc := hx.keep CA.out
            refine tbw_yield (v := .slice (some ⟨b1, o1, none⟩) n x.vc) (smeR_ext w.heap.size k b1 o1 b2 o2 n x.vc y.vc (.agg C1) (.agg C2) false) hT ho hd (wanted_plain rfl) rfl (by decide) (by decide) ?_ (Ext.refl _) rfl
            generalize Act.eval ⟨over Tv U, dd⟩ = ev at *
            simp [execOp, go_sem, v0, hc]
          | 2, ho, hlv, hd =>
            obtain rfl := Option.some.inj ho
            have v0 := eval_old (d := dd) (hT.out 5 (by decide)) (by omega) t5
            refine tbw_yield (v := .int .i64 (k : Int)) (smeR_ext w.heap.size k b1 o1 b2 o2 n x.vc y.vc (.agg C1) (.agg C2) false) hT ho hd (wanted_plain rfl) rfl (by decide) (by decide) ?_ (Ext.refl _) rfl
            generalize Act.eval ⟨over Tv U, dd⟩ = ev at *
            simp [execOp, go_sem, v0]
          | 3, ho, hlv, hd =>
            obtain rfl := Option.some.inj ho
            have f0 : U 37 = some (.slice (some ⟨b1, o1, none⟩) n x.vc) := hT.facts 1 (by decide) (dep hd 1 (by kernel_rfl)) (fun c e => by cases e)
            have v0 : Act.eval ⟨over Tv U, dd⟩ (.tmp 37) = _ := eval_new (t := Tv) (d := dd) f0 (by show 37 < Tv.size; omega)
            have f1 : U 38 = some (.int .i64 (k : Int)) := hT.facts 2 (by decide) (dep hd 2 (by kernel_rfl)) (fun c e => by cases e)
            have v1 : Act.eval ⟨over Tv U, dd⟩ (.tmp 38) = _ := eval_new (t := Tv) (d := dd) f1 (by show 38 < Tv.size; omega)
            have ki := KI.out
            refine tbw_yield (v := .pointer (some ⟨b1, o1 + k * 17, none⟩)) (smeR_ext w.heap.size k b1 o1 b2 o2 n x.vc y.vc (.agg C1) (.agg C2) false) hT ho hd (wanted_plain rfl) rfl (by decide) (by decide) ?_ (Ext.refl _) rfl
            generalize Act.eval ⟨over Tv U, dd⟩ = ev at *
            simp [execOp, go_sem, v0, v1, ki]
          | 4, ho, hlv, hd =>
            obtain rfl := Option.some.inj ho
            have f0 : U 39 = some (.pointer (some ⟨b1, o1 + k * 17, none⟩)) := hT.facts 3 (by decide) (dep hd 3 (by kernel_rfl)) (fun c e => by cases e)
            have v0 : Act.eval ⟨over Tv U, dd⟩ (.tmp 39) = _ := eval_new (t := Tv) (d := dd) f0 (by show 39 < Tv.size; omega)
            refine tbw_yield (v := .agg C1) (smeR_ext w.heap.size k b1 o1 b2 o2 n x.vc y.vc (.agg C1) (.agg C2) false) hT ho hd (wanted_plain rfl) rfl (by decide) (by decide) (exec_load_arr _ _ rfl b1 (o1 + k * 17) v0 C1 _ (hx.range RA.out) Tryz.underlying39 rfl I1.out) (Ext.refl _) rfl
          | 5, ho, hlv, hd =>
            obtain rfl := Option.some.inj ho
            have v0 := eval_old (d := dd) (hT.out 3 (by decide)) (by omega) t3
            refine tbw_yield (v := .pointer (some ⟨w.heap.size + 1, 0, none⟩)) (smeR_ext w.heap.size k b1 o1 b2 o2 n x.vc y.vc (.agg C1) (.agg C2) false) hT ho hd (wanted_plain rfl) rfl (by decide) (by decide) ?_ (Ext.refl _) rfl
            generalize Act.eval ⟨over Tv U, dd⟩ = ev at *
            simp [execOp, go_sem, v0]
          | 6, ho, hlv, hd =>
            obtain rfl := Option.some.inj ho
            have f0 : U 41 = some (.pointer (some ⟨w.heap.size + 1, 0, none⟩)) := hT.facts 5 (by decide) (dep hd 5 (by kernel_rfl)) (fun c e => by cases e)
            have v0 : Act.eval ⟨over Tv U, dd⟩ (.tmp 41) = _ := eval_new (t := Tv) (d := dd) f0 (by show 41 < Tv.size; omega)
            have hc := hx.keep CB.out
            refine tbw_yield (v := .slice (some ⟨b2, o2, none⟩) n y.vc) (smeR_ext w.heap.size k b1 o1 b2 o2 n x.vc y.vc (.agg C1) (.agg C2) false) hT ho hd (wanted_plain rfl) rfl (by decide) (by decide) ?_ (Ext.refl _) rfl
            generalize Act.eval ⟨over Tv U, dd⟩ = ev at *
            simp [execOp, go_sem, v0, hc]
          | 7, ho, hlv, hd =>
            obtain rfl := Option.some.inj ho
            have v0 := eval_old (d := dd) (hT.out 5 (by decide)) (by omega) t5
            refine tbw_yield (v := .int .i64 (k : Int)) (smeR_ext w.heap.size k b1 o1 b2 o2 n x.vc y.vc (.agg C1) (.agg C2) false) hT ho hd (wanted_plain rfl) rfl (by decide) (by decide) ?_ (Ext.refl _) rfl
            generalize Act.eval ⟨over Tv U, dd⟩ = ev at *
            simp [execOp, go_sem, v0]
          | 8, ho, hlv, hd =>
            obtain rfl := Option.some.inj ho
            have f0 : U 42 = some (.slice (some ⟨b2, o2, none⟩) n y.vc) := hT.facts 6 (by decide) (dep hd 6 (by kernel_rfl)) (fun c e => by cases e)
            have v0 : Act.eval ⟨over Tv U, dd⟩ (.tmp 42) = _ := eval_new (t := Tv) (d := dd) f0 (by show 42 < Tv.size; omega)
            have f1 : U 43 = some (.int .i64 (k : Int)) := hT.facts 7 (by decide) (dep hd 7 (by kernel_rfl)) (fun c e => by cases e)
            have v1 : Act.eval ⟨over Tv U, dd⟩ (.tmp 43) = _ := eval_new (t := Tv) (d := dd) f1 (by show 43 < Tv.size; omega)
            have ki := KI.out
            refine tbw_yield (v := .pointer (some ⟨b2, o2 + k * 17, none⟩)) (smeR_ext w.heap.size k b1 o1 b2 o2 n x.vc y.vc (.agg C1) (.agg C2) false) hT ho hd (wanted_plain rfl) rfl (by decide) (by decide) ?_ (Ext.refl _) rfl
            generalize Act.eval ⟨over Tv U, dd⟩ = ev at *
            simp [execOp, go_sem, v0, v1, ki]
          | 9, ho, hlv, hd =>
            obtain rfl := Option.some.inj ho
            have f0 : U 44 = some (.pointer (some ⟨b2, o2 + k * 17, none⟩)) := hT.facts 8 (by decide) (dep hd 8 (by kernel_rfl)) (fun c e => by cases e)
            have v0 : Act.eval ⟨over Tv U, dd⟩ (.tmp 44) = _ := eval_new (t := Tv) (d := dd) f0 (by show 44 < Tv.size; omega)
            refine tbw_yield (v := .agg C2) (smeR_ext w.heap.size k b1 o1 b2 o2 n x.vc y.vc (.agg C1) (.agg C2) false) hT ho hd (wanted_plain rfl) rfl (by decide) (by decide) (exec_load_arr _ _ rfl b2 (o2 + k * 17) v0 C2 _ (hx.range RB.out) Tryz.underlying39 rfl I2.out) (Ext.refl _) rfl
          | 10, ho, hlv, hd =>
            obtain rfl := Option.some.inj ho
            have f0 : U 40 = some (.agg C1) := hT.facts 4 (by decide) (dep hd 4 (by kernel_rfl)) (fun c e => by cases e)
            have v0 : Act.eval ⟨over Tv U, dd⟩ (.tmp 40) = _ := eval_new (t := Tv) (d := dd) f0 (by show 40 < Tv.size; omega)
            have f1 : U 45 = some (.agg C2) := hT.facts 9 (by decide) (dep hd 9 (by kernel_rfl)) (fun c e => by cases e)
            have v1 : Act.eval ⟨over Tv U, dd⟩ (.tmp 45) = _ := eval_new (t := Tv) (d := dd) f1 (by show 45 < Tv.size; omega)
            refine tbw_call (f := 14) (args := #[.agg C1, .agg C2]) (smeR_ext w.heap.size k b1 o1 b2 o2 n x.vc y.vc (.agg C1) (.agg C2) false) hT ho hd (wanted_plain rfl) rfl (by decide) (by decide) (exec_call2 rfl rfl v0 v1 EN.out) ?_
            refine (K.out wz hx).mono ?_
            rintro e w' ⟨rfl, hb⟩
            exact ⟨_, rfl, hb, rfl⟩
          | 11, ho, hlv, hd =>
            obtain rfl := Option.some.inj ho
            have f0 : U 46 = some (.bool false) := hT.facts 10 (by decide) (dep hd 10 (by kernel_rfl)) (fun c e => by cases e)
            have v0 : Act.eval ⟨over Tv U, dd⟩ (.tmp 46) = _ := eval_new (t := Tv) (d := dd) f0 (by show 46 < Tv.size; omega)
            refine tbw_yield (v := .bool (!false)) (smeR_ext w.heap.size k b1 o1 b2 o2 n x.vc y.vc (.agg C1) (.agg C2) false) hT ho hd (wanted_plain rfl) rfl (by decide) (by decide) ?_ (Ext.refl _) rfl
            generalize Act.eval ⟨over Tv U, dd⟩ = ev at *
            simp [execOp, go_sem, v0]
          | i + 12, ho, _, _ => exact absurd ho (by simp)
        intro U wz hex hout hfin
        have f47 : U 47 = some (.bool (!false)) := hfin 11 (by decide) rfl
        have XE := Lib.hid hex
        clear hex hfin
        rw [over_list]
        simp (disch := decide) only [overL, Nat.reduceAdd, hout, Option.getD_none]
        rw [f47]
        simp only [Option.getD_some]
        clear hout f47
        go_wp2
        go_ret
        exact ⟨ret_bool HF.out.symm, (X2.out.trans HE.out).trans XE.out⟩
    · obtain rfl : k = n := by omega
      have HF := Lib.hid (yes_eq HV.out (by
        have h1 := Q1.out; have h2 := Q2.out
        have h3 := all_eq (n := k) (by rw [List.length_map]; exact HN.out) (by rw [List.length_map]; exact HM.out) HALL.out
        unfold EntL.ent
        unfold rxs at h2
        rw [h2, h3]
        exact congrArg (fun r : Rev.Rec => (⟨_, r, _⟩ : Ent)) h1))
      go_wp2
      go_ret
      exact ⟨ret_bool HF.out.symm, X2.out.trans HE.out⟩
end Bk
end Go.Proofs.YtfnmgcblhebdbaaGreatDoor
