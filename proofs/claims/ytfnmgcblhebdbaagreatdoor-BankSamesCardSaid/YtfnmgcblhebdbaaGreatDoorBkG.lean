/- The number of an entry, and where the entry with a number is, in the package and in the reference: contracts. Conditions: those of each theorem. -/
import Derived.Test.YtfnmgcblhebdbaaGreatDoorBkF
namespace Go.Proofs.YtfnmgcblhebdbaaGreatDoor
open Go.RowKit
namespace Bk
theorem infoEn {CS : Array Value} (h : CS.size = 7) : (Tryz.prog.info? 56).map (·.size) = some CS.size := by rw [h]; kernel_rfl
theorem infoBk {CS : Array Value} (h : CS.size = 7) : (Tryz.prog.info? 31).map (·.size) = some CS.size := by rw [h]; kernel_rfl
def ixV : Option Nat → Int
  | none => -1
  | some k => (k : Int)
theorem num_nil {e : EntL} (h : e.vs.length = 0) : num e.ent = none := by
  have : e.vs = [] := List.eq_nil_of_length_eq_zero h
  unfold num EntL.ent
  rw [this]; rfl
theorem num_last {e : EntL} {n : Nat} {x : ItL} (hn : e.vs.length = n) (hx : e.vs[n - 1]? = some x) : num e.ent = some x.1.id := by
  unfold num EntL.ent
  rw [List.length_map, hn, List.getElem?_map, hx]
  rfl
theorem ix_none {es : List EntL} {id : Int} {n : Nat} (hn : es.length = n) (h : ∀ (j : Nat) (e : EntL), j < n → es[j]? = some e → num e.ent ≠ some id) : ixV (fnd (es.map (·.ent)) id) = -1 := by
  rw [fnd_none (fun i x hx => ?_)]
  · rfl
  · rw [List.getElem?_map] at hx
    obtain ⟨y, hy, rfl⟩ := Option.map_eq_some_iff.1 hx
    exact h i y (by rw [← hn]; exact (List.getElem?_eq_some_iff.1 hy).1) hy
theorem ix_some {es : List EntL} {id : Int} {k : Nat} {e : EntL} (he : es[k]? = some e) (hn : num e.ent = some id) (h : ∀ (j : Nat) (x : EntL), j < k → es[j]? = some x → num x.ent ≠ some id) : ixV (fnd (es.map (·.ent)) id) = (k : Int) := by
  rw [fnd_some (k := k) (e := e.ent) (by rw [List.getElem?_map, he]; rfl) hn (fun i x hi hx => ?_)]
  · rfl
  · rw [List.getElem?_map] at hx
    obtain ⟨y, hy, rfl⟩ := Option.map_eq_some_iff.1 hx
    exact h i y hi hy
theorem ids_step {es : List EntL} {id : Int} {k : Nat} {e : EntL} (he : es[k]? = some e) (hn : num e.ent ≠ some id) (h : ∀ (j : Nat) (x : EntL), j < k → es[j]? = some x → num x.ent ≠ some id) : ∀ (j : Nat) (x : EntL), j < k + 1 → es[j]? = some x → num x.ent ≠ some id := fun j x hj hx => by
  rcases Nat.lt_or_ge j k with g | g
  · exact h j x g hx
  · obtain rfl : j = k := by omega
    rw [he] at hx
    injection hx with hx
    subst hx
    exact hn
set_option maxRecDepth 100000 in
set_option maxHeartbeats 12800000 in
theorem number_any (e : EntL) (w : World) (h : e.In w) (hp : 0 < e.vs.length) {v : Int} (hv : num e.ent = some v) :
    Calls Tryz.prog 71 #[e.agg] w fun r w' => r = .returned (.int .i64 v) ∧ Ext w w' := by
  obtain ⟨CE, hce, hne, -, hke⟩ := e.packed
  rw [hce]
  have j0 : CE[0]? = some (.slice e.vA e.vs.length e.vc) := by rw [← hke]; rfl
  obtain ⟨n, hn⟩ : ∃ n, e.vs.length = n := ⟨_, rfl⟩
  obtain ⟨x, hx⟩ : ∃ x, e.vs[n - 1]? = some x := ⟨e.vs[n - 1]'(by omega), List.getElem?_eq_getElem _⟩
  obtain ⟨b, off, hA, hbl, hc, -⟩ := h.vs.at_ hx
  rw [hn, hA] at j0
  rw [hn] at hp
  have hv2 : x.1.id = v := by rw [num_last hn hx] at hv; injection hv
  have X0 : Ext w (w.alloc (.cells CE 56)) := (Ext.refl _).alloc _
  have c0 : (w.alloc (.cells CE 56)).cell? ⟨w.heap.size, 0, none⟩ = some (.slice (some ⟨b, off, none⟩) n e.vc) := (World.cell?_alloc_new _ _ _ _).trans j0
  have c1 : (w.alloc (.cells CE 56)).cell? ⟨b, off + (n - 1) * 17, none⟩ = some (.int .i64 v) := X0.keep (by rw [← hv2]; exact hc 0 _ rfl)
  have h63 : n ≤ 9223372036854775807 := by
    have : n ≤ maxLen := by rw [← hn]; exact Nat.le_trans h.vc.1 h.vc.2
    unfold maxLen at this
    omega
  obtain ⟨m, hm⟩ : ∃ m, n - 1 = m := ⟨_, rfl⟩
  have hnm : n = m + 1 := by omega
  subst hnm
  rw [Nat.add_sub_cancel] at c1
  have X := Lib.hid X0
  clear h hce hne hke j0 hn hx hA hbl hc hv hv2 X0 hm hp
  go_enter Tryz.func71, Tryz.ntmps71
  go_wp2
  go_ret
  exact ⟨rfl, X.out⟩
set_option maxRecDepth 100000 in
set_option maxHeartbeats 12800000 in
theorem bfind_any (b : BankL) (id : Int) {v : Int} (hv : ixV (fnd (b.ents.map (·.ent)) id) = v) (w : World) (h : b.In w) :
    Calls Tryz.prog 38 #[b.agg, .int .i64 id] w fun e w' => e = .returned (.int .i64 v) ∧ Ext w w' := by
  obtain ⟨CB, hcb, hnb, -, hkb⟩ := b.packed
  rw [hcb]
  have j5 : CB[5]? = some (.slice b.eA b.ents.length b.ec) := by rw [← hkb]; rfl
  have HS := Lib.hid h.ents
  have h63 : b.ents.length ≤ 9223372036854775807 := by have := h.ec; unfold maxLen at this; omega
  clear h hcb hnb hkb
  obtain ⟨EA, hEA⟩ : ∃ A, b.eA = A := ⟨_, rfl⟩
  obtain ⟨es, hes⟩ : ∃ l, b.ents = l := ⟨_, rfl⟩
  obtain ⟨n, hn⟩ : ∃ n, es.length = n := ⟨_, rfl⟩
  rw [hEA, hes] at j5 HS
  rw [hes] at hv h63
  rw [hn] at j5 h63
  have HN := Lib.hid hn
  have HV := Lib.hid hv
  have X0 : Hid (Ext w (w.alloc (.cells CB 31))) := Lib.hid ((Ext.refl _).alloc _)
  have c5 : (w.alloc (.cells CB 31)).cell? ⟨w.heap.size, 5, none⟩ = some (.slice EA n b.ec) := (World.cell?_alloc_new _ _ _ _).trans j5
  clear j5 hEA hes hn hv
  go_enter Tryz.func38, Tryz.ntmps38
  go_wp2
  go_loopw [10] (fun i wr => ∃ k : Nat, k ≤ n ∧ i = .int .i64 k ∧ Hid (∀ (j : Nat) (x : EntL), j < k → es[j]? = some x → num x.ent ≠ some id) ∧ Hid (Ext w wr)) (fun i _ => n - (intOf i).toNat)
  case atStart => exact ⟨0, by omega, rfl, Lib.hid (fun j x hj => absurd hj (by omega)), X0⟩
  case round =>
    obtain ⟨k, hk, rfl, HA, HE⟩ := hrel
    clear c5
    by_cases hlt : k < n
    · obtain ⟨e, hx⟩ : ∃ x, es[k]? = some x := ⟨es[k]'(by rw [HN.out]; exact hlt), List.getElem?_eq_getElem _⟩
      obtain ⟨bb, off, rfl, hbl, hc, hin⟩ := (HS.out.ext HE.out).at_ hx
      obtain ⟨CE, hce, hne, h1e, hke⟩ := e.packed
      have HC : Hid (wr.rangeAt bb (off + k * 7) CE.toList) := Lib.hid (by rw [← hke]; exact hc)
      have IE := Lib.hid (infoEn hne)
      have NE := Lib.hid hne
      have OE := Lib.hid h1e
      have HX := Lib.hid hx
      have ki0 : (0 : Int) ≤ (k : Int) := by omega
      have ki1 : (k : Int) < (n : Int) := by omega
      have XA : Hid (Ext wr (wr.alloc (.cells CE 56))) := Lib.hid ((Ext.refl _).alloc _)
      obtain ⟨nv, hnv⟩ : ∃ n, e.vs.length = n := ⟨_, rfl⟩
      have c0 : (wr.alloc (.cells CE 56)).cell? ⟨wr.heap.size, 0, none⟩ = some (.slice e.vA nv e.vc) := (World.cell?_alloc_new _ _ _ _).trans (by rw [← hke, ← hnv]; rfl)
      have hv63 : nv ≤ 9223372036854775807 := by have := hin.vc; unfold maxLen at this; omega
      have HIN := Lib.hid hin
      clear hx hc hin hne h1e hke
      by_cases h0 : nv = 0
      · have HF := Lib.hid (ids_step HX.out (by rw [num_nil (hnv.trans h0)]; simp) HA.out)
        subst h0
        clear hnv hce
        go_wp2_with (first
          | (with_reducible refine wpList_load_arr rfl 56 (.tmp 13) rfl bb (off + k * 7) (by with_unfolding_all rfl) CE _ HC.out Tryz.underlying56 rfl IE.out ?_)
          | (with_reducible refine wpList_store_new rfl 56 (.tmp 6) (.tmp 14) rfl _ CE 56 (by with_unfolding_all rfl) (by with_unfolding_all rfl) IE.out (by with_unfolding_all exact NE.out.symm) OE.out ?_))
        go_roundw
        case rel => exact ⟨k + 1, by omega, by go_num, HF, Lib.hid (HE.out.trans XA.out)⟩
        case measure => simp [intOf]; omega
      · obtain ⟨x, hx⟩ : ∃ x, e.vs[nv - 1]? = some x := ⟨e.vs[nv - 1]'(by omega), List.getElem?_eq_getElem _⟩
        have HNU := Lib.hid (num_last hnv hx)
        obtain ⟨q, hq⟩ : ∃ q, x.1.id = q := ⟨_, rfl⟩
        rw [hq] at HNU
        have K := Lib.hid (number_any e _ (HIN.out.ext XA.out) (by omega) HNU.out)
        rw [hce] at K
        have hp : 0 < nv := by omega
        have hp0 : (0 : Int) < (nv : Int) := by omega
        have hd : decide ((0 : Int) < (nv : Int)) = true := decide_eq_true hp0
        clear hnv hce hx hq h0
        by_cases hqi : q = id
        · have t0 : (q == id) = true := by rw [beq_iff_eq]; exact hqi
          have HF : Hid (v = (k : Int)) := Lib.hid (by rw [← HV.out]; exact ix_some HX.out (by rw [HNU.out, hqi]) HA.out)
          clear hqi
          go_wp2_with (first
            | (with_reducible refine wpList_load_arr rfl 56 (.tmp 13) rfl bb (off + k * 7) (by with_unfolding_all rfl) CE _ HC.out Tryz.underlying56 rfl IE.out ?_)
            | (with_reducible refine wpList_store_new rfl 56 (.tmp 6) (.tmp 14) rfl _ CE 56 (by with_unfolding_all rfl) (by with_unfolding_all rfl) IE.out (by with_unfolding_all exact NE.out.symm) OE.out ?_)
            | (refine wpList_load_row_w rfl 56 (.tmp 6) rfl wr.heap.size rfl _ CE _ _ (heap_alloc_last wr _) Tryz.underlying56 rfl IE.out ?_))
          with_reducible refine K.out.mono ?_
          rintro e w3 ⟨rfl, hb3⟩
          go_wp2
          go_ret
          exact ⟨ret_int HF.out.symm, (HE.out.trans XA.out).trans hb3⟩
        · have t0 : (q == id) = false := by rw [beq_eq_false_iff_ne]; exact hqi
          have HF := Lib.hid (ids_step HX.out (by rw [HNU.out]; intro e; injection e with e; exact hqi e) HA.out)
          clear hqi
          go_wp2_with (first
            | (with_reducible refine wpList_load_arr rfl 56 (.tmp 13) rfl bb (off + k * 7) (by with_unfolding_all rfl) CE _ HC.out Tryz.underlying56 rfl IE.out ?_)
            | (with_reducible refine wpList_store_new rfl 56 (.tmp 6) (.tmp 14) rfl _ CE 56 (by with_unfolding_all rfl) (by with_unfolding_all rfl) IE.out (by with_unfolding_all exact NE.out.symm) OE.out ?_)
            | (refine wpList_load_row_w rfl 56 (.tmp 6) rfl wr.heap.size rfl _ CE _ _ (heap_alloc_last wr _) Tryz.underlying56 rfl IE.out ?_))
          with_reducible refine K.out.mono ?_
          rintro e w3 ⟨rfl, hb3⟩
          have HE3 := Lib.hid ((HE.out.trans XA.out).trans hb3)
          clear hb3
          go_wp2
          go_roundw
          case rel => exact ⟨k + 1, by omega, by go_num, HF, HE3⟩
          case measure => simp [intOf]; omega
    · obtain rfl : k = n := by omega
      have HF : Hid (v = -1) := Lib.hid (by rw [← HV.out]; exact ix_none HN.out HA.out)
      go_wp2
      go_ret
      exact ⟨ret_int HF.out.symm, HE.out⟩
set_option maxRecDepth 100000 in
set_option maxHeartbeats 12800000 in
theorem rat_any (b : BankL) (id : Int) {v : Int} (hv : ixV (fnd (b.ents.map (·.ent)) id) = v) (w : World) (h : b.In w) :
    Calls Tryz.prog 41 #[b.agg, .int .i64 id] w fun e w' => e = .returned (.int .i64 v) ∧ Ext w w' := by
  obtain ⟨CB, hcb, hnb, -, hkb⟩ := b.packed
  rw [hcb]
  have j5 : CB[5]? = some (.slice b.eA b.ents.length b.ec) := by rw [← hkb]; rfl
  have HS := Lib.hid h.ents
  have h63 : b.ents.length ≤ 9223372036854775807 := by have := h.ec; unfold maxLen at this; omega
  clear h hcb hnb hkb
  obtain ⟨EA, hEA⟩ : ∃ A, b.eA = A := ⟨_, rfl⟩
  obtain ⟨es, hes⟩ : ∃ l, b.ents = l := ⟨_, rfl⟩
  obtain ⟨n, hn⟩ : ∃ n, es.length = n := ⟨_, rfl⟩
  rw [hEA, hes] at j5 HS
  rw [hes] at hv h63
  rw [hn] at j5 h63
  have HN := Lib.hid hn
  have HV := Lib.hid hv
  have X0 : Hid (Ext w (w.alloc (.cells CB 31))) := Lib.hid ((Ext.refl _).alloc _)
  have c5 : (w.alloc (.cells CB 31)).cell? ⟨w.heap.size, 5, none⟩ = some (.slice EA n b.ec) := (World.cell?_alloc_new _ _ _ _).trans j5
  clear j5 hEA hes hn hv
  go_enter Tryz.func41, Tryz.ntmps41
  go_wp2
  go_loop [5] (fun i => ∃ k : Nat, k ≤ n ∧ i = .int .i64 k ∧ Hid (∀ (j : Nat) (x : EntL), j < k → es[j]? = some x → num x.ent ≠ some id)) (fun i => n - (intOf i).toNat)
  case atStart => exact ⟨0, by omega, rfl, Lib.hid (fun j x hj => absurd hj (by omega))⟩
  case round =>
    obtain ⟨k, hk, rfl, HA⟩ := hrel
    by_cases hlt : k < n
    · obtain ⟨e, hx⟩ : ∃ x, es[k]? = some x := ⟨es[k]'(by rw [HN.out]; exact hlt), List.getElem?_eq_getElem _⟩
      obtain ⟨bb, off, rfl, hbl, hc, hin⟩ := (HS.out.ext X0.out).at_ hx
      have HX := Lib.hid hx
      have ki0 : (0 : Int) ≤ (k : Int) := by omega
      have ki1 : (k : Int) < (n : Int) := by omega
      obtain ⟨nv, hnv⟩ : ∃ n, e.vs.length = n := ⟨_, rfl⟩
      obtain ⟨VA, hVA⟩ : ∃ A, e.vA = A := ⟨_, rfl⟩
      have c0 : (w.alloc (.cells CB 31)).cell? ⟨bb, off + k * 7, none⟩ = some (.slice VA nv e.vc) := by rw [← hVA, ← hnv]; exact hc 0 _ rfl
      have hv63 : nv ≤ 9223372036854775807 := by have := hin.vc; unfold maxLen at this; omega
      have HIN := Lib.hid hin.vs
      rw [hVA] at HIN
      clear hx hc hin hVA
      by_cases h0 : nv = 0
      · have HF := Lib.hid (ids_step HX.out (by rw [num_nil (hnv.trans h0)]; simp) HA.out)
        subst h0
        clear hnv
        go_wp2
        go_round
        case rel => exact ⟨k + 1, by omega, by go_num, HF⟩
        case measure => simp [intOf]; omega
      · obtain ⟨m, rfl⟩ : ∃ m, nv = m + 1 := ⟨nv - 1, by omega⟩
        obtain ⟨x, hx⟩ : ∃ x, e.vs[m]? = some x := ⟨e.vs[m]'(by omega), List.getElem?_eq_getElem _⟩
        have HNU := Lib.hid (num_last hnv (by rw [Nat.add_sub_cancel]; exact hx))
        obtain ⟨b2, off2, rfl, hbl2, hc2, -⟩ := HIN.out.at_ hx
        obtain ⟨q, hq⟩ : ∃ q, x.1.id = q := ⟨_, rfl⟩
        rw [hq] at HNU
        have c1 : (w.alloc (.cells CB 31)).cell? ⟨b2, off2 + m * 17, none⟩ = some (.int .i64 q) := by rw [← hq]; exact hc2 0 _ rfl
        clear hnv hx hq h0 hc2
        by_cases hqi : q = id
        · have t0 : (q == id) = true := by rw [beq_iff_eq]; exact hqi
          have HF : Hid (v = (k : Int)) := Lib.hid (by rw [← HV.out]; exact ix_some HX.out (by rw [HNU.out, hqi]) HA.out)
          clear hqi
          go_wp2
          go_ret
          exact ⟨ret_int HF.out.symm, X0.out⟩
        · have t0 : (q == id) = false := by rw [beq_eq_false_iff_ne]; exact hqi
          have HF := Lib.hid (ids_step HX.out (by rw [HNU.out]; intro e; injection e with e; exact hqi e) HA.out)
          clear hqi
          go_wp2
          go_round
          case rel => exact ⟨k + 1, by omega, by go_num, HF⟩
          case measure => simp [intOf]; omega
    · obtain rfl : k = n := by omega
      have HF : Hid (v = -1) := Lib.hid (by rw [← HV.out]; exact ix_none HN.out HA.out)
      go_wp2
      go_ret
      exact ⟨ret_int HF.out.symm, X0.out⟩
end Bk
end Go.Proofs.YtfnmgcblhebdbaaGreatDoor
