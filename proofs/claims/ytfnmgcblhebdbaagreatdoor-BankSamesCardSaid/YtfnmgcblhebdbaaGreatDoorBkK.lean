/- The reference's comparisons of lists and items: contracts. Conditions: those of each theorem. -/
import Derived.Test.YtfnmgcblhebdbaaGreatDoorBkB
import Derived.Test.YtfnmgcblhebdbaaGreatDoorBkD
namespace Go.Proofs.YtfnmgcblhebdbaaGreatDoor
open Go.RowKit
namespace Bk
theorem strT {a b : ByteArray} (h : a = b) : (a.toList == b.toList) = true := by rw [h]; simp
theorem strF {a b : ByteArray} (h : a ≠ b) : (a.toList == b.toList) = false := by
  rw [beq_eq_false_iff_ne]
  intro e
  rw [ByteArray.toList_eq, ByteArray.toList_eq] at e
  apply h
  cases a; cases b
  simp at e
  simpa using e
theorem no_eq {P : Prop} {v : Bool} (hv : v = true ↔ P) (h : ¬ P) : v = false := by cases v with | false => rfl | true => exact absurd (hv.1 rfl) h
theorem yes_eq {P : Prop} {v : Bool} (hv : v = true ↔ P) (h : P) : v = true := hv.2 h
theorem tr {P : Prop} (h : P) : true = true ↔ P := ⟨fun _ => h, fun _ => rfl⟩
theorem fa {P : Prop} (h : ¬ P) : false = true ↔ P := ⟨fun e => (by cases e), fun p => absurd p h⟩
theorem all_eq {α : Type} {a b : List α} {n : Nat} (hn : a.length = n) (hm : b.length = n) (h : ∀ j, j < n → a[j]? = b[j]?) : a = b := by
  apply List.ext_getElem?
  intro j
  rcases Nat.lt_or_ge j n with g | g
  · exact h j g
  · rw [List.getElem?_eq_none (by omega), List.getElem?_eq_none (by omega)]
theorem all_next {α : Type} {a b : List α} {k : Nat} {x y : α} (hx : a[k]? = some x) (hy : b[k]? = some y) (he : x = y) (h : ∀ j, j < k → a[j]? = b[j]?) : ∀ j, j < k + 1 → a[j]? = b[j]? := fun j hj => by
  rcases Nat.lt_or_ge j k with g | g
  · exact h j g
  · obtain rfl : j = k := by omega
    rw [hx, hy, he]
theorem ne_at {α : Type} {a b : List α} {k : Nat} {x y : α} (hx : a[k]? = some x) (hy : b[k]? = some y) (he : x ≠ y) : ¬ a = b := fun e => by
  rw [e, hy] at hx
  injection hx with hx
  exact he hx.symm
theorem SlS.at_' {w : World} {A : Option Addr} {xs : List ByteArray} (h : SlS w A xs) {i : Nat} {x : ByteArray} (hx : xs[i]? = some x) : ∃ b off, A = some ⟨b, off, none⟩ ∧ b < w.heap.size ∧ w.cell? ⟨b, off + i, none⟩ = some (.string x) := by
  obtain ⟨b, off, hA, hb, hc⟩ := Sl.at_ (i := i) (cs := [.string x]) h (by simp [hx])
  refine ⟨b, off, hA, hb, ?_⟩
  have := hc 0 _ rfl
  simpa using this
theorem SlI.at_' {w : World} {A : Option Addr} {xs : List Int} (h : SlI w A xs) {i : Nat} {x : Int} (hx : xs[i]? = some x) : ∃ b off, A = some ⟨b, off, none⟩ ∧ b < w.heap.size ∧ w.cell? ⟨b, off + i, none⟩ = some (.int .i64 x) := by
  obtain ⟨b, off, hA, hb, hc⟩ := Sl.at_ (i := i) (cs := [.int .i64 x]) h (by simp [hx])
  refine ⟨b, off, hA, hb, ?_⟩
  have := hc 0 _ rfl
  simpa using this
set_option maxRecDepth 100000 in
set_option maxHeartbeats 12800000 in
theorem rints_any (A : Option Addr) (c : Nat) (a : List Int) (B : Option Addr) (d : Nat) (b : List Int) {n m : Nat} (hn : a.length = n) (hm : b.length = m) {v : Bool} (hv : v = true ↔ a = b) (hl : n ≤ 9223372036854775807) (w : World) (ha : SlI w A a) (hb : SlI w B b) :
    Calls Tryz.prog 37 #[.slice A n c, .slice B m d] w fun e w' => e = .returned (.bool v) ∧ Ext w w' := by
  have HA := Lib.hid ha
  have HB := Lib.hid hb
  have HN := Lib.hid hn
  have HM := Lib.hid hm
  have HV := Lib.hid hv
  clear ha hb hn hm hv
  by_cases hnm : n = m
  case neg =>
    have hl' : ((n : Int) != (m : Int)) = true := by rw [bne_iff_ne]; omega
    have HF := Lib.hid (no_eq HV.out (fun e => hnm (by rw [← HN.out, ← HM.out, e])))
    clear hnm
    go_enter Tryz.func37, Tryz.ntmps37
    go_wp2
    go_ret
    exact ⟨ret_bool HF.out.symm, Ext.refl _⟩
  subst hnm
  have hl' : ((n : Int) != (n : Int)) = false := by simp
  go_enter Tryz.func37, Tryz.ntmps37
  go_wp2
  go_loopw [5] (fun i wr => ∃ k : Nat, k ≤ n ∧ i = .int .i64 k ∧ Hid (∀ j, j < k → a[j]? = b[j]?) ∧ Hid (Ext w wr)) (fun i _ => n - (intOf i).toNat)
  case atStart => exact ⟨0, by omega, rfl, Lib.hid (fun j hj => absurd hj (by omega)), Lib.hid (Ext.refl _)⟩
  case round =>
    obtain ⟨k, hk, rfl, HALL, HE⟩ := hrel
    by_cases hlt : k < n
    · obtain ⟨x, hx⟩ : ∃ x, a[k]? = some x := ⟨a[k]'(by rw [HN.out]; exact hlt), List.getElem?_eq_getElem _⟩
      obtain ⟨y, hy⟩ : ∃ x, b[k]? = some x := ⟨b[k]'(by rw [HM.out]; exact hlt), List.getElem?_eq_getElem _⟩
      obtain ⟨ba, oa, rfl, hba, cx⟩ := SlI.at_' (HA.out.ext HE.out) hx
      obtain ⟨bb, ob, rfl, hbb, cy⟩ := SlI.at_' (HB.out.ext HE.out) hy
      have ki0 : (0 : Int) ≤ (k : Int) := by omega
      have ki1 : (k : Int) < (n : Int) := by omega
      have HX := Lib.hid hx
      have HY := Lib.hid hy
      clear hx hy
      by_cases hxy : x = y
      · have t0 : (x != y) = false := by rw [hxy]; simp
        have HF := Lib.hid (all_next HX.out HY.out hxy HALL.out)
        clear hxy
        go_wp2
        go_quiet (fail)
        go_wp2
        go_roundw
        case rel => exact ⟨k + 1, by omega, by go_num, HF, Lib.hid (HE.out.drewN _)⟩
        case measure => simp [intOf]; omega
      · have t0 : (x != y) = true := by rw [bne_iff_ne]; exact hxy
        have HF := Lib.hid (no_eq HV.out (ne_at HX.out HY.out hxy))
        clear hxy
        go_wp2
        go_quiet (fail)
        go_wp2
        go_ret
        exact ⟨ret_bool HF.out.symm, HE.out.drewN _⟩
    · obtain rfl : k = n := by omega
      have HF := Lib.hid (yes_eq HV.out (all_eq HN.out HM.out HALL.out))
      go_wp2
      go_ret
      exact ⟨ret_bool HF.out.symm, HE.out⟩
set_option maxRecDepth 100000 in
set_option maxHeartbeats 12800000 in
theorem rtexts_any (A : Option Addr) (c : Nat) (a : List ByteArray) (B : Option Addr) (d : Nat) (b : List ByteArray) {n m : Nat} (hn : a.length = n) (hm : b.length = m) {v : Bool} (hv : v = true ↔ a = b) (hl : n ≤ 9223372036854775807) (w : World) (ha : SlS w A a) (hb : SlS w B b) :
    Calls Tryz.prog 40 #[.slice A n c, .slice B m d] w fun e w' => e = .returned (.bool v) ∧ Ext w w' := by
  have HA := Lib.hid ha
  have HB := Lib.hid hb
  have HN := Lib.hid hn
  have HM := Lib.hid hm
  have HV := Lib.hid hv
  clear ha hb hn hm hv
  by_cases hnm : n = m
  case neg =>
    have hl' : ((n : Int) != (m : Int)) = true := by rw [bne_iff_ne]; omega
    have HF := Lib.hid (no_eq HV.out (fun e => hnm (by rw [← HN.out, ← HM.out, e])))
    clear hnm
    go_enter Tryz.func40, Tryz.ntmps40
    go_wp2
    go_ret
    exact ⟨ret_bool HF.out.symm, Ext.refl _⟩
  subst hnm
  have hl' : ((n : Int) != (n : Int)) = false := by simp
  go_enter Tryz.func40, Tryz.ntmps40
  go_wp2
  go_loopw [5] (fun i wr => ∃ k : Nat, k ≤ n ∧ i = .int .i64 k ∧ Hid (∀ j, j < k → a[j]? = b[j]?) ∧ Hid (Ext w wr)) (fun i _ => n - (intOf i).toNat)
  case atStart => exact ⟨0, by omega, rfl, Lib.hid (fun j hj => absurd hj (by omega)), Lib.hid (Ext.refl _)⟩
  case round =>
    obtain ⟨k, hk, rfl, HALL, HE⟩ := hrel
    by_cases hlt : k < n
    · obtain ⟨x, hx⟩ : ∃ x, a[k]? = some x := ⟨a[k]'(by rw [HN.out]; exact hlt), List.getElem?_eq_getElem _⟩
      obtain ⟨y, hy⟩ : ∃ x, b[k]? = some x := ⟨b[k]'(by rw [HM.out]; exact hlt), List.getElem?_eq_getElem _⟩
      obtain ⟨ba, oa, rfl, hba, cx⟩ := SlS.at_' (HA.out.ext HE.out) hx
      obtain ⟨bb, ob, rfl, hbb, cy⟩ := SlS.at_' (HB.out.ext HE.out) hy
      have ki0 : (0 : Int) ≤ (k : Int) := by omega
      have ki1 : (k : Int) < (n : Int) := by omega
      have HX := Lib.hid hx
      have HY := Lib.hid hy
      clear hx hy
      by_cases hxy : x = y
      · have t0 := strT hxy
        have HF := Lib.hid (all_next HX.out HY.out hxy HALL.out)
        clear hxy
        go_wp2
        go_quiet (fail)
        go_wp2
        go_roundw
        case rel => exact ⟨k + 1, by omega, by go_num, HF, Lib.hid (HE.out.drewN _)⟩
        case measure => simp [intOf]; omega
      · have t0 := strF hxy
        have HF := Lib.hid (no_eq HV.out (ne_at HX.out HY.out hxy))
        clear hxy
        go_wp2
        go_quiet (fail)
        go_wp2
        go_ret
        exact ⟨ret_bool HF.out.symm, HE.out.drewN _⟩
    · obtain rfl : k = n := by omega
      have HF := Lib.hid (yes_eq HV.out (all_eq HN.out HM.out HALL.out))
      go_wp2
      go_ret
      exact ⟨ret_bool HF.out.symm, HE.out⟩
theorem item_ext {a b : It.Item} (h0 : a.id = b.id) (h1 : a.ver = b.ver) (h2 : a.kind = b.kind) (h3 : a.stem = b.stem) (h4 : a.opts = b.opts) (h5 : a.chs = b.chs) (h6 : a.value = b.value) (h7 : a.tol = b.tol) (h8 : a.texts = b.texts) (h9 : a.pts = b.pts) (h10 : a.cont = b.cont) (h11 : a.fam = b.fam) (h12 : a.set_ = b.set_) (h13 : a.wrd = b.wrd) (h14 : a.sec = b.sec) (h15 : a.assets = b.assets) (h16 : a.rub = b.rub) : a = b := by
  cases a; cases b
  simp only at *
  subst h0 h1 h2 h3 h4 h5 h6 h7 h8 h9 h10 h11 h12 h13 h14 h15 h16
  rfl
set_option maxRecDepth 100000 in
set_option maxHeartbeats 12800000 in
theorem rsameItem_any (x y : ItL) {v : Bool} (hv : v = true ↔ x.1 = y.1) (w : World) (hx : It.In w x.1 x.2) (hy : It.In w y.1 y.2) :
    Calls Tryz.prog 14 #[It.agg x.1 x.2, It.agg y.1 y.2] w fun e w' => e = .returned (.bool v) ∧ Ext w w' := by
  obtain ⟨CA, hca, hna, -, hka⟩ := itp x
  obtain ⟨CB, hcb, hnb, -, hkb⟩ := itp y
  rw [hca, hcb]
  have HV := Lib.hid hv
  have HX := Lib.hid hx
  have HY := Lib.hid hy
  have X_0 : Hid (Ext w ((w.alloc (.cells CA 39)).alloc (.cells CB 39))) := Lib.hid (((Ext.refl _).alloc _).alloc _)
  have HA_0 : Hid (((w.alloc (.cells CA 39)).alloc (.cells CB 39)).heap[w.heap.size]? = some (.cells CA 39 (0, 0))) := Lib.hid (two_fst' _ _ _)
  have HB_0 : Hid (((w.alloc (.cells CA 39)).alloc (.cells CB 39)).heap[w.heap.size + 1]? = some (.cells CB 39 (0, 0))) := Lib.hid (heap_new_at _ _ _ (by simp))
  have JA0 : Hid (CA[0]? = some (.int .i64 x.1.id)) := Lib.hid (by rw [← hka]; rfl)
  have JB0 : Hid (CB[0]? = some (.int .i64 y.1.id)) := Lib.hid (by rw [← hkb]; rfl)
  have JA1 : Hid (CA[1]? = some (.int .i64 x.1.ver)) := Lib.hid (by rw [← hka]; rfl)
  have JB1 : Hid (CB[1]? = some (.int .i64 y.1.ver)) := Lib.hid (by rw [← hkb]; rfl)
  have JA2 : Hid (CA[2]? = some (.int .i64 x.1.kind)) := Lib.hid (by rw [← hka]; rfl)
  have JB2 : Hid (CB[2]? = some (.int .i64 y.1.kind)) := Lib.hid (by rw [← hkb]; rfl)
  have JA3 : Hid (CA[3]? = some (.string x.1.stem)) := Lib.hid (by rw [← hka]; rfl)
  have JB3 : Hid (CB[3]? = some (.string y.1.stem)) := Lib.hid (by rw [← hkb]; rfl)
  obtain ⟨n4, hn4⟩ : ∃ n, x.1.opts.length = n := ⟨_, rfl⟩
  obtain ⟨m4, hm4⟩ : ∃ n, y.1.opts.length = n := ⟨_, rfl⟩
  have JA4 : Hid (CA[4]? = some (.slice x.2.oA n4 x.2.oc)) := Lib.hid (by rw [← hka, ← hn4]; rfl)
  have JB4 : Hid (CB[4]? = some (.slice y.2.oA m4 y.2.oc)) := Lib.hid (by rw [← hkb, ← hm4]; rfl)
  have hl4 : n4 ≤ 9223372036854775807 := by have := hx.oc; unfold maxLen at this; omega
  have HNA4 := Lib.hid hn4
  have HNB4 := Lib.hid hm4
  clear hn4 hm4
  obtain ⟨n5, hn5⟩ : ∃ n, x.1.chs.length = n := ⟨_, rfl⟩
  obtain ⟨m5, hm5⟩ : ∃ n, y.1.chs.length = n := ⟨_, rfl⟩
  have JA5 : Hid (CA[5]? = some (.slice x.2.cA n5 x.2.cc)) := Lib.hid (by rw [← hka, ← hn5]; rfl)
  have JB5 : Hid (CB[5]? = some (.slice y.2.cA m5 y.2.cc)) := Lib.hid (by rw [← hkb, ← hm5]; rfl)
  have hl5 : n5 ≤ 9223372036854775807 := by have := hx.cc; unfold maxLen at this; omega
  have HNA5 := Lib.hid hn5
  have HNB5 := Lib.hid hm5
  clear hn5 hm5
  have JA6 : Hid (CA[6]? = some (.int .i64 x.1.value)) := Lib.hid (by rw [← hka]; rfl)
  have JB6 : Hid (CB[6]? = some (.int .i64 y.1.value)) := Lib.hid (by rw [← hkb]; rfl)
  have JA7 : Hid (CA[7]? = some (.int .i64 x.1.tol)) := Lib.hid (by rw [← hka]; rfl)
  have JB7 : Hid (CB[7]? = some (.int .i64 y.1.tol)) := Lib.hid (by rw [← hkb]; rfl)
  obtain ⟨n8, hn8⟩ : ∃ n, x.1.texts.length = n := ⟨_, rfl⟩
  obtain ⟨m8, hm8⟩ : ∃ n, y.1.texts.length = n := ⟨_, rfl⟩
  have JA8 : Hid (CA[8]? = some (.slice x.2.tA n8 x.2.tc)) := Lib.hid (by rw [← hka, ← hn8]; rfl)
  have JB8 : Hid (CB[8]? = some (.slice y.2.tA m8 y.2.tc)) := Lib.hid (by rw [← hkb, ← hm8]; rfl)
  have hl8 : n8 ≤ 9223372036854775807 := by have := hx.tc; unfold maxLen at this; omega
  have HNA8 := Lib.hid hn8
  have HNB8 := Lib.hid hm8
  clear hn8 hm8
  have JA9 : Hid (CA[9]? = some (.int .i64 x.1.pts)) := Lib.hid (by rw [← hka]; rfl)
  have JB9 : Hid (CB[9]? = some (.int .i64 y.1.pts)) := Lib.hid (by rw [← hkb]; rfl)
  have JA10 : Hid (CA[10]? = some (.string x.1.cont)) := Lib.hid (by rw [← hka]; rfl)
  have JB10 : Hid (CB[10]? = some (.string y.1.cont)) := Lib.hid (by rw [← hkb]; rfl)
  have JA11 : Hid (CA[11]? = some (.int .i64 x.1.fam)) := Lib.hid (by rw [← hka]; rfl)
  have JB11 : Hid (CB[11]? = some (.int .i64 y.1.fam)) := Lib.hid (by rw [← hkb]; rfl)
  have JA12 : Hid (CA[12]? = some (.int .i64 x.1.set_)) := Lib.hid (by rw [← hka]; rfl)
  have JB12 : Hid (CB[12]? = some (.int .i64 y.1.set_)) := Lib.hid (by rw [← hkb]; rfl)
  have JA13 : Hid (CA[13]? = some (.int .i64 x.1.wrd)) := Lib.hid (by rw [← hka]; rfl)
  have JB13 : Hid (CB[13]? = some (.int .i64 y.1.wrd)) := Lib.hid (by rw [← hkb]; rfl)
  have JA14 : Hid (CA[14]? = some (.int .i64 x.1.sec)) := Lib.hid (by rw [← hka]; rfl)
  have JB14 : Hid (CB[14]? = some (.int .i64 y.1.sec)) := Lib.hid (by rw [← hkb]; rfl)
  obtain ⟨n15, hn15⟩ : ∃ n, x.1.assets.length = n := ⟨_, rfl⟩
  obtain ⟨m15, hm15⟩ : ∃ n, y.1.assets.length = n := ⟨_, rfl⟩
  have JA15 : Hid (CA[15]? = some (.slice x.2.sA n15 x.2.sc)) := Lib.hid (by rw [← hka, ← hn15]; rfl)
  have JB15 : Hid (CB[15]? = some (.slice y.2.sA m15 y.2.sc)) := Lib.hid (by rw [← hkb, ← hm15]; rfl)
  have hl15 : n15 ≤ 9223372036854775807 := by have := hx.sc; unfold maxLen at this; omega
  have HNA15 := Lib.hid hn15
  have HNB15 := Lib.hid hm15
  clear hn15 hm15
  have JA16 : Hid (CA[16]? = some (.int .i64 x.1.rub)) := Lib.hid (by rw [← hka]; rfl)
  have JB16 : Hid (CB[16]? = some (.int .i64 y.1.rub)) := Lib.hid (by rw [← hkb]; rfl)
  clear hv hx hy hca hcb hna hnb hka hkb
  go_enter Tryz.func14, Tryz.ntmps14
  have ca0 : ((w.alloc (.cells CA 39)).alloc (.cells CB 39)).cell? ⟨w.heap.size, 0, none⟩ = some (.int .i64 x.1.id) := (cell_of_row _ _ 0 _ _ _ HA_0.out).trans JA0.out
  have cb0 : ((w.alloc (.cells CA 39)).alloc (.cells CB 39)).cell? ⟨w.heap.size + 1, 0, none⟩ = some (.int .i64 y.1.id) := (cell_of_row _ _ 0 _ _ _ HB_0.out).trans JB0.out
  have ca1 : ((w.alloc (.cells CA 39)).alloc (.cells CB 39)).cell? ⟨w.heap.size, 1, none⟩ = some (.int .i64 x.1.ver) := (cell_of_row _ _ 1 _ _ _ HA_0.out).trans JA1.out
  have cb1 : ((w.alloc (.cells CA 39)).alloc (.cells CB 39)).cell? ⟨w.heap.size + 1, 1, none⟩ = some (.int .i64 y.1.ver) := (cell_of_row _ _ 1 _ _ _ HB_0.out).trans JB1.out
  have ca2 : ((w.alloc (.cells CA 39)).alloc (.cells CB 39)).cell? ⟨w.heap.size, 2, none⟩ = some (.int .i64 x.1.kind) := (cell_of_row _ _ 2 _ _ _ HA_0.out).trans JA2.out
  have cb2 : ((w.alloc (.cells CA 39)).alloc (.cells CB 39)).cell? ⟨w.heap.size + 1, 2, none⟩ = some (.int .i64 y.1.kind) := (cell_of_row _ _ 2 _ _ _ HB_0.out).trans JB2.out
  have ca3 : ((w.alloc (.cells CA 39)).alloc (.cells CB 39)).cell? ⟨w.heap.size, 3, none⟩ = some (.string x.1.stem) := (cell_of_row _ _ 3 _ _ _ HA_0.out).trans JA3.out
  have cb3 : ((w.alloc (.cells CA 39)).alloc (.cells CB 39)).cell? ⟨w.heap.size + 1, 3, none⟩ = some (.string y.1.stem) := (cell_of_row _ _ 3 _ _ _ HB_0.out).trans JB3.out
  have ca4 : ((w.alloc (.cells CA 39)).alloc (.cells CB 39)).cell? ⟨w.heap.size, 4, none⟩ = some (.slice x.2.oA n4 x.2.oc) := (cell_of_row _ _ 4 _ _ _ HA_0.out).trans JA4.out
  have cb4 : ((w.alloc (.cells CA 39)).alloc (.cells CB 39)).cell? ⟨w.heap.size + 1, 4, none⟩ = some (.slice y.2.oA m4 y.2.oc) := (cell_of_row _ _ 4 _ _ _ HB_0.out).trans JB4.out
  by_cases hq : x.1.id = y.1.id
  case neg =>
    have HF := Lib.hid (no_eq HV.out (fun e => hq (by rw [e])))
    have t0 : (x.1.id != y.1.id) = true := by rw [bne_iff_ne]; exact hq
    clear hq
    go_wp2
    go_ret
    exact ⟨ret_bool HF.out.symm, X_0.out⟩
  have Q0 := Lib.hid hq
  have t0 : (x.1.id != y.1.id) = false := by rw [hq]; simp
  clear hq
  by_cases hq : x.1.ver = y.1.ver
  case neg =>
    have HF := Lib.hid (no_eq HV.out (fun e => hq (by rw [e])))
    have t1 : (x.1.ver != y.1.ver) = true := by rw [bne_iff_ne]; exact hq
    clear hq
    go_wp2
    go_ret
    exact ⟨ret_bool HF.out.symm, X_0.out⟩
  have Q1 := Lib.hid hq
  have t1 : (x.1.ver != y.1.ver) = false := by rw [hq]; simp
  clear hq
  by_cases hq : x.1.kind = y.1.kind
  case neg =>
    have HF := Lib.hid (no_eq HV.out (fun e => hq (by rw [e])))
    have t2 : (x.1.kind != y.1.kind) = true := by rw [bne_iff_ne]; exact hq
    clear hq
    go_wp2
    go_ret
    exact ⟨ret_bool HF.out.symm, X_0.out⟩
  have Q2 := Lib.hid hq
  have t2 : (x.1.kind != y.1.kind) = false := by rw [hq]; simp
  clear hq
  by_cases hq : x.1.stem = y.1.stem
  case neg =>
    have HF := Lib.hid (no_eq HV.out (fun e => hq (by rw [e])))
    have t3 := strF hq
    clear hq
    go_wp2
    go_ret
    exact ⟨ret_bool HF.out.symm, X_0.out⟩
  have Q3 := Lib.hid hq
  have t3 := strT hq
  clear hq
  by_cases hq : x.1.opts = y.1.opts
  case neg =>
    have HF := Lib.hid (no_eq HV.out (fun e => hq (by rw [e])))
    have K := Lib.hid (rtexts_any x.2.oA x.2.oc x.1.opts y.2.oA y.2.oc y.1.opts HNA4.out HNB4.out (fa hq) hl4 ((w.alloc (.cells CA 39)).alloc (.cells CB 39)) (HX.out.ext X_0.out).o (HY.out.ext X_0.out).o)
    clear hq
    go_wp2_with fail
    with_reducible refine K.out.mono ?_
    rintro e w9 ⟨rfl, hb⟩
    go_wp2
    go_ret
    exact ⟨ret_bool HF.out.symm, X_0.out.trans hb⟩
  have Q4 := Lib.hid hq
  have K := Lib.hid (rtexts_any x.2.oA x.2.oc x.1.opts y.2.oA y.2.oc y.1.opts HNA4.out HNB4.out (tr hq) hl4 ((w.alloc (.cells CA 39)).alloc (.cells CB 39)) (HX.out.ext X_0.out).o (HY.out.ext X_0.out).o)
  clear hq
  go_wp2_with fail
  with_reducible refine K.out.mono ?_
  rintro e w1 ⟨rfl, hb⟩
  have X_1 := Lib.hid (X_0.out.trans hb)
  have HA_1 := Lib.hid (hb.blockAt HA_0.out)
  have HB_1 := Lib.hid (hb.blockAt HB_0.out)
  clear hb K X_0 HA_0 HB_0 ca0 cb0 ca1 cb1 ca2 cb2 ca3 cb3 ca4 cb4 t0 t1 t2 t3
  have ca5 : w1.cell? ⟨w.heap.size, 5, none⟩ = some (.slice x.2.cA n5 x.2.cc) := (cell_of_row _ _ 5 _ _ _ HA_1.out).trans JA5.out
  have cb5 : w1.cell? ⟨w.heap.size + 1, 5, none⟩ = some (.slice y.2.cA m5 y.2.cc) := (cell_of_row _ _ 5 _ _ _ HB_1.out).trans JB5.out
  by_cases hq : x.1.chs = y.1.chs
  case neg =>
    have HF := Lib.hid (no_eq HV.out (fun e => hq (by rw [e])))
    have K := Lib.hid (rints_any x.2.cA x.2.cc x.1.chs y.2.cA y.2.cc y.1.chs HNA5.out HNB5.out (fa hq) hl5 w1 (HX.out.ext X_1.out).c (HY.out.ext X_1.out).c)
    clear hq
    go_wp2_with fail
    with_reducible refine K.out.mono ?_
    rintro e w9 ⟨rfl, hb⟩
    go_wp2
    go_ret
    exact ⟨ret_bool HF.out.symm, X_1.out.trans hb⟩
  have Q5 := Lib.hid hq
  have K := Lib.hid (rints_any x.2.cA x.2.cc x.1.chs y.2.cA y.2.cc y.1.chs HNA5.out HNB5.out (tr hq) hl5 w1 (HX.out.ext X_1.out).c (HY.out.ext X_1.out).c)
  clear hq
  go_wp2_with fail
  with_reducible refine K.out.mono ?_
  rintro e w2 ⟨rfl, hb⟩
  have X_2 := Lib.hid (X_1.out.trans hb)
  have HA_2 := Lib.hid (hb.blockAt HA_1.out)
  have HB_2 := Lib.hid (hb.blockAt HB_1.out)
  clear hb K X_1 HA_1 HB_1 ca5 cb5
  have ca6 : w2.cell? ⟨w.heap.size, 6, none⟩ = some (.int .i64 x.1.value) := (cell_of_row _ _ 6 _ _ _ HA_2.out).trans JA6.out
  have cb6 : w2.cell? ⟨w.heap.size + 1, 6, none⟩ = some (.int .i64 y.1.value) := (cell_of_row _ _ 6 _ _ _ HB_2.out).trans JB6.out
  have ca7 : w2.cell? ⟨w.heap.size, 7, none⟩ = some (.int .i64 x.1.tol) := (cell_of_row _ _ 7 _ _ _ HA_2.out).trans JA7.out
  have cb7 : w2.cell? ⟨w.heap.size + 1, 7, none⟩ = some (.int .i64 y.1.tol) := (cell_of_row _ _ 7 _ _ _ HB_2.out).trans JB7.out
  have ca8 : w2.cell? ⟨w.heap.size, 8, none⟩ = some (.slice x.2.tA n8 x.2.tc) := (cell_of_row _ _ 8 _ _ _ HA_2.out).trans JA8.out
  have cb8 : w2.cell? ⟨w.heap.size + 1, 8, none⟩ = some (.slice y.2.tA m8 y.2.tc) := (cell_of_row _ _ 8 _ _ _ HB_2.out).trans JB8.out
  by_cases hq : x.1.value = y.1.value
  case neg =>
    have HF := Lib.hid (no_eq HV.out (fun e => hq (by rw [e])))
    have t6 : (x.1.value != y.1.value) = true := by rw [bne_iff_ne]; exact hq
    clear hq
    go_wp2
    go_ret
    exact ⟨ret_bool HF.out.symm, X_2.out⟩
  have Q6 := Lib.hid hq
  have t6 : (x.1.value != y.1.value) = false := by rw [hq]; simp
  clear hq
  by_cases hq : x.1.tol = y.1.tol
  case neg =>
    have HF := Lib.hid (no_eq HV.out (fun e => hq (by rw [e])))
    have t7 : (x.1.tol != y.1.tol) = true := by rw [bne_iff_ne]; exact hq
    clear hq
    go_wp2
    go_ret
    exact ⟨ret_bool HF.out.symm, X_2.out⟩
  have Q7 := Lib.hid hq
  have t7 : (x.1.tol != y.1.tol) = false := by rw [hq]; simp
  clear hq
  by_cases hq : x.1.texts = y.1.texts
  case neg =>
    have HF := Lib.hid (no_eq HV.out (fun e => hq (by rw [e])))
    have K := Lib.hid (rtexts_any x.2.tA x.2.tc x.1.texts y.2.tA y.2.tc y.1.texts HNA8.out HNB8.out (fa hq) hl8 w2 (HX.out.ext X_2.out).t (HY.out.ext X_2.out).t)
    clear hq
    go_wp2_with fail
    with_reducible refine K.out.mono ?_
    rintro e w9 ⟨rfl, hb⟩
    go_wp2
    go_ret
    exact ⟨ret_bool HF.out.symm, X_2.out.trans hb⟩
  have Q8 := Lib.hid hq
  have K := Lib.hid (rtexts_any x.2.tA x.2.tc x.1.texts y.2.tA y.2.tc y.1.texts HNA8.out HNB8.out (tr hq) hl8 w2 (HX.out.ext X_2.out).t (HY.out.ext X_2.out).t)
  clear hq
  go_wp2_with fail
  with_reducible refine K.out.mono ?_
  rintro e w3 ⟨rfl, hb⟩
  have X_3 := Lib.hid (X_2.out.trans hb)
  have HA_3 := Lib.hid (hb.blockAt HA_2.out)
  have HB_3 := Lib.hid (hb.blockAt HB_2.out)
  clear hb K X_2 HA_2 HB_2 ca6 cb6 ca7 cb7 ca8 cb8 t6 t7
  have ca9 : w3.cell? ⟨w.heap.size, 9, none⟩ = some (.int .i64 x.1.pts) := (cell_of_row _ _ 9 _ _ _ HA_3.out).trans JA9.out
  have cb9 : w3.cell? ⟨w.heap.size + 1, 9, none⟩ = some (.int .i64 y.1.pts) := (cell_of_row _ _ 9 _ _ _ HB_3.out).trans JB9.out
  have ca10 : w3.cell? ⟨w.heap.size, 10, none⟩ = some (.string x.1.cont) := (cell_of_row _ _ 10 _ _ _ HA_3.out).trans JA10.out
  have cb10 : w3.cell? ⟨w.heap.size + 1, 10, none⟩ = some (.string y.1.cont) := (cell_of_row _ _ 10 _ _ _ HB_3.out).trans JB10.out
  have ca11 : w3.cell? ⟨w.heap.size, 11, none⟩ = some (.int .i64 x.1.fam) := (cell_of_row _ _ 11 _ _ _ HA_3.out).trans JA11.out
  have cb11 : w3.cell? ⟨w.heap.size + 1, 11, none⟩ = some (.int .i64 y.1.fam) := (cell_of_row _ _ 11 _ _ _ HB_3.out).trans JB11.out
  have ca12 : w3.cell? ⟨w.heap.size, 12, none⟩ = some (.int .i64 x.1.set_) := (cell_of_row _ _ 12 _ _ _ HA_3.out).trans JA12.out
  have cb12 : w3.cell? ⟨w.heap.size + 1, 12, none⟩ = some (.int .i64 y.1.set_) := (cell_of_row _ _ 12 _ _ _ HB_3.out).trans JB12.out
  have ca13 : w3.cell? ⟨w.heap.size, 13, none⟩ = some (.int .i64 x.1.wrd) := (cell_of_row _ _ 13 _ _ _ HA_3.out).trans JA13.out
  have cb13 : w3.cell? ⟨w.heap.size + 1, 13, none⟩ = some (.int .i64 y.1.wrd) := (cell_of_row _ _ 13 _ _ _ HB_3.out).trans JB13.out
  have ca14 : w3.cell? ⟨w.heap.size, 14, none⟩ = some (.int .i64 x.1.sec) := (cell_of_row _ _ 14 _ _ _ HA_3.out).trans JA14.out
  have cb14 : w3.cell? ⟨w.heap.size + 1, 14, none⟩ = some (.int .i64 y.1.sec) := (cell_of_row _ _ 14 _ _ _ HB_3.out).trans JB14.out
  have ca15 : w3.cell? ⟨w.heap.size, 15, none⟩ = some (.slice x.2.sA n15 x.2.sc) := (cell_of_row _ _ 15 _ _ _ HA_3.out).trans JA15.out
  have cb15 : w3.cell? ⟨w.heap.size + 1, 15, none⟩ = some (.slice y.2.sA m15 y.2.sc) := (cell_of_row _ _ 15 _ _ _ HB_3.out).trans JB15.out
  by_cases hq : x.1.pts = y.1.pts
  case neg =>
    have HF := Lib.hid (no_eq HV.out (fun e => hq (by rw [e])))
    have t9 : (x.1.pts != y.1.pts) = true := by rw [bne_iff_ne]; exact hq
    clear hq
    go_wp2
    go_ret
    exact ⟨ret_bool HF.out.symm, X_3.out⟩
  have Q9 := Lib.hid hq
  have t9 : (x.1.pts != y.1.pts) = false := by rw [hq]; simp
  clear hq
  by_cases hq : x.1.cont = y.1.cont
  case neg =>
    have HF := Lib.hid (no_eq HV.out (fun e => hq (by rw [e])))
    have t10 := strF hq
    clear hq
    go_wp2
    go_ret
    exact ⟨ret_bool HF.out.symm, X_3.out⟩
  have Q10 := Lib.hid hq
  have t10 := strT hq
  clear hq
  by_cases hq : x.1.fam = y.1.fam
  case neg =>
    have HF := Lib.hid (no_eq HV.out (fun e => hq (by rw [e])))
    have t11 : (x.1.fam == y.1.fam) = false := by rw [beq_eq_false_iff_ne]; exact hq
    clear hq
    go_wp2
    go_ret
    exact ⟨ret_bool HF.out.symm, X_3.out⟩
  have Q11 := Lib.hid hq
  have t11 : (x.1.fam == y.1.fam) = true := by rw [hq]; simp
  clear hq
  by_cases hq : x.1.set_ = y.1.set_
  case neg =>
    have HF := Lib.hid (no_eq HV.out (fun e => hq (by rw [e])))
    have t12 : (x.1.set_ == y.1.set_) = false := by rw [beq_eq_false_iff_ne]; exact hq
    clear hq
    go_wp2
    go_ret
    exact ⟨ret_bool HF.out.symm, X_3.out⟩
  have Q12 := Lib.hid hq
  have t12 : (x.1.set_ == y.1.set_) = true := by rw [hq]; simp
  clear hq
  by_cases hq : x.1.wrd = y.1.wrd
  case neg =>
    have HF := Lib.hid (no_eq HV.out (fun e => hq (by rw [e])))
    have t13 : (x.1.wrd == y.1.wrd) = false := by rw [beq_eq_false_iff_ne]; exact hq
    clear hq
    go_wp2
    go_ret
    exact ⟨ret_bool HF.out.symm, X_3.out⟩
  have Q13 := Lib.hid hq
  have t13 : (x.1.wrd == y.1.wrd) = true := by rw [hq]; simp
  clear hq
  by_cases hq : x.1.sec = y.1.sec
  case neg =>
    have HF := Lib.hid (no_eq HV.out (fun e => hq (by rw [e])))
    have t14 : (x.1.sec == y.1.sec) = false := by rw [beq_eq_false_iff_ne]; exact hq
    clear hq
    go_wp2
    go_ret
    exact ⟨ret_bool HF.out.symm, X_3.out⟩
  have Q14 := Lib.hid hq
  have t14 : (x.1.sec == y.1.sec) = true := by rw [hq]; simp
  clear hq
  by_cases hq : x.1.assets = y.1.assets
  case neg =>
    have HF := Lib.hid (no_eq HV.out (fun e => hq (by rw [e])))
    have K := Lib.hid (rints_any x.2.sA x.2.sc x.1.assets y.2.sA y.2.sc y.1.assets HNA15.out HNB15.out (fa hq) hl15 w3 (HX.out.ext X_3.out).s (HY.out.ext X_3.out).s)
    clear hq
    go_wp2_with fail
    with_reducible refine K.out.mono ?_
    rintro e w9 ⟨rfl, hb⟩
    go_wp2
    go_ret
    exact ⟨ret_bool HF.out.symm, X_3.out.trans hb⟩
  have Q15 := Lib.hid hq
  have K := Lib.hid (rints_any x.2.sA x.2.sc x.1.assets y.2.sA y.2.sc y.1.assets HNA15.out HNB15.out (tr hq) hl15 w3 (HX.out.ext X_3.out).s (HY.out.ext X_3.out).s)
  clear hq
  go_wp2_with fail
  with_reducible refine K.out.mono ?_
  rintro e w4 ⟨rfl, hb⟩
  have X_4 := Lib.hid (X_3.out.trans hb)
  have HA_4 := Lib.hid (hb.blockAt HA_3.out)
  have HB_4 := Lib.hid (hb.blockAt HB_3.out)
  clear hb K X_3 HA_3 HB_3 ca9 cb9 ca10 cb10 ca11 cb11 ca12 cb12 ca13 cb13 ca14 cb14 ca15 cb15 t9 t10 t11 t12 t13 t14
  have ca16 : w4.cell? ⟨w.heap.size, 16, none⟩ = some (.int .i64 x.1.rub) := (cell_of_row _ _ 16 _ _ _ HA_4.out).trans JA16.out
  have cb16 : w4.cell? ⟨w.heap.size + 1, 16, none⟩ = some (.int .i64 y.1.rub) := (cell_of_row _ _ 16 _ _ _ HB_4.out).trans JB16.out
  by_cases hq : x.1.rub = y.1.rub
  case neg =>
    have HF := Lib.hid (no_eq HV.out (fun e => hq (by rw [e])))
    have t16 : (x.1.rub == y.1.rub) = false := by rw [beq_eq_false_iff_ne]; exact hq
    clear hq
    go_wp2
    go_ret
    exact ⟨ret_bool HF.out.symm, X_4.out⟩
  have Q16 := Lib.hid hq
  have t16 : (x.1.rub == y.1.rub) = true := by rw [hq]; simp
  clear hq
  have HF := Lib.hid (yes_eq HV.out (item_ext Q0.out Q1.out Q2.out Q3.out Q4.out Q5.out Q6.out Q7.out Q8.out Q9.out Q10.out Q11.out Q12.out Q13.out Q14.out Q15.out Q16.out))
  go_wp2
  go_ret
  exact ⟨ret_bool HF.out.symm, X_4.out⟩
end Bk
end Go.Proofs.YtfnmgcblhebdbaaGreatDoor
