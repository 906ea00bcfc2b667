/- The bank's sameItem, slices.EqualFunc at items and at rows: contracts. Conditions: those of each theorem. -/
import Derived.Test.YtfnmgcblhebdbaaGreatDoorBkEq
namespace Go.Proofs.YtfnmgcblhebdbaaGreatDoor
open Go.RowKit
namespace Bk
theorem equalInt_any (A : Option Addr) (c : Nat) (xs : List Int) (B : Option Addr) (d : Nat) (ys : List Int) {n m : Nat} (hn : xs.length = n) (hm : ys.length = m) {v : Bool} (hv : v = true ↔ xs = ys) (hl : n ≤ 9223372036854775807) (w : World) (ha : SlI w A xs) (hb : SlI w B ys) (hl2 : m ≤ 9223372036854775807) :
    Calls Tryz.prog 47 #[.slice A n c, .slice B m d] w fun e w' => e = .returned (.bool v) ∧ Ext w w' := by
  subst hn hm
  refine (equalI_any A c B d xs ys w ha hb hl hl2).mono ?_
  rintro e w' ⟨rfl, q, rfl⟩
  exact ⟨ret_bool (by unfold It.eqI; rw [Bool.eq_iff_iff, decide_eq_true_iff, hv]), (Ext.refl _).drewN q⟩
theorem foldN_any (p : ByteArray → Bool) : ∀ (ps : List (Bool × ByteArray)), (It.foldN ps).any p = ps.any fun x => x.1 && p x.2 := by
  suffices h : ∀ (ps : List (Bool × ByteArray)) (xs : List ByteArray), (ps.foldl (fun xs p => It.addL xs p.1 p.2) xs).any p = (xs.any p || ps.any fun x => x.1 && p x.2) by
    intro ps; have := h ps []; simpa [It.foldN] using this
  intro ps
  induction ps with
  | nil => intro xs; simp
  | cons q ps ih =>
    intro xs
    rw [List.foldl_cons, ih, List.any_cons]
    obtain ⟨d, s⟩ := q
    cases d <;> simp [It.addL, List.any_append, Bool.or_assoc]
theorem diff_nil (a b : It.Item) : (It.diff a b).length = 0 ↔ a = b := by
  constructor
  · intro h
    have h1 : (It.diff a b).any (fun _ => true) = false := by rw [List.eq_nil_of_length_eq_zero h]; rfl
    unfold It.diff at h1
    rw [foldN_any] at h1
    simp only [It.pairs, List.any_cons, List.any_nil, Bool.and_true, Bool.or_false, Bool.or_eq_false_iff, bne_eq_false_iff_eq, Bool.not_eq_false', It.eqB, It.eqS, It.eqI, decide_eq_true_iff] at h1
    obtain ⟨h0, h1, h2, h3, h4, h5, h6, h7, h8, h9, h10, h11, h12, h13, h14, h15, h16⟩ := h1
    exact item_ext h0 h1 h2 h3 h4 h5 h6 h7 h8 h9 h10 h11 h12 h13 h14 h15 h16
  · rintro rfl
    have h1 : (It.diff a a).any (fun _ => true) = false := by
      unfold It.diff
      rw [foldN_any]
      simp [It.pairs, It.eqB, It.eqS, It.eqI]
    cases h : It.diff a a with
    | nil => rfl
    | cons x l => rw [h] at h1; simp at h1
set_option maxRecDepth 100000 in
set_option maxHeartbeats 25600000 in
theorem bsameItem_any (x y : ItL) {v : Bool} (hv : v = true ↔ x.1 = y.1) (w : World) (hx : It.In w x.1 x.2) (hy : It.In w y.1 y.2) (hf : Fld w) :
    Calls Tryz.prog 86 #[It.agg x.1 x.2, It.agg y.1 y.2] w fun e w' => e = .returned (.bool v) ∧ Ext w w' := by
  have K := Lib.hid (fun (W : World) (h : Ext w W) => diff_any x.1 y.1 x.2 y.2 W (hx.ext h) (hy.ext h) (hf.ext h))
  obtain ⟨n, hn⟩ : ∃ n, (It.diff x.1 y.1).length = n := ⟨_, rfl⟩
  rw [hn] at K
  have t0 : ((n : Int) == 0) = v := by
    rw [Bool.eq_iff_iff, hv, ← diff_nil, hn, beq_iff_eq]
    omega
  have hl : n ≤ 9223372036854775807 := by have := It.diff_le x.1 y.1; omega
  obtain ⟨CA, hca, hna, -, hka⟩ := itp x
  obtain ⟨CB, hcb, hnb, -, hkb⟩ := itp y
  rw [hca, hcb] at K
  rw [hca, hcb]
  have IA := Lib.hid (infoItem hna)
  have IB := Lib.hid (infoItem hnb)
  have X0 : Hid (Ext w ((w.alloc (.cells CA 39)).alloc (.cells CB 39))) := Lib.hid (((Ext.refl _).alloc _).alloc _)
  have GA : Hid (((w.alloc (.cells CA 39)).alloc (.cells CB 39)).heap[w.heap.size]? = some (.cells CA 39 (0, 0))) := Lib.hid (two_fst' _ _ _)
  have GB : Hid (((w.alloc (.cells CA 39)).alloc (.cells CB 39)).heap[w.heap.size + 1]? = some (.cells CB 39 (0, 0))) := Lib.hid (heap_new_at _ _ _ (by simp))
  clear hv hx hy hf hn hca hcb hna hnb hka hkb
  go_enter Tryz.func86, Tryz.ntmps86
  go_wp2_with (first | (with_reducible refine wpList_load_row rfl 39 (.tmp 2) rfl (w.heap.size) (by with_unfolding_all rfl) _ CA _ _ GA.out Tryz.underlying39 rfl IA.out ?_) | (with_reducible refine wpList_load_row rfl 39 (.tmp 3) rfl (w.heap.size + 1) (by with_unfolding_all rfl) _ CB _ _ GB.out Tryz.underlying39 rfl IB.out ?_))
  with_reducible refine (K.out _ X0.out).mono ?_
  rintro e w1 ⟨⟨A, c, rfl, -, -, -⟩, hb⟩
  go_wp2
  go_ret
  exact ⟨rfl, X0.out.trans hb⟩
set_option maxRecDepth 100000 in
set_option maxHeartbeats 25600000 in
theorem eqfItem_any (A : Option Addr) (c : Nat) (xs : List ItL) (B : Option Addr) (d : Nat) (ys : List ItL) {n m : Nat} (hn : xs.length = n) (hm : ys.length = m) {v : Bool} (hv : v = true ↔ xs.map (fun x : ItL => x.1) = ys.map (fun x : ItL => x.1)) (hl : n ≤ 9223372036854775807) (w : World) (ha : SlX eIt w A xs) (hb : SlX eIt w B ys) (hfd : Fld w) :
    Calls Tryz.prog 85 #[.slice A n c, .slice B m d, .func (.func 86) #[] #[]] w fun e w' => e = .returned (.bool v) ∧ Ext w w' := by
  have HL1 := Lib.hid ha
  have HL2 := Lib.hid hb
  have HN := Lib.hid hn
  have HM := Lib.hid hm
  have HV := Lib.hid hv
  have HFD := Lib.hid hfd
  clear ha hb hn hm hv hfd
  by_cases hnm : n = m
  case neg =>
    have hl' : ((n : Int) != (m : Int)) = true := by rw [bne_iff_ne]; omega
    have HF := Lib.hid (no_eq HV.out (fun e => hnm (by have e2 := congrArg List.length e; rw [List.length_map, List.length_map] at e2; rw [← HN.out, ← HM.out, e2])))
    clear hnm
    go_enter Tryz.func85, Tryz.ntmps85
    go_wp2
    go_ret
    exact ⟨ret_bool HF.out.symm, Ext.refl _⟩
  subst hnm
  have hl' : ((n : Int) != (n : Int)) = false := by simp
  go_enter Tryz.func85, Tryz.ntmps85
  go_wp2
  go_loopw [17] (fun i wr => ∃ k : Nat, k ≤ n ∧ i = .int .i64 k ∧ Hid (∀ j, j < k → (xs.map (fun x : ItL => x.1))[j]? = (ys.map (fun x : ItL => x.1))[j]?) ∧ Hid (Ext w wr)) (fun i _ => n - (intOf i).toNat)
  case atStart => exact ⟨0, by omega, rfl, Lib.hid (fun j hj => absurd hj (by omega)), Lib.hid (Ext.refl _)⟩
  case round =>
    obtain ⟨k, hk, rfl, HALL, HE⟩ := hrel
    by_cases hlt : k < n
    · obtain ⟨x, hx⟩ : ∃ a, xs[k]? = some a := ⟨xs[k]'(by rw [HN.out]; exact hlt), List.getElem?_eq_getElem _⟩
      obtain ⟨y, hy⟩ : ∃ a, ys[k]? = some a := ⟨ys[k]'(by rw [HM.out]; exact hlt), List.getElem?_eq_getElem _⟩
      have HP : Hid ((xs.map (fun x : ItL => x.1))[k]? = some ((fun x : ItL => x.1) x)) := Lib.hid (by rw [List.getElem?_map, hx]; rfl)
      have HQ : Hid ((ys.map (fun x : ItL => x.1))[k]? = some ((fun x : ItL => x.1) y)) := Lib.hid (by rw [List.getElem?_map, hy]; rfl)
      obtain ⟨b1, o1, rfl, hb1, hc1, hi1⟩ := (HL1.out.ext HE.out).at_ hx
      obtain ⟨b2, o2, rfl, hb2, hc2, hi2⟩ := (HL2.out.ext HE.out).at_ hy
      have HI1 := Lib.hid hi1
      have HI2 := Lib.hid hi2
      obtain ⟨CA, hca, hna, h1a, hka⟩ := itp x
      obtain ⟨CB, hcb, hnb, h1b, hkb⟩ := itp y
      have HC1 : Hid (wr.rangeAt b1 (o1 + k * 17) CA.toList) := Lib.hid (by rw [← hka]; exact hc1)
      have HC2 : Hid ((wr.alloc (.cells CA 39)).rangeAt b2 (o2 + k * 17) CB.toList) := Lib.hid (fun j u hu => Ext.keep ((Ext.refl _).alloc _) (by rw [← hkb] at hu; exact hc2 j u hu))
      have IA := Lib.hid (infoItem hna)
      have IB := Lib.hid (infoItem hnb)
      have NA := Lib.hid hna
      have NB := Lib.hid hnb
      have OA := Lib.hid h1a
      have OB := Lib.hid h1b
      have XW : Hid (Ext wr ((wr.alloc (.cells CA 39)).alloc (.cells CB 39))) := Lib.hid (((Ext.refl _).alloc _).alloc _)
      have HK := Lib.hid (fun (v : Bool) (hv : v = true ↔ (fun x : ItL => x.1) x = (fun x : ItL => x.1) y) => bsameItem_any x y hv _ (HI1.out.ext XW.out) (HI2.out.ext XW.out) ((HFD.out.ext HE.out).ext XW.out))
      rw [hca, hcb] at HK
      have GA : Hid (((wr.alloc (.cells CA 39)).alloc (.cells CB 39)).heap[wr.heap.size]? = some (.cells CA 39 (0, 0))) := Lib.hid (two_fst' _ _ _)
      have GB : Hid (((wr.alloc (.cells CA 39)).alloc (.cells CB 39)).heap[wr.heap.size + 1]? = some (.cells CB 39 (0, 0))) := Lib.hid (heap_new_at _ _ _ (by simp))
      clear hc1 hc2 hca hcb hna hnb h1a h1b hka hkb hi1 hi2 hx hy
      have ki0 : (0 : Int) ≤ (k : Int) := by omega
      have ki1 : (k : Int) < (n : Int) := by omega
      by_cases hq : (fun x : ItL => x.1) x = (fun x : ItL => x.1) y
      · have HF := Lib.hid (all_next HP.out HQ.out hq HALL.out)
        have K := Lib.hid (HK.out true (tr hq))
        clear hq HK
        go_wp2_with (first
        | (with_reducible refine wpList_load_arr rfl 39 (.tmp 20) rfl b1 (o1 + k * 17) (by with_unfolding_all rfl) CA _ HC1.out Tryz.underlying39 rfl IA.out ?_)
        | (with_reducible refine wpList_store_newN rfl 39 (.tmp 8) (.tmp 21) rfl (wr.heap.size) (by simp) _ CA 39 (by with_unfolding_all rfl) (by with_unfolding_all rfl) IA.out (by with_unfolding_all exact NA.out.symm) OA.out ?_)
        | (with_reducible refine wpList_load_arr rfl 39 (.tmp 24) rfl b2 (o2 + k * 17) (by with_unfolding_all rfl) CB _ HC2.out Tryz.underlying39 rfl IB.out ?_)
        | (with_reducible refine wpList_store_newN rfl 39 (.tmp 9) (.tmp 25) rfl (wr.heap.size + 1) (by simp) _ CB 39 (by with_unfolding_all rfl) (by with_unfolding_all rfl) IB.out (by with_unfolding_all exact NB.out.symm) OB.out ?_)
        | (with_reducible refine wpList_load_row rfl 39 (.tmp 8) rfl (wr.heap.size) (by with_unfolding_all rfl) _ CA _ _ GA.out Tryz.underlying39 rfl IA.out ?_)
        | (with_reducible refine wpList_load_row rfl 39 (.tmp 9) rfl (wr.heap.size + 1) (by with_unfolding_all rfl) _ CB _ _ GB.out Tryz.underlying39 rfl IB.out ?_))
        with_reducible refine K.out.mono ?_
        rintro e w3 ⟨rfl, hb3⟩
        have HE3 := Lib.hid ((HE.out.trans XW.out).trans hb3)
        clear hb3
        go_wp2
        go_roundw
        case rel => exact ⟨k + 1, by omega, by go_num, HF, HE3⟩
        case measure => simp [intOf]; omega
      · have HF := Lib.hid (no_eq HV.out (ne_at HP.out HQ.out hq))
        have K := Lib.hid (HK.out false (fa hq))
        clear hq HK
        go_wp2_with (first
        | (with_reducible refine wpList_load_arr rfl 39 (.tmp 20) rfl b1 (o1 + k * 17) (by with_unfolding_all rfl) CA _ HC1.out Tryz.underlying39 rfl IA.out ?_)
        | (with_reducible refine wpList_store_newN rfl 39 (.tmp 8) (.tmp 21) rfl (wr.heap.size) (by simp) _ CA 39 (by with_unfolding_all rfl) (by with_unfolding_all rfl) IA.out (by with_unfolding_all exact NA.out.symm) OA.out ?_)
        | (with_reducible refine wpList_load_arr rfl 39 (.tmp 24) rfl b2 (o2 + k * 17) (by with_unfolding_all rfl) CB _ HC2.out Tryz.underlying39 rfl IB.out ?_)
        | (with_reducible refine wpList_store_newN rfl 39 (.tmp 9) (.tmp 25) rfl (wr.heap.size + 1) (by simp) _ CB 39 (by with_unfolding_all rfl) (by with_unfolding_all rfl) IB.out (by with_unfolding_all exact NB.out.symm) OB.out ?_)
        | (with_reducible refine wpList_load_row rfl 39 (.tmp 8) rfl (wr.heap.size) (by with_unfolding_all rfl) _ CA _ _ GA.out Tryz.underlying39 rfl IA.out ?_)
        | (with_reducible refine wpList_load_row rfl 39 (.tmp 9) rfl (wr.heap.size + 1) (by with_unfolding_all rfl) _ CB _ _ GB.out Tryz.underlying39 rfl IB.out ?_))
        with_reducible refine K.out.mono ?_
        rintro e w3 ⟨rfl, hb3⟩
        go_wp2
        go_ret
        exact ⟨ret_bool HF.out.symm, (HE.out.trans XW.out).trans hb3⟩
    · obtain rfl : k = n := by omega
      have HF : Hid (v = true) := Lib.hid (HV.out.2 (all_eq ((List.length_map _).trans HN.out) ((List.length_map _).trans HM.out) HALL.out))
      go_wp2
      go_ret
      exact ⟨ret_bool HF.out.symm, HE.out⟩
set_option maxRecDepth 100000 in
set_option maxHeartbeats 25600000 in
theorem eqfRows_any (A : Option Addr) (c : Nat) (xs : List IL) (B : Option Addr) (d : Nat) (ys : List IL) {n m : Nat} (hn : xs.length = n) (hm : ys.length = m) {v : Bool} (hv : v = true ↔ xs.map IL.xs = ys.map IL.xs) (hl : n ≤ 9223372036854775807) (w : World) (ha : SlX eIL w A xs) (hb : SlX eIL w B ys) :
    Calls Tryz.prog 88 #[.slice A n c, .slice B m d, .func (.func 47) #[] #[]] w fun e w' => e = .returned (.bool v) ∧ Ext w w' := by
  have HL1 := Lib.hid ha
  have HL2 := Lib.hid hb
  have HN := Lib.hid hn
  have HM := Lib.hid hm
  have HV := Lib.hid hv
  clear ha hb hn hm hv
  by_cases hnm : n = m
  case neg =>
    have hl' : ((n : Int) != (m : Int)) = true := by rw [bne_iff_ne]; omega
    have HF := Lib.hid (no_eq HV.out (fun e => hnm (by have e2 := congrArg List.length e; rw [List.length_map, List.length_map] at e2; rw [← HN.out, ← HM.out, e2])))
    clear hnm
    go_enter Tryz.func88, Tryz.ntmps88
    go_wp2
    go_ret
    exact ⟨ret_bool HF.out.symm, Ext.refl _⟩
  subst hnm
  have hl' : ((n : Int) != (n : Int)) = false := by simp
  go_enter Tryz.func88, Tryz.ntmps88
  go_wp2
  go_loopw [17] (fun i wr => ∃ k : Nat, k ≤ n ∧ i = .int .i64 k ∧ Hid (∀ j, j < k → (xs.map IL.xs)[j]? = (ys.map IL.xs)[j]?) ∧ Hid (Ext w wr)) (fun i _ => n - (intOf i).toNat)
  case atStart => exact ⟨0, by omega, rfl, Lib.hid (fun j hj => absurd hj (by omega)), Lib.hid (Ext.refl _)⟩
  case round =>
    obtain ⟨k, hk, rfl, HALL, HE⟩ := hrel
    by_cases hlt : k < n
    · obtain ⟨x, hx⟩ : ∃ a, xs[k]? = some a := ⟨xs[k]'(by rw [HN.out]; exact hlt), List.getElem?_eq_getElem _⟩
      obtain ⟨y, hy⟩ : ∃ a, ys[k]? = some a := ⟨ys[k]'(by rw [HM.out]; exact hlt), List.getElem?_eq_getElem _⟩
      have HP : Hid ((xs.map IL.xs)[k]? = some (IL.xs x)) := Lib.hid (by rw [List.getElem?_map, hx]; rfl)
      have HQ : Hid ((ys.map IL.xs)[k]? = some (IL.xs y)) := Lib.hid (by rw [List.getElem?_map, hy]; rfl)
      obtain ⟨b1, o1, rfl, hb1, hc1, hi1⟩ := (HL1.out.ext HE.out).at_ hx
      obtain ⟨b2, o2, rfl, hb2, hc2, hi2⟩ := (HL2.out.ext HE.out).at_ hy
      have HI1 := Lib.hid hi1
      have HI2 := Lib.hid hi2
      have cx : wr.cell? ⟨b1, o1 + k, none⟩ = some (.slice x.A x.xs.length x.c) := by
        have := hc1 0 _ rfl
        simpa [eIL, IL.val] using this
      have cy : wr.cell? ⟨b2, o2 + k, none⟩ = some (.slice y.A y.xs.length y.c) := by
        have := hc2 0 _ rfl
        simpa [eIL, IL.val] using this
      obtain ⟨nx, hnx⟩ : ∃ n, x.xs.length = n := ⟨_, rfl⟩
      obtain ⟨ny, hny⟩ : ∃ n, y.xs.length = n := ⟨_, rfl⟩
      rw [hnx] at cx
      rw [hny] at cy
      have HK := Lib.hid (fun (v : Bool) (hv : v = true ↔ x.xs = y.xs) => equalInt_any x.A x.c x.xs y.A y.c y.xs hnx hny hv (by rw [← hnx]; exact sl_len63 ⟨HI1.out.2.1, HI1.out.2.2.1⟩) wr HI1.out.1 HI2.out.1 (by rw [← hny]; exact sl_len63 ⟨HI2.out.2.1, HI2.out.2.2.1⟩))
      have XW : Hid (Ext wr wr) := Lib.hid (Ext.refl _)
      clear hc1 hc2 hi1 hi2 hx hy hnx hny
      have ki0 : (0 : Int) ≤ (k : Int) := by omega
      have ki1 : (k : Int) < (n : Int) := by omega
      by_cases hq : IL.xs x = IL.xs y
      · have HF := Lib.hid (all_next HP.out HQ.out hq HALL.out)
        have K := Lib.hid (HK.out true (tr hq))
        clear hq HK
        go_wp2_with fail
        with_reducible refine K.out.mono ?_
        rintro e w3 ⟨rfl, hb3⟩
        have HE3 := Lib.hid ((HE.out.trans XW.out).trans hb3)
        clear hb3
        go_wp2
        go_roundw
        case rel => exact ⟨k + 1, by omega, by go_num, HF, HE3⟩
        case measure => simp [intOf]; omega
      · have HF := Lib.hid (no_eq HV.out (ne_at HP.out HQ.out hq))
        have K := Lib.hid (HK.out false (fa hq))
        clear hq HK
        go_wp2_with fail
        with_reducible refine K.out.mono ?_
        rintro e w3 ⟨rfl, hb3⟩
        go_wp2
        go_ret
        exact ⟨ret_bool HF.out.symm, (HE.out.trans XW.out).trans hb3⟩
    · obtain rfl : k = n := by omega
      have HF : Hid (v = true) := Lib.hid (HV.out.2 (all_eq ((List.length_map _).trans HN.out) ((List.length_map _).trans HM.out) HALL.out))
      go_wp2
      go_ret
      exact ⟨ret_bool HF.out.symm, HE.out⟩
end Bk
end Go.Proofs.YtfnmgcblhebdbaaGreatDoor
