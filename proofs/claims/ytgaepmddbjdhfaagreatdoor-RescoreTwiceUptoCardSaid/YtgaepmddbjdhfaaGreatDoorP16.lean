/- The key of an item, further: short texts, the package's onlyKey and validKey; the two ways to ask for a key agree. Conditions: those of each theorem. -/
import Derived.Test.YtgaepmddbjdhfaaGreatDoorP15
namespace Go.Proofs.YtgaepmddbjdhfaaGreatDoor
open Go.RowKit

namespace It
def only (it : Item) : Bool := (decide (it.kind ≤ 3) || noOpt it) && (decide (it.kind = 4) || noNum it) && ((decide (it.kind = 5) || noTxt it) && (decide (it.kind = 6) || noEss it))
def val1 (it : Item) : Bool := decide (2 ≤ it.opts.length) && decide (it.chs.length = 1) && wi (it.chs.getD 0 0) 0 ((it.opts.length : Int) - 1)
def val2 (it : Item) : Bool := decide (2 ≤ it.opts.length) && decide (1 ≤ it.chs.length) && rising it.chs 0 ((it.opts.length : Int) - 1)
def val3 (it : Item) : Bool := decide (2 ≤ it.opts.length) && decide (it.chs.length = it.opts.length) && rising (sorted it.chs) 0 ((it.opts.length : Int) - 1)
def val4 (it : Item) : Bool := wi it.value (-9999999) 9999999 && wi it.tol 0 9999999
def val5 (it : Item) : Bool := txs nrmC it.texts && decide (1 ≤ it.texts.length)
def val6 (it : Item) : Bool := decide (1 ≤ it.rub)
def val (it : Item) : Bool := if it.kind = 1 then val1 it else if it.kind = 2 then val2 it else if it.kind = 3 then val3 it else if it.kind = 4 then val4 it else if it.kind = 5 then val5 it else val6 it
theorem rising_one {l : List Int} {hi : Int} (h : l.length = 1) : rising l 0 hi = wi (l.getD 0 0) 0 hi := by
  unfold rising
  rw [h, allN_succ, allN_zero, Bool.true_and]
  unfold risA
  simp
theorem txs_eq {l : List ByteArray} (h : ∀ s ∈ l, 0 < s.size) : txs nrmC l = txs nrm l := by
  unfold txs
  refine allN_congr fun i hi => ?_
  unfold txA
  rw [nrm_eq _ (by rw [List.getD_eq_getElem?_getD, List.getElem?_eq_getElem hi]; exact h _ (List.getElem_mem hi))]
/-- The two ways to ask for a key agree where the kind is known and no text is empty. -/
theorem key_eq (it : Item) (hk : 1 ≤ it.kind ∧ it.kind ≤ 6) (ht : ∀ s ∈ it.texts, 0 < s.size) : (only it && val it) = key it := by
  unfold only val key
  rcases (show it.kind = 1 ∨ it.kind = 2 ∨ it.kind = 3 ∨ it.kind = 4 ∨ it.kind = 5 ∨ it.kind = 6 by omega) with e | e | e | e | e | e
  · rw [e]
    simp only [show ((1 : Int) ≤ 3) = True from by simp, show ((1 : Int) = 4) = False from by simp, show ((1 : Int) = 5) = False from by simp, show ((1 : Int) = 6) = False from by simp, decide_true, decide_false, Bool.true_or, Bool.false_or, Bool.true_and, if_true]
    unfold val1 key1
    by_cases h1 : it.chs.length = 1
    · rw [rising_one h1]; simp only [Bool.and_assoc]
    · rw [decide_eq_false h1]; simp
  · rw [e]
    simp only [show ((2 : Int) ≤ 3) = True from by simp, show ((2 : Int) = 1) = False from by simp, show ((2 : Int) = 4) = False from by simp, show ((2 : Int) = 5) = False from by simp, show ((2 : Int) = 6) = False from by simp, decide_true, decide_false, Bool.true_or, Bool.false_or, Bool.true_and, if_true, if_false]
    unfold val2 key2
    simp only [Bool.and_assoc]
  · rw [e]
    simp only [show ((3 : Int) ≤ 3) = True from by simp, show ((3 : Int) = 1) = False from by simp, show ((3 : Int) = 2) = False from by simp, show ((3 : Int) = 4) = False from by simp, show ((3 : Int) = 5) = False from by simp, show ((3 : Int) = 6) = False from by simp, decide_true, decide_false, Bool.true_or, Bool.false_or, Bool.true_and, if_true, if_false]
    unfold val3 key3
    by_cases h1 : it.chs.length = it.opts.length
    · rw [perm_eq _ _ h1, decide_eq_true h1, Bool.and_true]; simp only [Bool.and_assoc]
    · unfold perm; rw [decide_eq_false h1]; simp
  · rw [e]
    simp only [show ((4 : Int) ≤ 3) = False from by simp, show ((4 : Int) = 1) = False from by simp, show ((4 : Int) = 2) = False from by simp, show ((4 : Int) = 3) = False from by simp, show ((4 : Int) = 5) = False from by simp, show ((4 : Int) = 6) = False from by simp, decide_true, decide_false, Bool.true_or, Bool.false_or, Bool.and_true, if_true, if_false]
    unfold val4 key4
    simp only [Bool.and_assoc]
  · rw [e]
    simp only [show ((5 : Int) ≤ 3) = False from by simp, show ((5 : Int) = 1) = False from by simp, show ((5 : Int) = 2) = False from by simp, show ((5 : Int) = 3) = False from by simp, show ((5 : Int) = 4) = False from by simp, show ((5 : Int) = 6) = False from by simp, decide_true, decide_false, Bool.true_or, Bool.false_or, Bool.true_and, if_true, if_false]
    unfold val5 key5
    rw [txs_eq ht]
    cases txs nrm it.texts <;> simp only [Bool.false_and, Bool.and_false, Bool.true_and, Bool.and_assoc]
  · rw [e]
    simp only [show ((6 : Int) ≤ 3) = False from by simp, show ((6 : Int) = 1) = False from by simp, show ((6 : Int) = 2) = False from by simp, show ((6 : Int) = 3) = False from by simp, show ((6 : Int) = 4) = False from by simp, show ((6 : Int) = 5) = False from by simp, decide_true, decide_false, Bool.true_or, Bool.false_or, Bool.and_true, if_false]
    unfold val6 key6
    simp only [Bool.and_assoc]
end It


theorem rising_to (A : Option Addr) (c : Nat) (l : List Int) {n : Nat} (hn : l.length = n) (lo hi : Int) (w : World) (h : SlI w A l) (hl : n ≤ 9223372036854775807) :
    Calls Tryz.prog 83 #[.slice A n c, .int .i64 lo, .int .i64 hi] w fun e w' => e = .returned (.bool (It.rising l lo hi)) ∧ w = w' := by
  subst hn
  exact rising_any A c l lo hi w h hl


set_option maxRecDepth 100000 in
set_option maxHeartbeats 6400000 in
theorem rkey_5 (it : It.Item) (L : It.Loc) (w : World) (h : It.In w it L) (hk : it.kind = 5) (hsz : ∀ s ∈ it.texts, s.size ≤ 200) :
    Calls Tryz.prog 93 #[It.agg it L] w fun e w' => e = .returned (.bool (It.key5 It.nrm it)) ∧ Ext w w' := by
  have H := Lib.hid h
  have hl1 : it.opts.length ≤ 140737488351232 := h.ok.ol
  have hl2 : it.chs.length ≤ 140737488351232 := h.ok.cl
  have hl3 : it.texts.length ≤ 140737488351232 := h.ok.tl
  have hvl : -9223372036854775808 ≤ it.value ∧ it.value ≤ 9223372036854775807 := h.ok.value
  have htl : -9223372036854775808 ≤ it.tol ∧ it.tol ≤ 9223372036854775807 := h.ok.tol
  have HSZ := Lib.hid hsz
  clear hsz
  clear h
  obtain ⟨oA, oc, cA, cc, tA, tc, sA, sc⟩ := L
  have HT : Hid (SlS w tA it.texts) := Lib.hid H.out.t
  clear H
  unfold It.agg
  dsimp only
  rw [hk]
  clear hk
  go_enter Tryz.func93, Tryz.ntmps93

  go_wp2
  all_goals
    go_loop [135] (fun i => ∃ k : Nat, k ≤ it.texts.length ∧ i = .int .i64 k ∧ Hid (It.allN (It.txA It.nrm it.texts) k = true)) (fun i => it.texts.length - (intOf i).toNat)
    case atStart => exact ⟨0, by omega, rfl, Lib.hid rfl⟩
    case round =>
      obtain ⟨k, hk, rfl, HA⟩ := hrel
      by_cases hlt : k < it.texts.length
      · obtain ⟨b, off, rfl, hb, hc⟩ := HT.out.at_ hlt
        obtain ⟨x, hx⟩ : ∃ x, it.texts[k] = x := ⟨_, rfl⟩
        rw [hx] at hc
        have hxs : x.size ≤ 200 := by rw [← hx]; exact HSZ.out _ (List.getElem_mem hlt)
        have hxd : Hid (it.texts.getD k ⟨#[]⟩ = x) := Lib.hid (by rw [List.getD_eq_getElem?_getD, List.getElem?_eq_getElem hlt, hx]; rfl)
        clear hx
        obtain ⟨q, hq⟩ : ∃ q, It.nrm x = q := ⟨_, rfl⟩
        have HQ := Lib.hid hq
        clear hq
        have ki0 : (0 : Int) ≤ (k : Int) := by omega
        have ki1 : (k : Int) < (it.texts.length : Int) := by omega
        have HE : Hid (It.txA It.nrm it.texts k = false → It.txs It.nrm it.texts = false) := Lib.hid fun g => It.allN_no hlt g
        have HN : Hid (It.txA It.nrm it.texts k = true → It.allN (It.txA It.nrm it.texts) (k + 1) = true) := Lib.hid fun g => It.allN_next HA.out g
        cases q with
        | false =>
          have HF := Lib.hid (HE.out (by unfold It.txA; rw [hxd.out, HQ.out]; rfl))
          go_wp2_with (go_at_call 118; refine (rnormalized_any x _ (by omega)).mono ?_; rintro e w' ⟨rfl, rfl⟩; rw [HQ.out])
          all_goals
            go_ret
            exact ⟨ret_bool (by unfold It.key5; rw [HF.out]; rfl), (Ext.refl _).alloc _⟩
        | true =>
          rcases Nat.eq_zero_or_pos k with h0 | h0
          · subst h0
            have hc0 : w.cell? ⟨b, off, none⟩ = some (.string x) := by simpa using hc
            have HF := Lib.hid (HN.out (by unfold It.txA; rw [hxd.out, HQ.out]; rfl))
            go_wp2_with (go_at_call 118; refine (rnormalized_any x _ (by omega)).mono ?_; rintro e w' ⟨rfl, rfl⟩; rw [HQ.out])
            all_goals
              go_round
              case rel => exact ⟨0 + 1, by omega, by go_num, HF⟩
              case measure => simp [intOf]; omega
          · obtain ⟨j, rfl⟩ : ∃ j, k = j + 1 := ⟨k - 1, by omega⟩
            obtain ⟨b', off', e', hb', hc'⟩ := HT.out.at_ (i := j) (by omega)
            obtain ⟨rfl, rfl⟩ : b = b' ∧ off = off' := by cases e'; exact ⟨rfl, rfl⟩
            clear e'
            obtain ⟨y, hy⟩ : ∃ y, it.texts[j] = y := ⟨_, rfl⟩
            rw [hy] at hc'
            have hyd : Hid (it.texts.getD (j + 1 - 1) ⟨#[]⟩ = y) := Lib.hid (by rw [Nat.add_sub_cancel, List.getD_eq_getElem?_getD, List.getElem?_eq_getElem (by omega), hy]; rfl)
            clear hy
            obtain ⟨b1, hb1⟩ : ∃ b1, Op.bytesLess x.toList y.toList = b1 := ⟨_, rfl⟩
            obtain ⟨b2, hb2⟩ : ∃ b2, (x.toList == y.toList) = b2 := ⟨_, rfl⟩
            have HS : Hid (It.sle x y = (b1 || b2)) := Lib.hid (by unfold It.sle; rw [hb1, hb2])
            have HTA : Hid (It.txA It.nrm it.texts (j + 1) = !(b1 || b2)) := Lib.hid (by unfold It.txA; rw [hxd.out, hyd.out, HQ.out, HS.out, decide_eq_false (by omega)]; rfl)
            have hno : (b1 || b2) = true → Hid (It.txs It.nrm it.texts = false) := fun g => Lib.hid (HE.out (by rw [HTA.out, g]; rfl))
            have hyes : (b1 || b2) = false → Hid (It.allN (It.txA It.nrm it.texts) (j + 1 + 1) = true) := fun g => Lib.hid (HN.out (by rw [HTA.out, g]; rfl))
            cases b1 <;> cases b2
            · have HF := hyes rfl
              clear hno hyes
              go_wp2_with (go_at_call 118; refine (rnormalized_any x _ (by omega)).mono ?_; rintro e w' ⟨rfl, rfl⟩; rw [HQ.out])
              all_goals
                go_round
                case rel => exact ⟨j + 1 + 1, by omega, by go_num, HF⟩
                case measure => simp [intOf]; omega
            all_goals
              have HF := hno rfl
              clear hno hyes
              go_wp2_with (go_at_call 118; refine (rnormalized_any x _ (by omega)).mono ?_; rintro e w' ⟨rfl, rfl⟩; rw [HQ.out])
              all_goals
                go_ret
                exact ⟨ret_bool (by unfold It.key5; rw [HF.out]; rfl), (Ext.refl _).alloc _⟩
      · obtain rfl : k = it.texts.length := by omega
        have HF : Hid (It.txs It.nrm it.texts = true) := Lib.hid HA.out
        go_wp2
        all_goals
          go_ret
          exact ⟨ret_bool (by unfold It.key5 It.noOpt It.noNum It.noEss; rw [HF.out]; first | (simp [*]; done) | (simp_all; done) | (simp; intros; first | contradiction | omega | (simp_all; done) | (simp_all; omega)) | (simp_all; omega)), (Ext.refl _).alloc _⟩


set_option maxRecDepth 100000 in
set_option maxHeartbeats 6400000 in
theorem validKey_5 (it : It.Item) (L : It.Loc) (w : World) (h : It.In w it L) (hk : it.kind = 5) (hsz : ∀ s ∈ it.texts, s.size ≤ 200) (hg : Gm w) :
    Calls Tryz.prog 82 #[It.agg it L] w fun e w' => e = .returned (.bool (It.val5 it)) ∧ Ext w w' := by
  have H := Lib.hid h
  have hl1 : it.opts.length ≤ 140737488351232 := h.ok.ol
  have hl2 : it.chs.length ≤ 140737488351232 := h.ok.cl
  have hl3 : it.texts.length ≤ 140737488351232 := h.ok.tl
  have hvl : -9223372036854775808 ≤ it.value ∧ it.value ≤ 9223372036854775807 := h.ok.value
  have htl : -9223372036854775808 ≤ it.tol ∧ it.tol ≤ 9223372036854775807 := h.ok.tol
  have HSZ := Lib.hid hsz
  clear hsz
  have HG := Lib.hid hg
  clear hg
  clear h
  obtain ⟨oA, oc, cA, cc, tA, tc, sA, sc⟩ := L
  have HT : Hid (SlS w tA it.texts) := Lib.hid H.out.t
  clear H
  unfold It.agg
  dsimp only
  rw [hk]
  clear hk
  go_enter Tryz.func82, Tryz.ntmps82

  go_wp2
  go_loop [81] (fun i => ∃ k : Nat, k ≤ it.texts.length ∧ i = .int .i64 k ∧ Hid (It.allN (It.txA It.nrmC it.texts) k = true)) (fun i => it.texts.length - (intOf i).toNat)
  case atStart => exact ⟨0, by omega, rfl, Lib.hid rfl⟩
  case round =>
    obtain ⟨k, hk, rfl, HA⟩ := hrel
    by_cases hlt : k < it.texts.length
    · obtain ⟨b, off, rfl, hb, hc⟩ := HT.out.at_ hlt
      obtain ⟨x, hx⟩ : ∃ x, it.texts[k] = x := ⟨_, rfl⟩
      rw [hx] at hc
      have hxs : x.size ≤ 200 := by rw [← hx]; exact HSZ.out _ (List.getElem_mem hlt)
      have hxd : Hid (it.texts.getD k ⟨#[]⟩ = x) := Lib.hid (by rw [List.getD_eq_getElem?_getD, List.getElem?_eq_getElem hlt, hx]; rfl)
      clear hx
      obtain ⟨q, hq⟩ : ∃ q, It.nrmC x = q := ⟨_, rfl⟩
      have HQ := Lib.hid hq
      clear hq
      have ki0 : (0 : Int) ≤ (k : Int) := by omega
      have ki1 : (k : Int) < (it.texts.length : Int) := by omega
      have HE : Hid (It.txA It.nrmC it.texts k = false → It.txs It.nrmC it.texts = false) := Lib.hid fun g => It.allN_no hlt g
      have HN : Hid (It.txA It.nrmC it.texts k = true → It.allN (It.txA It.nrmC it.texts) (k + 1) = true) := Lib.hid fun g => It.allN_next HA.out g
      cases q with
      | false =>
        have HF := Lib.hid (HE.out (by unfold It.txA; rw [hxd.out, HQ.out]; rfl))
        go_wp2_with (go_at_call 113; refine (normalized_any x _ (by omega) (HG.out.ext ((Ext.refl _).alloc _))).mono ?_; rintro e w' ⟨rfl, rfl⟩; rw [HQ.out])
        all_goals
          go_ret
          exact ⟨ret_bool (by unfold It.val5; rw [HF.out]; rfl), (Ext.refl _).alloc _⟩
      | true =>
        rcases Nat.eq_zero_or_pos k with h0 | h0
        · subst h0
          have hc0 : w.cell? ⟨b, off, none⟩ = some (.string x) := by simpa using hc
          have HF := Lib.hid (HN.out (by unfold It.txA; rw [hxd.out, HQ.out]; rfl))
          go_wp2_with (go_at_call 113; refine (normalized_any x _ (by omega) (HG.out.ext ((Ext.refl _).alloc _))).mono ?_; rintro e w' ⟨rfl, rfl⟩; rw [HQ.out])
          all_goals
            go_round
            case rel => exact ⟨0 + 1, by omega, by go_num, HF⟩
            case measure => simp [intOf]; omega
        · obtain ⟨j, rfl⟩ : ∃ j, k = j + 1 := ⟨k - 1, by omega⟩
          obtain ⟨b', off', e', hb', hc'⟩ := HT.out.at_ (i := j) (by omega)
          obtain ⟨rfl, rfl⟩ : b = b' ∧ off = off' := by cases e'; exact ⟨rfl, rfl⟩
          clear e'
          obtain ⟨y, hy⟩ : ∃ y, it.texts[j] = y := ⟨_, rfl⟩
          rw [hy] at hc'
          have hyd : Hid (it.texts.getD (j + 1 - 1) ⟨#[]⟩ = y) := Lib.hid (by rw [Nat.add_sub_cancel, List.getD_eq_getElem?_getD, List.getElem?_eq_getElem (by omega), hy]; rfl)
          clear hy
          obtain ⟨b1, hb1⟩ : ∃ b1, Op.bytesLess x.toList y.toList = b1 := ⟨_, rfl⟩
          obtain ⟨b2, hb2⟩ : ∃ b2, (x.toList == y.toList) = b2 := ⟨_, rfl⟩
          have HS : Hid (It.sle x y = (b1 || b2)) := Lib.hid (by unfold It.sle; rw [hb1, hb2])
          have HTA : Hid (It.txA It.nrmC it.texts (j + 1) = !(b1 || b2)) := Lib.hid (by unfold It.txA; rw [hxd.out, hyd.out, HQ.out, HS.out, decide_eq_false (by omega)]; rfl)
          have hno : (b1 || b2) = true → Hid (It.txs It.nrmC it.texts = false) := fun g => Lib.hid (HE.out (by rw [HTA.out, g]; rfl))
          have hyes : (b1 || b2) = false → Hid (It.allN (It.txA It.nrmC it.texts) (j + 1 + 1) = true) := fun g => Lib.hid (HN.out (by rw [HTA.out, g]; rfl))
          cases b1 <;> cases b2
          · have HF := hyes rfl
            clear hno hyes
            go_wp2_with (go_at_call 113; refine (normalized_any x _ (by omega) (HG.out.ext ((Ext.refl _).alloc _))).mono ?_; rintro e w' ⟨rfl, rfl⟩; rw [HQ.out])
            all_goals
              go_round
              case rel => exact ⟨j + 1 + 1, by omega, by go_num, HF⟩
              case measure => simp [intOf]; omega
          all_goals
            have HF := hno rfl
            clear hno hyes
            go_wp2_with (go_at_call 113; refine (normalized_any x _ (by omega) (HG.out.ext ((Ext.refl _).alloc _))).mono ?_; rintro e w' ⟨rfl, rfl⟩; rw [HQ.out])
            all_goals
              go_ret
              exact ⟨ret_bool (by unfold It.val5; rw [HF.out]; rfl), (Ext.refl _).alloc _⟩
    · obtain rfl : k = it.texts.length := by omega
      have HF : Hid (It.txs It.nrmC it.texts = true) := Lib.hid HA.out
      go_wp2
      all_goals
        go_ret
        exact ⟨ret_bool (by unfold It.val5; rw [HF.out]; first | (simp [*]; done) | (simp_all; done) | (simp; intros; first | contradiction | omega | (simp_all; done) | (simp_all; omega)) | (simp_all; omega)), (Ext.refl _).alloc _⟩


set_option maxRecDepth 100000 in
set_option maxHeartbeats 6400000 in
theorem validKey_1 (it : It.Item) (L : It.Loc) (w : World) (h : It.In w it L) (hk : it.kind = 1) :
    Calls Tryz.prog 82 #[It.agg it L] w fun e w' => e = .returned (.bool (It.val1 it)) ∧ Ext w w' := by
  have H := Lib.hid h
  have hl1 : it.opts.length ≤ 140737488351232 := h.ok.ol
  have hl2 : it.chs.length ≤ 140737488351232 := h.ok.cl
  have hl3 : it.texts.length ≤ 140737488351232 := h.ok.tl
  have hvl : -9223372036854775808 ≤ it.value ∧ it.value ≤ 9223372036854775807 := h.ok.value
  have htl : -9223372036854775808 ≤ it.tol ∧ it.tol ≤ 9223372036854775807 := h.ok.tol
  clear h
  unfold It.agg
  rw [hk]
  clear hk
  go_enter Tryz.func82, Tryz.ntmps82

  rcases (show it.chs.length = 1 ∨ it.chs.length ≠ 1 by omega) with h1 | h1
  · obtain ⟨oA, oc, cA, cc, tA, tc, sA, sc⟩ := L
    obtain ⟨b, off, x, hA, hb, hx, hc⟩ := SlI.at_ (show SlI w cA it.chs from H.out.c) (i := 0) (by omega)
    have hxd : Hid (it.chs.getD 0 0 = x) := Lib.hid (by rw [List.getD_eq_getElem?_getD, hx]; rfl)
    have hc0 : w.cell? ⟨b, off, none⟩ = some (.int .i64 x) := by simpa using hc
    clear hx hc
    subst hA
    dsimp only
    rw [h1]
    have H1 := Lib.hid h1
    clear h1 H
    have hp : (0 : Nat) < 1 := by omega
    go_wp2_with (go_at_call 79; refine (within_any _ _ _ _).mono ?_; rintro e w' ⟨rfl, rfl⟩)
    all_goals
      go_ret
      exact ⟨ret_bool (by unfold It.val1; rw [hxd.out, H1.out]; first | (simp [*]; done) | (simp_all; done) | (simp; intros; first | contradiction | omega | (simp_all; done) | (simp_all; omega)) | (simp_all; omega)), (Ext.refl _).alloc _⟩
  · have h1' : ((it.chs.length : Int) == 1) = false := by rw [beq_eq_false_iff_ne]; omega
    have HF : Hid (It.val1 it = false) := Lib.hid (by unfold It.val1; rw [decide_eq_false h1]; simp)
    clear h1
    go_wp2
    all_goals
      go_ret
      exact ⟨ret_bool HF.out.symm, (Ext.refl _).alloc _⟩


set_option maxRecDepth 100000 in
set_option maxHeartbeats 6400000 in
theorem validKey_2 (it : It.Item) (L : It.Loc) (w : World) (h : It.In w it L) (hk : it.kind = 2) :
    Calls Tryz.prog 82 #[It.agg it L] w fun e w' => e = .returned (.bool (It.val2 it)) ∧ Ext w w' := by
  have H := Lib.hid h
  have hl1 : it.opts.length ≤ 140737488351232 := h.ok.ol
  have hl2 : it.chs.length ≤ 140737488351232 := h.ok.cl
  have hl3 : it.texts.length ≤ 140737488351232 := h.ok.tl
  have hvl : -9223372036854775808 ≤ it.value ∧ it.value ≤ 9223372036854775807 := h.ok.value
  have htl : -9223372036854775808 ≤ it.tol ∧ it.tol ≤ 9223372036854775807 := h.ok.tol
  clear h
  unfold It.agg
  rw [hk]
  clear hk
  go_enter Tryz.func82, Tryz.ntmps82

  go_wp2_with (go_at_call 83; refine (rising_any L.cA L.cc it.chs 0 _ _ (H.out.c.ext ((Ext.refl _).alloc _)) (by omega)).mono ?_; rintro e w' ⟨rfl, rfl⟩)
  all_goals first
    | (go_ret; exact ⟨ret_bool (by unfold It.val2; first | (simp [*]; done) | (simp_all; done) | (simp; intros; first | contradiction | omega | (simp_all; done) | (simp_all; omega)) | (simp_all; omega)), (Ext.refl _).alloc _⟩)


set_option maxRecDepth 100000 in
set_option maxHeartbeats 6400000 in
theorem validKey_3 (it : It.Item) (L : It.Loc) (w : World) (h : It.In w it L) (hk : it.kind = 3) (ho : it.opts.length ≤ 10) :
    Calls Tryz.prog 82 #[It.agg it L] w fun e w' => e = .returned (.bool (It.val3 it)) ∧ Ext w w' := by
  have H := Lib.hid h
  have hl1 : it.opts.length ≤ 140737488351232 := h.ok.ol
  have hl2 : it.chs.length ≤ 140737488351232 := h.ok.cl
  have hl3 : it.texts.length ≤ 140737488351232 := h.ok.tl
  have hvl : -9223372036854775808 ≤ it.value ∧ it.value ≤ 9223372036854775807 := h.ok.value
  have htl : -9223372036854775808 ≤ it.tol ∧ it.tol ≤ 9223372036854775807 := h.ok.tol
  clear h
  unfold It.agg
  rw [hk]
  clear hk
  go_enter Tryz.func82, Tryz.ntmps82

  by_cases hb : 2 ≤ it.opts.length ∧ it.chs.length = it.opts.length
  · obtain ⟨h2, h3⟩ := hb
    have h2' : (1 : Int) ≤ (it.opts.length : Int) - 1 := by omega
    have h3' : ((it.chs.length : Int) == (it.opts.length : Int)) = true := by rw [beq_iff_eq]; omega
    have HF : Hid (It.val3 it = It.rising (It.sorted it.chs) 0 ((it.opts.length : Int) - 1)) := Lib.hid (by unfold It.val3; rw [decide_eq_true h2, decide_eq_true h3]; rfl)
    have HL := Lib.hid h3
    have hcl : it.chs.length ≤ 10 := by omega
    have hcp : 0 < it.chs.length := by omega
    have HLN : Hid ((It.sorted it.chs).length = it.chs.length) := Lib.hid (It.sorted_perm it.chs).length_eq
    clear h3
    go_wp2_with fail
    with_reducible refine (values_any L.cA it.chs.length L.cc _).mono ?_
    rintro e w1 ⟨rfl, rfl⟩
    go_wp2_with fail
    refine (sorted_to L.cA L.cc (w.heap.size + 1) it.chs.length it.chs rfl _ hcp (by omega) (by rw [World.cell?_alloc_at _ _ _ _ (by simp)]; rfl) (H.out.c.ext (((Ext.refl _).alloc _).alloc _))).mono ?_
    rintro e w2 ⟨⟨R, rc, rfl, hS⟩, hb2⟩
    obtain ⟨hc2, hf2⟩ := hb2.cells
    have HS := Lib.hid hS
    have x2 : Hid (Ext w w2) := Lib.hid ((((Ext.refl w).alloc _).alloc _).trans hb2)
    clear hS hb2
    go_wp2_with (go_at_call 83; refine (rising_to R rc (It.sorted it.chs) HLN.out 0 _ _ HS.out (by omega)).mono ?_; rintro e w' ⟨rfl, rfl⟩)
    go_ret
    exact ⟨ret_bool HF.out.symm, x2.out⟩
  · have HF : Hid (It.val3 it = false) := Lib.hid (by unfold It.val3; simp; intros; omega)
    have hb2 : (it.opts.length : Int) - 1 < 1 ∨ ((1 : Int) ≤ (it.opts.length : Int) - 1 ∧ ((it.chs.length : Int) == (it.opts.length : Int)) = false) := by rw [beq_eq_false_iff_ne]; omega
    clear hb
    rcases hb2 with h2 | ⟨h2, h3⟩
    all_goals
      go_wp2
      all_goals
        go_ret
        exact ⟨ret_bool HF.out.symm, (Ext.refl _).alloc _⟩


set_option maxRecDepth 100000 in
set_option maxHeartbeats 6400000 in
theorem validKey_4 (it : It.Item) (L : It.Loc) (w : World) (h : It.In w it L) (hk : it.kind = 4) :
    Calls Tryz.prog 82 #[It.agg it L] w fun e w' => e = .returned (.bool (It.val4 it)) ∧ Ext w w' := by
  have H := Lib.hid h
  have hl1 : it.opts.length ≤ 140737488351232 := h.ok.ol
  have hl2 : it.chs.length ≤ 140737488351232 := h.ok.cl
  have hl3 : it.texts.length ≤ 140737488351232 := h.ok.tl
  have hvl : -9223372036854775808 ≤ it.value ∧ it.value ≤ 9223372036854775807 := h.ok.value
  have htl : -9223372036854775808 ≤ it.tol ∧ it.tol ≤ 9223372036854775807 := h.ok.tol
  clear h
  unfold It.agg
  rw [hk]
  clear hk
  go_enter Tryz.func82, Tryz.ntmps82

  go_wp2_with (go_at_call 79; refine (within_any _ _ _ _).mono ?_; rintro e w' ⟨rfl, rfl⟩)
  all_goals first
    | (go_ret; exact ⟨ret_bool (by unfold It.val4; first | (simp [*]; done) | (simp_all; done) | (simp; intros; first | contradiction | omega | (simp_all; done) | (simp_all; omega)) | (simp_all; omega)), (Ext.refl _).alloc _⟩)


set_option maxRecDepth 100000 in
set_option maxHeartbeats 6400000 in
theorem validKey_6 (it : It.Item) (L : It.Loc) (w : World) (h : It.In w it L) (hk : it.kind = 6) :
    Calls Tryz.prog 82 #[It.agg it L] w fun e w' => e = .returned (.bool (It.val6 it)) ∧ Ext w w' := by
  have H := Lib.hid h
  have hl1 : it.opts.length ≤ 140737488351232 := h.ok.ol
  have hl2 : it.chs.length ≤ 140737488351232 := h.ok.cl
  have hl3 : it.texts.length ≤ 140737488351232 := h.ok.tl
  have hvl : -9223372036854775808 ≤ it.value ∧ it.value ≤ 9223372036854775807 := h.ok.value
  have htl : -9223372036854775808 ≤ it.tol ∧ it.tol ≤ 9223372036854775807 := h.ok.tol
  clear h
  unfold It.agg
  rw [hk]
  clear hk
  go_enter Tryz.func82, Tryz.ntmps82

  go_wp2
  all_goals first
    | (go_ret; exact ⟨ret_bool (by unfold It.val6; first | (simp [*]; done) | (simp_all; done) | (simp; intros; first | contradiction | omega | (simp_all; done) | (simp_all; omega)) | (simp_all; omega)), (Ext.refl _).alloc _⟩)


set_option maxRecDepth 100000 in
set_option maxHeartbeats 6400000 in
theorem onlyKey_low (it : It.Item) (L : It.Loc) (w : World) (h : It.In w it L) (hk : it.kind ≤ 3) :
    Calls Tryz.prog 81 #[It.agg it L] w fun e w' => e = .returned (.bool (It.only it)) ∧ Ext w w' := by
  have hl1 : it.opts.length ≤ 140737488351232 := h.ok.ol
  have hl2 : it.chs.length ≤ 140737488351232 := h.ok.cl
  have hl3 : it.texts.length ≤ 140737488351232 := h.ok.tl
  clear h
  obtain ⟨v, hv⟩ : ∃ v, It.only it = v := ⟨_, rfl⟩
  have HV : Hid ((It.noNum it && (It.noTxt it && It.noEss it)) = v) := Lib.hid (by rw [← hv]; unfold It.only; rw [decide_eq_true hk, decide_eq_false (show ¬ it.kind = 4 by omega), decide_eq_false (show ¬ it.kind = 5 by omega), decide_eq_false (show ¬ it.kind = 6 by omega)]; simp only [Bool.true_or, Bool.false_or, Bool.true_and])
  rw [hv]
  clear hv
  have e1 : ¬ (3 : Int) < it.kind := by omega
  have e2 : (it.kind != 4) = true := by rw [bne_iff_ne]; omega
  have e3 : (it.kind == 5) = false := by rw [beq_eq_false_iff_ne]; omega
  have e4 : (it.kind == 6) = false := by rw [beq_eq_false_iff_ne]; omega
  clear hk
  unfold It.agg
  by_cases hq : it.value = 0
  · have q_value := Lib.hid hq
    have e_value : (it.value != 0) = false := by rw [hq]; rfl
    clear hq
    by_cases hq : it.tol = 0
    · have q_tol := Lib.hid hq
      have e_tol : (it.tol != 0) = false := by rw [hq]; rfl
      clear hq
      by_cases hq : it.texts.length = 0
      · have q_texts := Lib.hid hq
        have e_texts : ((it.texts.length : Int) == 0) = true := by rw [hq]; rfl
        have f_texts : it.texts = [] := List.eq_nil_of_length_eq_zero hq
        clear hq
        by_cases hq : it.rub = 0
        · have q_rub := Lib.hid hq
          have e_rub : (it.rub == 0) = true := by rw [hq]; rfl
          clear hq
          have HF : Hid (v = true) := Lib.hid (by rw [← HV.out]; unfold It.noNum It.noTxt It.noEss; simp [q_value.out, q_tol.out, q_texts.out, q_rub.out])
          clear HV q_value q_tol q_texts q_rub
          go_enter Tryz.func81, Tryz.ntmps81
          go_wp2
          all_goals
            go_ret
            exact ⟨ret_bool HF.out.symm, (Ext.refl _).alloc _⟩
        · have HF : Hid (v = false) := Lib.hid (by rw [← HV.out]; unfold It.noNum It.noTxt It.noEss; simp [hq])
          have e_rub : (it.rub == 0) = false := by rw [beq_eq_false_iff_ne]; exact hq
          clear hq HV q_value q_tol q_texts
          go_enter Tryz.func81, Tryz.ntmps81
          go_wp2
          all_goals
            go_ret
            exact ⟨ret_bool HF.out.symm, (Ext.refl _).alloc _⟩
      · have HF : Hid (v = false) := Lib.hid (by rw [← HV.out]; unfold It.noNum It.noTxt It.noEss; simp [hq])
        have e_texts : ((it.texts.length : Int) == 0) = false := by rw [beq_eq_false_iff_ne]; omega
        have f_texts : ¬ it.texts = [] := fun e => hq (by rw [e]; rfl)
        clear hq HV q_value q_tol
        go_enter Tryz.func81, Tryz.ntmps81
        go_wp2
        all_goals
          go_ret
          exact ⟨ret_bool HF.out.symm, (Ext.refl _).alloc _⟩
    · have HF : Hid (v = false) := Lib.hid (by rw [← HV.out]; unfold It.noNum It.noTxt It.noEss; simp [hq])
      have e_tol : (it.tol != 0) = true := by rw [bne_iff_ne]; exact hq
      clear hq HV q_value
      go_enter Tryz.func81, Tryz.ntmps81
      go_wp2
      all_goals
        go_ret
        exact ⟨ret_bool HF.out.symm, (Ext.refl _).alloc _⟩
  · have HF : Hid (v = false) := Lib.hid (by rw [← HV.out]; unfold It.noNum It.noTxt It.noEss; simp [hq])
    have e_value : (it.value != 0) = true := by rw [bne_iff_ne]; exact hq
    clear hq HV 
    go_enter Tryz.func81, Tryz.ntmps81
    go_wp2
    all_goals
        go_ret
        exact ⟨ret_bool HF.out.symm, (Ext.refl _).alloc _⟩


set_option maxRecDepth 100000 in
set_option maxHeartbeats 6400000 in
theorem onlyKey_k4 (it : It.Item) (L : It.Loc) (w : World) (h : It.In w it L) (hk : it.kind = 4) :
    Calls Tryz.prog 81 #[It.agg it L] w fun e w' => e = .returned (.bool (It.only it)) ∧ Ext w w' := by
  have hl1 : it.opts.length ≤ 140737488351232 := h.ok.ol
  have hl2 : it.chs.length ≤ 140737488351232 := h.ok.cl
  have hl3 : it.texts.length ≤ 140737488351232 := h.ok.tl
  clear h
  obtain ⟨v, hv⟩ : ∃ v, It.only it = v := ⟨_, rfl⟩
  have HV : Hid ((It.noOpt it && (It.noTxt it && It.noEss it)) = v) := Lib.hid (by rw [← hv]; unfold It.only; rw [decide_eq_false (show ¬ it.kind ≤ 3 by omega), decide_eq_true (show it.kind = 4 by omega), decide_eq_false (show ¬ it.kind = 5 by omega), decide_eq_false (show ¬ it.kind = 6 by omega)]; simp only [Bool.true_or, Bool.false_or, Bool.and_true])
  rw [hv]
  clear hv
  unfold It.agg
  rw [hk]
  clear hk
  by_cases hq : it.opts.length = 0
  · have q_opts := Lib.hid hq
    have e_opts : ¬ 0 < it.opts.length := by omega
    have f_opts : decide (0 < it.opts.length) = false := decide_eq_false e_opts
    have g_opts : it.opts = [] := List.eq_nil_of_length_eq_zero hq
    clear hq
    by_cases hq : it.chs.length = 0
    · have q_chs := Lib.hid hq
      have e_chs : ¬ 0 < it.chs.length := by omega
      have f_chs : decide (0 < it.chs.length) = false := decide_eq_false e_chs
      clear hq
      by_cases hq : it.texts.length = 0
      · have q_texts := Lib.hid hq
        have e_texts : ((it.texts.length : Int) == 0) = true := by rw [hq]; rfl
        have f_texts : it.texts = [] := List.eq_nil_of_length_eq_zero hq
        clear hq
        by_cases hq : it.rub = 0
        · have q_rub := Lib.hid hq
          have e_rub : (it.rub == 0) = true := by rw [hq]; rfl
          clear hq
          have HF : Hid (v = true) := Lib.hid (by rw [← HV.out]; unfold It.noOpt It.noTxt It.noEss; simp [q_opts.out, q_chs.out, q_texts.out, q_rub.out])
          clear HV q_opts q_chs q_texts q_rub
          go_enter Tryz.func81, Tryz.ntmps81
          go_wp2
          all_goals
            go_ret
            exact ⟨ret_bool HF.out.symm, (Ext.refl _).alloc _⟩
        · have HF : Hid (v = false) := Lib.hid (by rw [← HV.out]; unfold It.noOpt It.noTxt It.noEss; simp [hq])
          have e_rub : (it.rub == 0) = false := by rw [beq_eq_false_iff_ne]; exact hq
          clear hq HV q_opts q_chs q_texts
          go_enter Tryz.func81, Tryz.ntmps81
          go_wp2
          all_goals
            go_ret
            exact ⟨ret_bool HF.out.symm, (Ext.refl _).alloc _⟩
      · have HF : Hid (v = false) := Lib.hid (by rw [← HV.out]; unfold It.noOpt It.noTxt It.noEss; simp [hq])
        have e_texts : ((it.texts.length : Int) == 0) = false := by rw [beq_eq_false_iff_ne]; omega
        have f_texts : ¬ it.texts = [] := fun e => hq (by rw [e]; rfl)
        clear hq HV q_opts q_chs
        go_enter Tryz.func81, Tryz.ntmps81
        go_wp2
        all_goals
          go_ret
          exact ⟨ret_bool HF.out.symm, (Ext.refl _).alloc _⟩
    · have HF : Hid (v = false) := Lib.hid (by rw [← HV.out]; unfold It.noOpt It.noTxt It.noEss; simp [hq])
      have e_chs : 0 < it.chs.length := by omega
      have f_chs : decide (0 < it.chs.length) = true := decide_eq_true e_chs
      clear hq HV q_opts
      go_enter Tryz.func81, Tryz.ntmps81
      go_wp2
      all_goals
        go_ret
        exact ⟨ret_bool HF.out.symm, (Ext.refl _).alloc _⟩
  · have HF : Hid (v = false) := Lib.hid (by rw [← HV.out]; unfold It.noOpt It.noTxt It.noEss; simp [hq])
    have e_opts : 0 < it.opts.length := by omega
    have f_opts : decide (0 < it.opts.length) = true := decide_eq_true e_opts
    have g_opts : ¬ it.opts = [] := fun e => hq (by rw [e]; rfl)
    clear hq HV 
    go_enter Tryz.func81, Tryz.ntmps81
    go_wp2
    all_goals
        go_ret
        exact ⟨ret_bool HF.out.symm, (Ext.refl _).alloc _⟩


set_option maxRecDepth 100000 in
set_option maxHeartbeats 6400000 in
theorem onlyKey_k5 (it : It.Item) (L : It.Loc) (w : World) (h : It.In w it L) (hk : it.kind = 5) :
    Calls Tryz.prog 81 #[It.agg it L] w fun e w' => e = .returned (.bool (It.only it)) ∧ Ext w w' := by
  have hl1 : it.opts.length ≤ 140737488351232 := h.ok.ol
  have hl2 : it.chs.length ≤ 140737488351232 := h.ok.cl
  have hl3 : it.texts.length ≤ 140737488351232 := h.ok.tl
  clear h
  obtain ⟨v, hv⟩ : ∃ v, It.only it = v := ⟨_, rfl⟩
  have HV : Hid ((It.noOpt it && It.noNum it && It.noEss it) = v) := Lib.hid (by rw [← hv]; unfold It.only; rw [decide_eq_false (show ¬ it.kind ≤ 3 by omega), decide_eq_false (show ¬ it.kind = 4 by omega), decide_eq_true (show it.kind = 5 by omega), decide_eq_false (show ¬ it.kind = 6 by omega)]; simp only [Bool.true_or, Bool.false_or, Bool.true_and])
  rw [hv]
  clear hv
  unfold It.agg
  rw [hk]
  clear hk
  by_cases hq : it.opts.length = 0
  · have q_opts := Lib.hid hq
    have e_opts : ¬ 0 < it.opts.length := by omega
    have f_opts : decide (0 < it.opts.length) = false := decide_eq_false e_opts
    have g_opts : it.opts = [] := List.eq_nil_of_length_eq_zero hq
    clear hq
    by_cases hq : it.chs.length = 0
    · have q_chs := Lib.hid hq
      have e_chs : ¬ 0 < it.chs.length := by omega
      have f_chs : decide (0 < it.chs.length) = false := decide_eq_false e_chs
      clear hq
      by_cases hq : it.value = 0
      · have q_value := Lib.hid hq
        have e_value : (it.value != 0) = false := by rw [hq]; rfl
        clear hq
        by_cases hq : it.tol = 0
        · have q_tol := Lib.hid hq
          have e_tol : (it.tol != 0) = false := by rw [hq]; rfl
          clear hq
          by_cases hq : it.rub = 0
          · have q_rub := Lib.hid hq
            have e_rub : (it.rub == 0) = true := by rw [hq]; rfl
            clear hq
            have HF : Hid (v = true) := Lib.hid (by rw [← HV.out]; unfold It.noOpt It.noNum It.noEss; simp [q_opts.out, q_chs.out, q_value.out, q_tol.out, q_rub.out])
            clear HV q_opts q_chs q_value q_tol q_rub
            go_enter Tryz.func81, Tryz.ntmps81
            go_wp2
            all_goals
              go_ret
              exact ⟨ret_bool HF.out.symm, (Ext.refl _).alloc _⟩
          · have HF : Hid (v = false) := Lib.hid (by rw [← HV.out]; unfold It.noOpt It.noNum It.noEss; simp [hq])
            have e_rub : (it.rub == 0) = false := by rw [beq_eq_false_iff_ne]; exact hq
            clear hq HV q_opts q_chs q_value q_tol
            go_enter Tryz.func81, Tryz.ntmps81
            go_wp2
            all_goals
              go_ret
              exact ⟨ret_bool HF.out.symm, (Ext.refl _).alloc _⟩
        · have HF : Hid (v = false) := Lib.hid (by rw [← HV.out]; unfold It.noOpt It.noNum It.noEss; simp [hq])
          have e_tol : (it.tol != 0) = true := by rw [bne_iff_ne]; exact hq
          clear hq HV q_opts q_chs q_value
          go_enter Tryz.func81, Tryz.ntmps81
          go_wp2
          all_goals
            go_ret
            exact ⟨ret_bool HF.out.symm, (Ext.refl _).alloc _⟩
      · have HF : Hid (v = false) := Lib.hid (by rw [← HV.out]; unfold It.noOpt It.noNum It.noEss; simp [hq])
        have e_value : (it.value != 0) = true := by rw [bne_iff_ne]; exact hq
        clear hq HV q_opts q_chs
        go_enter Tryz.func81, Tryz.ntmps81
        go_wp2
        all_goals
          go_ret
          exact ⟨ret_bool HF.out.symm, (Ext.refl _).alloc _⟩
    · have HF : Hid (v = false) := Lib.hid (by rw [← HV.out]; unfold It.noOpt It.noNum It.noEss; simp [hq])
      have e_chs : 0 < it.chs.length := by omega
      have f_chs : decide (0 < it.chs.length) = true := decide_eq_true e_chs
      clear hq HV q_opts
      go_enter Tryz.func81, Tryz.ntmps81
      go_wp2
      all_goals
        go_ret
        exact ⟨ret_bool HF.out.symm, (Ext.refl _).alloc _⟩
  · have HF : Hid (v = false) := Lib.hid (by rw [← HV.out]; unfold It.noOpt It.noNum It.noEss; simp [hq])
    have e_opts : 0 < it.opts.length := by omega
    have f_opts : decide (0 < it.opts.length) = true := decide_eq_true e_opts
    have g_opts : ¬ it.opts = [] := fun e => hq (by rw [e]; rfl)
    clear hq HV 
    go_enter Tryz.func81, Tryz.ntmps81
    go_wp2
    all_goals
        go_ret
        exact ⟨ret_bool HF.out.symm, (Ext.refl _).alloc _⟩


set_option maxRecDepth 100000 in
set_option maxHeartbeats 6400000 in
theorem onlyKey_k6 (it : It.Item) (L : It.Loc) (w : World) (h : It.In w it L) (hk : it.kind = 6) :
    Calls Tryz.prog 81 #[It.agg it L] w fun e w' => e = .returned (.bool (It.only it)) ∧ Ext w w' := by
  have hl1 : it.opts.length ≤ 140737488351232 := h.ok.ol
  have hl2 : it.chs.length ≤ 140737488351232 := h.ok.cl
  have hl3 : it.texts.length ≤ 140737488351232 := h.ok.tl
  clear h
  obtain ⟨v, hv⟩ : ∃ v, It.only it = v := ⟨_, rfl⟩
  have HV : Hid ((It.noOpt it && It.noNum it && It.noTxt it) = v) := Lib.hid (by rw [← hv]; unfold It.only; rw [decide_eq_false (show ¬ it.kind ≤ 3 by omega), decide_eq_false (show ¬ it.kind = 4 by omega), decide_eq_false (show ¬ it.kind = 5 by omega), decide_eq_true (show it.kind = 6 by omega)]; simp only [Bool.true_or, Bool.false_or, Bool.and_true])
  rw [hv]
  clear hv
  unfold It.agg
  rw [hk]
  clear hk
  by_cases hq : it.opts.length = 0
  · have q_opts := Lib.hid hq
    have e_opts : ¬ 0 < it.opts.length := by omega
    have f_opts : decide (0 < it.opts.length) = false := decide_eq_false e_opts
    have g_opts : it.opts = [] := List.eq_nil_of_length_eq_zero hq
    clear hq
    by_cases hq : it.chs.length = 0
    · have q_chs := Lib.hid hq
      have e_chs : ¬ 0 < it.chs.length := by omega
      have f_chs : decide (0 < it.chs.length) = false := decide_eq_false e_chs
      clear hq
      by_cases hq : it.value = 0
      · have q_value := Lib.hid hq
        have e_value : (it.value != 0) = false := by rw [hq]; rfl
        clear hq
        by_cases hq : it.tol = 0
        · have q_tol := Lib.hid hq
          have e_tol : (it.tol != 0) = false := by rw [hq]; rfl
          clear hq
          by_cases hq : it.texts.length = 0
          · have q_texts := Lib.hid hq
            have e_texts : ((it.texts.length : Int) == 0) = true := by rw [hq]; rfl
            have f_texts : it.texts = [] := List.eq_nil_of_length_eq_zero hq
            clear hq
            have HF : Hid (v = true) := Lib.hid (by rw [← HV.out]; unfold It.noOpt It.noNum It.noTxt; simp [q_opts.out, q_chs.out, q_value.out, q_tol.out, q_texts.out])
            clear HV q_opts q_chs q_value q_tol q_texts
            go_enter Tryz.func81, Tryz.ntmps81
            go_wp2
            all_goals
              go_ret
              exact ⟨ret_bool HF.out.symm, (Ext.refl _).alloc _⟩
          · have HF : Hid (v = false) := Lib.hid (by rw [← HV.out]; unfold It.noOpt It.noNum It.noTxt; simp [hq])
            have e_texts : ((it.texts.length : Int) == 0) = false := by rw [beq_eq_false_iff_ne]; omega
            have f_texts : ¬ it.texts = [] := fun e => hq (by rw [e]; rfl)
            clear hq HV q_opts q_chs q_value q_tol
            go_enter Tryz.func81, Tryz.ntmps81
            go_wp2
            all_goals
              go_ret
              exact ⟨ret_bool HF.out.symm, (Ext.refl _).alloc _⟩
        · have HF : Hid (v = false) := Lib.hid (by rw [← HV.out]; unfold It.noOpt It.noNum It.noTxt; simp [hq])
          have e_tol : (it.tol != 0) = true := by rw [bne_iff_ne]; exact hq
          clear hq HV q_opts q_chs q_value
          go_enter Tryz.func81, Tryz.ntmps81
          go_wp2
          all_goals
            go_ret
            exact ⟨ret_bool HF.out.symm, (Ext.refl _).alloc _⟩
      · have HF : Hid (v = false) := Lib.hid (by rw [← HV.out]; unfold It.noOpt It.noNum It.noTxt; simp [hq])
        have e_value : (it.value != 0) = true := by rw [bne_iff_ne]; exact hq
        clear hq HV q_opts q_chs
        go_enter Tryz.func81, Tryz.ntmps81
        go_wp2
        all_goals
          go_ret
          exact ⟨ret_bool HF.out.symm, (Ext.refl _).alloc _⟩
    · have HF : Hid (v = false) := Lib.hid (by rw [← HV.out]; unfold It.noOpt It.noNum It.noTxt; simp [hq])
      have e_chs : 0 < it.chs.length := by omega
      have f_chs : decide (0 < it.chs.length) = true := decide_eq_true e_chs
      clear hq HV q_opts
      go_enter Tryz.func81, Tryz.ntmps81
      go_wp2
      all_goals
        go_ret
        exact ⟨ret_bool HF.out.symm, (Ext.refl _).alloc _⟩
  · have HF : Hid (v = false) := Lib.hid (by rw [← HV.out]; unfold It.noOpt It.noNum It.noTxt; simp [hq])
    have e_opts : 0 < it.opts.length := by omega
    have f_opts : decide (0 < it.opts.length) = true := decide_eq_true e_opts
    have g_opts : ¬ it.opts = [] := fun e => hq (by rw [e]; rfl)
    clear hq HV 
    go_enter Tryz.func81, Tryz.ntmps81
    go_wp2
    all_goals
        go_ret
        exact ⟨ret_bool HF.out.symm, (Ext.refl _).alloc _⟩

theorem onlyKey_any (it : It.Item) (L : It.Loc) (w : World) (h : It.In w it L) (hk : 1 ≤ it.kind ∧ it.kind ≤ 6) :
    Calls Tryz.prog 81 #[It.agg it L] w fun e w' => e = .returned (.bool (It.only it)) ∧ Ext w w' := by
  rcases (show it.kind ≤ 3 ∨ it.kind = 4 ∨ it.kind = 5 ∨ it.kind = 6 by omega) with e | e | e | e
  · exact onlyKey_low it L w h e
  · exact onlyKey_k4 it L w h e
  · exact onlyKey_k5 it L w h e
  · exact onlyKey_k6 it L w h e
theorem validKey_any (it : It.Item) (L : It.Loc) (w : World) (h : It.In w it L) (hk : 1 ≤ it.kind ∧ it.kind ≤ 6) (ho : it.opts.length ≤ 10) (hsz : ∀ s ∈ it.texts, s.size ≤ 200) (hg : Gm w) :
    Calls Tryz.prog 82 #[It.agg it L] w fun e w' => e = .returned (.bool (It.val it)) ∧ Ext w w' := by
  unfold It.val
  rcases (show it.kind = 1 ∨ it.kind = 2 ∨ it.kind = 3 ∨ it.kind = 4 ∨ it.kind = 5 ∨ it.kind = 6 by omega) with e | e | e | e | e | e
  · rw [if_pos e]; exact validKey_1 it L w h e
  · rw [if_neg (by omega), if_pos e]; exact validKey_2 it L w h e
  · rw [if_neg (by omega), if_neg (by omega), if_pos e]; exact validKey_3 it L w h e ho
  · rw [if_neg (by omega), if_neg (by omega), if_neg (by omega), if_pos e]; exact validKey_4 it L w h e
  · rw [if_neg (by omega), if_neg (by omega), if_neg (by omega), if_neg (by omega), if_pos e]; exact validKey_5 it L w h e hsz hg
  · rw [if_neg (by omega), if_neg (by omega), if_neg (by omega), if_neg (by omega), if_neg (by omega)]; exact validKey_6 it L w h e
theorem rkey_any (it : It.Item) (L : It.Loc) (w : World) (h : It.In w it L) (hk : 1 ≤ it.kind ∧ it.kind ≤ 6) (hsz : ∀ s ∈ it.texts, s.size ≤ 200) :
    Calls Tryz.prog 93 #[It.agg it L] w fun e w' => e = .returned (.bool (It.key it)) ∧ Ext w w' := by
  unfold It.key
  rcases (show it.kind = 1 ∨ it.kind = 2 ∨ it.kind = 3 ∨ it.kind = 4 ∨ it.kind = 5 ∨ it.kind = 6 by omega) with e | e | e | e | e | e
  · rw [if_pos e]; exact rkey_1 it L w h e
  · rw [if_neg (by omega), if_pos e]; exact rkey_2 it L w h e
  · rw [if_neg (by omega), if_neg (by omega), if_pos e]; exact rkey_3 it L w h e
  · rw [if_neg (by omega), if_neg (by omega), if_neg (by omega), if_pos e]; exact rkey_4 it L w h e
  · rw [if_neg (by omega), if_neg (by omega), if_neg (by omega), if_neg (by omega), if_pos e]; exact rkey_5 it L w h e hsz
  · rw [if_neg (by omega), if_neg (by omega), if_neg (by omega), if_neg (by omega), if_neg (by omega)]; exact rkey_6 it L w h e
end Go.Proofs.YtgaepmddbjdhfaaGreatDoor
