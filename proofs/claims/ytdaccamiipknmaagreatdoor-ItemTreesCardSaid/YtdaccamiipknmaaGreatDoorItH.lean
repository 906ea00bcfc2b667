/- The key of an item: the reference's permutation and key, the package's onlyKey and validKey: contracts. Conditions: those of each theorem. -/
import Derived.Test.YtdaccamiipknmaaGreatDoorItG
import Derived.Test.YtdaccamiipknmaaGreatDoorItS
namespace Go.Proofs.YtdaccamiipknmaaGreatDoor
open Go.RowKit

namespace It
def noOpt (it : Item) : Bool := decide (it.opts.length = 0) && decide (it.chs.length = 0)
def noNum (it : Item) : Bool := decide (it.value = 0) && decide (it.tol = 0)
def noTxt (it : Item) : Bool := decide (it.texts.length = 0)
def noEss (it : Item) : Bool := decide (it.rub = 0)
/-- a is at most b. -/
def sle (a b : ByteArray) : Bool := Op.bytesLess a.toList b.toList || a.toList == b.toList
/-- The i-th accepted text is normalized and stands behind the one before. -/
def txA (f : ByteArray → Bool) (l : List ByteArray) (i : Nat) : Bool := f (l.getD i ⟨#[]⟩) && (decide (i = 0) || !sle (l.getD i ⟨#[]⟩) (l.getD (i - 1) ⟨#[]⟩))
def txs (f : ByteArray → Bool) (l : List ByteArray) : Bool := allN (txA f l) l.length
def key1 (it : Item) : Bool := noNum it && noTxt it && noEss it && decide (2 ≤ it.opts.length) && decide (it.chs.length = 1) && rising it.chs 0 ((it.opts.length : Int) - 1)
def key2 (it : Item) : Bool := noNum it && noTxt it && noEss it && decide (2 ≤ it.opts.length) && decide (1 ≤ it.chs.length) && rising it.chs 0 ((it.opts.length : Int) - 1)
def key3 (it : Item) : Bool := noNum it && noTxt it && noEss it && decide (2 ≤ it.opts.length) && perm it.chs it.opts.length
def key4 (it : Item) : Bool := noOpt it && noTxt it && noEss it && wi it.value (-9999999) 9999999 && wi it.tol 0 9999999
def key5 (f : ByteArray → Bool) (it : Item) : Bool := txs f it.texts && (noOpt it && noNum it && noEss it && decide (1 ≤ it.texts.length))
def key6 (it : Item) : Bool := noOpt it && noNum it && noTxt it && decide (1 ≤ it.rub)
/-- The key, as the reference asks it. -/
def key (it : Item) : Bool := if it.kind = 1 then key1 it else if it.kind = 2 then key2 it else if it.kind = 3 then key3 it else if it.kind = 4 then key4 it else if it.kind = 5 then key5 nrm it else key6 it
theorem count_take {l : List Int} {k : Nat} {x y : Int} (h : l[k]? = some x) : (l.take (k + 1)).count y = (l.take k).count y + if x = y then 1 else 0 := by
  rw [List.take_add_one, h, List.count_append]
  simp [List.count_cons]
end It

set_option maxRecDepth 100000 in
set_option maxHeartbeats 1600000 in
theorem permutation_any (A : Option Addr) (c : Nat) (l : List Int) (n : Nat) (w : World) (h : SlI w A l) (hl : l.length ≤ 9223372036854775807) (hn : n ≤ 9223372036854775807) :
    Calls Tryz.prog 82 #[.slice A l.length c, .int .i64 n] w fun e w' => e = .returned (.bool (It.perm l n)) ∧ w = w' := by
  have H := Lib.hid h
  clear h
  obtain ⟨v, hv⟩ : ∃ v, It.perm l n = v := ⟨_, rfl⟩
  rw [hv]
  by_cases hln : l.length = n
  case neg =>
    have HF : Hid (v = false) := Lib.hid (by rw [← hv]; unfold It.perm; rw [decide_eq_false hln]; rfl)
    have e1 : ((l.length : Int) != (n : Int)) = true := by rw [bne_iff_ne]; omega
    clear hln hv
    go_enter Tryz.func82, Tryz.ntmps82
    go_wp2
    go_ret
    exact ⟨ret_bool HF.out.symm, rfl⟩
  have HV : Hid (It.allN (fun k => decide (It.times l k = 1)) n = v) := Lib.hid (by rw [← hv]; unfold It.perm; rw [decide_eq_true hln, Bool.true_and])
  have e1 : ((l.length : Int) != (n : Int)) = false := by rw [bne_eq_false_iff_eq]; omega
  clear hln hv
  go_enter Tryz.func82, Tryz.ntmps82
  go_wp2
  go_loop [5] (fun i => ∃ k : Nat, k ≤ n ∧ i = .int .i64 k ∧ Hid (It.allN (fun k => decide (It.times l k = 1)) k = true)) (fun i => n - (intOf i).toNat)
  case atStart => exact ⟨0, by omega, rfl, Lib.hid rfl⟩
  case round =>
    obtain ⟨k, hk, rfl, HA⟩ := hrel
    by_cases hlt : k < n
    · go_wp2
      go_loop [6, 20] (fun t j => ∃ m c : Nat, m ≤ l.length ∧ j = .int .i64 m ∧ t = .int .i64 c ∧ c ≤ m ∧ Hid ((l.take m).count (k : Int) = c)) (fun _ j => l.length - (intOf j).toNat)
      case atStart => exact ⟨0, 0, by omega, rfl, rfl, by omega, Lib.hid rfl⟩
      case round =>
        obtain ⟨m, c, hm, rfl, rfl, hcm, HC⟩ := hrel
        by_cases hlm : m < l.length
        · obtain ⟨b, off, x, rfl, hb, hx, hc⟩ := H.out.at_ hlm
          have HT := Lib.hid (It.count_take (y := (k : Int)) hx)
          clear hx
          by_cases hxk : x = (k : Int)
          · have e2 : (x == (k : Int)) = true := by rw [beq_iff_eq]; exact hxk
            have HN : Hid ((l.take (m + 1)).count (k : Int) = c + 1) := Lib.hid (by rw [HT.out, HC.out, if_pos hxk])
            clear hxk
            go_wp2
            go_round
            case rel => exact ⟨m + 1, c + 1, by omega, by go_num, by go_num, by omega, HN⟩
            case measure => simp [intOf]; omega
          · have e2 : (x == (k : Int)) = false := by rw [beq_eq_false_iff_ne]; exact hxk
            have HN : Hid ((l.take (m + 1)).count (k : Int) = c) := Lib.hid (by rw [HT.out, HC.out, if_neg hxk]; rfl)
            clear hxk
            go_wp2
            go_round
            case rel => exact ⟨m + 1, c, by omega, by go_num, by go_num, by omega, HN⟩
            case measure => simp [intOf]; omega
        · obtain rfl : m = l.length := by omega
          have HT : Hid (It.times l (k : Int) = c) := Lib.hid (by have := HC.out; rwa [List.take_length] at this)
          by_cases h1 : c = 1
          · have e3 : ((c : Int) != 1) = false := by rw [h1]; rfl
            have HN := Lib.hid (It.allN_next HA.out (show decide (It.times l (k : Int) = 1) = true from decide_eq_true (by rw [HT.out, h1])))
            clear h1
            go_wp2
            go_round
            case rel => exact ⟨k + 1, by omega, by go_num, HN⟩
            case measure => simp [intOf]; omega
          · have e3 : ((c : Int) != 1) = true := by rw [bne_iff_ne]; omega
            have HF : Hid (v = false) := Lib.hid (by rw [← HV.out]; exact It.allN_no hlt (show decide (It.times l (k : Int) = 1) = false from decide_eq_false (by rw [HT.out]; exact h1)))
            clear h1
            go_wp2
            go_ret
            exact ⟨ret_bool HF.out.symm, rfl⟩
    · obtain rfl : k = n := by omega
      have HF : Hid (v = true) := Lib.hid (by rw [← HV.out]; exact HA.out)
      go_wp2
      go_ret
      exact ⟨ret_bool HF.out.symm, rfl⟩


set_option maxRecDepth 100000 in
set_option maxHeartbeats 6400000 in
theorem rkey_1 (it : It.Item) (L : It.Loc) (w : World) (h : It.In w it L) (hk : it.kind = 1) :
    Calls Tryz.prog 63 #[It.agg it L] w fun e w' => e = .returned (.bool (It.key1 it)) ∧ Ext w w' := by
  have H := Lib.hid h
  have hl1 : it.opts.length ≤ 140737488351232 := h.ok.ol
  have hl2 : it.chs.length ≤ 140737488351232 := h.ok.cl
  have hl3 : it.texts.length ≤ 140737488351232 := h.ok.tl
  have hvl : -9223372036854775808 ≤ it.value ∧ it.value ≤ 9223372036854775807 := h.ok.value
  have htl : -9223372036854775808 ≤ it.tol ∧ it.tol ≤ 9223372036854775807 := h.ok.tol
  clear h
  unfold It.agg
  rw [hk]
  clear hk
  go_enter Tryz.func63, Tryz.ntmps63

  go_wp2_with (go_at_call 64; refine (rrising_any L.cA L.cc it.chs 0 _ _ (H.out.c.ext ((Ext.refl _).alloc _)) (by omega)).mono ?_; rintro e w' ⟨rfl, rfl⟩)
  all_goals first
    | (go_ret; exact ⟨ret_bool (by unfold It.key1 It.noNum It.noTxt It.noEss; first | (simp [*]; done) | (simp_all; done) | (simp; intros; first | contradiction | omega | (simp_all; done) | (simp_all; omega)) | (simp_all; omega)), (Ext.refl _).alloc _⟩)


set_option maxRecDepth 100000 in
set_option maxHeartbeats 6400000 in
theorem rkey_2 (it : It.Item) (L : It.Loc) (w : World) (h : It.In w it L) (hk : it.kind = 2) :
    Calls Tryz.prog 63 #[It.agg it L] w fun e w' => e = .returned (.bool (It.key2 it)) ∧ Ext w w' := by
  have H := Lib.hid h
  have hl1 : it.opts.length ≤ 140737488351232 := h.ok.ol
  have hl2 : it.chs.length ≤ 140737488351232 := h.ok.cl
  have hl3 : it.texts.length ≤ 140737488351232 := h.ok.tl
  have hvl : -9223372036854775808 ≤ it.value ∧ it.value ≤ 9223372036854775807 := h.ok.value
  have htl : -9223372036854775808 ≤ it.tol ∧ it.tol ≤ 9223372036854775807 := h.ok.tol
  clear h
  unfold It.agg
  rw [hk]
  clear hk
  go_enter Tryz.func63, Tryz.ntmps63

  go_wp2_with (go_at_call 64; refine (rrising_any L.cA L.cc it.chs 0 _ _ (H.out.c.ext ((Ext.refl _).alloc _)) (by omega)).mono ?_; rintro e w' ⟨rfl, rfl⟩)
  all_goals first
    | (go_ret; exact ⟨ret_bool (by unfold It.key2 It.noNum It.noTxt It.noEss; first | (simp [*]; done) | (simp_all; done) | (simp; intros; first | contradiction | omega | (simp_all; done) | (simp_all; omega)) | (simp_all; omega)), (Ext.refl _).alloc _⟩)


set_option maxRecDepth 100000 in
set_option maxHeartbeats 6400000 in
theorem rkey_3 (it : It.Item) (L : It.Loc) (w : World) (h : It.In w it L) (hk : it.kind = 3) :
    Calls Tryz.prog 63 #[It.agg it L] w fun e w' => e = .returned (.bool (It.key3 it)) ∧ Ext w w' := by
  have H := Lib.hid h
  have hl1 : it.opts.length ≤ 140737488351232 := h.ok.ol
  have hl2 : it.chs.length ≤ 140737488351232 := h.ok.cl
  have hl3 : it.texts.length ≤ 140737488351232 := h.ok.tl
  have hvl : -9223372036854775808 ≤ it.value ∧ it.value ≤ 9223372036854775807 := h.ok.value
  have htl : -9223372036854775808 ≤ it.tol ∧ it.tol ≤ 9223372036854775807 := h.ok.tol
  clear h
  unfold It.agg
  rw [hk]
  clear hk
  go_enter Tryz.func63, Tryz.ntmps63

  go_wp2_with (go_at_call 82; refine (permutation_any L.cA L.cc it.chs it.opts.length _ (H.out.c.ext ((Ext.refl _).alloc _)) (by omega) (by omega)).mono ?_; rintro e w' ⟨rfl, rfl⟩)
  all_goals first
    | (go_ret; exact ⟨ret_bool (by unfold It.key3 It.noNum It.noTxt It.noEss; first | (simp [*]; done) | (simp_all; done) | (simp; intros; first | contradiction | omega | (simp_all; done) | (simp_all; omega)) | (simp_all; omega)), (Ext.refl _).alloc _⟩)


set_option maxRecDepth 100000 in
set_option maxHeartbeats 6400000 in
theorem rkey_4 (it : It.Item) (L : It.Loc) (w : World) (h : It.In w it L) (hk : it.kind = 4) :
    Calls Tryz.prog 63 #[It.agg it L] w fun e w' => e = .returned (.bool (It.key4 it)) ∧ Ext w w' := by
  have H := Lib.hid h
  have hl1 : it.opts.length ≤ 140737488351232 := h.ok.ol
  have hl2 : it.chs.length ≤ 140737488351232 := h.ok.cl
  have hl3 : it.texts.length ≤ 140737488351232 := h.ok.tl
  have hvl : -9223372036854775808 ≤ it.value ∧ it.value ≤ 9223372036854775807 := h.ok.value
  have htl : -9223372036854775808 ≤ it.tol ∧ it.tol ≤ 9223372036854775807 := h.ok.tol
  clear h
  unfold It.agg
  rw [hk]
  clear hk
  go_enter Tryz.func63, Tryz.ntmps63

  go_wp2_with (go_at_call 61; refine (rwithin_any _ _ _ _).mono ?_; rintro e w' ⟨rfl, rfl⟩)
  all_goals first
    | (go_ret; exact ⟨ret_bool (by unfold It.key4 It.noOpt It.noTxt It.noEss; first | (simp [*]; done) | (simp_all; done) | (simp; intros; first | contradiction | omega | (simp_all; done) | (simp_all; omega)) | (simp_all; omega)), (Ext.refl _).alloc _⟩)


set_option maxRecDepth 100000 in
set_option maxHeartbeats 6400000 in
theorem rkey_6 (it : It.Item) (L : It.Loc) (w : World) (h : It.In w it L) (hk : it.kind = 6) :
    Calls Tryz.prog 63 #[It.agg it L] w fun e w' => e = .returned (.bool (It.key6 it)) ∧ Ext w w' := by
  have H := Lib.hid h
  have hl1 : it.opts.length ≤ 140737488351232 := h.ok.ol
  have hl2 : it.chs.length ≤ 140737488351232 := h.ok.cl
  have hl3 : it.texts.length ≤ 140737488351232 := h.ok.tl
  have hvl : -9223372036854775808 ≤ it.value ∧ it.value ≤ 9223372036854775807 := h.ok.value
  have htl : -9223372036854775808 ≤ it.tol ∧ it.tol ≤ 9223372036854775807 := h.ok.tol
  clear h
  unfold It.agg
  rw [hk]
  clear hk
  go_enter Tryz.func63, Tryz.ntmps63

  go_wp2
  all_goals first
    | (go_ret; exact ⟨ret_bool (by unfold It.key6 It.noOpt It.noNum It.noTxt; first | (simp [*]; done) | (simp_all; done) | (simp; intros; first | contradiction | omega | (simp_all; done) | (simp_all; omega)) | (simp_all; omega)), (Ext.refl _).alloc _⟩)

end Go.Proofs.YtdaccamiipknmaaGreatDoor
