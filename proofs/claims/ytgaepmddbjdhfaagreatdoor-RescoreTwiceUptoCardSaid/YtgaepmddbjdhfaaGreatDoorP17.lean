/- The strings of an item and Valid, in the package and in the reference: contracts. Conditions: those of each theorem. -/
import Derived.Test.YtgaepmddbjdhfaaGreatDoorP16
namespace Go.Proofs.YtgaepmddbjdhfaaGreatDoor
open Go.RowKit

namespace It
def prT (s : ByteArray) : Bool := prn s 200 false
/-- Rule 3. -/
def textsOk (it : Item) : Bool := prn it.stem 2000 true && (it.opts.all prT && (it.texts.all prT && codeC it.cont))
theorem allp_no {p : ByteArray → Bool} {l : List ByteArray} {k : Nat} {x : ByteArray} (hx : l[k]? = some x) (hb : p x = false) : l.all p = false := by
  rw [List.all_eq_false]
  exact ⟨x, List.mem_of_getElem? hx, by rw [hb]; simp⟩
theorem allp_next {p : ByteArray → Bool} {l : List ByteArray} {k : Nat} {x : ByteArray} (hx : l[k]? = some x) (h : (l.take k).all p = true) (hb : p x = true) : (l.take (k + 1)).all p = true := by
  rw [List.take_add_one, hx, List.all_append, h]
  simp [hb]
/-- The first rule that an item violates. -/
def vld (it : Item) : Int := if ranges it = false then 3 else if wi it.kind 1 6 = false then 1 else if textsOk it = false then 2 else if 10 < it.opts.length ∨ 10 < it.texts.length ∨ 8 < it.assets.length then 5 else if key it = false then 19 else if rising it.assets 1 9999999 = false then 23 else 0
theorem texts_small {it : Item} (h : textsOk it = true) : ∀ s ∈ it.texts, 0 < s.size ∧ s.size ≤ 200 := by
  unfold textsOk at h
  simp only [Bool.and_eq_true] at h
  intro s hs
  have := List.all_eq_true.1 h.2.2.1 s hs
  unfold prT prn at this
  simp only [Bool.and_eq_true, decide_eq_true_eq] at this
  omega
end It
theorem within_to (n lo hi : Int) {v : Bool} (hv : It.wi n lo hi = v) (w : World) : Calls Tryz.prog 79 #[.int .i64 n, .int .i64 lo, .int .i64 hi] w fun e w' => e = .returned (.bool v) ∧ w = w' := by subst hv; exact within_any n lo hi w
theorem rwithin_to (n lo hi : Int) {v : Bool} (hv : It.wi n lo hi = v) (w : World) : Calls Tryz.prog 91 #[.int .i64 n, .int .i64 lo, .int .i64 hi] w fun e w' => e = .returned (.bool v) ∧ w = w' := by subst hv; exact rwithin_any n lo hi w
theorem rising_v (A : Option Addr) (c : Nat) (l : List Int) (lo hi : Int) {v : Bool} (hv : It.rising l lo hi = v) (w : World) (h : SlI w A l) (hl : l.length ≤ 9223372036854775807) :
    Calls Tryz.prog 83 #[.slice A l.length c, .int .i64 lo, .int .i64 hi] w fun e w' => e = .returned (.bool v) ∧ w = w' := by subst hv; exact rising_any A c l lo hi w h hl
theorem rrising_v (A : Option Addr) (c : Nat) (l : List Int) (lo hi : Int) {v : Bool} (hv : It.rising l lo hi = v) (w : World) (h : SlI w A l) (hl : l.length ≤ 9223372036854775807) :
    Calls Tryz.prog 94 #[.slice A l.length c, .int .i64 lo, .int .i64 hi] w fun e w' => e = .returned (.bool v) ∧ w = w' := by subst hv; exact rrising_any A c l lo hi w h hl
theorem printable_to (s : ByteArray) (most : Nat) {m : Int} (hm : m = most) {v : Bool} (hv : It.prn s most false = v) (w : World) (hs : s.size ≤ 9223372036854775807) :
    Calls Tryz.prog 109 #[.string s, .int .i64 m] w fun e w' => e = .returned (.bool v) ∧ w = w' := by
  subst hm hv; exact printable_any s most w hs
theorem rprintable_to (s : ByteArray) (most : Nat) {m : Int} (hm : m = most) {v : Bool} (hv : It.prn s most false = v) (w : World) (hs : s.size ≤ 9223372036854775807) :
    Calls Tryz.prog 116 #[.string s, .int .i64 m, .bool false] w fun e w' => e = .returned (.bool v) ∧ w = w' := by
  subst hm hv; exact rprintable_false_any s most w hs
theorem rprintable_feed (s : ByteArray) (most : Nat) {m : Int} (hm : m = most) {v : Bool} (hv : It.prn s most true = v) (w : World) (hs : s.size ≤ 9223372036854775807) :
    Calls Tryz.prog 116 #[.string s, .int .i64 m, .bool true] w fun e w' => e = .returned (.bool v) ∧ w = w' := by
  subst hm hv; exact rprintable_true_any s most w hs


set_option maxRecDepth 100000 in
set_option maxHeartbeats 6400000 in
theorem validStrings_any (it : It.Item) (L : It.Loc) (w : World) (h : It.In w it L) (hg : Gm w) :
    Calls Tryz.prog 80 #[It.agg it L] w fun e w' => e = .returned (.bool (It.textsOk it)) ∧ Ext w w' := by
  have H := Lib.hid h
  have OK : Hid (It.Ok it) := Lib.hid h.ok
  have HG := Lib.hid hg
  have hst : it.stem.size ≤ 140737488351232 := h.ok.stem
  have hct : it.cont.size ≤ 140737488351232 := h.ok.cont
  have hl1 : it.opts.length ≤ 140737488351232 := h.ok.ol
  have hl3 : it.texts.length ≤ 140737488351232 := h.ok.tl
  clear h hg
  obtain ⟨v, hv⟩ : ∃ v, It.textsOk it = v := ⟨_, rfl⟩
  have HV := Lib.hid hv
  rw [hv]
  clear hv
  obtain ⟨oA, oc, cA, cc, tA, tc, sA, sc⟩ := L
  unfold It.agg
  dsimp only
  go_enter Tryz.func80, Tryz.ntmps80
  go_wp2_with fail
  refine (replaceAll_any it.stem _ hst).mono ?_
  rintro e w1 ⟨rfl, hb1⟩
  obtain ⟨hc1, hf1⟩ := hb1.cells
  have hz1 : w.heap.size + 1 ≤ w1.heap.size := by have := hb1.size; simpa using this
  have xw : Hid (Ext w w1) := Lib.hid (((Ext.refl w).alloc _).trans hb1)
  have HOP : Hid (SlS w1 oA it.opts) := Lib.hid ((show SlS w oA it.opts from H.out.o).ext xw.out)
  have HT : Hid (SlS w1 tA it.texts) := Lib.hid ((show SlS w tA it.texts from H.out.t).ext xw.out)
  clear hb1 H
  have hfs : (feed it.stem).size ≤ 140737488351232 := by
    have : (feed it.stem).size = it.stem.size := by
      show (it.stem.data.toList.map _).toArray.size = it.stem.data.toList.length
      simp
    omega
  obtain ⟨q, hq⟩ : ∃ q, It.prn it.stem 2000 true = q := ⟨_, rfl⟩
  have HP := Lib.hid hq
  have HPF : Hid (It.prn (feed it.stem) 2000 false = q) := Lib.hid (by rw [It.prn_feed]; exact hq)
  clear hq
  obtain ⟨fs, hfe⟩ : ∃ fs, feed it.stem = fs := ⟨_, rfl⟩
  rw [hfe] at hfs HPF ⊢
  clear hfe
  cases q with
  | false =>
    have HF : Hid (v = false) := Lib.hid (by rw [← HV.out]; unfold It.textsOk; rw [HP.out]; rfl)
    go_wp2_with (go_at_call 109; refine (printable_to fs 2000 rfl HPF.out _ (by omega)).mono ?_; rintro e w' ⟨rfl, rfl⟩)
    go_ret
    exact ⟨ret_bool HF.out.symm, xw.out⟩
  | true =>
    go_wp2_with (go_at_call 109; refine (printable_to fs 2000 rfl HPF.out _ (by omega)).mono ?_; rintro e w' ⟨rfl, rfl⟩)
    go_loop [15] (fun i => ∃ k : Nat, k ≤ it.opts.length ∧ i = .int .i64 k ∧ Hid ((it.opts.take k).all It.prT = true)) (fun i => it.opts.length - (intOf i).toNat)
    case atStart => exact ⟨0, by omega, rfl, Lib.hid rfl⟩
    case round =>
      obtain ⟨k, hk, rfl, HA⟩ := hrel
      by_cases hlt : k < it.opts.length
      · obtain ⟨b, off, rfl, hb, hc⟩ := HOP.out.at_ hlt
        obtain ⟨x, hx⟩ : ∃ x, it.opts[k] = x := ⟨_, rfl⟩
        rw [hx] at hc
        have HX : Hid (it.opts[k]? = some x) := Lib.hid (by rw [List.getElem?_eq_getElem hlt, hx])
        have hxs : x.size ≤ 140737488351232 := OK.out.opts x (List.mem_of_getElem? HX.out)
        clear hx
        have ki0 : (0 : Int) ≤ (k : Int) := by omega
        have ki1 : (k : Int) < (it.opts.length : Int) := by omega
        obtain ⟨q, hq⟩ : ∃ q, It.prn x 200 false = q := ⟨_, rfl⟩
        have HQ := Lib.hid hq
        clear hq
        cases q with
        | false =>
          have HF : Hid (v = false) := Lib.hid (by rw [← HV.out]; unfold It.textsOk; rw [It.allp_no HX.out (show It.prT x = false from HQ.out)]; simp)
          go_wp2_with (go_at_call 109; refine (printable_to x 200 rfl HQ.out _ (by omega)).mono ?_; rintro e w' ⟨rfl, rfl⟩)
          go_ret
          exact ⟨ret_bool HF.out.symm, xw.out⟩
        | true =>
          have HN := Lib.hid (It.allp_next HX.out HA.out (show It.prT x = true from HQ.out))
          go_wp2_with (go_at_call 109; refine (printable_to x 200 rfl HQ.out _ (by omega)).mono ?_; rintro e w' ⟨rfl, rfl⟩)
          go_round
          case rel => exact ⟨k + 1, by omega, by go_num, HN⟩
          case measure => simp [intOf]; omega
      · obtain rfl : k = it.opts.length := by omega
        have HO : Hid (it.opts.all It.prT = true) := Lib.hid (by have := HA.out; rwa [List.take_length] at this)
        go_wp2
        go_loop [26] (fun i => ∃ k : Nat, k ≤ it.texts.length ∧ i = .int .i64 k ∧ Hid ((it.texts.take k).all It.prT = true)) (fun i => it.texts.length - (intOf i).toNat)
        case atStart => exact ⟨0, by omega, rfl, Lib.hid rfl⟩
        case round =>
          obtain ⟨k, hk, rfl, HA⟩ := hrel
          by_cases hlt : k < it.texts.length
          · obtain ⟨b, off, rfl, hb, hc⟩ := HT.out.at_ hlt
            obtain ⟨x, hx⟩ : ∃ x, it.texts[k] = x := ⟨_, rfl⟩
            rw [hx] at hc
            have HX : Hid (it.texts[k]? = some x) := Lib.hid (by rw [List.getElem?_eq_getElem hlt, hx])
            have hxs : x.size ≤ 140737488351232 := OK.out.texts x (List.mem_of_getElem? HX.out)
            clear hx
            have ki0 : (0 : Int) ≤ (k : Int) := by omega
            have ki1 : (k : Int) < (it.texts.length : Int) := by omega
            obtain ⟨q, hq⟩ : ∃ q, It.prn x 200 false = q := ⟨_, rfl⟩
            have HQ := Lib.hid hq
            clear hq
            cases q with
            | false =>
              have HF : Hid (v = false) := Lib.hid (by rw [← HV.out]; unfold It.textsOk; rw [It.allp_no HX.out (show It.prT x = false from HQ.out)]; simp)
              go_wp2_with (go_at_call 109; refine (printable_to x 200 rfl HQ.out _ (by omega)).mono ?_; rintro e w' ⟨rfl, rfl⟩)
              go_ret
              exact ⟨ret_bool HF.out.symm, xw.out⟩
            | true =>
              have HN := Lib.hid (It.allp_next HX.out HA.out (show It.prT x = true from HQ.out))
              go_wp2_with (go_at_call 109; refine (printable_to x 200 rfl HQ.out _ (by omega)).mono ?_; rintro e w' ⟨rfl, rfl⟩)
              go_round
              case rel => exact ⟨k + 1, by omega, by go_num, HN⟩
              case measure => simp [intOf]; omega
          · obtain rfl : k = it.texts.length := by omega
            have HTX : Hid (it.texts.all It.prT = true) := Lib.hid (by have := HA.out; rwa [List.take_length] at this)
            go_wp2_with fail
            refine (cvalid_any it.cont _ (by omega) (HG.out.ext xw.out)).mono ?_
            rintro e w9 ⟨rfl, hb9⟩
            have HF : Hid (v = It.codeC it.cont) := Lib.hid (by rw [← HV.out]; unfold It.textsOk; rw [HP.out, HO.out, HTX.out]; rfl)
            go_wp2
            go_ret
            exact ⟨ret_bool HF.out.symm, xw.out.trans hb9⟩


set_option maxRecDepth 100000 in
set_option maxHeartbeats 6400000 in
theorem rtexts_any (it : It.Item) (L : It.Loc) (w : World) (h : It.In w it L) :
    Calls Tryz.prog 92 #[It.agg it L] w fun e w' => e = .returned (.bool (It.textsOk it)) ∧ Ext w w' := by
  have H := Lib.hid h
  have OK : Hid (It.Ok it) := Lib.hid h.ok
  have hst : it.stem.size ≤ 140737488351232 := h.ok.stem
  have hct : it.cont.size ≤ 140737488351232 := h.ok.cont
  have hl1 : it.opts.length ≤ 140737488351232 := h.ok.ol
  have hl3 : it.texts.length ≤ 140737488351232 := h.ok.tl
  clear h
  obtain ⟨v, hv⟩ : ∃ v, It.textsOk it = v := ⟨_, rfl⟩
  have HV := Lib.hid hv
  rw [hv]
  clear hv
  obtain ⟨oA, oc, cA, cc, tA, tc, sA, sc⟩ := L
  unfold It.agg
  dsimp only
  go_enter Tryz.func92, Tryz.ntmps92
  have hz1 : w.heap.size + 1 ≤ (w.alloc (.cells #[.int .i64 it.id, .int .i64 it.ver, .int .i64 it.kind, .string it.stem, .slice oA it.opts.length oc, .slice cA it.chs.length cc, .int .i64 it.value, .int .i64 it.tol, .slice tA it.texts.length tc, .int .i64 it.pts, .string it.cont, .int .i64 it.fam, .int .i64 it.set_, .int .i64 it.wrd, .int .i64 it.sec, .slice sA it.assets.length sc, .int .i64 it.rub] 55)).heap.size := by simp
  have xw : Hid (Ext w (w.alloc (.cells #[.int .i64 it.id, .int .i64 it.ver, .int .i64 it.kind, .string it.stem, .slice oA it.opts.length oc, .slice cA it.chs.length cc, .int .i64 it.value, .int .i64 it.tol, .slice tA it.texts.length tc, .int .i64 it.pts, .string it.cont, .int .i64 it.fam, .int .i64 it.set_, .int .i64 it.wrd, .int .i64 it.sec, .slice sA it.assets.length sc, .int .i64 it.rub] 55))) := Lib.hid ((Ext.refl w).alloc _)
  have HOP : Hid (SlS w oA it.opts) := Lib.hid H.out.o
  have HT : Hid (SlS w tA it.texts) := Lib.hid H.out.t
  clear H
  obtain ⟨q, hq⟩ : ∃ q, It.prn it.stem 2000 true = q := ⟨_, rfl⟩
  have HP := Lib.hid hq
  clear hq
  cases q with
  | false =>
    have HF : Hid (v = false) := Lib.hid (by rw [← HV.out]; unfold It.textsOk; rw [HP.out]; rfl)
    go_wp2_with (go_at_call 116; refine (rprintable_feed it.stem 2000 rfl HP.out _ (by omega)).mono ?_; rintro e w' ⟨rfl, rfl⟩)
    go_ret
    exact ⟨ret_bool HF.out.symm, xw.out⟩
  | true =>
    go_wp2_with (go_at_call 116; refine (rprintable_feed it.stem 2000 rfl HP.out _ (by omega)).mono ?_; rintro e w' ⟨rfl, rfl⟩)
    go_loop [14] (fun i => ∃ k : Nat, k ≤ it.opts.length ∧ i = .int .i64 k ∧ Hid ((it.opts.take k).all It.prT = true)) (fun i => it.opts.length - (intOf i).toNat)
    case atStart => exact ⟨0, by omega, rfl, Lib.hid rfl⟩
    case round =>
      obtain ⟨k, hk, rfl, HA⟩ := hrel
      by_cases hlt : k < it.opts.length
      · obtain ⟨b, off, rfl, hb, hc⟩ := HOP.out.at_ hlt
        obtain ⟨x, hx⟩ : ∃ x, it.opts[k] = x := ⟨_, rfl⟩
        rw [hx] at hc
        have HX : Hid (it.opts[k]? = some x) := Lib.hid (by rw [List.getElem?_eq_getElem hlt, hx])
        have hxs : x.size ≤ 140737488351232 := OK.out.opts x (List.mem_of_getElem? HX.out)
        clear hx
        have ki0 : (0 : Int) ≤ (k : Int) := by omega
        have ki1 : (k : Int) < (it.opts.length : Int) := by omega
        obtain ⟨q, hq⟩ : ∃ q, It.prn x 200 false = q := ⟨_, rfl⟩
        have HQ := Lib.hid hq
        clear hq
        cases q with
        | false =>
          have HF : Hid (v = false) := Lib.hid (by rw [← HV.out]; unfold It.textsOk; rw [It.allp_no HX.out (show It.prT x = false from HQ.out)]; simp)
          go_wp2_with (go_at_call 116; refine (rprintable_to x 200 rfl HQ.out _ (by omega)).mono ?_; rintro e w' ⟨rfl, rfl⟩)
          go_ret
          exact ⟨ret_bool HF.out.symm, xw.out⟩
        | true =>
          have HN := Lib.hid (It.allp_next HX.out HA.out (show It.prT x = true from HQ.out))
          go_wp2_with (go_at_call 116; refine (rprintable_to x 200 rfl HQ.out _ (by omega)).mono ?_; rintro e w' ⟨rfl, rfl⟩)
          go_round
          case rel => exact ⟨k + 1, by omega, by go_num, HN⟩
          case measure => simp [intOf]; omega
      · obtain rfl : k = it.opts.length := by omega
        have HO : Hid (it.opts.all It.prT = true) := Lib.hid (by have := HA.out; rwa [List.take_length] at this)
        go_wp2
        go_loop [25] (fun i => ∃ k : Nat, k ≤ it.texts.length ∧ i = .int .i64 k ∧ Hid ((it.texts.take k).all It.prT = true)) (fun i => it.texts.length - (intOf i).toNat)
        case atStart => exact ⟨0, by omega, rfl, Lib.hid rfl⟩
        case round =>
          obtain ⟨k, hk, rfl, HA⟩ := hrel
          by_cases hlt : k < it.texts.length
          · obtain ⟨b, off, rfl, hb, hc⟩ := HT.out.at_ hlt
            obtain ⟨x, hx⟩ : ∃ x, it.texts[k] = x := ⟨_, rfl⟩
            rw [hx] at hc
            have HX : Hid (it.texts[k]? = some x) := Lib.hid (by rw [List.getElem?_eq_getElem hlt, hx])
            have hxs : x.size ≤ 140737488351232 := OK.out.texts x (List.mem_of_getElem? HX.out)
            clear hx
            have ki0 : (0 : Int) ≤ (k : Int) := by omega
            have ki1 : (k : Int) < (it.texts.length : Int) := by omega
            obtain ⟨q, hq⟩ : ∃ q, It.prn x 200 false = q := ⟨_, rfl⟩
            have HQ := Lib.hid hq
            clear hq
            cases q with
            | false =>
              have HF : Hid (v = false) := Lib.hid (by rw [← HV.out]; unfold It.textsOk; rw [It.allp_no HX.out (show It.prT x = false from HQ.out)]; simp)
              go_wp2_with (go_at_call 116; refine (rprintable_to x 200 rfl HQ.out _ (by omega)).mono ?_; rintro e w' ⟨rfl, rfl⟩)
              go_ret
              exact ⟨ret_bool HF.out.symm, xw.out⟩
            | true =>
              have HN := Lib.hid (It.allp_next HX.out HA.out (show It.prT x = true from HQ.out))
              go_wp2_with (go_at_call 116; refine (rprintable_to x 200 rfl HQ.out _ (by omega)).mono ?_; rintro e w' ⟨rfl, rfl⟩)
              go_round
              case rel => exact ⟨k + 1, by omega, by go_num, HN⟩
              case measure => simp [intOf]; omega
          · obtain rfl : k = it.texts.length := by omega
            have HTX : Hid (it.texts.all It.prT = true) := Lib.hid (by have := HA.out; rwa [List.take_length] at this)
            go_wp2_with fail
            refine (rcvalid_any it.cont _).mono ?_
            rintro e w9 ⟨rfl, rfl⟩
            have HF : Hid (v = It.codeC it.cont) := Lib.hid (by rw [← HV.out]; unfold It.textsOk; rw [HP.out, HO.out, HTX.out]; rfl)
            go_wp2
            go_ret
            exact ⟨ret_bool HF.out.symm, xw.out⟩

theorem validStrings_any_v (it : It.Item) (L : It.Loc) {v : Bool} (hv : It.textsOk it = v) (w : World) (h : It.In w it L) (hg : Gm w) :
    Calls Tryz.prog 80 #[It.agg it L] w fun e w' => e = .returned (.bool v) ∧ Ext w w' := by subst hv; exact validStrings_any it L w h hg
theorem rtexts_any_v (it : It.Item) (L : It.Loc) {v : Bool} (hv : It.textsOk it = v) (w : World) (h : It.In w it L) :
    Calls Tryz.prog 92 #[It.agg it L] w fun e w' => e = .returned (.bool v) ∧ Ext w w' := by subst hv; exact rtexts_any it L w h
theorem onlyKey_v (it : It.Item) (L : It.Loc) {v : Bool} (hv : It.only it = v) (w : World) (h : It.In w it L) (hk : 1 ≤ it.kind ∧ it.kind ≤ 6) :
    Calls Tryz.prog 81 #[It.agg it L] w fun e w' => e = .returned (.bool v) ∧ Ext w w' := by subst hv; exact onlyKey_any it L w h hk
theorem validKey_v (it : It.Item) (L : It.Loc) {v : Bool} (hv : It.val it = v) (w : World) (h : It.In w it L) (hk : 1 ≤ it.kind ∧ it.kind ≤ 6) (ho : it.opts.length ≤ 10) (hsz : ∀ s ∈ it.texts, s.size ≤ 200) (hg : Gm w) :
    Calls Tryz.prog 82 #[It.agg it L] w fun e w' => e = .returned (.bool v) ∧ Ext w w' := by subst hv; exact validKey_any it L w h hk ho hsz hg
theorem rkey_v (it : It.Item) (L : It.Loc) {v : Bool} (hv : It.key it = v) (w : World) (h : It.In w it L) (hk : 1 ≤ it.kind ∧ it.kind ≤ 6) (hsz : ∀ s ∈ it.texts, s.size ≤ 200) :
    Calls Tryz.prog 93 #[It.agg it L] w fun e w' => e = .returned (.bool v) ∧ Ext w w' := by subst hv; exact rkey_any it L w h hk hsz
theorem validNumbers_any_v (it : It.Item) (L : It.Loc) {v : Bool} (hv : It.ranges it = v) (w : World) : Calls Tryz.prog 78 #[It.agg it L] w fun e w' => e = .returned (.bool v) ∧ Ext w w' := by subst hv; exact validNumbers_any it L w
theorem ranges_any_v (it : It.Item) (L : It.Loc) {v : Bool} (hv : It.ranges it = v) (w : World) : Calls Tryz.prog 90 #[It.agg it L] w fun e w' => e = .returned (.bool v) ∧ Ext w w' := by subst hv; exact ranges_any it L w


set_option maxRecDepth 100000 in
set_option maxHeartbeats 6400000 in
theorem valid_any (it : It.Item) (L : It.Loc) (w : World) (h : It.In w it L) (hg : Gm w) :
    Calls Tryz.prog 47 #[It.agg it L] w fun e w' => e = .returned (.int .i64 (It.vld it)) ∧ Ext w w' := by
  have H := Lib.hid h
  have HG := Lib.hid hg
  have hl1 : it.opts.length ≤ 140737488351232 := h.ok.ol
  have hl3 : it.texts.length ≤ 140737488351232 := h.ok.tl
  have hl4 : it.assets.length ≤ 140737488351232 := h.ok.sl
  clear h hg
  obtain ⟨v, hv⟩ : ∃ v, It.vld it = v := ⟨_, rfl⟩
  have HV := Lib.hid hv
  rw [hv]
  clear hv
  obtain ⟨q1, hq1⟩ : ∃ q, It.ranges it = q := ⟨_, rfl⟩
  have HQ1 := Lib.hid hq1
  clear hq1
  obtain ⟨q2, hq2⟩ : ∃ q, It.wi it.kind 1 6 = q := ⟨_, rfl⟩
  have HQ2 := Lib.hid hq2
  clear hq2
  obtain ⟨q3, hq3⟩ : ∃ q, It.textsOk it = q := ⟨_, rfl⟩
  have HQ3 := Lib.hid hq3
  clear hq3
  have x0 : Hid (Ext w w) := Lib.hid (Ext.refl w)
  unfold It.agg
  go_enter Tryz.func47, Tryz.ntmps47
  go_wp2_with fail
  refine (validNumbers_any_v it L HQ1.out _).mono ?_
  rintro e w1 ⟨rfl, hb1⟩
  obtain ⟨hc1, hf1⟩ := hb1.cells
  have hz1 : w.heap.size < w1.heap.size := by have := hb1.size; simp at this; omega
  have x1 : Hid (Ext w w1) := Lib.hid (((Ext.refl w).alloc _).trans hb1)
  clear hb1
  cases q1 with
  | false =>
    have HF : Hid (v = 3) := Lib.hid (by rw [← HV.out]; unfold It.vld; rw [if_pos HQ1.out])
    go_wp2
    go_ret
    exact ⟨ret_int HF.out.symm, x1.out⟩
  | true =>
  as_aux_lemma =>
  have hn1 : ¬ It.ranges it = false := by rw [HQ1.out]; simp
  have HN1 := Lib.hid hn1
  clear hn1
  cases q2 with
  | false =>
    have HF : Hid (v = 1) := Lib.hid (by rw [← HV.out]; unfold It.vld; rw [if_neg HN1.out, if_pos HQ2.out])
    go_wp2_with (go_at_call 79; refine (within_to _ _ _ HQ2.out _).mono ?_; rintro e w' ⟨rfl, rfl⟩)
    go_ret
    exact ⟨ret_int HF.out.symm, x1.out⟩
  | true =>
  as_aux_lemma =>
  have HK : Hid (1 ≤ it.kind ∧ it.kind ≤ 6) := Lib.hid (It.wi_iff.1 HQ2.out)
  have HN2 : Hid (¬ It.wi it.kind 1 6 = false) := Lib.hid (by rw [HQ2.out]; simp)
  go_wp2_with (go_at_call 79; refine (within_to _ _ _ HQ2.out _).mono ?_; rintro e w' ⟨rfl, rfl⟩)
  refine (validStrings_any_v it L HQ3.out _ (H.out.ext x1.out) (HG.out.ext x1.out)).mono ?_
  rintro e w2 ⟨rfl, hb2⟩
  obtain ⟨hc2, hf2⟩ := hb2.cells
  have hz2 : w.heap.size < w2.heap.size := Nat.lt_of_lt_of_le hz1 hb2.size
  have x2 : Hid (Ext w w2) := Lib.hid (x1.out.trans hb2)
  clear hb2
  cases q3 with
  | false =>
    have HF : Hid (v = 2) := Lib.hid (by rw [← HV.out]; unfold It.vld; rw [if_neg HN1.out, if_neg HN2.out, if_pos HQ3.out])
    go_wp2
    go_ret
    exact ⟨ret_int HF.out.symm, x2.out⟩
  | true =>
  as_aux_lemma =>
  have HN3 : Hid (¬ It.textsOk it = false) := Lib.hid (by rw [HQ3.out]; simp)
  have HTS := Lib.hid (It.texts_small HQ3.out)
  by_cases hlen : 10 < it.opts.length ∨ 10 < it.texts.length ∨ 8 < it.assets.length
  · have HF : Hid (v = 5) := Lib.hid (by rw [← HV.out]; unfold It.vld; rw [if_neg HN1.out, if_neg HN2.out, if_neg HN3.out, if_pos hlen])
    rcases (show (10 : Int) < (it.opts.length : Int) ∨ (¬ (10 : Int) < (it.opts.length : Int) ∧ (10 : Int) < (it.texts.length : Int)) ∨ (¬ (10 : Int) < (it.opts.length : Int) ∧ ¬ (10 : Int) < (it.texts.length : Int) ∧ (8 : Int) < (it.assets.length : Int)) by omega) with g | ⟨g, g2⟩ | ⟨g, g2, g3⟩
    all_goals
      clear hlen
      go_wp2
      go_ret
      exact ⟨ret_int HF.out.symm, x2.out⟩
  · as_aux_lemma =>
    have HN4 := Lib.hid hlen
    have g1 : ¬ (10 : Int) < (it.opts.length : Int) := by omega
    have g2 : ¬ (10 : Int) < (it.texts.length : Int) := by omega
    have g3 : ¬ (8 : Int) < (it.assets.length : Int) := by omega
    have ho : it.opts.length ≤ 10 := by omega
    clear hlen
    obtain ⟨q4, hq4⟩ : ∃ q, It.key it = q := ⟨_, rfl⟩
    have HQ4 := Lib.hid hq4
    clear hq4
    have HKE : Hid ((It.only it && It.val it) = It.key it) := Lib.hid (It.key_eq it HK.out (fun s hs => (HTS.out s hs).1))
    obtain ⟨q6, hq6⟩ : ∃ q, It.only it = q := ⟨_, rfl⟩
    have HQ6 := Lib.hid hq6
    clear hq6
    obtain ⟨q7, hq7⟩ : ∃ q, It.val it = q := ⟨_, rfl⟩
    have HQ7 := Lib.hid hq7
    clear hq7
    go_wp2_with fail
    refine (onlyKey_v it L HQ6.out _ (H.out.ext x2.out) HK.out).mono ?_
    rintro e w3 ⟨rfl, hb3⟩
    obtain ⟨hc3, hf3⟩ := hb3.cells
    have hz3 : w.heap.size < w3.heap.size := Nat.lt_of_lt_of_le hz2 hb3.size
    have x3 : Hid (Ext w w3) := Lib.hid (x2.out.trans hb3)
    clear hb3
    cases q6 with
    | false =>
      have HF : Hid (v = 19) := Lib.hid (by rw [← HV.out]; unfold It.vld; rw [if_neg HN1.out, if_neg HN2.out, if_neg HN3.out, if_neg HN4.out, if_pos (by rw [← HKE.out, HQ6.out]; rfl)])
      go_wp2
      go_ret
      exact ⟨ret_int HF.out.symm, x3.out⟩
    | true =>
    as_aux_lemma =>
    go_wp2_with fail
    refine (validKey_v it L HQ7.out _ (H.out.ext x3.out) HK.out ho (fun s hs => (HTS.out s hs).2) (HG.out.ext x3.out)).mono ?_
    rintro e w4 ⟨rfl, hb4⟩
    obtain ⟨hc4, hf4⟩ := hb4.cells
    have hz4 : w.heap.size < w4.heap.size := Nat.lt_of_lt_of_le hz3 hb4.size
    have x4 : Hid (Ext w w4) := Lib.hid (x3.out.trans hb4)
    clear hb4
    cases q7 with
    | false =>
      have HF : Hid (v = 19) := Lib.hid (by rw [← HV.out]; unfold It.vld; rw [if_neg HN1.out, if_neg HN2.out, if_neg HN3.out, if_neg HN4.out, if_pos (by rw [← HKE.out, HQ6.out, HQ7.out]; rfl)])
      go_wp2
      go_ret
      exact ⟨ret_int HF.out.symm, x4.out⟩
    | true =>
    as_aux_lemma =>
    obtain rfl : q4 = true := by rw [← HQ4.out, ← HKE.out, HQ6.out, HQ7.out]; rfl
    have HN5 : Hid (¬ It.key it = false) := Lib.hid (by rw [HQ4.out]; simp)
    obtain ⟨q5, hq5⟩ : ∃ q, It.rising it.assets 1 9999999 = q := ⟨_, rfl⟩
    have HQ5 := Lib.hid hq5
    clear hq5
    cases q5 with
    | false =>
      have HF : Hid (v = 23) := Lib.hid (by rw [← HV.out]; unfold It.vld; rw [if_neg HN1.out, if_neg HN2.out, if_neg HN3.out, if_neg HN4.out, if_neg HN5.out, if_pos HQ5.out])
      go_wp2_with (go_at_call 83; refine (rising_v L.sA L.sc it.assets 1 9999999 HQ5.out _ (H.out.s.ext x4.out) (by omega)).mono ?_; rintro e w' ⟨rfl, rfl⟩)
      go_ret
      exact ⟨ret_int HF.out.symm, x4.out⟩
    | true =>
      have HF : Hid (v = 0) := Lib.hid (by rw [← HV.out]; unfold It.vld; rw [if_neg HN1.out, if_neg HN2.out, if_neg HN3.out, if_neg HN4.out, if_neg HN5.out, if_neg (by rw [HQ5.out]; simp)])
      go_wp2_with (go_at_call 83; refine (rising_v L.sA L.sc it.assets 1 9999999 HQ5.out _ (H.out.s.ext x4.out) (by omega)).mono ?_; rintro e w' ⟨rfl, rfl⟩)
      go_ret
      exact ⟨ret_int HF.out.symm, x4.out⟩



set_option maxRecDepth 100000 in
set_option maxHeartbeats 6400000 in
theorem rvalid_any (it : It.Item) (L : It.Loc) (w : World) (h : It.In w it L) :
    Calls Tryz.prog 55 #[It.agg it L] w fun e w' => e = .returned (.int .i64 (It.vld it)) ∧ Ext w w' := by
  have H := Lib.hid h
  have hl1 : it.opts.length ≤ 140737488351232 := h.ok.ol
  have hl3 : it.texts.length ≤ 140737488351232 := h.ok.tl
  have hl4 : it.assets.length ≤ 140737488351232 := h.ok.sl
  clear h
  obtain ⟨v, hv⟩ : ∃ v, It.vld it = v := ⟨_, rfl⟩
  have HV := Lib.hid hv
  rw [hv]
  clear hv
  obtain ⟨q1, hq1⟩ : ∃ q, It.ranges it = q := ⟨_, rfl⟩
  have HQ1 := Lib.hid hq1
  clear hq1
  obtain ⟨q2, hq2⟩ : ∃ q, It.wi it.kind 1 6 = q := ⟨_, rfl⟩
  have HQ2 := Lib.hid hq2
  clear hq2
  obtain ⟨q3, hq3⟩ : ∃ q, It.textsOk it = q := ⟨_, rfl⟩
  have HQ3 := Lib.hid hq3
  clear hq3
  have x0 : Hid (Ext w w) := Lib.hid (Ext.refl w)
  unfold It.agg
  go_enter Tryz.func55, Tryz.ntmps55
  go_wp2_with fail
  refine (ranges_any_v it L HQ1.out _).mono ?_
  rintro e w1 ⟨rfl, hb1⟩
  obtain ⟨hc1, hf1⟩ := hb1.cells
  have hz1 : w.heap.size < w1.heap.size := by have := hb1.size; simp at this; omega
  have x1 : Hid (Ext w w1) := Lib.hid (((Ext.refl w).alloc _).trans hb1)
  clear hb1
  cases q1 with
  | false =>
    have HF : Hid (v = 3) := Lib.hid (by rw [← HV.out]; unfold It.vld; rw [if_pos HQ1.out])
    go_wp2
    go_ret
    exact ⟨ret_int HF.out.symm, x1.out⟩
  | true =>
  as_aux_lemma =>
  have hn1 : ¬ It.ranges it = false := by rw [HQ1.out]; simp
  have HN1 := Lib.hid hn1
  clear hn1
  cases q2 with
  | false =>
    have HF : Hid (v = 1) := Lib.hid (by rw [← HV.out]; unfold It.vld; rw [if_neg HN1.out, if_pos HQ2.out])
    go_wp2_with (go_at_call 91; refine (rwithin_to _ _ _ HQ2.out _).mono ?_; rintro e w' ⟨rfl, rfl⟩)
    go_ret
    exact ⟨ret_int HF.out.symm, x1.out⟩
  | true =>
  as_aux_lemma =>
  have HK : Hid (1 ≤ it.kind ∧ it.kind ≤ 6) := Lib.hid (It.wi_iff.1 HQ2.out)
  have HN2 : Hid (¬ It.wi it.kind 1 6 = false) := Lib.hid (by rw [HQ2.out]; simp)
  go_wp2_with (go_at_call 91; refine (rwithin_to _ _ _ HQ2.out _).mono ?_; rintro e w' ⟨rfl, rfl⟩)
  refine (rtexts_any_v it L HQ3.out _ (H.out.ext x1.out)).mono ?_
  rintro e w2 ⟨rfl, hb2⟩
  obtain ⟨hc2, hf2⟩ := hb2.cells
  have hz2 : w.heap.size < w2.heap.size := Nat.lt_of_lt_of_le hz1 hb2.size
  have x2 : Hid (Ext w w2) := Lib.hid (x1.out.trans hb2)
  clear hb2
  cases q3 with
  | false =>
    have HF : Hid (v = 2) := Lib.hid (by rw [← HV.out]; unfold It.vld; rw [if_neg HN1.out, if_neg HN2.out, if_pos HQ3.out])
    go_wp2
    go_ret
    exact ⟨ret_int HF.out.symm, x2.out⟩
  | true =>
  as_aux_lemma =>
  have HN3 : Hid (¬ It.textsOk it = false) := Lib.hid (by rw [HQ3.out]; simp)
  have HTS := Lib.hid (It.texts_small HQ3.out)
  by_cases hlen : 10 < it.opts.length ∨ 10 < it.texts.length ∨ 8 < it.assets.length
  · have HF : Hid (v = 5) := Lib.hid (by rw [← HV.out]; unfold It.vld; rw [if_neg HN1.out, if_neg HN2.out, if_neg HN3.out, if_pos hlen])
    rcases (show (10 : Int) < (it.opts.length : Int) ∨ (¬ (10 : Int) < (it.opts.length : Int) ∧ (10 : Int) < (it.texts.length : Int)) ∨ (¬ (10 : Int) < (it.opts.length : Int) ∧ ¬ (10 : Int) < (it.texts.length : Int) ∧ (8 : Int) < (it.assets.length : Int)) by omega) with g | ⟨g, g2⟩ | ⟨g, g2, g3⟩
    all_goals
      clear hlen
      go_wp2
      go_ret
      exact ⟨ret_int HF.out.symm, x2.out⟩
  · as_aux_lemma =>
    have HN4 := Lib.hid hlen
    have g1 : ¬ (10 : Int) < (it.opts.length : Int) := by omega
    have g2 : ¬ (10 : Int) < (it.texts.length : Int) := by omega
    have g3 : ¬ (8 : Int) < (it.assets.length : Int) := by omega
    have ho : it.opts.length ≤ 10 := by omega
    clear hlen
    obtain ⟨q4, hq4⟩ : ∃ q, It.key it = q := ⟨_, rfl⟩
    have HQ4 := Lib.hid hq4
    clear hq4
    go_wp2_with fail
    refine (rkey_v it L HQ4.out _ (H.out.ext x2.out) HK.out (fun s hs => (HTS.out s hs).2)).mono ?_
    rintro e w4 ⟨rfl, hb4⟩
    obtain ⟨hc4, hf4⟩ := hb4.cells
    have hz4 : w.heap.size < w4.heap.size := Nat.lt_of_lt_of_le hz2 hb4.size
    have x4 : Hid (Ext w w4) := Lib.hid (x2.out.trans hb4)
    clear hb4
    cases q4 with
    | false =>
      have HF : Hid (v = 19) := Lib.hid (by rw [← HV.out]; unfold It.vld; rw [if_neg HN1.out, if_neg HN2.out, if_neg HN3.out, if_neg HN4.out, if_pos HQ4.out])
      go_wp2
      go_ret
      exact ⟨ret_int HF.out.symm, x4.out⟩
    | true =>
    as_aux_lemma =>
    have HN5 : Hid (¬ It.key it = false) := Lib.hid (by rw [HQ4.out]; simp)
    obtain ⟨q5, hq5⟩ : ∃ q, It.rising it.assets 1 9999999 = q := ⟨_, rfl⟩
    have HQ5 := Lib.hid hq5
    clear hq5
    cases q5 with
    | false =>
      have HF : Hid (v = 23) := Lib.hid (by rw [← HV.out]; unfold It.vld; rw [if_neg HN1.out, if_neg HN2.out, if_neg HN3.out, if_neg HN4.out, if_neg HN5.out, if_pos HQ5.out])
      go_wp2_with (go_at_call 94; refine (rrising_v L.sA L.sc it.assets 1 9999999 HQ5.out _ (H.out.s.ext x4.out) (by omega)).mono ?_; rintro e w' ⟨rfl, rfl⟩)
      go_ret
      exact ⟨ret_int HF.out.symm, x4.out⟩
    | true =>
      have HF : Hid (v = 0) := Lib.hid (by rw [← HV.out]; unfold It.vld; rw [if_neg HN1.out, if_neg HN2.out, if_neg HN3.out, if_neg HN4.out, if_neg HN5.out, if_neg (by rw [HQ5.out]; simp)])
      go_wp2_with (go_at_call 94; refine (rrising_v L.sA L.sc it.assets 1 9999999 HQ5.out _ (H.out.s.ext x4.out) (by omega)).mono ?_; rintro e w' ⟨rfl, rfl⟩)
      go_ret
      exact ⟨ret_int HF.out.symm, x4.out⟩


end Go.Proofs.YtgaepmddbjdhfaaGreatDoor
