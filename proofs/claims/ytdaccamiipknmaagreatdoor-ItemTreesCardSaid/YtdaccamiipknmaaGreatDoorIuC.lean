/- The reference's sameInts and sameStrings as calls that only draw; Major of both sides: contracts. Conditions: those of each theorem. -/
import Derived.Test.YtdaccamiipknmaaGreatDoorIuA
namespace Go.Proofs.YtdaccamiipknmaaGreatDoor
open Go.RowKit Go.Shelf

theorem drewn_ext {w wr : World} (h : ∃ q, wr = w.drewN q) : Ext w wr := by obtain ⟨q, rfl⟩ := h; exact (Ext.refl _).drewN _
theorem drewn_more {w wr : World} (h : ∃ q, wr = w.drewN q) (n : Nat) : ∃ q, wr.drewN n = w.drewN q := by obtain ⟨q, rfl⟩ := h; exact ⟨_, by rw [World.drewN_drewN]⟩
set_option maxRecDepth 100000 in
set_option maxHeartbeats 3200000 in
theorem rsameInts_q (X : Option Addr) (xc : Nat) (Y : Option Addr) (yc : Nat) (xs ys : List Int) (w : World) (ha : SlI w X xs) (hb : SlI w Y ys) (hl1 : xs.length ≤ 9223372036854775807) (hl2 : ys.length ≤ 9223372036854775807) :
    Calls Tryz.prog 29 #[.slice X xs.length xc, .slice Y ys.length yc] w fun e w' => e = .returned (.bool (It.eqI xs ys)) ∧ ∃ q, w' = w.drewN q := by
  have HA := Lib.hid ha
  have HB := Lib.hid hb
  clear ha hb
  by_cases hln : xs.length = ys.length
  case neg =>
    have HF : Hid (It.eqI xs ys = false) := Lib.hid (decide_eq_false (fun e => hln (by rw [e])))
    have hne : ((xs.length : Int) != (ys.length : Int)) = true := by rw [bne_iff_ne]; omega
    clear hln
    go_enter Tryz.func29, Tryz.ntmps29
    go_wp2
    go_ret
    exact ⟨ret_bool HF.out.symm, 0, rfl⟩
  have HL := Lib.hid hln
  have hne : ((xs.length : Int) != (ys.length : Int)) = false := by rw [bne_eq_false_iff_eq]; omega
  have hle : xs.length ≤ ys.length := by omega
  clear hln
  go_enter Tryz.func29, Tryz.ntmps29
  go_wp2
  go_loopw [13] (fun i wr => ∃ k : Nat, k ≤ xs.length ∧ i = .int .i64 k ∧ Hid (∀ i, i < k → xs[i]? = ys[i]?) ∧ Hid (∃ q, wr = w.drewN q)) (fun i _ => xs.length - (intOf i).toNat)
  case atStart => exact ⟨0, by omega, rfl, Lib.hid (fun i hi => by omega), Lib.hid ⟨0, rfl⟩⟩
  case round =>
    obtain ⟨k, hk, rfl, HP, HE⟩ := hrel
    have he : Ext w wr := drewn_ext HE.out
    by_cases hlt : k < xs.length
    · have hlt2 : k < ys.length := by omega
      obtain ⟨gb, go, x, rfl, hgb, hx, x0⟩ := (HA.out.ext he).at_ hlt
      obtain ⟨fb, fo, y, rfl, hfb, hy, y0⟩ := (HB.out.ext he).at_ hlt2
      have ki0 : (0 : Int) ≤ (k : Int) := by omega
      have ki1 : (k : Int) < (xs.length : Int) := by omega
      have ki2 : (k : Int) < (ys.length : Int) := by omega
      have HX := Lib.hid hx
      have HY := Lib.hid hy
      clear hx hy
      by_cases hxy : x = y
      · have HN : Hid (∀ i, i < k + 1 → xs[i]? = ys[i]?) := Lib.hid fun i hi => by
          rcases Nat.lt_or_ge i k with g | g
          · exact HP.out i g
          · obtain rfl : i = k := by omega
            rw [HX.out, HY.out, hxy]
        subst hxy
        have hq : (x != x) = false := by simp
        go_wp2
        go_quiet (fail)
        go_wp2
        go_roundw
        case rel => exact ⟨k + 1, by omega, by go_num, HN, Lib.hid (drewn_more HE.out _)⟩
        case measure => simp [intOf]; omega
      · have HF : Hid (It.eqI xs ys = false) := Lib.hid (decide_eq_false (fun e => hxy (by
          have h1 := HX.out
          rw [e, HY.out] at h1
          exact (Option.some.inj h1).symm)))
        have hq : ((x != y) = true) := by rw [bne_iff_ne]; exact hxy
        clear hxy
        go_wp2
        go_quiet (fail)
        go_wp2
        go_ret
        exact ⟨ret_bool HF.out.symm, drewn_more HE.out _⟩
    · have HF : Hid (It.eqI xs ys = true) := Lib.hid (decide_eq_true (It.eq_at HL.out (fun i hi => HP.out i (by omega))))
      go_wp2
      go_ret
      exact ⟨ret_bool HF.out.symm, HE.out⟩

set_option maxRecDepth 100000 in
set_option maxHeartbeats 3200000 in
theorem rsameStrings_q (X : Option Addr) (xc : Nat) (Y : Option Addr) (yc : Nat) (xs ys : List ByteArray) (w : World) (ha : SlS w X xs) (hb : SlS w Y ys) (hl1 : xs.length ≤ 9223372036854775807) (hl2 : ys.length ≤ 9223372036854775807) :
    Calls Tryz.prog 28 #[.slice X xs.length xc, .slice Y ys.length yc] w fun e w' => e = .returned (.bool (It.eqS xs ys)) ∧ ∃ q, w' = w.drewN q := by
  have HA := Lib.hid ha
  have HB := Lib.hid hb
  clear ha hb
  by_cases hln : xs.length = ys.length
  case neg =>
    have HF : Hid (It.eqS xs ys = false) := Lib.hid (decide_eq_false (fun e => hln (by rw [e])))
    have hne : ((xs.length : Int) != (ys.length : Int)) = true := by rw [bne_iff_ne]; omega
    clear hln
    go_enter Tryz.func28, Tryz.ntmps28
    go_wp2
    go_ret
    exact ⟨ret_bool HF.out.symm, 0, rfl⟩
  have HL := Lib.hid hln
  have hne : ((xs.length : Int) != (ys.length : Int)) = false := by rw [bne_eq_false_iff_eq]; omega
  have hle : xs.length ≤ ys.length := by omega
  clear hln
  go_enter Tryz.func28, Tryz.ntmps28
  go_wp2
  go_loopw [13] (fun i wr => ∃ k : Nat, k ≤ xs.length ∧ i = .int .i64 k ∧ Hid (∀ i, i < k → xs[i]? = ys[i]?) ∧ Hid (∃ q, wr = w.drewN q)) (fun i _ => xs.length - (intOf i).toNat)
  case atStart => exact ⟨0, by omega, rfl, Lib.hid (fun i hi => by omega), Lib.hid ⟨0, rfl⟩⟩
  case round =>
    obtain ⟨k, hk, rfl, HP, HE⟩ := hrel
    have he : Ext w wr := drewn_ext HE.out
    by_cases hlt : k < xs.length
    · have hlt2 : k < ys.length := by omega
      obtain ⟨gb, go, rfl, hgb, x0⟩ := (HA.out.ext he).at_ hlt
      obtain ⟨fb, fo, rfl, hfb, y0⟩ := (HB.out.ext he).at_ hlt2
      obtain ⟨x, hx'⟩ : ∃ x, xs[k] = x := ⟨_, rfl⟩
      obtain ⟨y, hy'⟩ : ∃ y, ys[k] = y := ⟨_, rfl⟩
      have hx : xs[k]? = some x := by rw [List.getElem?_eq_getElem hlt, hx']
      have hy : ys[k]? = some y := by rw [List.getElem?_eq_getElem hlt2, hy']
      rw [hx'] at x0
      rw [hy'] at y0
      clear hx' hy'
      have ki0 : (0 : Int) ≤ (k : Int) := by omega
      have ki1 : (k : Int) < (xs.length : Int) := by omega
      have ki2 : (k : Int) < (ys.length : Int) := by omega
      have HX := Lib.hid hx
      have HY := Lib.hid hy
      clear hx hy
      by_cases hxy : x = y
      · have HN : Hid (∀ i, i < k + 1 → xs[i]? = ys[i]?) := Lib.hid fun i hi => by
          rcases Nat.lt_or_ge i k with g | g
          · exact HP.out i g
          · obtain rfl : i = k := by omega
            rw [HX.out, HY.out, hxy]
        subst hxy
        have hq : (x.toList == x.toList) = true := by simp
        go_wp2
        go_quiet (fail)
        go_wp2
        go_roundw
        case rel => exact ⟨k + 1, by omega, by go_num, HN, Lib.hid (drewn_more HE.out _)⟩
        case measure => simp [intOf]; omega
      · have HF : Hid (It.eqS xs ys = false) := Lib.hid (decide_eq_false (fun e => hxy (by
          have h1 := HX.out
          rw [e, HY.out] at h1
          exact (Option.some.inj h1).symm)))
        have hq : ((x.toList == y.toList) = false) := by exact hbeq_of _ _ hxy
        clear hxy
        go_wp2
        go_quiet (fail)
        go_wp2
        go_ret
        exact ⟨ret_bool HF.out.symm, drewn_more HE.out _⟩
    · have HF : Hid (It.eqS xs ys = true) := Lib.hid (decide_eq_true (It.eq_at HL.out (fun i hi => HP.out i (by omega))))
      go_wp2
      go_ret
      exact ⟨ret_bool HF.out.symm, HE.out⟩

namespace It
/-- The fields whose change is major. -/
def isMaj (s : ByteArray) : Bool := eqB s ⟨#[75, 105, 110, 100]⟩ || eqB s ⟨#[83, 116, 101, 109]⟩ || eqB s ⟨#[79, 112, 116, 105, 111, 110, 115]⟩ || eqB s ⟨#[67, 104, 111, 105, 99, 101, 115]⟩ || eqB s ⟨#[86, 97, 108, 117, 101]⟩ || eqB s ⟨#[84, 111, 108]⟩ || eqB s ⟨#[84, 101, 120, 116, 115]⟩ || eqB s ⟨#[80, 111, 105, 110, 116, 115]⟩ || eqB s ⟨#[82, 117, 98, 114, 105, 99]⟩
def major (a b : Item) : Bool := (diff a b).any isMaj
theorem foldN_any (p : ByteArray → Bool) : ∀ (ps : List (Bool × ByteArray)), (foldN ps).any p = ps.any fun x => x.1 && p x.2 := by
  suffices h : ∀ (ps : List (Bool × ByteArray)) (xs : List ByteArray), (ps.foldl (fun xs p => addL xs p.1 p.2) xs).any p = (xs.any p || ps.any fun x => x.1 && p x.2) by
    intro ps; have := h ps []; simpa [foldN] using this
  intro ps
  induction ps with
  | nil => intro xs; simp
  | cons q ps ih =>
    intro xs
    rw [List.foldl_cons, ih, List.any_cons]
    obtain ⟨d, s⟩ := q
    cases d <;> simp [addL, Bool.or_assoc]
theorem major_eq (a b : Item) : major a b = ((!a.kind == b.kind) || (!eqB a.stem b.stem) || (!eqS a.opts b.opts) || (!eqI a.chs b.chs) || (!a.value == b.value) || (!a.tol == b.tol) || (!eqS a.texts b.texts) || (!a.pts == b.pts) || (!a.rub == b.rub)) := by
  unfold major diff
  rw [foldN_any]
  have hm : isMaj ⟨#[73, 100]⟩ = false ∧ isMaj ⟨#[86, 101, 114, 115, 105, 111, 110]⟩ = false ∧ isMaj ⟨#[75, 105, 110, 100]⟩ = true ∧ isMaj ⟨#[83, 116, 101, 109]⟩ = true ∧ isMaj ⟨#[79, 112, 116, 105, 111, 110, 115]⟩ = true ∧ isMaj ⟨#[67, 104, 111, 105, 99, 101, 115]⟩ = true ∧ isMaj ⟨#[86, 97, 108, 117, 101]⟩ = true ∧ isMaj ⟨#[84, 111, 108]⟩ = true ∧ isMaj ⟨#[84, 101, 120, 116, 115]⟩ = true ∧ isMaj ⟨#[80, 111, 105, 110, 116, 115]⟩ = true ∧ isMaj ⟨#[67, 111, 110, 116, 101, 110, 116]⟩ = false ∧ isMaj ⟨#[70, 97, 109, 105, 108, 121]⟩ = false ∧ isMaj ⟨#[83, 101, 116]⟩ = false ∧ isMaj ⟨#[87, 111, 114, 100, 115]⟩ = false ∧ isMaj ⟨#[83, 101, 99, 111, 110, 100, 115]⟩ = false ∧ isMaj ⟨#[65, 115, 115, 101, 116, 115]⟩ = false ∧ isMaj ⟨#[82, 117, 98, 114, 105, 99]⟩ = true := by decide
  obtain ⟨m0, m1, m2, m3, m4, m5, m6, m7, m8, m9, m10, m11, m12, m13, m14, m15, m16⟩ := hm
  simp only [pairs, List.any_cons, List.any_nil, m0, m1, m2, m3, m4, m5, m6, m7, m8, m9, m10, m11, m12, m13, m14, m15, m16, Bool.and_true, Bool.and_false, Bool.or_false, Bool.false_or, bne, Bool.or_assoc]
end It
set_option maxRecDepth 100000 in
set_option maxHeartbeats 64000000 in
theorem rmajor_any (a b : It.Item) (La Lb : It.Loc) (w : World) (ha : It.In w a La) (hb : It.In w b Lb) :
    Calls Tryz.prog 10 #[It.agg a La, It.agg b Lb] w fun e w' => e = .returned (.bool (It.major a b)) ∧ Ext w w' := by
  obtain ⟨v, hv⟩ : ∃ v, It.major a b = v := ⟨_, rfl⟩
  have HV : Hid (((!a.kind == b.kind) || (!It.eqB a.stem b.stem) || (!It.eqS a.opts b.opts) || (!It.eqI a.chs b.chs) || (!a.value == b.value) || (!a.tol == b.tol) || (!It.eqS a.texts b.texts) || (!a.pts == b.pts) || (!a.rub == b.rub)) = v) := Lib.hid (by rw [← hv, It.major_eq])
  rw [hv]
  have HA := Lib.hid ha
  have HB := Lib.hid hb
  clear ha hb hv
  unfold It.agg
  obtain ⟨q2, hq2⟩ : ∃ q, (a.kind == b.kind) = q := ⟨_, rfl⟩
  have E2 := Lib.hid hq2
  clear hq2
  cases q2 with
  | false =>
    have HF : Hid (v = true) := Lib.hid (by rw [← HV.out]; simp [E2.out])
    rw [HF.out]
    go_enter Tryz.func10, Tryz.ntmps10
    have t2 : (a.kind != b.kind) = true := by rw [bne, E2.out]; rfl
    go_wp2
    go_ret
    exact ⟨rfl, (((Ext.refl _).alloc _).alloc _)⟩
  | true =>
    obtain ⟨q3, hq3⟩ : ∃ q, (It.eqB a.stem b.stem) = q := ⟨_, rfl⟩
    have E3 := Lib.hid hq3
    clear hq3
    cases q3 with
    | false =>
      have HF : Hid (v = true) := Lib.hid (by rw [← HV.out]; simp [E2.out, E3.out])
      rw [HF.out]
      go_enter Tryz.func10, Tryz.ntmps10
      have t2 : (a.kind != b.kind) = false := by rw [bne, E2.out]; rfl
      have t3 : (a.stem.toList == b.stem.toList) = false := by rw [It.beqB]; exact E3.out
      go_wp2
      go_ret
      exact ⟨rfl, (((Ext.refl _).alloc _).alloc _)⟩
    | true =>
      obtain ⟨q4, hq4⟩ : ∃ q, (It.eqS a.opts b.opts) = q := ⟨_, rfl⟩
      have E4 := Lib.hid hq4
      clear hq4
      cases q4 with
      | false =>
        have HF : Hid (v = true) := Lib.hid (by rw [← HV.out]; simp [E2.out, E3.out, E4.out])
        rw [HF.out]
        go_enter Tryz.func10, Tryz.ntmps10
        have t2 : (a.kind != b.kind) = false := by rw [bne, E2.out]; rfl
        have t3 : (a.stem.toList == b.stem.toList) = true := by rw [It.beqB]; exact E3.out
        go_wp2_with fail
        with_reducible refine (rsameStrings_q La.oA La.oc Lb.oA Lb.oc a.opts b.opts _ (HA.out.o.ext ((((Ext.refl _).alloc _).alloc _))) (HB.out.o.ext ((((Ext.refl _).alloc _).alloc _))) (Nat.le_trans HA.out.ok.ol (by decide)) (Nat.le_trans HB.out.ok.ol (by decide))).mono ?_
        rintro e w1 ⟨rfl, qn0, rfl⟩
        rw [E4.out]
        go_wp2
        go_ret
        exact ⟨rfl, (((Ext.refl _).alloc _).alloc _).drewN _⟩
      | true =>
        obtain ⟨q5, hq5⟩ : ∃ q, (It.eqI a.chs b.chs) = q := ⟨_, rfl⟩
        have E5 := Lib.hid hq5
        clear hq5
        cases q5 with
        | false =>
          have HF : Hid (v = true) := Lib.hid (by rw [← HV.out]; simp [E2.out, E3.out, E4.out, E5.out])
          rw [HF.out]
          go_enter Tryz.func10, Tryz.ntmps10
          have t2 : (a.kind != b.kind) = false := by rw [bne, E2.out]; rfl
          have t3 : (a.stem.toList == b.stem.toList) = true := by rw [It.beqB]; exact E3.out
          go_wp2_with fail
          with_reducible refine (rsameStrings_q La.oA La.oc Lb.oA Lb.oc a.opts b.opts _ (HA.out.o.ext ((((Ext.refl _).alloc _).alloc _))) (HB.out.o.ext ((((Ext.refl _).alloc _).alloc _))) (Nat.le_trans HA.out.ok.ol (by decide)) (Nat.le_trans HB.out.ok.ol (by decide))).mono ?_
          rintro e w1 ⟨rfl, qn0, rfl⟩
          rw [E4.out]
          go_wp2_with fail
          with_reducible refine (rsameInts_q La.cA La.cc Lb.cA Lb.cc a.chs b.chs _ (HA.out.c.ext ((((Ext.refl _).alloc _).alloc _).drewN _)) (HB.out.c.ext ((((Ext.refl _).alloc _).alloc _).drewN _)) (Nat.le_trans HA.out.ok.cl (by decide)) (Nat.le_trans HB.out.ok.cl (by decide))).mono ?_
          rintro e w1 ⟨rfl, qn1, rfl⟩
          rw [E5.out]
          go_wp2
          go_ret
          exact ⟨rfl, (((Ext.refl _).alloc _).alloc _).drewN _⟩
        | true =>
          obtain ⟨q6, hq6⟩ : ∃ q, (a.value == b.value) = q := ⟨_, rfl⟩
          have E6 := Lib.hid hq6
          clear hq6
          cases q6 with
          | false =>
            have HF : Hid (v = true) := Lib.hid (by rw [← HV.out]; simp [E2.out, E3.out, E4.out, E5.out, E6.out])
            rw [HF.out]
            go_enter Tryz.func10, Tryz.ntmps10
            have t2 : (a.kind != b.kind) = false := by rw [bne, E2.out]; rfl
            have t3 : (a.stem.toList == b.stem.toList) = true := by rw [It.beqB]; exact E3.out
            have t6 : (a.value != b.value) = true := by rw [bne, E6.out]; rfl
            go_wp2_with fail
            with_reducible refine (rsameStrings_q La.oA La.oc Lb.oA Lb.oc a.opts b.opts _ (HA.out.o.ext ((((Ext.refl _).alloc _).alloc _))) (HB.out.o.ext ((((Ext.refl _).alloc _).alloc _))) (Nat.le_trans HA.out.ok.ol (by decide)) (Nat.le_trans HB.out.ok.ol (by decide))).mono ?_
            rintro e w1 ⟨rfl, qn0, rfl⟩
            rw [E4.out]
            go_wp2_with fail
            with_reducible refine (rsameInts_q La.cA La.cc Lb.cA Lb.cc a.chs b.chs _ (HA.out.c.ext ((((Ext.refl _).alloc _).alloc _).drewN _)) (HB.out.c.ext ((((Ext.refl _).alloc _).alloc _).drewN _)) (Nat.le_trans HA.out.ok.cl (by decide)) (Nat.le_trans HB.out.ok.cl (by decide))).mono ?_
            rintro e w1 ⟨rfl, qn1, rfl⟩
            rw [E5.out]
            go_wp2
            go_ret
            exact ⟨rfl, (((Ext.refl _).alloc _).alloc _).drewN _⟩
          | true =>
            obtain ⟨q7, hq7⟩ : ∃ q, (a.tol == b.tol) = q := ⟨_, rfl⟩
            have E7 := Lib.hid hq7
            clear hq7
            cases q7 with
            | false =>
              have HF : Hid (v = true) := Lib.hid (by rw [← HV.out]; simp [E2.out, E3.out, E4.out, E5.out, E6.out, E7.out])
              rw [HF.out]
              go_enter Tryz.func10, Tryz.ntmps10
              have t2 : (a.kind != b.kind) = false := by rw [bne, E2.out]; rfl
              have t3 : (a.stem.toList == b.stem.toList) = true := by rw [It.beqB]; exact E3.out
              have t6 : (a.value != b.value) = false := by rw [bne, E6.out]; rfl
              have t7 : (a.tol != b.tol) = true := by rw [bne, E7.out]; rfl
              go_wp2_with fail
              with_reducible refine (rsameStrings_q La.oA La.oc Lb.oA Lb.oc a.opts b.opts _ (HA.out.o.ext ((((Ext.refl _).alloc _).alloc _))) (HB.out.o.ext ((((Ext.refl _).alloc _).alloc _))) (Nat.le_trans HA.out.ok.ol (by decide)) (Nat.le_trans HB.out.ok.ol (by decide))).mono ?_
              rintro e w1 ⟨rfl, qn0, rfl⟩
              rw [E4.out]
              go_wp2_with fail
              with_reducible refine (rsameInts_q La.cA La.cc Lb.cA Lb.cc a.chs b.chs _ (HA.out.c.ext ((((Ext.refl _).alloc _).alloc _).drewN _)) (HB.out.c.ext ((((Ext.refl _).alloc _).alloc _).drewN _)) (Nat.le_trans HA.out.ok.cl (by decide)) (Nat.le_trans HB.out.ok.cl (by decide))).mono ?_
              rintro e w1 ⟨rfl, qn1, rfl⟩
              rw [E5.out]
              go_wp2
              go_ret
              exact ⟨rfl, (((Ext.refl _).alloc _).alloc _).drewN _⟩
            | true =>
              obtain ⟨q8, hq8⟩ : ∃ q, (It.eqS a.texts b.texts) = q := ⟨_, rfl⟩
              have E8 := Lib.hid hq8
              clear hq8
              cases q8 with
              | false =>
                have HF : Hid (v = true) := Lib.hid (by rw [← HV.out]; simp [E2.out, E3.out, E4.out, E5.out, E6.out, E7.out, E8.out])
                rw [HF.out]
                go_enter Tryz.func10, Tryz.ntmps10
                have t2 : (a.kind != b.kind) = false := by rw [bne, E2.out]; rfl
                have t3 : (a.stem.toList == b.stem.toList) = true := by rw [It.beqB]; exact E3.out
                have t6 : (a.value != b.value) = false := by rw [bne, E6.out]; rfl
                have t7 : (a.tol != b.tol) = false := by rw [bne, E7.out]; rfl
                go_wp2_with fail
                with_reducible refine (rsameStrings_q La.oA La.oc Lb.oA Lb.oc a.opts b.opts _ (HA.out.o.ext ((((Ext.refl _).alloc _).alloc _))) (HB.out.o.ext ((((Ext.refl _).alloc _).alloc _))) (Nat.le_trans HA.out.ok.ol (by decide)) (Nat.le_trans HB.out.ok.ol (by decide))).mono ?_
                rintro e w1 ⟨rfl, qn0, rfl⟩
                rw [E4.out]
                go_wp2_with fail
                with_reducible refine (rsameInts_q La.cA La.cc Lb.cA Lb.cc a.chs b.chs _ (HA.out.c.ext ((((Ext.refl _).alloc _).alloc _).drewN _)) (HB.out.c.ext ((((Ext.refl _).alloc _).alloc _).drewN _)) (Nat.le_trans HA.out.ok.cl (by decide)) (Nat.le_trans HB.out.ok.cl (by decide))).mono ?_
                rintro e w1 ⟨rfl, qn1, rfl⟩
                rw [E5.out]
                go_wp2_with fail
                with_reducible refine (rsameStrings_q La.tA La.tc Lb.tA Lb.tc a.texts b.texts _ (HA.out.t.ext ((((Ext.refl _).alloc _).alloc _).drewN _)) (HB.out.t.ext ((((Ext.refl _).alloc _).alloc _).drewN _)) (Nat.le_trans HA.out.ok.tl (by decide)) (Nat.le_trans HB.out.ok.tl (by decide))).mono ?_
                rintro e w1 ⟨rfl, qn2, rfl⟩
                rw [E8.out]
                go_wp2
                go_ret
                exact ⟨rfl, (((Ext.refl _).alloc _).alloc _).drewN _⟩
              | true =>
                obtain ⟨q9, hq9⟩ : ∃ q, (a.pts == b.pts) = q := ⟨_, rfl⟩
                have E9 := Lib.hid hq9
                clear hq9
                cases q9 with
                | false =>
                  have HF : Hid (v = true) := Lib.hid (by rw [← HV.out]; simp [E2.out, E3.out, E4.out, E5.out, E6.out, E7.out, E8.out, E9.out])
                  rw [HF.out]
                  go_enter Tryz.func10, Tryz.ntmps10
                  have t2 : (a.kind != b.kind) = false := by rw [bne, E2.out]; rfl
                  have t3 : (a.stem.toList == b.stem.toList) = true := by rw [It.beqB]; exact E3.out
                  have t6 : (a.value != b.value) = false := by rw [bne, E6.out]; rfl
                  have t7 : (a.tol != b.tol) = false := by rw [bne, E7.out]; rfl
                  have t9 : (a.pts != b.pts) = true := by rw [bne, E9.out]; rfl
                  go_wp2_with fail
                  with_reducible refine (rsameStrings_q La.oA La.oc Lb.oA Lb.oc a.opts b.opts _ (HA.out.o.ext ((((Ext.refl _).alloc _).alloc _))) (HB.out.o.ext ((((Ext.refl _).alloc _).alloc _))) (Nat.le_trans HA.out.ok.ol (by decide)) (Nat.le_trans HB.out.ok.ol (by decide))).mono ?_
                  rintro e w1 ⟨rfl, qn0, rfl⟩
                  rw [E4.out]
                  go_wp2_with fail
                  with_reducible refine (rsameInts_q La.cA La.cc Lb.cA Lb.cc a.chs b.chs _ (HA.out.c.ext ((((Ext.refl _).alloc _).alloc _).drewN _)) (HB.out.c.ext ((((Ext.refl _).alloc _).alloc _).drewN _)) (Nat.le_trans HA.out.ok.cl (by decide)) (Nat.le_trans HB.out.ok.cl (by decide))).mono ?_
                  rintro e w1 ⟨rfl, qn1, rfl⟩
                  rw [E5.out]
                  go_wp2_with fail
                  with_reducible refine (rsameStrings_q La.tA La.tc Lb.tA Lb.tc a.texts b.texts _ (HA.out.t.ext ((((Ext.refl _).alloc _).alloc _).drewN _)) (HB.out.t.ext ((((Ext.refl _).alloc _).alloc _).drewN _)) (Nat.le_trans HA.out.ok.tl (by decide)) (Nat.le_trans HB.out.ok.tl (by decide))).mono ?_
                  rintro e w1 ⟨rfl, qn2, rfl⟩
                  rw [E8.out]
                  go_wp2
                  go_ret
                  exact ⟨rfl, (((Ext.refl _).alloc _).alloc _).drewN _⟩
                | true =>
                  obtain ⟨q16, hq16⟩ : ∃ q, (a.rub == b.rub) = q := ⟨_, rfl⟩
                  have E16 := Lib.hid hq16
                  clear hq16
                  cases q16 with
                  | false =>
                    have HF : Hid (v = true) := Lib.hid (by rw [← HV.out]; simp [E2.out, E3.out, E4.out, E5.out, E6.out, E7.out, E8.out, E9.out, E16.out])
                    rw [HF.out]
                    go_enter Tryz.func10, Tryz.ntmps10
                    have t2 : (a.kind != b.kind) = false := by rw [bne, E2.out]; rfl
                    have t3 : (a.stem.toList == b.stem.toList) = true := by rw [It.beqB]; exact E3.out
                    have t6 : (a.value != b.value) = false := by rw [bne, E6.out]; rfl
                    have t7 : (a.tol != b.tol) = false := by rw [bne, E7.out]; rfl
                    have t9 : (a.pts != b.pts) = false := by rw [bne, E9.out]; rfl
                    have t16 : (a.rub != b.rub) = true := by rw [bne, E16.out]; rfl
                    go_wp2_with fail
                    with_reducible refine (rsameStrings_q La.oA La.oc Lb.oA Lb.oc a.opts b.opts _ (HA.out.o.ext ((((Ext.refl _).alloc _).alloc _))) (HB.out.o.ext ((((Ext.refl _).alloc _).alloc _))) (Nat.le_trans HA.out.ok.ol (by decide)) (Nat.le_trans HB.out.ok.ol (by decide))).mono ?_
                    rintro e w1 ⟨rfl, qn0, rfl⟩
                    rw [E4.out]
                    go_wp2_with fail
                    with_reducible refine (rsameInts_q La.cA La.cc Lb.cA Lb.cc a.chs b.chs _ (HA.out.c.ext ((((Ext.refl _).alloc _).alloc _).drewN _)) (HB.out.c.ext ((((Ext.refl _).alloc _).alloc _).drewN _)) (Nat.le_trans HA.out.ok.cl (by decide)) (Nat.le_trans HB.out.ok.cl (by decide))).mono ?_
                    rintro e w1 ⟨rfl, qn1, rfl⟩
                    rw [E5.out]
                    go_wp2_with fail
                    with_reducible refine (rsameStrings_q La.tA La.tc Lb.tA Lb.tc a.texts b.texts _ (HA.out.t.ext ((((Ext.refl _).alloc _).alloc _).drewN _)) (HB.out.t.ext ((((Ext.refl _).alloc _).alloc _).drewN _)) (Nat.le_trans HA.out.ok.tl (by decide)) (Nat.le_trans HB.out.ok.tl (by decide))).mono ?_
                    rintro e w1 ⟨rfl, qn2, rfl⟩
                    rw [E8.out]
                    go_wp2
                    go_ret
                    exact ⟨rfl, (((Ext.refl _).alloc _).alloc _).drewN _⟩
                  | true =>
                    have HF : Hid (v = false) := Lib.hid (by rw [← HV.out]; simp [E2.out, E3.out, E4.out, E5.out, E6.out, E7.out, E8.out, E9.out, E16.out])
                    rw [HF.out]
                    go_enter Tryz.func10, Tryz.ntmps10
                    have t2 : (a.kind != b.kind) = false := by rw [bne, E2.out]; rfl
                    have t3 : (a.stem.toList == b.stem.toList) = true := by rw [It.beqB]; exact E3.out
                    have t6 : (a.value != b.value) = false := by rw [bne, E6.out]; rfl
                    have t7 : (a.tol != b.tol) = false := by rw [bne, E7.out]; rfl
                    have t9 : (a.pts != b.pts) = false := by rw [bne, E9.out]; rfl
                    have t16 : (a.rub != b.rub) = false := by rw [bne, E16.out]; rfl
                    go_wp2_with fail
                    with_reducible refine (rsameStrings_q La.oA La.oc Lb.oA Lb.oc a.opts b.opts _ (HA.out.o.ext ((((Ext.refl _).alloc _).alloc _))) (HB.out.o.ext ((((Ext.refl _).alloc _).alloc _))) (Nat.le_trans HA.out.ok.ol (by decide)) (Nat.le_trans HB.out.ok.ol (by decide))).mono ?_
                    rintro e w1 ⟨rfl, qn0, rfl⟩
                    rw [E4.out]
                    go_wp2_with fail
                    with_reducible refine (rsameInts_q La.cA La.cc Lb.cA Lb.cc a.chs b.chs _ (HA.out.c.ext ((((Ext.refl _).alloc _).alloc _).drewN _)) (HB.out.c.ext ((((Ext.refl _).alloc _).alloc _).drewN _)) (Nat.le_trans HA.out.ok.cl (by decide)) (Nat.le_trans HB.out.ok.cl (by decide))).mono ?_
                    rintro e w1 ⟨rfl, qn1, rfl⟩
                    rw [E5.out]
                    go_wp2_with fail
                    with_reducible refine (rsameStrings_q La.tA La.tc Lb.tA Lb.tc a.texts b.texts _ (HA.out.t.ext ((((Ext.refl _).alloc _).alloc _).drewN _)) (HB.out.t.ext ((((Ext.refl _).alloc _).alloc _).drewN _)) (Nat.le_trans HA.out.ok.tl (by decide)) (Nat.le_trans HB.out.ok.tl (by decide))).mono ?_
                    rintro e w1 ⟨rfl, qn2, rfl⟩
                    rw [E8.out]
                    go_wp2
                    go_ret
                    exact ⟨rfl, (((Ext.refl _).alloc _).alloc _).drewN _⟩
end Go.Proofs.YtdaccamiipknmaaGreatDoor
